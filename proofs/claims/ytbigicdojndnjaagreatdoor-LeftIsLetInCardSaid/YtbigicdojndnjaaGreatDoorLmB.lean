/-
  Limits: the checks of asks and of one limit as specifications.
-/
import Derived.Test.YtbigicdojndnjaaGreatDoorLmA
namespace Go.Proofs.YtbigicdojndnjaaGreatDoor
open Go.Ev Go.RowKit LimLaw

def e1 (c : Bool) (Q : Value → Prop) (X : Prop) : Prop := bif c then Q (.int .i64 1) else X
theorem e1_mk {c : Bool} {Q : Value → Prop} {X : Prop} (h : c = false) (x : X) : e1 c Q X := pick_f h x
/-! askFault -/
def afT (t c l : Int) (Q : Value → Prop) : Prop :=
  bif decide (t ≥ 0) then e1 (!decide (t < 345686400000)) Q (e1 (decide (c < 1)) Q (e1 (decide (c > 1000000000)) Q (e1 (decide (l < 0)) Q (e1 (decide (l > 345686400000)) Q (Q (.int .i64 0)))))) else Q (.int .i64 1)
theorem af0 (t c l : Int) (Q : Value → Prop) : ffn Tryz.prog SI [] 3000 [] Tryz.f38 [.agg ⟨[.int .i64 t, .string ⟨#[97, 110, 110]⟩, .int .i64 c, .int .i64 l]⟩] h0 (fun v _ => Q v) = afT t c l Q := by kernel_rfl
theorem af1 (t c l : Int) (Q : Value → Prop) : ffn Tryz.prog SI [] 3000 [] Tryz.f38 [.agg ⟨[.int .i64 t, .string ⟨#[98, 111, 98]⟩, .int .i64 c, .int .i64 l]⟩] h0 (fun v _ => Q v) = afT t c l Q := by kernel_rfl
abbrev A4 := Int × ByteArray × Int × Int
def akC (a : A4) : List Value := [.int .i64 a.1, .string a.2.1, .int .i64 a.2.2.1, .int .i64 a.2.2.2]
def akV (a : A4) : Value := .agg ⟨akC a⟩
def whoU : List ByteArray := [annB, ⟨#[98, 111, 98]⟩]
def akOK (a : A4) : Bool := decide (0 ≤ a.1) && decide (a.1 < 345686400000) && inU whoU a.2.1 && decide (1 ≤ a.2.2.1) && decide (a.2.2.1 ≤ 1000000000) && decide (0 ≤ a.2.2.2) && decide (a.2.2.2 ≤ 345686400000)
theorem someAF : Tryz.f38.body.isSome = true := by kernel_rfl
theorem afT_mk {t c l : Int} {Q : Value → Prop} (h0 : 0 ≤ t) (h1 : t < 345686400000) (h2 : 1 ≤ c) (h3 : c ≤ 1000000000) (h4 : 0 ≤ l) (h5 : l ≤ 345686400000) (hQ : Q (.int .i64 0)) : afT t c l Q :=
  pick_t (decide_eq_true h0) (e1_mk (by simp; omega) (e1_mk (by simp; omega) (e1_mk (by simp; omega) (e1_mk (by simp; omega) (e1_mk (by simp; omega) hQ)))))
theorem af_fn (a : A4) (h : akOK a = true) : FnOK 0 Tryz.prog 38 ⟨[akV a]⟩ h0 (fun v _ => v = .int .i64 0) := by
  obtain ⟨t, w, c, l⟩ := a
  unfold akOK at h
  simp only [Bool.and_eq_true, decide_eq_true_eq] at h
  obtain ⟨⟨⟨⟨⟨⟨h0, h1⟩, hw⟩, h2⟩, h3⟩, h4⟩, h5⟩ := h
  have hw := inU_mem hw
  simp only [whoU, List.mem_cons, List.not_mem_nil, or_false] at hw
  rcases hw with rfl | rfl
  · exact FnOK.ftree SI_ok mixed Tryz.func38 someAF (af0 t c l _) (afT_mk h0 h1 h2 h3 h4 h5 rfl)
  · exact FnOK.ftree SI_ok mixed Tryz.func38 someAF (af1 t c l _) (afT_mk h0 h1 h2 h3 h4 h5 rfl)
noncomputable def spAf (f : FuncId) (args : Array Value) (h : AH) : Option (Bool × Value × AH) :=
  cond (Nat.beq f 38) (match args with
    | ⟨[.agg ⟨[.int .i64 t, .string w, .int .i64 c, .int .i64 l]⟩]⟩ => some (akOK (t, w, c, l), .int .i64 0, h)
    | _ => none) none
theorem spAf_ok : SpOK spAf := by
  intro f args h v h' hs
  unfold spAf at hs
  obtain ⟨hf, hs2⟩ := cond_some hs
  clear hs
  have := Nat.eq_of_beq_eq_true hf
  subst this
  split at hs2
  · injection hs2 with hs
    injection hs with hb hs
    injection hs with hv hh
    subst hv hh
    exact ⟨FnOK.pure (af_fn _ hb) rfl rfl h, Nat.le_refl _⟩
  · cases hs2

/-! CheckAsks -/
noncomputable def SAf : SC := ⟨idn, spAf, true, true⟩
theorem SAf_ok : SAf.cfg.OK Tryz.prog := spAf_ok.cfg
def rdA (cs : List Value) : A4 := (toInt (cs.getD 0 (Value.tuple { toList := [] })), toStr (cs.getD 1 (Value.tuple { toList := [] })), toInt (cs.getD 2 (Value.tuple { toList := [] })), toInt (cs.getD 3 (Value.tuple { toList := [] })))
def elA (xs : List Value) (i : Int) : Value := (Array.mk xs).toList.getD i.toNat (Value.tuple { toList := [] })
def atA (xs : List Value) (i : Int) : A4 := rdA ((Array.mk xs).toList.getD i.toNat undef).cells.toList
theorem car (xs : List Value) (n i : Int) (B : List Value → AH → Prop) (Q : AExit → List Value → AH → Prop) :
    once 0 Tryz.prog SAf [] noHooks 900 35 [0, 9, 10, 11] [] [2] [] (oneLoop (codeOf Tryz.f44) 4) [fz ⟨xs⟩, fz ⟨xs⟩, .int .i64 n, .int .i64 i] h0 B Q =
      bif decide (i < n) then bif decide (0 ≤ i) && decide (i < ((Array.mk xs).size : Int)) && true then elA xs i = akV (atA xs i) ∧
        bif akOK ((atA xs i).1, (atA xs i).2.1, (atA xs i).2.2.1, (atA xs i).2.2.2) then
          bif decide (i > 0) then bif decide (0 ≤ IntKind.i64.wrap (i - 1)) && decide (IntKind.i64.wrap (i - 1) < ((Array.mk xs).size : Int)) && true then elA xs (IntKind.i64.wrap (i - 1)) = akV (atA xs (IntKind.i64.wrap (i - 1))) ∧
            bif decide ((atA xs i).1 < (atA xs (IntKind.i64.wrap (i - 1))).1) then Q .ret [.int .i64 7] h0 else B [fz ⟨xs⟩, fz ⟨xs⟩, .int .i64 n, .int .i64 (IntKind.i64.wrap (i + 1))] h0
          else False else B [fz ⟨xs⟩, fz ⟨xs⟩, .int .i64 n, .int .i64 (IntKind.i64.wrap (i + 1))] h0
        else False
      else False else Q (.exit 0) [anyV] h0 := by kernel_rfl
theorem getA {L : List A4} {i : Nat} (hi : i < L.length) : elA (L.map akV) (i : Int) = akV L[i] ∧ atA (L.map akV) (i : Int) = L[i] := by
  have h1 : (Array.mk (L.map akV)).toList.getD ((i : Int).toNat) (Value.tuple { toList := [] }) = akV L[i] := by
    show (L.map akV).getD i _ = _
    simp [List.getD, hi]
  have h2 : (Array.mk (L.map akV)).toList.getD ((i : Int).toNat) undef = akV L[i] := by
    show (L.map akV).getD i _ = _
    simp [List.getD, hi]
  exact ⟨h1, by unfold atA; rw [h2]; rfl⟩
/-- Asks in order. -/
def okAsks (L : List A4) : Prop := (∀ a ∈ L, akOK a = true) ∧ up_ 0 (L.map (·.1)) ∧ L.length ≤ 3000
theorem up_get : ∀ {L : List A4} {t : Int} {i : Nat}, up_ t (L.map (·.1)) → (h : i + 1 < L.length) → (L[i]).1 ≤ (L[i + 1]).1
  | a :: b :: L, t, 0, h, _ => h.2.1
  | a :: L, t, i + 1, h, hi => up_get (L := L) (t := a.1) h.2 (by simpa using hi)
theorem ca_loop {L : List A4} (hL : okAsks L) (K : AExit → List Value → AH → Prop) (hK : K (.exit 0) [anyV] h0) : ∀ (r i : Nat), i + r = L.length →
    iter 0 Tryz.prog SAf [] noHooks 900 35 [0, 9, 10, 11] [] [2] [] (oneLoop (codeOf Tryz.f44) 4) (r + 1) [fz ⟨L.map akV⟩, fz ⟨L.map akV⟩, .int .i64 (L.length : Int), .int .i64 (i : Int)] h0 K := by
  intro r
  have hl := hL.2.2
  have hsz : (Array.mk (L.map akV)).size = L.length := by simp
  induction r with
  | zero =>
    intro i h1
    exact (car _ _ _ _ K).mpr (pick_f (by simp; omega) hK)
  | succ r ih =>
    intro i h1
    have hi : i < L.length := by omega
    obtain ⟨g1, g2⟩ := getA hi
    refine (car _ _ _ _ K).mpr (pick_t (decide_eq_true (by omega)) (need_mk (by rw [hsz]; simp; omega) ?_))
    rw [g2]
    refine ⟨g1, need_mk (hL.1 _ (List.getElem_mem hi)) ?_⟩
    rw [wrap1 (by omega)]
    by_cases q : i = 0
    · exact pick_f (by subst q; rfl) (ih (i + 1) (by omega))
    · obtain ⟨j, rfl⟩ : ∃ j, i = j + 1 := ⟨i - 1, by omega⟩
      have e : IntKind.i64.wrap (((j + 1 : Nat) : Int) - 1) = (j : Int) := by rw [wrap_id _ (by omega) (by omega)]; omega
      obtain ⟨k1, k2⟩ := getA (L := L) (i := j) (by omega)
      have hu := up_get hL.2.1 hi
      rw [e, k2]
      exact pick_t (decide_eq_true (by omega)) (need_mk (by rw [hsz]; simp; omega) ⟨k1, pick_f (by simp; omega) (ih (j + 1 + 1) (by omega))⟩)
theorem oneCA : (loopAt (codeOf Tryz.f44) 4).length = 1 := by kernel_rfl
theorem someCA : Tryz.f44.body.isSome = true := by kernel_rfl
theorem caf (xs : List Value) (C : List Value → AH → Prop) (Q : Value → Prop) :
    tfn Tryz.prog SAf [] (hook1 4 (hookLS 0 35 [0, 9, 10, 11] [] [2] (fun vals h K => C vals h ∧ K (.exit 0) [anyV] h0))) 900 [] Tryz.f44 [fz ⟨xs⟩] h0 (fun v _ => Q v) =
      bif decide (((Array.mk xs).size : Int) > 3000) then Q (.int .i64 2) else C [fz ⟨xs⟩, fz ⟨xs⟩, .int .i64 ((Array.mk xs).size : Int), .int .i64 0] h0 ∧ Q (.int .i64 0) := by kernel_rfl
theorem ca_fn {L : List A4} (hL : okAsks L) : FnOK 0 Tryz.prog 44 ⟨[fz ⟨L.map akV⟩]⟩ h0 (fun v _ => v = .int .i64 0) := by
  have hl := hL.2.2
  have hsz : (Array.mk (L.map akV)).size = L.length := by simp
  have hsp : LSpec 0 Tryz.prog 35 (oneLoop (codeOf Tryz.f44) 4) (hookLS 0 35 [0, 9, 10, 11] [] [2] (fun vals h K => (vals = [fz ⟨L.map akV⟩, fz ⟨L.map akV⟩, .int .i64 (L.length : Int), .int .i64 0] ∧ h = h0) ∧ K (.exit 0) [anyV] h0)) := by
    refine hook_ok (G := []) (L := noHooks) (f := 900) (sameX := []) SAf_ok mixed (by decide) (loops_none _ _ _ _) ?_
    rintro vals h K ⟨⟨rfl, rfl⟩, hK⟩
    exact ⟨_, ca_loop hL K hK L.length 0 (by omega)⟩
  exact FnOK.ttree SAf_ok mixed Tryz.func44 someCA (loops_one oneCA hsp) (caf (L.map akV) _ (fun v => v = .int .i64 0)) (pick_f (by rw [hsz]; simp; omega) ⟨⟨by rw [hsz], rfl⟩, rfl⟩)
open Classical in
noncomputable def okAs (xs : List Value) : Bool := @decide (∃ L : List A4, okAsks L ∧ xs = L.map akV) (Classical.propDecidable _)
theorem okAs_iff {xs : List Value} : okAs xs = true ↔ ∃ L : List A4, okAsks L ∧ xs = L.map akV := by unfold okAs; exact @decide_eq_true_iff _ (Classical.propDecidable _)
noncomputable def spCa (f : FuncId) (args : Array Value) (h : AH) : Option (Bool × Value × AH) :=
  cond (Nat.beq f 44) (match args with
    | ⟨[.func (.yield 0) ⟨xs⟩ ⟨[]⟩]⟩ => some (okAs xs, .int .i64 0, h)
    | _ => none) none
theorem spCa_ok : SpOK spCa := by
  intro f args h v h' hs
  unfold spCa at hs
  obtain ⟨hf, hs2⟩ := cond_some hs
  clear hs
  have := Nat.eq_of_beq_eq_true hf
  subst this
  split at hs2
  · injection hs2 with hs
    injection hs with hb hs
    injection hs with hv hh
    subst hv hh
    obtain ⟨L, hL, rfl⟩ := okAs_iff.1 hb
    exact ⟨FnOK.pure (ca_fn hL) rfl rfl h, Nat.le_refl _⟩
  · cases hs2

/-! CheckLimits of one limit in a block -/
def keyB : ByteArray := ⟨#[108, 97]⟩
def clH (cs : List Value) : AH := ⟨1, 1, [(0, .cells ⟨cs⟩ 46 (0, 0))]⟩
def clM (m : Int) (Q : Value → Prop) (X : Prop) : Prop := e1 (decide (m < 1)) Q (e1 (decide (m > 1000000000)) Q X)
def clP (p : Int) (Q : Value → Prop) (X : Prop) : Prop := e1 (decide (p < 1)) Q (e1 (decide (p > 8640000000)) Q X)
def clT1 (m p b : Int) (Q : Value → Prop) : Prop := clM m Q (clP p Q (e1 (b != 0) Q (Q (.int .i64 0))))
def clT2 (m p b : Int) (Q : Value → Prop) : Prop := clM m Q (clP p Q (e1 (b != 0) Q (Q (.int .i64 0))))
def clT3 (m p b : Int) (Q : Value → Prop) : Prop := clM m Q (clP p Q (clM b Q (Q (.int .i64 0))))
def clT4 (m p b : Int) (Q : Value → Prop) : Prop := clM m Q (e1 (p != 0) Q (e1 (b != 0) Q (Q (.int .i64 0))))
theorem cl1 (m p b : Int) (Q : Value → Option Obj → Prop) : ffn Tryz.prog SI [] 3000 [] Tryz.f36 [.slice (some ⟨0, 0, none⟩) 1 1] (clH (lmC keyB 1 m p b)) (fun v h => Q v (h.get 0)) = clT1 m p b (fun v => Q v (some (.cells ⟨lmC keyB 1 m p b⟩ 46 (0, 0)))) := by kernel_rfl
theorem cl2 (m p b : Int) (Q : Value → Option Obj → Prop) : ffn Tryz.prog SI [] 3000 [] Tryz.f36 [.slice (some ⟨0, 0, none⟩) 1 1] (clH (lmC keyB 2 m p b)) (fun v h => Q v (h.get 0)) = clT2 m p b (fun v => Q v (some (.cells ⟨lmC keyB 2 m p b⟩ 46 (0, 0)))) := by kernel_rfl
theorem cl3 (m p b : Int) (Q : Value → Option Obj → Prop) : ffn Tryz.prog SI [] 3000 [] Tryz.f36 [.slice (some ⟨0, 0, none⟩) 1 1] (clH (lmC keyB 3 m p b)) (fun v h => Q v (h.get 0)) = clT3 m p b (fun v => Q v (some (.cells ⟨lmC keyB 3 m p b⟩ 46 (0, 0)))) := by kernel_rfl
theorem cl4 (m p b : Int) (Q : Value → Option Obj → Prop) : ffn Tryz.prog SI [] 3000 [] Tryz.f36 [.slice (some ⟨0, 0, none⟩) 1 1] (clH (lmC keyB 4 m p b)) (fun v h => Q v (h.get 0)) = clT4 m p b (fun v => Q v (some (.cells ⟨lmC keyB 4 m p b⟩ 46 (0, 0)))) := by kernel_rfl
theorem someCL : Tryz.f36.body.isSome = true := by kernel_rfl
theorem okM_in {m : Int} (h : okM m) : 1 ≤ m ∧ m ≤ 5 := by rcases h with rfl | rfl | rfl | rfl <;> omega
theorem okPer_in {p : Int} (h : okPer p) : 1 ≤ p ∧ p ≤ 100 := by rcases h with rfl | rfl | rfl | rfl | rfl <;> omega
theorem okBu_in {b : Int} (h : okBu b) : 1 ≤ b ∧ b ≤ 5 := by rcases h with rfl | rfl | rfl <;> omega
theorem clM_mk {m : Int} {Q : Value → Prop} {X : Prop} (h : 1 ≤ m ∧ m ≤ 5) (x : X) : clM m Q X := e1_mk (by simp; omega) (e1_mk (by simp; omega) x)
theorem clP_mk {m : Int} {Q : Value → Prop} {X : Prop} (h : 1 ≤ m ∧ m ≤ 100) (x : X) : clP m Q X := e1_mk (by simp; omega) (e1_mk (by simp; omega) x)
theorem cl_fn {c m p b : Int} (h : okL c m p b) : FnOK 1 Tryz.prog 36 ⟨[.slice (some ⟨0, 0, none⟩) 1 1]⟩ (clH (lmC keyB c m p b)) (fun v g => v = .int .i64 0 ∧ g.get 0 = some (.cells ⟨lmC keyB c m p b⟩ 46 (0, 0))) := by
  obtain ⟨hm, hk⟩ := h
  have hm := okM_in hm
  rcases hk with ⟨rfl, hp, rfl⟩ | ⟨rfl, hp, rfl⟩ | ⟨rfl, hp, hb⟩ | ⟨rfl, rfl, rfl⟩
  · exact FnOK.ftree SI_ok mixed Tryz.func36 someCL (cl1 m p 0 (fun v o => v = .int .i64 0 ∧ o = some (.cells ⟨lmC keyB 1 m p 0⟩ 46 (0, 0)))) (clM_mk hm (clP_mk (okPer_in hp) (e1_mk rfl ⟨rfl, rfl⟩)))
  · exact FnOK.ftree SI_ok mixed Tryz.func36 someCL (cl2 m p 0 (fun v o => v = .int .i64 0 ∧ o = some (.cells ⟨lmC keyB 2 m p 0⟩ 46 (0, 0)))) (clM_mk hm (clP_mk (okPer_in hp) (e1_mk rfl ⟨rfl, rfl⟩)))
  · exact FnOK.ftree SI_ok mixed Tryz.func36 someCL (cl3 m p b (fun v o => v = .int .i64 0 ∧ o = some (.cells ⟨lmC keyB 3 m p b⟩ 46 (0, 0)))) (clM_mk hm (clP_mk (okPer_in hp) (clM_mk (okBu_in hb) ⟨rfl, rfl⟩)))
  · exact FnOK.ftree SI_ok mixed Tryz.func36 someCL (cl4 m 0 0 (fun v o => v = .int .i64 0 ∧ o = some (.cells ⟨lmC keyB 4 m 0 0⟩ 46 (0, 0)))) (clM_mk hm (e1_mk rfl (e1_mk rfl ⟨rfl, rfl⟩)))
open Classical in
noncomputable def okLB (k : ByteArray) (c m p b : Int) : Bool := @decide (k = keyB ∧ okL c m p b) (Classical.propDecidable _)
theorem okLB_iff {k : ByteArray} {c m p b : Int} : okLB k c m p b = true ↔ k = keyB ∧ okL c m p b := by unfold okLB; exact @decide_eq_true_iff _ (Classical.propDecidable _)
/-- Reading one block of plain values. -/
theorem reads1 {f : FuncId} {cs : List Value} {t : TypeId} {fr : Nat × Nat} {n c b : Nat} {rest : List Value} {v : Value} {H : AH} (hF : FnOK 1 Tryz.prog f ⟨.slice (some ⟨0, 0, none⟩) n c :: rest⟩ ⟨1, 1, [(0, .cells ⟨cs⟩ t fr)]⟩ (fun u g => u = v ∧ g.get 0 = some (.cells ⟨cs⟩ t fr)))
    (hr : ren2s [(b, 0)] rest = some rest) (hp : ∀ x ∈ cs, p1 x = true) (hv : p3 v = true) (hb : H.get b = some (.cells ⟨cs⟩ t fr)) : CallOK Tryz.prog f ⟨.slice (some ⟨b, 0, none⟩) n c :: rest⟩ H v H := by
  refine FnOK.reads (r := [(b, 0)]) (bl := [(0, .cells ⟨cs⟩ t fr)]) (small := .slice (some ⟨0, 0, none⟩) n c :: rest) (by simp [renOk, renB, invB, eqO]) (by simp [ren2s, ren2, ren1, ren0, renB, hr]) ?_ ?_ (hF.mono ?_) hv
  · intro i o hi
    unfold Ev.look at hi
    obtain ⟨h1, h2⟩ := cond_some hi
    cases h2
    exact ⟨b, by rw [Nat.eq_of_beq_eq_true h1]; simp, hb⟩
  · intro i o hi
    unfold Ev.look at hi
    obtain ⟨h1, h2⟩ := cond_some hi
    cases h2
    exact ⟨_, _, _, rfl, by simpa using hp⟩
  · rintro u g ⟨rfl, hg2⟩
    refine ⟨rfl, fun i o hi => ?_⟩
    unfold Ev.look at hi
    obtain ⟨h1, h2⟩ := cond_some hi
    cases h2
    rw [← Nat.eq_of_beq_eq_true h1]
    exact hg2
noncomputable def spCl (f : FuncId) (args : Array Value) (h : AH) : Option (Bool × Value × AH) :=
  cond (Nat.beq f 36) (match args with
    | ⟨[.slice (some ⟨b, 0, none⟩) 1 1]⟩ => match h.get b with
      | some (.cells ⟨[.string k, .int .i64 c, .int .i64 m, .int .i64 p, .int .i64 q]⟩ t (0, 0)) => some (okLB k c m p q && Nat.beq t 46, .int .i64 0, h)
      | _ => none
    | _ => none) none
theorem spCl_ok : SpOK spCl := by
  intro f args h v h' hs
  unfold spCl at hs
  obtain ⟨hf, hs2⟩ := cond_some hs
  clear hs
  have := Nat.eq_of_beq_eq_true hf
  subst this
  split at hs2
  · rename_i b
    split at hs2
    · rename_i k c m p q t hg
      injection hs2 with hs
      injection hs with hb hs
      injection hs with hv hh
      subst hv hh
      rw [Bool.and_eq_true] at hb
      obtain ⟨rfl, hL⟩ := okLB_iff.1 hb.1
      have bt := Nat.eq_of_beq_eq_true hb.2
      subst bt
      exact ⟨reads1 (rest := []) (cl_fn hL) rfl (by intro x hx; simp [lmC] at hx; rcases hx with rfl | rfl | rfl | rfl | rfl <;> rfl) rfl hg, Nat.le_refl _⟩
    · cases hs2
  · cases hs2
end Go.Proofs.YtbigicdojndnjaaGreatDoor
