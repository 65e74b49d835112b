/-
  Limits: a piece comes into a row of pieces at its place.
-/
import Derived.Test.YtbigicdojndnjaaGreatDoorLkI
namespace Go.Proofs.YtbigicdojndnjaaGreatDoor
open Go.Ev Go.RowKit LimLaw

noncomputable def SIn : SC := ⟨idn, spIn, true, true⟩
theorem SIn_ok : SIn.cfg.OK Tryz.prog := spIn_ok.cfg
theorem wlr (cs : List Value) (n : Nat) (i u c : Int) (B : List Value → AH → Prop) (Q : AExit → List Value → AH → Prop) :
    once 1 Tryz.prog SIn [] noHooks 600 28 [0, 3, 5] [0, 1] [0, 3, 5] [0, 1] (oneLoop (codeOf Tryz.f270) 2) [.slice (some ⟨0, 0, none⟩) n n, .pointer (some ⟨1, 0, none⟩), .int .i64 i] (h2t cs u c) B Q =
      bif decide (i > 0) then bif decide (0 ≤ IntKind.i64.wrap (i - 1)) && decide (IntKind.i64.wrap (i - 1) < (n : Int)) then bif Nat.blt (0 + (IntKind.i64.wrap (i - 1)).toNat * 2) (cells cs) then
        ((Array.mk cs).toList.getD (0 + (IntKind.i64.wrap (i - 1)).toNat * 2) undef) = .int .i64 (toInt ((Array.mk cs).toList.getD (0 + (IntKind.i64.wrap (i - 1)).toNat * 2) undef)) ∧ bif (bif true then decide (toInt ((Array.mk cs).toList.getD (0 + (IntKind.i64.wrap (i - 1)).toNat * 2) undef) > u) else false) then NoNames (.cells ⟨cs⟩ 347 (1, 1)) ∧ NoNames (.cells ⟨pcC (u, c)⟩ 347 (0, 0)) ∧ B [.slice (some ⟨0, 0, none⟩) n n, .pointer (some ⟨1, 0, none⟩), .int .i64 (IntKind.i64.wrap (i - 1))] (h2t cs u c)
        else NoNames (.cells ⟨cs⟩ 347 (1, 1)) ∧ NoNames (.cells ⟨pcC (u, c)⟩ 347 (0, 0)) ∧ Q (.exit 0) [.slice (some ⟨0, 0, none⟩) n n, .pointer (some ⟨1, 0, none⟩), .int .i64 i] (h2t cs u c)
      else False else False else NoNames (.cells ⟨cs⟩ 347 (1, 1)) ∧ NoNames (.cells ⟨pcC (u, c)⟩ 347 (0, 0)) ∧ Q (.exit 0) [.slice (some ⟨0, 0, none⟩) n n, .pointer (some ⟨1, 0, none⟩), .int .i64 i] (h2t cs u c) := by kernel_rfl
/-- The place. -/
def wiF (u : Int) (L : List P2) : Nat → Nat
  | 0 => 0
  | i + 1 => if (L.getD i (0, 0)).1 > u then wiF u L i else i + 1
theorem wiF_le (u : Int) (L : List P2) : ∀ i, wiF u L i ≤ i
  | 0 => Nat.le_refl _
  | i + 1 => by
    unfold wiF
    split
    · exact Nat.le_succ_of_le (wiF_le u L i)
    · exact Nat.le_refl _
def wiL (u c : Int) (L : List P2) : List P2 := insL (wiF u L L.length) (u, c) L
theorem wiL_len (u c : Int) (L : List P2) : (wiL u c L).length = L.length + 1 := by
  have := wiF_le u L L.length
  unfold wiL insL
  rw [List.length_append, List.length_take, List.length_cons, List.length_drop]; omega
theorem wl_loop {L : List P2} (hl : L.length ≤ 1000) (u c : Int) (K : AExit → List Value → AH → Prop) : ∀ i : Nat, i ≤ L.length →
    K (.exit 0) [.slice (some ⟨0, 0, none⟩) L.length L.length, .pointer (some ⟨1, 0, none⟩), .int .i64 ((wiF u L i : Nat) : Int)] (h2t (L.flatMap pcC) u c) →
    iter 1 Tryz.prog SIn [] noHooks 600 28 [0, 3, 5] [0, 1] [0, 3, 5] [0, 1] (oneLoop (codeOf Tryz.f270) 2) (i + 1) [.slice (some ⟨0, 0, none⟩) L.length L.length, .pointer (some ⟨1, 0, none⟩), .int .i64 (i : Int)] (h2t (L.flatMap pcC) u c) K := by
  intro i
  have n1 := nnF L 347 (1, 1)
  have n2 : NoNames (.cells ⟨pcC (u, c)⟩ 347 (0, 0)) := nnF [(u, c)] 347 (0, 0)
  have hsz := pcC_len L
  induction i with
  | zero =>
    intro _ hK
    exact (wlr _ _ _ _ _ _ K).mpr (pick_f rfl ⟨n1, n2, hK⟩)
  | succ i ih =>
    intro hi hK
    have hlt : i < L.length := by omega
    have e1 : IntKind.i64.wrap (((i + 1 : Nat) : Int) - 1) = (i : Int) := by rw [wrap_id _ (by omega) (by omega)]; omega
    have hg := get_last (List.getElem?_eq_getElem hlt)
    have e2 : (Array.mk (L.flatMap pcC)).toList.getD (0 + ((i : Int)).toNat * 2) undef = .int .i64 (L[i]).1 := by rw [Nat.zero_add]; exact hg
    have e3 : (L.getD i (0, 0)).1 = (L[i]).1 := by simp [List.getD, hlt]
    refine (wlr _ _ _ _ _ _ K).mpr (pick_t (decide_eq_true (by omega)) ?_)
    rw [e1, e2]
    refine need_mk (by simp; omega) (need_mk ?_ ⟨rfl, ?_⟩)
    · rw [cells_len, hsz, Nat.blt, Nat.ble_eq]; simp only [Int.toNat_natCast]; omega
    · unfold wiF at hK
      rw [e3] at hK
      show bif decide ((L[i]).1 > u) then _ else _
      by_cases q : (L[i]).1 > u
      · rw [if_pos q] at hK
        exact pick_t (decide_eq_true q) ⟨n1, n2, ih (by omega) hK⟩
      · rw [if_neg q] at hK
        exact pick_f (decide_eq_false q) ⟨n1, n2, hK⟩
theorem oneWI : (loopAt (codeOf Tryz.f270) 2).length = 1 := by kernel_rfl
def wgG (cs : List Value) (u c : Int) : List (Nat × Obj) := [(3, .cells ⟨cs⟩ 347 (1, 1)), (2, .cells ⟨pcC (u, c)⟩ 347 (0, 0)), (1, .cells ⟨pcC (u, c)⟩ 347 (0, 0))]
theorem wif (cs : List Value) (n : Nat) (i u c : Int) (C : List Value → AH → Prop) (Q : Value → AH → Prop) :
    tfn Tryz.prog SIn [] (hook1 2 (hookLS 1 28 [0, 3, 5] [0, 1] [0, 3, 5] (fun vals h K => C vals h ∧ K (.exit 0) [.slice (some ⟨0, 0, none⟩) n n, .pointer (some ⟨1, 0, none⟩), .int .i64 i] (h2t cs u c)))) 900 [] Tryz.f270 [.slice (some ⟨0, 0, none⟩) n n, pcV (u, c)] (pH cs) Q =
      (NoNames (.cells ⟨cs⟩ 347 (1, 1)) ∧ NoNames (.cells ⟨pcC (u, c)⟩ 347 (0, 0)) ∧ C [.slice (some ⟨0, 0, none⟩) n n, .pointer (some ⟨1, 0, none⟩), .int .i64 (n : Int)] (h2t cs u c) ∧ bif true && true && Nat.beq n n && okC n cs && Nat.ble n 1000 && decide (0 ≤ i) && decide (i ≤ (n : Int)) && true && true && true then
        Q (.slice (some ⟨3, 0, none⟩) (n + 1) (n + 1)) ⟨4, 0, wgG ((insL i.toNat (u, c) (rdL n cs)).flatMap pcC) u c⟩ else False) := by kernel_rfl
theorem wi2_fn {L : List P2} (hl : L.length ≤ 1000) (u c : Int) : FnOK 1 Tryz.prog 270 ⟨[.slice (some ⟨0, 0, none⟩) L.length L.length, pcV (u, c)]⟩ (pH (L.flatMap pcC))
    (fun v g => v = .slice (some ⟨3, 0, none⟩) (L.length + 1) (L.length + 1) ∧ g = ⟨4, 0, wgG ((wiL u c L).flatMap pcC) u c⟩) := by
  have n1 := nnF L 347 (1, 1)
  have n2 : NoNames (.cells ⟨pcC (u, c)⟩ 347 (0, 0)) := nnF [(u, c)] 347 (0, 0)
  have hle := wiF_le u L L.length
  have hsp : LSpec 1 Tryz.prog 28 (oneLoop (codeOf Tryz.f270) 2) (hookLS 1 28 [0, 3, 5] [0, 1] [0, 3, 5] (fun vals h K => (vals = [.slice (some ⟨0, 0, none⟩) L.length L.length, .pointer (some ⟨1, 0, none⟩), .int .i64 (L.length : Int)] ∧ h = h2t (L.flatMap pcC) u c) ∧
      K (.exit 0) [.slice (some ⟨0, 0, none⟩) L.length L.length, .pointer (some ⟨1, 0, none⟩), .int .i64 ((wiF u L L.length : Nat) : Int)] (h2t (L.flatMap pcC) u c))) := by
    refine hook_ok (G := []) (L := noHooks) (f := 600) (sameX := [0, 1]) SIn_ok mixed (by decide) (loops_none _ _ _ _) ?_
    rintro vals h K ⟨⟨rfl, rfl⟩, hK⟩
    exact ⟨_, wl_loop hl u c K L.length (Nat.le_refl _) hK⟩
  have e := wif (L.flatMap pcC) L.length ((wiF u L L.length : Nat) : Int) u c (fun vals h => vals = [.slice (some ⟨0, 0, none⟩) L.length L.length, .pointer (some ⟨1, 0, none⟩), .int .i64 (L.length : Int)] ∧ h = h2t (L.flatMap pcC) u c)
    (fun v g => v = .slice (some ⟨3, 0, none⟩) (L.length + 1) (L.length + 1) ∧ g = ⟨4, 0, wgG ((wiL u c L).flatMap pcC) u c⟩)
  refine FnOK.ttree SIn_ok mixed Tryz.func270 somePW (loops_one oneWI hsp) e ⟨n1, n2, ⟨rfl, rfl⟩, need_mk ?_ ⟨rfl, ?_⟩⟩
  · rw [Nat.beq_refl, okC_iff.2 ⟨L, rfl, rfl⟩, Nat.ble_eq_true_of_le hl]
    simp; omega
  · rw [rdL_flat, Int.toNat_natCast]
    rfl
noncomputable def spPi (g : FuncId) (args : Array Value) (h : AH) : Option (Bool × Value × AH) :=
  cond (Nat.beq g 270) (match args with
    | ⟨[.slice (some ⟨b, 0, none⟩) n m, .agg ⟨[.int .i64 u, .int .i64 c]⟩]⟩ => match h.get b with
      | some (.cells ⟨cs⟩ t1 (1, 1)) => some (Nat.beq t1 347 && Nat.beq m n && okC n cs && Nat.ble n 1000 && Nat.blt b h.next,
        .slice (some ⟨h.next, 0, none⟩) (n + 1) (n + 1), (h.del b).push (.cells ⟨(wiL u c (rdL n cs)).flatMap pcC⟩ 347 (1, 1)))
      | _ => none
    | _ => none) none
theorem spPi_ok : SpOK spPi := by
  intro f args h v h' hs
  unfold spPi at hs
  obtain ⟨hf, hs2⟩ := cond_some hs
  clear hs
  have := Nat.eq_of_beq_eq_true hf
  subst this
  split at hs2
  · rename_i b n m u c
    split at hs2
    · rename_i cs t1 hg
      injection hs2 with hs
      injection hs with hb hs
      injection hs with hv hh
      subst hv hh
      simp only [Bool.and_eq_true, Bool.not_eq_true', decide_eq_true_eq] at hb
      obtain ⟨⟨⟨⟨b1, b2⟩, b3⟩, b4⟩, b6⟩ := hb
      have b1 := Nat.eq_of_beq_eq_true b1
      have b2 := Nat.eq_of_beq_eq_true b2
      obtain ⟨L, hL, hcs⟩ := okC_iff.1 b3
      have b4 := Nat.le_of_ble_eq_true b4
      subst b1 b2 hL hcs
      rw [rdL_flat]
      have hbn : b < h.next := by have := b6; rw [Nat.blt, Nat.ble_eq] at this; omega
      have hsn : ∀ a, a ≠ b → (h.del b).get a = h.get a := fun a ha => del_ne ha
      have hsb : (h.del b).get b = none := look_delB_self h.blocks
      have hnx : (h.del b).next = h.next := rfl
      refine ⟨?_, Nat.le_succ _⟩
      refine FnOK.frame (r := [(b, 0)]) (q := [(3, h.next)]) (bl := (pH (L.flatMap pcC)).blocks) (bl' := wgG ((wiL u c L).flatMap pcC) u c) (nx := 4) (lw := 0) (u := .slice (some ⟨3, 0, none⟩) (L.length + 1) (L.length + 1)) (small := [.slice (some ⟨0, 0, none⟩) L.length L.length, pcV (u, c)])
        (by simp [renOk, renB, invB, eqO]) (by simp [ren2s, ren2, ren1, ren0, renL, renB, p1, pcV, pcC]) ?_ (wi2_fn b4 u c) ?_ ?_ (by simp [ren2, ren1, ren0, renB]) ?_ ?_ (Nat.le_succ _) (Nat.min_le_left _ _) ?_
      · intro i o hi
        unfold pH at hi
        simp only at hi
        unfold Ev.look at hi
        obtain ⟨h1, h2⟩ := cond_some hi
        cases h2
        have := Nat.eq_of_beq_eq_true h1
        subst this
        exact ⟨b, _, true, by simp, hg, rfl, fun _ => nnB L 347⟩
      · simp [renOk, renB, invB, eqO, AH.push, Nat.blt, Nat.ble_eq, hnx]
      · intro i a ha
        simp only [List.mem_singleton, Prod.mk.injEq] at ha
        obtain ⟨rfl, rfl⟩ := ha
        exact .inr ⟨Nat.le_refl _, rfl⟩
      · intro a o2 ha
        rw [look_push] at ha
        split at ha
        · rename_i hn
          cases ha
          refine .inr ⟨3, _, true, ?_, rfl, rfl, fun _ => nnF (wiL u c L) 347 (1, 1)⟩
          rw [← hn]
          simp [hnx]
        · by_cases hab : a = b
          · subst hab
            rw [hsb] at ha
            cases ha
          · rw [hsn a hab] at ha
            exact .inl ⟨ha, fun i hi => by simp only [List.mem_singleton, Prod.mk.injEq] at hi; exact hab hi.1⟩
      · intro hids a o2 ha
        rw [look_push] at ha
        split at ha
        · rename_i hn
          rw [← hn]
          exact Nat.lt_succ_self _
        · by_cases hab : a = b
          · subst hab
            rw [hsb] at ha
            cases ha
          · rw [hsn a hab] at ha
            exact Nat.lt_succ_of_lt (hids a o2 ha)
      · intro i hi hlow
        have hlow : i < min h.low b := hlow
        rw [look_push, if_neg (by rw [hnx]; omega)]
        exact hsn i (by omega)
    · cases hs2
  · cases hs2
end Go.Proofs.YtbigicdojndnjaaGreatDoor
