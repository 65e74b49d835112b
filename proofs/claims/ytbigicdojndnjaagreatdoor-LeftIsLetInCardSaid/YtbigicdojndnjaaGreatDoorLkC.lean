/-
  Limits: windows and buckets by what their methods say and do.
-/
import Derived.Test.YtbigicdojndnjaaGreatDoorLkJ
namespace Go.Proofs.YtbigicdojndnjaaGreatDoor
open Go.Ev Go.RowKit LimLaw

theorem readsP {f : FuncId} {cs : List Value} {t : TypeId} {fr : Nat × Nat} {b : Nat} {rest : List Value} {v : Value} {H : AH} (hF : FnOK 1 Tryz.prog f ⟨.pointer (some ⟨0, 0, none⟩) :: rest⟩ ⟨1, 1, [(0, .cells ⟨cs⟩ t fr)]⟩ (fun u g => u = v ∧ g.get 0 = some (.cells ⟨cs⟩ t fr)))
    (hr : ren2s [(b, 0)] rest = some rest) (hp : ∀ x ∈ cs, p1 x = true) (hv : p3 v = true) (hb : H.get b = some (.cells ⟨cs⟩ t fr)) : CallOK Tryz.prog f ⟨.pointer (some ⟨b, 0, none⟩) :: rest⟩ H v H := by
  refine FnOK.reads (r := [(b, 0)]) (bl := [(0, .cells ⟨cs⟩ t fr)]) (small := .pointer (some ⟨0, 0, none⟩) :: rest) (by simp [renOk, renB, invB, eqO]) (by simp [ren2s, ren2, ren1, ren0, renB, hr]) ?_ ?_ (hF.mono ?_) hv
  · intro i o hi
    unfold Ev.look at hi
    obtain ⟨h1, h2⟩ := cond_some hi
    cases h2
    exact ⟨b, by rw [Nat.eq_of_beq_eq_true h1]; simp, hb⟩
  · intro i o hi
    unfold Ev.look at hi
    obtain ⟨h1, h2⟩ := cond_some hi
    cases h2
    exact ⟨_, _, _, rfl, by simpa using hp⟩
  · rintro u g ⟨rfl, hg2⟩
    refine ⟨rfl, fun i o hi => ?_⟩
    unfold Ev.look at hi
    obtain ⟨h1, h2⟩ := cond_some hi
    cases h2
    rw [← Nat.eq_of_beq_eq_true h1]
    exact hg2
theorem updP {f : FuncId} {cs cs' : List Value} {t : TypeId} {fr fr' : Nat × Nat} {b : Nat} {rest : List Value} {H : AH} {u : Value}
    (hF : FnOK 1 Tryz.prog f ⟨.pointer (some ⟨0, 0, none⟩) :: rest⟩ ⟨1, 1, [(0, .cells ⟨cs⟩ t fr)]⟩ (fun v g => v = u ∧ g.get 0 = some (.cells ⟨cs'⟩ t fr')))
    (hu : ∀ r, ren2 r u = some u) (hr : ∀ r, ren2s r rest = some rest) (hp : ∀ x ∈ cs, p1 x = true) (hp' : ∀ x ∈ cs', p1 x = true) (hb : H.get b = some (.cells ⟨cs⟩ t fr)) (hlt : Nat.blt b H.next = true) :
    CallOK Tryz.prog f ⟨.pointer (some ⟨b, 0, none⟩) :: rest⟩ H u (H.set b (.cells ⟨cs'⟩ t fr')) := by
  have hset : (H.set b (.cells ⟨cs'⟩ t fr')).get b = some (.cells ⟨cs'⟩ t fr') := look_setB_self hb
  have hne : ∀ a, a ≠ b → (H.set b (.cells ⟨cs'⟩ t fr')).get a = H.get a := fun a ha => look_setB_ne ha _ H.blocks
  refine FnOK.frame (r := [(b, 0)]) (q := [(0, b)]) (bl := [(0, .cells ⟨cs⟩ t fr)]) (bl' := [(0, .cells ⟨cs'⟩ t fr')]) (nx := 1) (lw := 1) (u := u) (small := .pointer (some ⟨0, 0, none⟩) :: rest)
    (by simp [renOk, renB, invB, eqO]) (by simp [ren2s, ren2, ren1, ren0, renB, hr]) ?_ ?_ ?_ ?_ (hu _) ?_ ?_ (Nat.le_refl _) (Nat.min_le_left _ _) ?_
  · intro i o hi
    unfold Ev.look at hi
    obtain ⟨h1, h2⟩ := cond_some hi
    cases h2
    have := Nat.eq_of_beq_eq_true h1
    subst this
    exact ⟨b, _, true, by simp, hb, rfl, fun _ x hx => hp x (by simpa using hx)⟩
  · refine FnOK.weak1 (hF.mono ?_)
    rintro v g ⟨rfl, hg⟩
    refine ⟨_, _, Weak.norm [true] [(0, 0)] [0] 1 rfl rfl (by simp [renT, hu]) (bl := [(0, .cells ⟨cs'⟩ t fr')]) (by simp [renH, hg, renO]) ?_, rfl, rfl⟩
    intro a ha o ho
    simp only [List.mem_singleton] at ha
    subst ha
    rw [hg] at ho
    cases ho
    exact fun x hx => hp' x (by simpa using hx)
  · have hlt : Nat.blt b (H.set b (.cells ⟨cs'⟩ t fr')).next = true := hlt
    simp [renOk, renB, invB, eqO, hlt]
  · intro i a h
    simp only [List.mem_singleton, Prod.mk.injEq] at h
    obtain ⟨rfl, rfl⟩ := h
    exact .inl ⟨by simp, by rw [hb]; rfl⟩
  · intro a o2 ha
    by_cases hab : a = b
    · subst hab
      rw [hset] at ha
      cases ha
      exact .inr ⟨0, _, true, by simp, rfl, rfl, fun _ x hx => hp' x (by simpa using hx)⟩
    · rw [hne a hab] at ha
      exact .inl ⟨ha, fun i hi => by simp only [List.mem_singleton, Prod.mk.injEq] at hi; exact hab hi.1⟩
  · intro hids a o ha
    by_cases hab : a = b
    · subst hab
      exact hids a _ hb
    · rw [hne a hab] at ha
      exact hids a o ha
  · intro i _ hlow
    have hlow : i < min H.low b := hlow
    exact hne i (by omega)

def cnC (k : ByteArray) (c m p b x y : Int) : List Value := [.string k, .int .i64 c, .int .i64 m, .int .i64 p, .int .i64 b, .int .i64 x, .int .i64 y]
theorem p1_cnC (k : ByteArray) (c m p b x y : Int) : ∀ v ∈ cnC k c m p b x y, p1 v = true := by
  intro v hv
  simp only [cnC, List.mem_cons, List.not_mem_nil, or_false] at hv
  rcases hv with rfl | rfl | rfl | rfl | rfl | rfl | rfl <;> rfl
/-! windows -/
def usW (p x y t : Int) : Int := cond (IntKind.i64.wrap (t.tdiv p) != x) 0 y
def moW (m p x y t : Int) : Int := IntKind.i64.wrap (m - usW p x y t)
def waW (p t : Int) : Int := IntKind.i64.wrap (IntKind.i64.wrap (IntKind.i64.wrap (IntKind.i64.wrap (t.tdiv p) + 1) * p) - t)
def nW (p x y t co : Int) : Int := IntKind.i64.wrap (usW p x y t + co)
theorem mW_eq (k : ByteArray) (c m p b x y t co lo : Int) (Q : Value → Option Obj → Prop) : ffn Tryz.prog SI [] 900 [] Tryz.f262 [.pointer (some ⟨0, 0, none⟩), .int .i64 t] ⟨1, 1, [(0, .cells ⟨cnC k c m p b x y⟩ 184 (0, 0))]⟩ (fun v h => Q v (h.get 0)) =
    bif !decide (p = 0) then bif IntKind.i64.wrap (t.tdiv p) != x then Q (.int .i64 (IntKind.i64.wrap (m - 0))) (some (.cells ⟨cnC k c m p b x y⟩ 184 (0, 0))) else Q (.int .i64 (IntKind.i64.wrap (m - y))) (some (.cells ⟨cnC k c m p b x y⟩ 184 (0, 0))) else False := by kernel_rfl
theorem someWM : Tryz.f262.body.isSome = true := by kernel_rfl
theorem wW_eq (k : ByteArray) (c m p b x y t co lo : Int) (Q : Value → Option Obj → Prop) : ffn Tryz.prog SI [] 900 [] Tryz.f263 [.pointer (some ⟨0, 0, none⟩), .int .i64 t, .int .i64 co] ⟨1, 1, [(0, .cells ⟨cnC k c m p b x y⟩ 184 (0, 0))]⟩ (fun v h => Q v (h.get 0)) =
    bif !decide (p = 0) then Q (.int .i64 (waW p t)) (some (.cells ⟨cnC k c m p b x y⟩ 184 (0, 0))) else False := by kernel_rfl
theorem someWW : Tryz.f263.body.isSome = true := by kernel_rfl
theorem aW_eq (k : ByteArray) (c m p b x y t co lo : Int) (Q : Value → Option Obj → Prop) : ffn Tryz.prog SI [] 900 [] Tryz.f260 [.pointer (some ⟨0, 0, none⟩), .int .i64 t, .int .i64 co, .int .i64 lo] ⟨1, 1, [(0, .cells ⟨cnC k c m p b x y⟩ 184 (0, 0))]⟩ (fun v h => Q v (h.get 0)) =
    bif !decide (p = 0) then bif !decide (p = 0) then bif IntKind.i64.wrap (t.tdiv p) != x then Q (.tuple ⟨[]⟩) (some (.cells ⟨cnC k c m p b (IntKind.i64.wrap (t.tdiv p)) (IntKind.i64.wrap (0 + co))⟩ 184 (0, 0))) else Q (.tuple ⟨[]⟩) (some (.cells ⟨cnC k c m p b (IntKind.i64.wrap (t.tdiv p)) (IntKind.i64.wrap (y + co))⟩ 184 (0, 0))) else False else False := by kernel_rfl
theorem someWA : Tryz.f260.body.isSome = true := by kernel_rfl

/-! buckets -/
def upB (a b : Int) : Int := cond (a.tmod b != 0) (IntKind.i64.wrap (IntKind.i64.wrap (a.tdiv b) + 1)) (IntKind.i64.wrap (a.tdiv b))
def nwB (m p b x y t : Int) : Int := cond (decide (IntKind.i64.wrap (t - x) ≥ upB (IntKind.i64.wrap (IntKind.i64.wrap (b * p) - y)) m)) (IntKind.i64.wrap (b * p)) (IntKind.i64.wrap (y + IntKind.i64.wrap (m * IntKind.i64.wrap (t - x))))
def moB (m p b x y t : Int) : Int := IntKind.i64.wrap ((nwB m p b x y t).tdiv p)
def waB (m p b x y t co : Int) : Int := upB (IntKind.i64.wrap (IntKind.i64.wrap (co * p) - nwB m p b x y t)) m
def lvB (m p b x y t co : Int) : Int := IntKind.i64.wrap (nwB m p b x y t - IntKind.i64.wrap (co * p))
theorem upT_mk {a b : Int} {K : Int → Prop} (hb : b ≠ 0) (h : K (upB a b)) : upT a b K := by
  unfold upT upB at *
  refine need_mk (by simp [hb]) (need_mk (by simp [hb]) ?_)
  cases q : (a.tmod b != 0) <;> rw [q] at h <;> exact h
theorem nwT_mk {m p b a l t : Int} {K : Int → Prop} (hm : m ≠ 0) (h : K (nwB m p b a l t)) : nwT m p b a l t K := by
  refine upT_mk hm ?_
  unfold nwB at h
  cases q : decide (IntKind.i64.wrap (t - a) ≥ upB (IntKind.i64.wrap (IntKind.i64.wrap (b * p) - l)) m) <;> rw [q] at h <;> exact h
theorem mB_eq (k : ByteArray) (c m p b x y t co lo : Int) (Q : Value → Option Obj → Prop) : ffn Tryz.prog SI [] 900 [] Tryz.f283 [.pointer (some ⟨0, 0, none⟩), .int .i64 t] ⟨1, 1, [(0, .cells ⟨cnC k c m p b x y⟩ 192 (0, 0))]⟩ (fun v h => Q v (h.get 0)) =
    nwT m p b x y t (fun z => bif !decide (p = 0) then Q (.int .i64 (IntKind.i64.wrap (z.tdiv p))) (some (.cells ⟨cnC k c m p b x y⟩ 192 (0, 0))) else False) := by kernel_rfl
theorem someBM : Tryz.f283.body.isSome = true := by kernel_rfl
theorem wB_eq (k : ByteArray) (c m p b x y t co lo : Int) (Q : Value → Option Obj → Prop) : ffn Tryz.prog SI [] 900 [] Tryz.f284 [.pointer (some ⟨0, 0, none⟩), .int .i64 t, .int .i64 co] ⟨1, 1, [(0, .cells ⟨cnC k c m p b x y⟩ 192 (0, 0))]⟩ (fun v h => Q v (h.get 0)) =
    nwT m p b x y t (fun z => upT (IntKind.i64.wrap (IntKind.i64.wrap (co * p) - z)) m fun u => Q (.int .i64 u) (some (.cells ⟨cnC k c m p b x y⟩ 192 (0, 0)))) := by kernel_rfl
theorem someBW : Tryz.f284.body.isSome = true := by kernel_rfl
theorem aB_eq (k : ByteArray) (c m p b x y t co lo : Int) (Q : Value → Option Obj → Prop) : ffn Tryz.prog SI [] 900 [] Tryz.f281 [.pointer (some ⟨0, 0, none⟩), .int .i64 t, .int .i64 co, .int .i64 lo] ⟨1, 1, [(0, .cells ⟨cnC k c m p b x y⟩ 192 (0, 0))]⟩ (fun v h => Q v (h.get 0)) =
    nwT m p b x y t (fun z => Q (.tuple ⟨[]⟩) (some (.cells ⟨cnC k c m p b t (IntKind.i64.wrap (z - IntKind.i64.wrap (co * p)))⟩ 192 (0, 0)))) := by kernel_rfl
theorem someBA : Tryz.f281.body.isSome = true := by kernel_rfl
theorem mW_fn (k : ByteArray) (c m p b x z t : Int) (hc : (!decide (p = 0)) = true) : FnOK 1 Tryz.prog 262 ⟨[.pointer (some ⟨0, 0, none⟩), .int .i64 t]⟩ ⟨1, 1, [(0, .cells ⟨cnC k c m p b x z⟩ 184 (0, 0))]⟩
    (fun v g => v = .int .i64 (moW m p x z t) ∧ g.get 0 = some (.cells ⟨cnC k c m p b x z⟩ 184 (0, 0))) := by
  simp only [Bool.and_eq_true, Bool.not_eq_true', decide_eq_false_iff_not] at hc
  refine FnOK.ftree SI_ok mixed Tryz.func262 someWM (mW_eq k c m p b x z t 0 0 (fun v o => v = .int .i64 (moW m p x z t) ∧ o = some (.cells ⟨cnC k c m p b x z⟩ 184 (0, 0)))) ?_
  refine need_mk (by simp [hc]) ?_
  unfold moW usW
  cases q : (IntKind.i64.wrap (t.tdiv p) != x) <;> exact ⟨rfl, rfl⟩
noncomputable def sp_mW (f : FuncId) (args : Array Value) (h : AH) : Option (Bool × Value × AH) :=
  cond (Nat.beq f 262) (match args with
    | ⟨[.pointer (some ⟨y, 0, none⟩), .int .i64 t]⟩ => match h.get y with
      | some (.cells ⟨[.string k, .int .i64 c, .int .i64 m, .int .i64 p, .int .i64 b, .int .i64 x, .int .i64 z]⟩ ty (0, 0)) => some (Nat.beq ty 184 && !decide (p = 0), .int .i64 (moW m p x z t), h)
      | _ => none
    | _ => none) none
theorem sp_mW_ok : SpOK sp_mW := by
  intro f args h v h' hs
  unfold sp_mW at hs
  obtain ⟨hf, hs2⟩ := cond_some hs
  clear hs
  have := Nat.eq_of_beq_eq_true hf
  subst this
  split at hs2
  · rename_i y t
    split at hs2
    · rename_i k c m p b x z ty hg
      injection hs2 with hs
      injection hs with hb hs
      injection hs with hv hh
      subst hv hh
      rw [Bool.and_eq_true] at hb
      have e := Nat.eq_of_beq_eq_true hb.1
      subst e
      exact ⟨readsP (rest := [.int .i64 t]) (mW_fn k c m p b x z t hb.2) rfl (p1_cnC k c m p b x z) rfl hg, Nat.le_refl _⟩
    · cases hs2
  · cases hs2
theorem wW_fn (k : ByteArray) (c m p b x z t co : Int) (hc : (!decide (p = 0)) = true) : FnOK 1 Tryz.prog 263 ⟨[.pointer (some ⟨0, 0, none⟩), .int .i64 t, .int .i64 co]⟩ ⟨1, 1, [(0, .cells ⟨cnC k c m p b x z⟩ 184 (0, 0))]⟩
    (fun v g => v = .int .i64 (waW p t) ∧ g.get 0 = some (.cells ⟨cnC k c m p b x z⟩ 184 (0, 0))) := by
  simp only [Bool.and_eq_true, Bool.not_eq_true', decide_eq_false_iff_not] at hc
  refine FnOK.ftree SI_ok mixed Tryz.func263 someWW (wW_eq k c m p b x z t co 0 (fun v o => v = .int .i64 (waW p t) ∧ o = some (.cells ⟨cnC k c m p b x z⟩ 184 (0, 0)))) ?_
  exact need_mk (by simp [hc]) ⟨rfl, rfl⟩
noncomputable def sp_wW (f : FuncId) (args : Array Value) (h : AH) : Option (Bool × Value × AH) :=
  cond (Nat.beq f 263) (match args with
    | ⟨[.pointer (some ⟨y, 0, none⟩), .int .i64 t, .int .i64 co]⟩ => match h.get y with
      | some (.cells ⟨[.string k, .int .i64 c, .int .i64 m, .int .i64 p, .int .i64 b, .int .i64 x, .int .i64 z]⟩ ty (0, 0)) => some (Nat.beq ty 184 && !decide (p = 0), .int .i64 (waW p t), h)
      | _ => none
    | _ => none) none
theorem sp_wW_ok : SpOK sp_wW := by
  intro f args h v h' hs
  unfold sp_wW at hs
  obtain ⟨hf, hs2⟩ := cond_some hs
  clear hs
  have := Nat.eq_of_beq_eq_true hf
  subst this
  split at hs2
  · rename_i y t co
    split at hs2
    · rename_i k c m p b x z ty hg
      injection hs2 with hs
      injection hs with hb hs
      injection hs with hv hh
      subst hv hh
      rw [Bool.and_eq_true] at hb
      have e := Nat.eq_of_beq_eq_true hb.1
      subst e
      exact ⟨readsP (rest := [.int .i64 t, .int .i64 co]) (wW_fn k c m p b x z t co hb.2) rfl (p1_cnC k c m p b x z) rfl hg, Nat.le_refl _⟩
    · cases hs2
  · cases hs2
theorem aW_fn (k : ByteArray) (c m p b x z t co lo : Int) (hc : (!decide (p = 0)) = true) : FnOK 1 Tryz.prog 260 ⟨[.pointer (some ⟨0, 0, none⟩), .int .i64 t, .int .i64 co, .int .i64 lo]⟩ ⟨1, 1, [(0, .cells ⟨cnC k c m p b x z⟩ 184 (0, 0))]⟩
    (fun v g => v = .tuple ⟨[]⟩ ∧ g.get 0 = some (.cells ⟨cnC k c m p b (IntKind.i64.wrap (t.tdiv p)) (nW p x z t co)⟩ 184 (0, 0))) := by
  simp only [Bool.and_eq_true, Bool.not_eq_true', decide_eq_false_iff_not] at hc
  refine FnOK.ftree SI_ok mixed Tryz.func260 someWA (aW_eq k c m p b x z t co lo (fun v o => v = .tuple ⟨[]⟩ ∧ o = some (.cells ⟨cnC k c m p b (IntKind.i64.wrap (t.tdiv p)) (nW p x z t co)⟩ 184 (0, 0)))) ?_
  refine need_mk (by simp [hc]) (need_mk (by simp [hc]) ?_)
  unfold nW usW
  cases q : (IntKind.i64.wrap (t.tdiv p) != x) <;> exact ⟨rfl, rfl⟩
noncomputable def sp_aW (f : FuncId) (args : Array Value) (h : AH) : Option (Bool × Value × AH) :=
  cond (Nat.beq f 260) (match args with
    | ⟨[.pointer (some ⟨y, 0, none⟩), .int .i64 t, .int .i64 co, .int .i64 lo]⟩ => match h.get y with
      | some (.cells ⟨[.string k, .int .i64 c, .int .i64 m, .int .i64 p, .int .i64 b, .int .i64 x, .int .i64 z]⟩ ty (0, 0)) => some (Nat.beq ty 184 && !decide (p = 0) && Nat.blt y h.next, .tuple ⟨[]⟩, h.set y (.cells ⟨cnC k c m p b (IntKind.i64.wrap (t.tdiv p)) (nW p x z t co)⟩ 184 (0, 0)))
      | _ => none
    | _ => none) none
theorem sp_aW_ok : SpOK sp_aW := by
  intro f args h v h' hs
  unfold sp_aW at hs
  obtain ⟨hf, hs2⟩ := cond_some hs
  clear hs
  have := Nat.eq_of_beq_eq_true hf
  subst this
  split at hs2
  · rename_i y t co lo
    split at hs2
    · rename_i k c m p b x z ty hg
      injection hs2 with hs
      injection hs with hb hs
      injection hs with hv hh
      subst hv hh
      have hb : (Nat.beq ty 184 = true ∧ (!decide (p = 0)) = true) ∧ Nat.blt y h.next = true := by
        simp only [Bool.and_eq_true] at hb ⊢
        exact ⟨⟨hb.1.1, hb.1.2⟩, hb.2⟩
      have e := Nat.eq_of_beq_eq_true hb.1.1
      subst e
      obtain ⟨hb1, hb2⟩ := hb
      obtain ⟨hb3, hb4⟩ := hb1
      exact ⟨updP (cs' := cnC k c m p b (IntKind.i64.wrap (t.tdiv p)) (nW p x z t co)) (rest := [.int .i64 t, .int .i64 co, .int .i64 lo]) (aW_fn k c m p b x z t co lo hb4) (fun r => rfl) (fun r => rfl) (p1_cnC k c m p b x z) (p1_cnC k c m p b _ _) hg hb2, Nat.le_refl _⟩
    · cases hs2
  · cases hs2
theorem mB_fn (k : ByteArray) (c m p b x z t : Int) (hc : ((!decide (p = 0) && !decide (m = 0))) = true) : FnOK 1 Tryz.prog 283 ⟨[.pointer (some ⟨0, 0, none⟩), .int .i64 t]⟩ ⟨1, 1, [(0, .cells ⟨cnC k c m p b x z⟩ 192 (0, 0))]⟩
    (fun v g => v = .int .i64 (moB m p b x z t) ∧ g.get 0 = some (.cells ⟨cnC k c m p b x z⟩ 192 (0, 0))) := by
  simp only [Bool.and_eq_true, Bool.not_eq_true', decide_eq_false_iff_not] at hc
  refine FnOK.ftree SI_ok mixed Tryz.func283 someBM (mB_eq k c m p b x z t 0 0 (fun v o => v = .int .i64 (moB m p b x z t) ∧ o = some (.cells ⟨cnC k c m p b x z⟩ 192 (0, 0)))) ?_
  exact nwT_mk hc.2 (need_mk (by simp [hc.1]) ⟨rfl, rfl⟩)
noncomputable def sp_mB (f : FuncId) (args : Array Value) (h : AH) : Option (Bool × Value × AH) :=
  cond (Nat.beq f 283) (match args with
    | ⟨[.pointer (some ⟨y, 0, none⟩), .int .i64 t]⟩ => match h.get y with
      | some (.cells ⟨[.string k, .int .i64 c, .int .i64 m, .int .i64 p, .int .i64 b, .int .i64 x, .int .i64 z]⟩ ty (0, 0)) => some (Nat.beq ty 192 && (!decide (p = 0) && !decide (m = 0)), .int .i64 (moB m p b x z t), h)
      | _ => none
    | _ => none) none
theorem sp_mB_ok : SpOK sp_mB := by
  intro f args h v h' hs
  unfold sp_mB at hs
  obtain ⟨hf, hs2⟩ := cond_some hs
  clear hs
  have := Nat.eq_of_beq_eq_true hf
  subst this
  split at hs2
  · rename_i y t
    split at hs2
    · rename_i k c m p b x z ty hg
      injection hs2 with hs
      injection hs with hb hs
      injection hs with hv hh
      subst hv hh
      rw [Bool.and_eq_true] at hb
      have e := Nat.eq_of_beq_eq_true hb.1
      subst e
      exact ⟨readsP (rest := [.int .i64 t]) (mB_fn k c m p b x z t hb.2) rfl (p1_cnC k c m p b x z) rfl hg, Nat.le_refl _⟩
    · cases hs2
  · cases hs2
theorem wB_fn (k : ByteArray) (c m p b x z t co : Int) (hc : ((!decide (p = 0) && !decide (m = 0))) = true) : FnOK 1 Tryz.prog 284 ⟨[.pointer (some ⟨0, 0, none⟩), .int .i64 t, .int .i64 co]⟩ ⟨1, 1, [(0, .cells ⟨cnC k c m p b x z⟩ 192 (0, 0))]⟩
    (fun v g => v = .int .i64 (waB m p b x z t co) ∧ g.get 0 = some (.cells ⟨cnC k c m p b x z⟩ 192 (0, 0))) := by
  simp only [Bool.and_eq_true, Bool.not_eq_true', decide_eq_false_iff_not] at hc
  refine FnOK.ftree SI_ok mixed Tryz.func284 someBW (wB_eq k c m p b x z t co 0 (fun v o => v = .int .i64 (waB m p b x z t co) ∧ o = some (.cells ⟨cnC k c m p b x z⟩ 192 (0, 0)))) ?_
  exact nwT_mk hc.2 (upT_mk hc.2 ⟨rfl, rfl⟩)
noncomputable def sp_wB (f : FuncId) (args : Array Value) (h : AH) : Option (Bool × Value × AH) :=
  cond (Nat.beq f 284) (match args with
    | ⟨[.pointer (some ⟨y, 0, none⟩), .int .i64 t, .int .i64 co]⟩ => match h.get y with
      | some (.cells ⟨[.string k, .int .i64 c, .int .i64 m, .int .i64 p, .int .i64 b, .int .i64 x, .int .i64 z]⟩ ty (0, 0)) => some (Nat.beq ty 192 && (!decide (p = 0) && !decide (m = 0)), .int .i64 (waB m p b x z t co), h)
      | _ => none
    | _ => none) none
theorem sp_wB_ok : SpOK sp_wB := by
  intro f args h v h' hs
  unfold sp_wB at hs
  obtain ⟨hf, hs2⟩ := cond_some hs
  clear hs
  have := Nat.eq_of_beq_eq_true hf
  subst this
  split at hs2
  · rename_i y t co
    split at hs2
    · rename_i k c m p b x z ty hg
      injection hs2 with hs
      injection hs with hb hs
      injection hs with hv hh
      subst hv hh
      rw [Bool.and_eq_true] at hb
      have e := Nat.eq_of_beq_eq_true hb.1
      subst e
      exact ⟨readsP (rest := [.int .i64 t, .int .i64 co]) (wB_fn k c m p b x z t co hb.2) rfl (p1_cnC k c m p b x z) rfl hg, Nat.le_refl _⟩
    · cases hs2
  · cases hs2
theorem aB_fn (k : ByteArray) (c m p b x z t co lo : Int) (hc : ((!decide (p = 0) && !decide (m = 0))) = true) : FnOK 1 Tryz.prog 281 ⟨[.pointer (some ⟨0, 0, none⟩), .int .i64 t, .int .i64 co, .int .i64 lo]⟩ ⟨1, 1, [(0, .cells ⟨cnC k c m p b x z⟩ 192 (0, 0))]⟩
    (fun v g => v = .tuple ⟨[]⟩ ∧ g.get 0 = some (.cells ⟨cnC k c m p b t (lvB m p b x z t co)⟩ 192 (0, 0))) := by
  simp only [Bool.and_eq_true, Bool.not_eq_true', decide_eq_false_iff_not] at hc
  refine FnOK.ftree SI_ok mixed Tryz.func281 someBA (aB_eq k c m p b x z t co lo (fun v o => v = .tuple ⟨[]⟩ ∧ o = some (.cells ⟨cnC k c m p b t (lvB m p b x z t co)⟩ 192 (0, 0)))) ?_
  exact nwT_mk hc.2 ⟨rfl, rfl⟩
noncomputable def sp_aB (f : FuncId) (args : Array Value) (h : AH) : Option (Bool × Value × AH) :=
  cond (Nat.beq f 281) (match args with
    | ⟨[.pointer (some ⟨y, 0, none⟩), .int .i64 t, .int .i64 co, .int .i64 lo]⟩ => match h.get y with
      | some (.cells ⟨[.string k, .int .i64 c, .int .i64 m, .int .i64 p, .int .i64 b, .int .i64 x, .int .i64 z]⟩ ty (0, 0)) => some (Nat.beq ty 192 && (!decide (p = 0) && !decide (m = 0)) && Nat.blt y h.next, .tuple ⟨[]⟩, h.set y (.cells ⟨cnC k c m p b t (lvB m p b x z t co)⟩ 192 (0, 0)))
      | _ => none
    | _ => none) none
theorem sp_aB_ok : SpOK sp_aB := by
  intro f args h v h' hs
  unfold sp_aB at hs
  obtain ⟨hf, hs2⟩ := cond_some hs
  clear hs
  have := Nat.eq_of_beq_eq_true hf
  subst this
  split at hs2
  · rename_i y t co lo
    split at hs2
    · rename_i k c m p b x z ty hg
      injection hs2 with hs
      injection hs with hb hs
      injection hs with hv hh
      subst hv hh
      have hb : (Nat.beq ty 192 = true ∧ ((!decide (p = 0) && !decide (m = 0))) = true) ∧ Nat.blt y h.next = true := by
        simp only [Bool.and_eq_true] at hb ⊢
        exact ⟨⟨hb.1.1, hb.1.2⟩, hb.2⟩
      have e := Nat.eq_of_beq_eq_true hb.1.1
      subst e
      obtain ⟨hb1, hb2⟩ := hb
      obtain ⟨hb3, hb4⟩ := hb1
      exact ⟨updP (cs' := cnC k c m p b t (lvB m p b x z t co)) (rest := [.int .i64 t, .int .i64 co, .int .i64 lo]) (aB_fn k c m p b x z t co lo hb4) (fun r => rfl) (fun r => rfl) (p1_cnC k c m p b x z) (p1_cnC k c m p b _ _) hg hb2, Nat.le_refl _⟩
    · cases hs2
  · cases hs2
end Go.Proofs.YtbigicdojndnjaaGreatDoor
