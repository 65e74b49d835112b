/-
  Values as texts: the writer writes the text of each drawn value.
-/
import Derived.Test.YtljfobpjblnagaaGreatDoorVaW
namespace Go.Proofs.YtljfobpjblnagaaGreatDoor
open Go.Ev Go.RowKit
set_option maxRecDepth 20000

theorem by_p1 (l : List UInt8) : (l.map byV).all p1 = true := by
  rw [List.all_eq_true]
  intro v hv
  obtain ⟨b, _, rfl⟩ := List.mem_map.1 hv
  rfl
theorem by_one (l : List UInt8) : (l.map byV).all oneCell = true := by
  rw [List.all_eq_true]
  intro v hv
  obtain ⟨b, _, rfl⟩ := List.mem_map.1 hv
  rfl
theorem bl_size (l : List UInt8) : (bl l).size = l.length := by
  show (bl l).data.size = _
  simp [bl]
theorem wrS_mk {cs : List Value} {j : Nat} {s : List UInt8} {K : List Value → Nat → Prop} (hl : cs.length = j) (hp : cs.all p1 = true) (hs : s ≠ []) (hj : j + s.length ≤ 200000) (hK : K (cs ++ s.map byV) (j + s.length)) : wrS cs j (bl s) K := by
  have hs : 0 < s.length := List.length_pos_iff.2 hs
  unfold wrS
  rw [bl_size, bl_list]
  refine pick_f ?_ (need_mk ?_ (need_mk ?_ ?_))
  · cases h : Nat.ble (j + s.length) j with
    | false => rfl
    | true => have := Nat.le_of_ble_eq_true h; omega
  · rw [Bool.and_eq_true, Nat.ble_eq, Nat.ble_eq]; omega
  · have : Nat.ble (0 + j * 1) (Array.mk cs).size = true := by rw [Nat.ble_eq]; show 0 + j * 1 ≤ cs.length; omega
    rw [this, by_one]; rfl
  · have e : List.take (j * 1) (List.drop 0 (Array.mk cs).toList) = cs := by rw [List.drop_zero, Nat.mul_one, ← hl]; exact List.take_length
    rw [e]
    exact hK
theorem wr0_mk {s : List UInt8} {K : List Value → Nat → Prop} (hs : s ≠ []) (hj : s.length ≤ 200000) (hK : K (s.map byV) s.length) : wr0 (bl s) K := by
  have hs : 0 < s.length := List.length_pos_iff.2 hs
  unfold wr0
  rw [bl_size, bl_list]
  refine pick_f ?_ (need_mk ?_ hK)
  · cases h : Nat.ble (0 + s.length) 0 with
    | false => rfl
    | true => have := Nat.le_of_ble_eq_true h; omega
  · rw [Bool.and_eq_true, Nat.ble_eq, Nat.ble_eq]; omega
theorem wvC_mk {y x : Value} {j : Nat} {cs t : List Value} (h1 : y = x) (h2 : cs.length = j) (h3 : j + t.length ≤ 200000) (h4 : cs.all p1 = true) (h5 : t.all p1 = true) : wvC true y x j cs t = true := by
  unfold wvC
  rw [h1, eqV_self, h2, h4, h5, Nat.beq_refl, Nat.ble_eq_true_of_le h3]
  rfl
theorem qt_pos (w : List UInt8) : ValLaw.qt w ≠ [] := by unfold ValLaw.qt; simp
theorem elS_end (xs : List Value) : elS xs (xs.length : Int) = bl [] := by
  have : elV xs (xs.length : Int) = undef := by
    show xs.getD xs.length undef = undef
    rw [List.getD_eq_getElem?_getD, List.getElem?_eq_none (Nat.le_refl _)]; rfl
  unfold elS
  rw [this]
  rfl
theorem qt0_fn : FnOK 0 Tryz.prog 53 ⟨[.string (bl [])]⟩ h0 (fun v _ => v = .string (bl (ValLaw.qt []))) := qt_all [] (by decide)
def rest {α : Type} (f : α → List UInt8) (zs : List α) : List UInt8 := zs.flatMap fun x => 44 :: f x
theorem lst_rest {α : Type} (f : α → List UInt8) : ∀ (x : α) (l : List α), ValLaw.lst f (x :: l) = f x ++ rest f l
  | x, [] => by simp [ValLaw.lst, rest]
  | x, y :: l => by
    show f x ++ 44 :: ValLaw.lst f (y :: l) = _
    rw [lst_rest f y l]
    simp [rest]
theorem spQt_ok {w : List UInt8} (hF : FnOK 0 Tryz.prog 53 ⟨[.string (bl w)]⟩ h0 (fun v _ => v = .string (bl (ValLaw.qt w)))) : SpOK (spQt (.string (bl w)) (bl (ValLaw.qt w))) := by
  intro f args h v h' hs
  unfold spQt at hs
  obtain ⟨hf, hs2⟩ := cond_some hs
  clear hs
  have := Nat.eq_of_beq_eq_true hf
  subst this
  split at hs2
  · injection hs2 with hs
    injection hs with hb hs
    injection hs with hv hh
    subst hv hh
    have hb := eqV_eq hb
    subst hb
    exact ⟨FnOK.pure hF rfl rfl h, Nat.le_refl _⟩
  · cases hs2
/-! numbers -/
theorem tab_is {w : World} (h : TabsIn Tryz.prog w) {b : Nat} (hb : Tryz.prog.globalNamed "internal/strconv.uint64pow10" = some b) : Lib.TabIs Tryz.prog w "internal/strconv.uint64pow10" .u64 Lib.pow10Tab := by
  obtain ⟨t, fr, q⟩ := h b _ ⟨_, .head _, hb⟩
  unfold Lib.TabIs World.var?
  rw [hb]
  show (match w.heap[b]? with
    | some (.cells cs _ _) => some cs
    | _ => none) = _
  rw [q]
  rfl
theorem tabG : (Tryz.prog.globalNamed "internal/strconv.uint64pow10").isSome = true := by kernel_rfl
theorem below_grow (w : World) (k : Nat) (os : Array Obj) : Below w.heap.size w (Sort.grow (w.drewN k) os) :=
  ⟨rfl, rfl, rfl, by simp [Sort.grow, World.drewN], fun b hb => by
    simp only [Sort.grow, World.drewN]
    rw [Array.getElem?_append_left hb]⟩
theorem spIt_ok {n : Int} (h0 : -1000000000000000 ≤ n) (h1 : n ≤ 1000000000000000) : SpOK (spIt (.int .i64 n) (bl (Lib.itoa n))) := by
  intro f args h v h' hs
  unfold spIt at hs
  obtain ⟨hf, hs2⟩ := cond_some hs
  clear hs
  have := Nat.eq_of_beq_eq_true hf
  subst this
  split at hs2
  · injection hs2 with hs
    injection hs with hb hs
    injection hs with hv hh
    subst hv hh
    have hb := eqV_eq hb
    subst hb
    refine ⟨?_, Nat.le_refl _⟩
    obtain ⟨b, hb⟩ := Option.isSome_iff_exists.1 tabG
    refine flat_callT (args := [.int .i64 n]) rfl rfl fun w hw => (Tryz.strconv_Itoa n (by omega) (by omega) w (tab_is hw hb)).mono ?_
    rintro e w' ⟨rfl, k, os, rfl⟩
    exact ⟨rfl, below_grow w k os⟩
  · cases hs2
theorem someWV : Tryz.f31.body.isSome = true := by kernel_rfl
theorem oneWV25 : (loopAt (codeOf Tryz.f31) 25).length = 1 := by kernel_rfl
theorem oneWV5 : (loopAt (codeOf Tryz.f31) 5).length = 1 := by kernel_rfl
theorem q0_ok (x : Value) : SpOK (spOr (fun _ _ _ => none) (spWv false x [])) := none_ok.or (spWv_ok (ok := false) (fun h => Bool.noConfusion h))
/-! the loops -/
theorem wl_loop {α : Type} {g : α → Value} {f : α → List UInt8} (hg : ∀ x, g x = e6 (g x)) (K : AExit → List Value → AH → Prop) (xs : List α) (hl : xs.length ≤ 5000) : ∀ (zs : List α) (i : Nat) (cs : List Value) (j : Nat), 1 ≤ i → xs.drop i = zs → i + zs.length = xs.length → (∀ x ∈ zs, WvB (g x) ((f x).map byV)) → cs.length = j → cs.all p1 = true → j + (rest f zs).length ≤ 199999 →
    K (.exit 3) [p0V] (wH (cs ++ (rest f zs).map byV) (j + (rest f zs).length)) →
    iterE 1 Tryz.prog 111 [0, 90, 91, 92] [1] [0] [1] (oneLoop (codeOf Tryz.f31) 25) (zs.length + 1) [p0V, fz ⟨xs.map g⟩, .int .i64 (xs.length : Int), .int .i64 (i : Int)] (wH cs j) K
  | [], i, cs, j, hi, h1, h2, h3, h4, h5, h6, hK => by
    have e1 : cs ++ (rest f ([] : List α)).map byV = cs := List.append_nil _
    have e2 : j + (rest f ([] : List α)).length = j := rfl
    rw [e1, e2] at hK
    exact ⟨SWv false undef [], [], noHooks, 900, (spWv_ok (ok := false) (fun h => Bool.noConfusion h)).cfg, loops_none _ _ _ _, (wl_rd1 false undef [] _ _ (xs.map g) cs j _ K).mpr (pick_f (decide_eq_false (by simp at h2; omega)) ⟨nn_all h5, hK⟩)⟩
  | x :: zs, i, cs, j, hi, h1, h2, h3, h4, h5, h6, hK => by
    have h2 : i + (zs.length + 1) = xs.length := h2
    have ex : elV (xs.map g) (i : Int) = g x := elV_at (l := zs.map g) (by rw [← List.map_drop, h1]; rfl)
    have hb : (decide (0 ≤ (i : Int)) && decide ((i : Int) < ((Array.mk (xs.map g)).size : Int)) && Nat.beq (e6 (elV (xs.map g) (i : Int))).cells.size 6) = true := by
      simp only [Bool.and_eq_true, decide_eq_true_eq]
      exact ⟨⟨by omega, by simp; omega⟩, rfl⟩
    have hx := h3 x (by simp)
    have er : rest f (x :: zs) = 44 :: (f x ++ rest f zs) := rfl
    have ln : (rest f (x :: zs)).length = 1 + (f x).length + (rest f zs).length := by rw [er, List.length_cons, List.length_append]; omega
    rw [ln] at h6 hK
    have next := fun cs' (hc : cs' = cs ++ [44].map byV ++ (f x).map byV) j' (hj : j' = j + 1 + (f x).length) => wl_loop hg K xs hl zs (i + 1) cs' j' (by omega) (by rw [← List.drop_drop, h1]; rfl) (by omega) (fun y hy => h3 y (by simp [hy])) (by rw [hc, List.length_append, List.length_append, List.length_map, List.length_map, h4, hj]; rfl) (by rw [hc, List.all_append, List.all_append, h5, by_p1, by_p1]; rfl) (by omega) (by
      have e3 : cs' ++ (rest f zs).map byV = cs ++ (rest f (x :: zs)).map byV := by rw [er, hc]; simp
      have e4 : j' + (rest f zs).length = j + (1 + (f x).length + (rest f zs).length) := by omega
      rw [e3, e4]; exact hK)
    refine ⟨SWv true (g x) ((f x).map byV), [], noHooks, 900, (spWv_ok fun _ => hx).cfg, loops_none _ _ _ _, (wl_rd1 true (g x) ((f x).map byV) _ _ (xs.map g) cs j _ K).mpr ?_⟩
    refine pick_t (decide_eq_true (by omega)) (need_mk hb ⟨by rw [ex]; exact hg x, pick_t (decide_eq_true (by omega)) (wrS_mk (s := [44]) h4 h5 (by decide) (by show j + 1 ≤ 200000; omega) ?_)⟩)
    refine need_mk (wvC_mk (by rw [ex, ← hg x]) (by rw [List.length_append, h4]; rfl) (by rw [List.length_map]; show j + 1 + (f x).length ≤ 200000; omega) (by rw [List.all_append, h5, by_p1]; rfl) (by_p1 _)) ?_
    rw [wrapS (by omega), List.length_map]
    exact ⟨nn_all (by rw [List.all_append, List.all_append, h5, by_p1, by_p1]; rfl), next _ rfl _ rfl⟩
theorem wm_loop {α : Type} {g : α → Value} {f : α → List UInt8} (hg : ∀ x, g x = e7 (g x)) (K : AExit → List Value → AH → Prop) (xs : List α) (hl : xs.length ≤ 5000) : ∀ (zs : List α) (i : Nat) (cs : List Value) (j : Nat), 1 ≤ i → xs.drop i = zs → i + zs.length = xs.length → (∀ x ∈ zs, (∃ (w u : List UInt8), f x = ValLaw.qt w ++ 58 :: u ∧ FnOK 0 Tryz.prog 53 ⟨[.string (bl w)]⟩ h0 (fun v _ => v = .string (bl (ValLaw.qt w))) ∧ WvB (m6 (g x)) (u.map byV) ∧ g x = mbr w (m6 (g x)))) → cs.length = j → cs.all p1 = true → j + (rest f zs).length ≤ 199999 →
    K (.exit 1) [p0V] (wH (cs ++ (rest f zs).map byV) (j + (rest f zs).length)) →
    iterE 1 Tryz.prog 111 [0, 17, 18, 19] [1] [0] [1] (oneLoop (codeOf Tryz.f31) 5) (zs.length + 1) [p0V, fz ⟨xs.map g⟩, .int .i64 (xs.length : Int), .int .i64 (i : Int)] (wH cs j) K
  | [], i, cs, j, hi, h1, h2, h3, h4, h5, h6, hK => by
    have e1 : cs ++ (rest f ([] : List α)).map byV = cs := List.append_nil _
    have e2 : j + (rest f ([] : List α)).length = j := rfl
    rw [e1, e2] at hK
    have hin : i = (xs.map g).length := by simp at h2; rw [List.length_map]; exact h2
    have hq0 : SpOK (spOr (spQt (.string (elS (xs.map g) (i : Int))) (bl (ValLaw.qt []))) (spWv false undef [])) := by
      rw [hin, elS_end]
      exact (spQt_ok qt0_fn).or (spWv_ok (ok := false) (fun h => Bool.noConfusion h))
    exact ⟨SWq false undef [] (.string (elS (xs.map g) (i : Int))) (bl (ValLaw.qt [])), [], noHooks, 900, hq0.cfg, loops_none _ _ _ _, (wm_rd1 false undef [] (bl (ValLaw.qt [])) _ _ (xs.map g) cs j _ K).mpr (pick_f (decide_eq_false (by simp at h2; omega)) ⟨nn_all h5, hK⟩)⟩
  | x :: zs, i, cs, j, hi, h1, h2, h3, h4, h5, h6, hK => by
    have h2 : i + (zs.length + 1) = xs.length := h2
    have ex : elV (xs.map g) (i : Int) = g x := elV_at (l := zs.map g) (by rw [← List.map_drop, h1]; rfl)
    have hb : (decide (0 ≤ (i : Int)) && decide ((i : Int) < ((Array.mk (xs.map g)).size : Int)) && Nat.beq (e7 (elV (xs.map g) (i : Int))).cells.size 7) = true := by
      simp only [Bool.and_eq_true, decide_eq_true_eq]
      exact ⟨⟨by omega, by simp; omega⟩, rfl⟩
    have hx := h3 x (by simp)
    have er : rest f (x :: zs) = 44 :: (f x ++ rest f zs) := rfl
    have ln : (rest f (x :: zs)).length = 1 + (f x).length + (rest f zs).length := by rw [er, List.length_cons, List.length_append]; omega
    rw [ln] at h6 hK
    have next := fun cs' (hc : cs' = cs ++ [44].map byV ++ (f x).map byV) j' (hj : j' = j + 1 + (f x).length) => wm_loop hg K xs hl zs (i + 1) cs' j' (by omega) (by rw [← List.drop_drop, h1]; rfl) (by omega) (fun y hy => h3 y (by simp [hy])) (by rw [hc, List.length_append, List.length_append, List.length_map, List.length_map, h4, hj]; rfl) (by rw [hc, List.all_append, List.all_append, h5, by_p1, by_p1]; rfl) (by omega) (by
      have e3 : cs' ++ (rest f zs).map byV = cs ++ (rest f (x :: zs)).map byV := by rw [er, hc]; simp
      have e4 : j' + (rest f zs).length = j + (1 + (f x).length + (rest f zs).length) := by omega
      rw [e3, e4]; exact hK)
    obtain ⟨w, u, hf, hq, hw, hgx⟩ := hx
    have eN : elS (xs.map g) (i : Int) = bl w := by unfold elS; rw [ex, hgx]; rfl
    have e6' : m6 (elV (xs.map g) (i : Int)) = m6 (g x) := by rw [ex]
    have key : ∀ q, q = bl (ValLaw.qt w) → SpOK (spOr (spQt (.string (elS (xs.map g) (i : Int))) q) (spWv true (m6 (g x)) (u.map byV))) := fun q hq2 => by
      rw [eN, hq2]
      exact (spQt_ok hq).or (spWv_ok fun _ => hw)
    refine ⟨SWq true (m6 (g x)) (u.map byV) (.string (elS (xs.map g) (i : Int))) (bl (ValLaw.qt w)), [], noHooks, 900, (key _ rfl).cfg, loops_none _ _ _ _, (wm_rd1 true (m6 (g x)) (u.map byV) (bl (ValLaw.qt w)) _ _ (xs.map g) cs j _ K).mpr ?_⟩
    have lf : (f x).length = (ValLaw.qt w).length + 1 + u.length := by rw [hf, List.length_append, List.length_cons]; omega
    refine pick_t (decide_eq_true (by omega)) (need_mk hb ⟨by rw [ex]; exact hg x, pick_t (decide_eq_true (by omega)) (wrS_mk (s := [44]) h4 h5 (by decide) (by show j + 1 ≤ 200000; omega) ?_)⟩)
    refine need_mk (eqV_self _) (wrS_mk (s := ValLaw.qt w) (by rw [List.length_append, h4]; rfl) (by rw [List.all_append, h5, by_p1]; rfl) (qt_pos w) (by show j + 1 + (ValLaw.qt w).length ≤ 200000; omega) ?_)
    refine wrS_mk (s := [58]) (by simp only [List.length_append, List.length_map, h4]) (by rw [List.all_append, List.all_append, h5, by_p1, by_p1]; rfl) (by decide) (by show j + 1 + (ValLaw.qt w).length + 1 ≤ 200000; omega) ?_
    refine need_mk (wvC_mk e6' (by simp only [List.length_append, List.length_map, h4]) (by rw [List.length_map]; show j + 1 + (ValLaw.qt w).length + 1 + u.length ≤ 200000; omega) (by rw [List.all_append, List.all_append, List.all_append, h5, by_p1, by_p1, by_p1]; rfl) (by_p1 _)) ?_
    rw [wrapS (by omega), List.length_map]
    refine ⟨nn_all (by rw [List.all_append, List.all_append, List.all_append, List.all_append, h5, by_p1, by_p1, by_p1, by_p1]; rfl), next _ ?_ _ ?_⟩
    · rw [hf]; simp
    · show j + 1 + (ValLaw.qt w).length + 1 + u.length = _
      omega
end Go.Proofs.YtljfobpjblnagaaGreatDoor
