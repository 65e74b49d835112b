/-
  Values as they are drawn: RightValue: what it hands back, by existence.
-/
import Derived.Test.YtmclppkligkooaaGreatDoorVaR
namespace Go.Ev
open Go.RowKit
/-- A loop whose end is told in other words. -/
theorem hookW_ok {p : Nat} {P : Program} (hm : P.follows .mixedOrders = true) {m : Nat} {live same liveX sameX : List Nat} {b : Code} (hsm : m ≤ 1000) {closed : List Value → AH → (AExit → List Value → AH → Prop) → Prop}
    (hcl : ∀ vals h K, closed vals h K → ∃ n, iterE p P m live same liveX sameX b n vals h (fun e vals' h' => ∃ vals2 h2, Weak p P ⟨expand m liveX vals'⟩ h' ⟨expand m liveX vals2⟩ h2 ∧ K e vals2 h2)) : LSpec p P m b (hookLS p m live same liveX closed) := by
  intro t τ h K hr hs
  obtain ⟨vals, h2, hW, hc⟩ := normP_ok (P := P) hr hs
  obtain ⟨n, hi⟩ := hcl _ _ _ hc
  refine Tri.weak hW (Tri.post ((iterE_ok hm hsm n vals h2 hi).mono ?_))
  rintro e τ' h' ⟨vals', rfl, vals2, h3, hW3, hq⟩
  exact ⟨_, h3, hW3, _, rep_st hsm liveX vals2, hq⟩
/-- One value is the other in other words. -/
def Le (v u : Value) : Prop := ∀ N v', VRel N v v' → VRel N u v'
theorem Le.rfl' {v : Value} : Le v v := fun _ _ h => h
theorem Le.nil : Le (.slice none 0 0) (fz ⟨[]⟩) := fun _ _ hv => by
  obtain rfl := hv.inv_slice0
  exact .fz0 _ _
theorem Le.agg {xs ys : List Value} (hl : xs.length = ys.length) (h : ∀ (i : Nat) x y, xs[i]? = some x → ys[i]? = some y → Le x y) : Le (.agg ⟨xs⟩) (.agg ⟨ys⟩) := by
  intro N v' hv
  cases hv with
  | agg c c' hs hr =>
    refine .agg _ _ (by rw [← hs]; simp [hl]) fun i v w a b => ?_
    have a : ys[i]? = some v := by simpa using a
    have hi : i < xs.length := by rw [hl]; exact (List.getElem?_eq_some_iff.1 a).1
    exact h i xs[i] v (List.getElem?_eq_getElem hi) a N w (hr i xs[i] w (by simp [hi]) b)
theorem Weak.val {p : Nat} {P : Program} {v u : Value} {h : AH} (hL : Le v u) : Weak p P #[v] h #[u] h := by
  intro N w c' hc hrel hf
  refine ⟨N, ⟨hc.1, fun i x y a b => ?_⟩, hrel, hf, WX.refl p N h w⟩
  match i with
  | 0 =>
    simp at a
    subst a
    exact hL N y (hc.2 0 v y (by simp) b)
  | i + 1 => simp at a
end Go.Ev
namespace Go.Proofs.YtmclppkligkooaaGreatDoor
open Go.Ev Go.RowKit

theorem drT_mk {zs : List Int} {d : Int} (h0 : 0 ≤ d) (h1 : d ≤ 1000000) {Y : Prop} (y : Y) : drT (intsV zs) d Y := need_mk (by rw [allInts_intsV]; simp [h0, h1]) y
theorem rg_mk {zs : List Int} {d m : Int} {k : Nat} (h0 : 0 ≤ d) (h1 : d ≤ 1000000) (hm : m = (k : Int)) (hk : 1 ≤ m ∧ m ≤ 100) {Y : Prop} (y : Y) : rg (nextR (intsV zs) d m) m k Y := by
  have hb := (nextR_spec zs m d h0 h1 hk.1 (by omega)).1
  refine need_mk (by simp [hb.1, hb.2]) (need_mk ?_ y)
  rw [Nat.blt, Nat.ble_eq]; omega
theorem nx_in (zs : List Int) {d n : Int} (h0 : 0 ≤ d) (h1 : d ≤ 1000000) (h2 : 1 ≤ n) (h3 : n ≤ 1000) : 0 ≤ nextR (intsV zs) d n ∧ nextR (intsV zs) d n < n := (nextR_spec zs n d h0 h1 h2 (by omega)).1
def RvF (X : Array Value) (D e e1 : Int) (x : Value) : Prop := FnOK 1 Tryz.prog 4 ⟨[p0V, .int .i64 D]⟩ (Ev.h1 (strm X e)) (fun u g => u = x ∧ g.get 0 = some (strm X e1))
theorem spRv_ok {ok : Bool} {zs : List Int} {e e1 D : Int} {x : Value} (hF : ok = true → p3 x = true ∧ RvF (intsV zs) D e e1 x) : SpOK (spRv ok (intsV zs) e e1 D x) := by
  intro f args h v h' hs
  unfold spRv at hs
  obtain ⟨hf, hs2⟩ := cond_some hs
  clear hs
  have := Nat.eq_of_beq_eq_true hf
  subst this
  split at hs2
  · rename_i b d
    split at hs2
    · rename_i xs at_ t hg
      injection hs2 with hs
      injection hs with hb hs
      injection hs with hv hh
      subst hv hh
      simp only [Bool.and_eq_true, decide_eq_true_eq] at hb
      obtain ⟨⟨⟨⟨⟨b0, b1⟩, b2⟩, b3⟩, b4⟩, b5⟩ := hb
      have b1 := Nat.eq_of_beq_eq_true b1
      have b2 := eqV_eq b2
      unfold fz at b2
      injection b2 with _ b2 _
      subst b1 b2 b3 b4
      obtain ⟨q1, q2⟩ := hF b0
      exact ⟨FnOK.ref (cs := ⟨[fz (intsV zs), .int .i64 at_]⟩) (cs' := ⟨[fz (intsV zs), .int .i64 e1]⟩) (args := [.int .i64 d]) q2 rfl (by simp [p1, fz]) (by simp [p1, fz]) q1 hg, Nat.le_refl _⟩
    · cases hs2
  · cases hs2
theorem SRn_ok {ok : Bool} {zs : List Int} {e e1 D : Int} {x : Value} (hF : ok = true → p3 x = true ∧ RvF (intsV zs) D e e1 x) : SpOK (spOr (spRv ok (intsV zs) e e1 D x) (spNext [])) := (spRv_ok hF).or (spNext_ok [])
theorem enc_vV : ∀ (n : Nat) (v : ValLaw.T n), ∃ k f m s lx ly, enc n v = vV k f m s lx ly
  | 0, _ => ⟨_, _, _, _, [], [], rfl⟩
  | _ + 1, _ => ⟨_, _, _, _, _, _, rfl⟩
theorem enc_p3 (n : Nat) (v : ValLaw.T n) : p3 (enc n v) = true := by
  obtain ⟨k, f, m, s, lx, ly, h⟩ := enc_vV n v
  rw [h]; rfl
def cE (d : Nat) (x : ValLaw.T d) : List Value := (enc d x).cells.toList
def mE (d : Nat) (p : ValLaw.W × ValLaw.T d) : List Value := .string (bl p.1) :: cE d p.2
theorem cE_six (d : Nat) (x : ValLaw.T d) : (cE d x).length = 6 ∧ ∀ v ∈ cE d x, p1 v = true := by
  obtain ⟨k, f, m, s, lx, ly, h⟩ := enc_vV d x
  unfold cE
  rw [h]
  refine ⟨rfl, fun v hv => ?_⟩
  have hv : v ∈ [.int .i64 k, .bool f, .int .i64 m, .string s, fz ⟨lx⟩, fz ⟨ly⟩] := hv
  simp only [List.mem_cons, List.not_mem_nil, or_false] at hv
  rcases hv with rfl | rfl | rfl | rfl | rfl | rfl <;> rfl
theorem cE_len (d : Nat) : ∀ L : List (ValLaw.T d), (L.flatMap (cE d)).length = L.length * 6
  | [] => rfl
  | x :: l => by rw [List.flatMap_cons, List.length_append, cE_len d l, (cE_six d x).1, List.length_cons]; omega
theorem mE_len (d : Nat) : ∀ L : List (ValLaw.W × ValLaw.T d), (L.flatMap (mE d)).length = L.length * 7
  | [] => rfl
  | x :: l => by rw [List.flatMap_cons, List.length_append, mE_len d l, List.length_cons]; unfold mE; rw [List.length_cons, (cE_six d x.2).1]; omega
theorem cE_p1 (d : Nat) (L : List (ValLaw.T d)) : ∀ v ∈ L.flatMap (cE d), p1 v = true := fun v hv => by
  obtain ⟨x, _, h⟩ := List.mem_flatMap.1 hv
  exact (cE_six d x).2 v h
theorem mE_p1 (d : Nat) (L : List (ValLaw.W × ValLaw.T d)) : ∀ v ∈ L.flatMap (mE d), p1 v = true := fun v hv => by
  obtain ⟨x, _, h⟩ := List.mem_flatMap.1 hv
  rcases List.mem_cons.1 h with rfl | h
  · rfl
  · exact (cE_six d x.2).2 v h
theorem nn_cE (d : Nat) (L : List (ValLaw.T d)) (t : TypeId) : NoNames (.cells ⟨L.flatMap (cE d)⟩ t (0, 0)) := fun v hv => cE_p1 d L v (by simpa using hv)
theorem nn_mE (d : Nat) (L : List (ValLaw.W × ValLaw.T d)) (t : TypeId) : NoNames (.cells ⟨L.flatMap (mE d)⟩ t (0, 0)) := fun v hv => mE_p1 d L v (by simpa using hv)
theorem size_le {cs : List Value} {j w : Nat} (h : cs.length = j * w) : (0 + j * w).ble (Array.mk cs).size = true := by rw [Nat.ble_eq]; show 0 + j * w ≤ cs.length; omega
def hLs (X : Array Value) (e k : Int) (d : Nat) : List (ValLaw.T d) → AH
  | [] => hL0 X e k
  | x :: l => hL1 X e k ((x :: l).flatMap (cE d)) (l.length + 1)
def hMs (X : Array Value) (e k : Int) (d : Nat) : List (ValLaw.W × ValLaw.T d) → AH
  | [] => hM0 X e k
  | x :: l => hM1 X e k ((x :: l).flatMap (mE d)) (l.length + 1)
def hXs (X : Array Value) (e k : Int) (d : Nat) : List (ValLaw.W × ValLaw.T d) → AH
  | [] => hL0 X e k
  | x :: l => hX1 X e k ((x :: l).flatMap (mE d)) (l.length + 1)
theorem rvC_mk {X : Array Value} {a e : Int} {d : Nat} (h : a = e) (hd : d ≤ 100) : rvC true X a e ((d + 1 : Nat) : Int) (d : Int) = true := by
  have : IntKind.i64.wrap (((d + 1 : Nat) : Int) - 1) = (d : Int) := by rw [wrap_id _ (by omega) (by omega)]; omega
  unfold rvC
  rw [this, eqV_self]
  simp [h]
/-! a list's rounds -/
theorem lcall {zs : List Int} {d : Nat} (hd : d ≤ 100) {e e1 k : Int} {x : ValLaw.T d} {n i : Nat} (hi : i < n) (hn : n ≤ 100) (hF : RvF (intsV zs) (d : Int) e e1 (enc d x)) (N : Nat) (K : AExit → List Value → AH → Prop) : ∀ (L : List (ValLaw.T d)), L.length ≤ 100 →
    iterE 1 Tryz.prog 88 [0, 1, 4, 5, 46, 47] [3] [4, 5] [3] (oneLoop (codeOf Tryz.f4) 13) N (vL ((d + 1 : Nat) : Int) (n : Int) ((i + 1 : Nat) : Int)) (hLs (intsV zs) e1 k d (L ++ [x])) K →
    iterE 1 Tryz.prog 88 [0, 1, 4, 5, 46, 47] [3] [4, 5] [3] (oneLoop (codeOf Tryz.f4) 13) (N + 1) (vL ((d + 1 : Nat) : Int) (n : Int) (i : Int)) (hLs (intsV zs) e k d L) K
  | [], _, hI => by
    obtain ⟨k2, f, n2, s, lx, ly, hx⟩ := enc_vV d x
    have hc : cE d x = [.int .i64 k2, .bool f, .int .i64 n2, .string s, fz ⟨lx⟩, fz ⟨ly⟩] := by unfold cE; rw [hx]; rfl
    have e4 : hLs (intsV zs) e1 k d [x] = hL1 (intsV zs) e1 k [.int .i64 k2, .bool f, .int .i64 n2, .string s, fz ⟨lx⟩, fz ⟨ly⟩] 1 := by
      show hL1 _ _ _ (cE d x ++ []) _ = _
      rw [List.append_nil, ← hc]
      rfl
    have e5 : NoNames (.cells ⟨[.int .i64 k2, .bool f, .int .i64 n2, .string s, fz ⟨lx⟩, fz ⟨ly⟩]⟩ 29 (0, 0)) := by
      have := nn_cE d [x] 29
      rw [← hc]
      have e6 : [x].flatMap (cE d) = cE d x := List.append_nil _
      rw [e6] at this
      exact this
    rw [hx] at hF
    refine ⟨SRn true (intsV zs) e e1 (d : Int) (vV k2 f n2 s lx ly), [], noHooks, 900, (SRn_ok (fun _ => ⟨rfl, hF⟩)).cfg, loops_none _ _ _ _, (lr0 true (intsV zs) (n : Int) (i : Int) e e1 (d : Int) ((d + 1 : Nat) : Int) k k2 f n2 s lx ly _ K).mpr ?_⟩
    refine pick_t (decide_eq_true (by omega)) (pick_t (decide_eq_true (by omega)) (need_mk (rvC_mk rfl hd) ⟨e5, ?_⟩))
    have hI : iterE 1 Tryz.prog 88 [0, 1, 4, 5, 46, 47] [3] [4, 5] [3] (oneLoop (codeOf Tryz.f4) 13) N (vL ((d + 1 : Nat) : Int) (n : Int) ((i + 1 : Nat) : Int)) (hLs (intsV zs) e1 k d [x]) K := hI
    rw [e4] at hI
    rw [wrapS (by omega)]
    exact hI
  | p :: M, hj, hI => by
    have hl := cE_len d (p :: M)
    have hz : (0 + (M.length + 1) * 6).ble (Array.mk ((p :: M).flatMap (cE d))).size = true := size_le (j := (p :: M).length) hl
    obtain ⟨k2, f, n2, s, lx, ly, hx⟩ := enc_vV d x
    have hc : cE d x = [.int .i64 k2, .bool f, .int .i64 n2, .string s, fz ⟨lx⟩, fz ⟨ly⟩] := by unfold cE; rw [hx]; rfl
    rw [hx] at hF
    refine ⟨SRn true (intsV zs) e e1 (d : Int) (vV k2 f n2 s lx ly), [], noHooks, 900, (SRn_ok (fun _ => ⟨rfl, hF⟩)).cfg, loops_none _ _ _ _, (lr1 true (intsV zs) (n : Int) (i : Int) e e1 (d : Int) ((d + 1 : Nat) : Int) k k2 f n2 s lx ly ((p :: M).flatMap (cE d)) (M.length + 1) _ K).mpr ?_⟩
    refine pick_t (decide_eq_true (by omega)) (pick_t (decide_eq_true (by omega)) (need_mk (rvC_mk rfl hd) ?_))
    refine pick_f (ble_ss _) (need_mk (by rw [Bool.and_eq_true, Nat.ble_eq, Nat.ble_eq]; have : (p :: M).length = M.length + 1 := rfl; omega) (need_mk (by rw [hz]; rfl) ?_))
    have e3 : List.take ((M.length + 1) * 6) (List.drop 0 (Array.mk ((p :: M).flatMap (cE d))).toList) ++ [.int .i64 k2, .bool f, .int .i64 n2, .string s, fz ⟨lx⟩, fz ⟨ly⟩] = ((p :: M) ++ [x]).flatMap (cE d) := by
      rw [List.drop_zero, List.take_of_length_le (by show ((p :: M).flatMap (cE d)).length ≤ _; rw [hl]; exact Nat.le_refl _), ← hc, List.flatMap_append]
      show _ = _ ++ (cE d x ++ [])
      rw [List.append_nil]
    rw [wrapS (by omega)]
    refine ⟨?_, ?_⟩
    · show NoNames (.cells ⟨List.take ((M.length + 1) * 6) (List.drop 0 (Array.mk ((p :: M).flatMap (cE d))).toList) ++ [.int .i64 k2, .bool f, .int .i64 n2, .string s, fz ⟨lx⟩, fz ⟨ly⟩]⟩ 29 (0, 0))
      rw [e3]; exact nn_cE d _ _
    · show iterE _ _ _ _ _ _ _ _ _ _ (hL1 (intsV zs) e1 k (List.take ((M.length + 1) * 6) (List.drop 0 (Array.mk ((p :: M).flatMap (cE d))).toList) ++ [.int .i64 k2, .bool f, .int .i64 n2, .string s, fz ⟨lx⟩, fz ⟨ly⟩]) (M.length + 1 + 1)) K
      rw [e3]
      have e4 : hLs (intsV zs) e1 k d ((p :: M) ++ [x]) = hL1 (intsV zs) e1 k (((p :: M) ++ [x]).flatMap (cE d)) (M.length + 1 + 1) := by
        show hL1 _ _ _ _ ((M ++ [_]).length + 1) = _
        rw [List.length_append, List.length_singleton]
        rfl
      rw [← e4]
      exact hI
theorem lzero {zs : List Int} {e k : Int} {n i : Nat} (hi : i < n) (hn : n ≤ 100) (N : Nat) (K : AExit → List Value → AH → Prop) (hI : iterE 1 Tryz.prog 88 [0, 1, 4, 5, 46, 47] [3] [4, 5] [3] (oneLoop (codeOf Tryz.f4) 13) N (vL 0 (n : Int) ((i + 1 : Nat) : Int)) (hL0 (intsV zs) e k) K) :
    iterE 1 Tryz.prog 88 [0, 1, 4, 5, 46, 47] [3] [4, 5] [3] (oneLoop (codeOf Tryz.f4) 13) (N + 1) (vL 0 (n : Int) (i : Int)) (hL0 (intsV zs) e k) K :=
  ⟨SRn false (intsV zs) 0 0 0 (vV 0 false 0 ⟨#[]⟩ [] []), [], noHooks, 900, (SRn_ok (ok := false) (fun h => Bool.noConfusion h)).cfg, loops_none _ _ _ _, (lr0 false (intsV zs) (n : Int) (i : Int) e 0 0 0 k 0 false 0 ⟨#[]⟩ [] [] _ K).mpr (pick_t (decide_eq_true (by omega)) (pick_f (by decide) (by rw [wrapS (by omega)]; exact hI)))⟩
theorem lend {zs : List Int} {d : Nat} {D e k : Int} {n : Nat} (N : Nat) (K : AExit → List Value → AH → Prop) (L : List (ValLaw.T d)) (hK : K (.exit 1) [p1V, p2V] (hLs (intsV zs) e k d L)) :
    iterE 1 Tryz.prog 88 [0, 1, 4, 5, 46, 47] [3] [4, 5] [3] (oneLoop (codeOf Tryz.f4) 13) (N + 1) (vL D (n : Int) (n : Int)) (hLs (intsV zs) e k d L) K := match L, hK with
  | [], hK => ⟨SRn false (intsV zs) 0 0 0 (vV 0 false 0 ⟨#[]⟩ [] []), [], noHooks, 900, (SRn_ok (ok := false) (fun h => Bool.noConfusion h)).cfg, loops_none _ _ _ _, (lr0 false (intsV zs) (n : Int) (n : Int) e 0 0 D k 0 false 0 ⟨#[]⟩ [] [] _ K).mpr (pick_f (decide_eq_false (by omega)) hK)⟩
  | p :: M, hK => ⟨SRn false (intsV zs) 0 0 0 (vV 0 false 0 ⟨#[]⟩ [] []), [], noHooks, 900, (SRn_ok (ok := false) (fun h => Bool.noConfusion h)).cfg, loops_none _ _ _ _, (lr1 false (intsV zs) (n : Int) (n : Int) e 0 0 D k 0 false 0 ⟨#[]⟩ [] [] ((p :: M).flatMap (cE d)) (M.length + 1) _ K).mpr (pick_f (decide_eq_false (by omega)) ⟨nn_cE d _ _, hK⟩)⟩
/-! the members' rounds -/
set_option maxRecDepth 100000
theorem mcall0 {zs : List Int} {d : Nat} (hd : d ≤ 100) {e0 e e1 k : Int} {x : ValLaw.T d} (h0 : 0 ≤ e0) (h1 : e0 ≤ 1000000) (he : e0 + 1 = e) (hr : nextR (intsV zs) e0 3 = 0)
    (hF : RvF (intsV zs) (d : Int) e e1 (enc d x)) (N : Nat) (K : AExit → List Value → AH → Prop) : ∀ (M : List (ValLaw.W × ValLaw.T d)), (M.map (·.1)).Sublist (ValLaw.names6.take 0) →
    iterE 1 Tryz.prog 88 [0, 1, 4, 5, 63, 64, 65] [4] [4, 5] [3] (oneLoop (codeOf Tryz.f4) 19) N (vM ((d + 1 : Nat) : Int) 1) (hMs (intsV zs) e1 k d (M ++ [([], x)])) K →
    iterE 1 Tryz.prog 88 [0, 1, 4, 5, 63, 64, 65] [4] [4, 5] [3] (oneLoop (codeOf Tryz.f4) 19) (N + 1) (vM ((d + 1 : Nat) : Int) 0) (hMs (intsV zs) e0 k d M) K
  | [], _, hI => by
    obtain ⟨k2, f, n2, s, lx, ly, hx⟩ := enc_vV d x
    have hc : cE d x = [.int .i64 k2, .bool f, .int .i64 n2, .string s, fz ⟨lx⟩, fz ⟨ly⟩] := by unfold cE; rw [hx]; rfl
    have e4 : hMs (intsV zs) e1 k d [([], x)] = hM1 (intsV zs) e1 k (.string (bl []) :: [.int .i64 k2, .bool f, .int .i64 n2, .string s, fz ⟨lx⟩, fz ⟨ly⟩]) 1 := by
      show hM1 _ _ _ (mE d ([], x) ++ []) _ = _
      rw [List.append_nil, ← hc]
      rfl
    have e5 : NoNames (.cells ⟨.string (bl []) :: [.int .i64 k2, .bool f, .int .i64 n2, .string s, fz ⟨lx⟩, fz ⟨ly⟩]⟩ 53 (0, 0)) := by
      have := nn_mE d [(([] : List UInt8), x)] 53
      rw [← hc]
      have e6 : [(([] : List UInt8), x)].flatMap (mE d) = .string (bl []) :: cE d x := List.append_nil _
      rw [e6] at this
      exact this
    rw [hx] at hF
    refine ⟨SRn true (intsV zs) e e1 (d : Int) (vV k2 f n2 s lx ly), [], noHooks, 900, (SRn_ok (fun _ => ⟨rfl, hF⟩)).cfg, loops_none _ _ _ _, (mrN0 true (intsV zs) e0 e e1 (d : Int) ((d + 1 : Nat) : Int) k k2 f n2 s lx ly _ K).mpr ?_⟩
    refine pick_t (decide_eq_true (by omega)) (drT_mk h0 h1 (pick_t (by rw [hr]; rfl) (need_mk (rvC_mk he hd) ⟨e5, ?_⟩)))
    have hI : iterE 1 Tryz.prog 88 [0, 1, 4, 5, 63, 64, 65] [4] [4, 5] [3] (oneLoop (codeOf Tryz.f4) 19) N (vM ((d + 1 : Nat) : Int) 1) (hMs (intsV zs) e1 k d [([], x)]) K := hI
    rw [e4] at hI
    exact hI
  | p :: M, hM, _ => by
    have := hM.length_le
    simp at this
theorem mskip0 {zs : List Int} {d : Nat} {e0 k : Int} (h0 : 0 ≤ e0) (h1 : e0 ≤ 1000000) (hr : nextR (intsV zs) e0 3 ≠ 0) (N : Nat) (K : AExit → List Value → AH → Prop) (M : List (ValLaw.W × ValLaw.T d)) (hM : (M.map (·.1)).Sublist (ValLaw.names6.take 0))
    (hI : iterE 1 Tryz.prog 88 [0, 1, 4, 5, 63, 64, 65] [4] [4, 5] [3] (oneLoop (codeOf Tryz.f4) 19) N (vM ((d + 1 : Nat) : Int) 1) (hMs (intsV zs) (e0 + 1) k d M) K) :
    iterE 1 Tryz.prog 88 [0, 1, 4, 5, 63, 64, 65] [4] [4, 5] [3] (oneLoop (codeOf Tryz.f4) 19) (N + 1) (vM ((d + 1 : Nat) : Int) 0) (hMs (intsV zs) e0 k d M) K := match M, hM, hI with
  | [], _, hI => ⟨SRn false (intsV zs) 0 0 0 (vV 0 false 0 ⟨#[]⟩ [] []), [], noHooks, 900, (SRn_ok (ok := false) (fun h => Bool.noConfusion h)).cfg, loops_none _ _ _ _, (mrN0 false (intsV zs) e0 0 0 0 ((d + 1 : Nat) : Int) k 0 false 0 ⟨#[]⟩ [] [] _ K).mpr (pick_t (decide_eq_true (by omega)) (drT_mk h0 h1 (pick_f (beq_eq_false_iff_ne.2 hr) hI)))⟩
  | p :: M, hM, _ => by
    have := hM.length_le
    simp at this
theorem mzero0 {zs : List Int} {e0 k : Int} (N : Nat) (K : AExit → List Value → AH → Prop) (hI : iterE 1 Tryz.prog 88 [0, 1, 4, 5, 63, 64, 65] [4] [4, 5] [3] (oneLoop (codeOf Tryz.f4) 19) N (vM 0 1) (hM0 (intsV zs) e0 k) K) :
    iterE 1 Tryz.prog 88 [0, 1, 4, 5, 63, 64, 65] [4] [4, 5] [3] (oneLoop (codeOf Tryz.f4) 19) (N + 1) (vM 0 0) (hM0 (intsV zs) e0 k) K :=
  ⟨SRn false (intsV zs) 0 0 0 (vV 0 false 0 ⟨#[]⟩ [] []), [], noHooks, 900, (SRn_ok (ok := false) (fun h => Bool.noConfusion h)).cfg, loops_none _ _ _ _, (mrN0 false (intsV zs) e0 0 0 0 0 k 0 false 0 ⟨#[]⟩ [] [] _ K).mpr (pick_f (by decide) hI)⟩
theorem mcall1 {zs : List Int} {d : Nat} (hd : d ≤ 100) {e0 e e1 k : Int} {x : ValLaw.T d} (h0 : 0 ≤ e0) (h1 : e0 ≤ 1000000) (he : e0 + 1 = e) (hr : nextR (intsV zs) e0 3 = 0)
    (hF : RvF (intsV zs) (d : Int) e e1 (enc d x)) (N : Nat) (K : AExit → List Value → AH → Prop) : ∀ (M : List (ValLaw.W × ValLaw.T d)), (M.map (·.1)).Sublist (ValLaw.names6.take 1) →
    iterE 1 Tryz.prog 88 [0, 1, 4, 5, 63, 64, 65] [4] [4, 5] [3] (oneLoop (codeOf Tryz.f4) 19) N (vM ((d + 1 : Nat) : Int) 2) (hMs (intsV zs) e1 k d (M ++ [([97], x)])) K →
    iterE 1 Tryz.prog 88 [0, 1, 4, 5, 63, 64, 65] [4] [4, 5] [3] (oneLoop (codeOf Tryz.f4) 19) (N + 1) (vM ((d + 1 : Nat) : Int) 1) (hMs (intsV zs) e0 k d M) K
  | [], _, hI => by
    obtain ⟨k2, f, n2, s, lx, ly, hx⟩ := enc_vV d x
    have hc : cE d x = [.int .i64 k2, .bool f, .int .i64 n2, .string s, fz ⟨lx⟩, fz ⟨ly⟩] := by unfold cE; rw [hx]; rfl
    have e4 : hMs (intsV zs) e1 k d [([97], x)] = hM1 (intsV zs) e1 k (.string (bl [97]) :: [.int .i64 k2, .bool f, .int .i64 n2, .string s, fz ⟨lx⟩, fz ⟨ly⟩]) 1 := by
      show hM1 _ _ _ (mE d ([97], x) ++ []) _ = _
      rw [List.append_nil, ← hc]
      rfl
    have e5 : NoNames (.cells ⟨.string (bl [97]) :: [.int .i64 k2, .bool f, .int .i64 n2, .string s, fz ⟨lx⟩, fz ⟨ly⟩]⟩ 53 (0, 0)) := by
      have := nn_mE d [(([97] : List UInt8), x)] 53
      rw [← hc]
      have e6 : [(([97] : List UInt8), x)].flatMap (mE d) = .string (bl [97]) :: cE d x := List.append_nil _
      rw [e6] at this
      exact this
    rw [hx] at hF
    refine ⟨SRn true (intsV zs) e e1 (d : Int) (vV k2 f n2 s lx ly), [], noHooks, 900, (SRn_ok (fun _ => ⟨rfl, hF⟩)).cfg, loops_none _ _ _ _, (mrN1 true (intsV zs) e0 e e1 (d : Int) ((d + 1 : Nat) : Int) k k2 f n2 s lx ly _ K).mpr ?_⟩
    refine pick_t (decide_eq_true (by omega)) (drT_mk h0 h1 (pick_t (by rw [hr]; rfl) (need_mk (rvC_mk he hd) ⟨e5, ?_⟩)))
    have hI : iterE 1 Tryz.prog 88 [0, 1, 4, 5, 63, 64, 65] [4] [4, 5] [3] (oneLoop (codeOf Tryz.f4) 19) N (vM ((d + 1 : Nat) : Int) 2) (hMs (intsV zs) e1 k d [([97], x)]) K := hI
    rw [e4] at hI
    exact hI
  | p :: M, hM, hI => by
    have hl := mE_len d (p :: M)
    have hz : (0 + (M.length + 1) * 7).ble (Array.mk ((p :: M).flatMap (mE d))).size = true := size_le (j := (p :: M).length) hl
    have hj : (p :: M).length ≤ 6 := by have := hM.length_le; rw [List.length_map] at this; exact Nat.le_trans this (by decide)
    obtain ⟨k2, f, n2, s, lx, ly, hx⟩ := enc_vV d x
    have hc : cE d x = [.int .i64 k2, .bool f, .int .i64 n2, .string s, fz ⟨lx⟩, fz ⟨ly⟩] := by unfold cE; rw [hx]; rfl
    rw [hx] at hF
    refine ⟨SRn true (intsV zs) e e1 (d : Int) (vV k2 f n2 s lx ly), [], noHooks, 900, (SRn_ok (fun _ => ⟨rfl, hF⟩)).cfg, loops_none _ _ _ _, (mrB1 true (intsV zs) e0 e e1 (d : Int) ((d + 1 : Nat) : Int) k k2 f n2 s lx ly ((p :: M).flatMap (mE d)) (M.length + 1) _ K).mpr ?_⟩
    refine pick_t (decide_eq_true (by omega)) (drT_mk h0 h1 (pick_t (by rw [hr]; rfl) (need_mk (rvC_mk he hd) ?_)))
    refine pick_f (ble_ss _) (need_mk (by rw [Bool.and_eq_true, Nat.ble_eq, Nat.ble_eq]; have : (p :: M).length = M.length + 1 := rfl; omega) (need_mk (by rw [hz]; rfl) ?_))
    have e3 : List.take ((M.length + 1) * 7) (List.drop 0 (Array.mk ((p :: M).flatMap (mE d))).toList) ++ (.string (bl [97]) :: [.int .i64 k2, .bool f, .int .i64 n2, .string s, fz ⟨lx⟩, fz ⟨ly⟩]) = ((p :: M) ++ [([97], x)]).flatMap (mE d) := by
      rw [List.drop_zero, List.take_of_length_le (by show ((p :: M).flatMap (mE d)).length ≤ _; rw [hl]; exact Nat.le_refl _), ← hc, List.flatMap_append]
      show _ = _ ++ (mE d ([97], x) ++ [])
      rw [List.append_nil]
      rfl
    refine ⟨?_, ?_⟩
    · show NoNames (.cells ⟨List.take ((M.length + 1) * 7) (List.drop 0 (Array.mk ((p :: M).flatMap (mE d))).toList) ++ (.string (bl [97]) :: [.int .i64 k2, .bool f, .int .i64 n2, .string s, fz ⟨lx⟩, fz ⟨ly⟩])⟩ 53 (0, 0))
      rw [e3]; exact nn_mE d _ _
    · show iterE _ _ _ _ _ _ _ _ _ _ (hM1 (intsV zs) e1 k (List.take ((M.length + 1) * 7) (List.drop 0 (Array.mk ((p :: M).flatMap (mE d))).toList) ++ (.string (bl [97]) :: [.int .i64 k2, .bool f, .int .i64 n2, .string s, fz ⟨lx⟩, fz ⟨ly⟩])) (M.length + 1 + 1)) K
      rw [e3]
      have e4 : hMs (intsV zs) e1 k d ((p :: M) ++ [([97], x)]) = hM1 (intsV zs) e1 k (((p :: M) ++ [([97], x)]).flatMap (mE d)) (M.length + 1 + 1) := by
        show hM1 _ _ _ _ ((M ++ [_]).length + 1) = _
        rw [List.length_append, List.length_singleton]
        rfl
      rw [← e4]
      exact hI
theorem mskip1 {zs : List Int} {d : Nat} {e0 k : Int} (h0 : 0 ≤ e0) (h1 : e0 ≤ 1000000) (hr : nextR (intsV zs) e0 3 ≠ 0) (N : Nat) (K : AExit → List Value → AH → Prop) (M : List (ValLaw.W × ValLaw.T d))
    (hI : iterE 1 Tryz.prog 88 [0, 1, 4, 5, 63, 64, 65] [4] [4, 5] [3] (oneLoop (codeOf Tryz.f4) 19) N (vM ((d + 1 : Nat) : Int) 2) (hMs (intsV zs) (e0 + 1) k d M) K) :
    iterE 1 Tryz.prog 88 [0, 1, 4, 5, 63, 64, 65] [4] [4, 5] [3] (oneLoop (codeOf Tryz.f4) 19) (N + 1) (vM ((d + 1 : Nat) : Int) 1) (hMs (intsV zs) e0 k d M) K := match M, hI with
  | [], hI => ⟨SRn false (intsV zs) 0 0 0 (vV 0 false 0 ⟨#[]⟩ [] []), [], noHooks, 900, (SRn_ok (ok := false) (fun h => Bool.noConfusion h)).cfg, loops_none _ _ _ _, (mrN1 false (intsV zs) e0 0 0 0 ((d + 1 : Nat) : Int) k 0 false 0 ⟨#[]⟩ [] [] _ K).mpr (pick_t (decide_eq_true (by omega)) (drT_mk h0 h1 (pick_f (beq_eq_false_iff_ne.2 hr) hI)))⟩
  | p :: M, hI => ⟨SRn false (intsV zs) 0 0 0 (vV 0 false 0 ⟨#[]⟩ [] []), [], noHooks, 900, (SRn_ok (ok := false) (fun h => Bool.noConfusion h)).cfg, loops_none _ _ _ _, (mrB1 false (intsV zs) e0 0 0 0 ((d + 1 : Nat) : Int) k 0 false 0 ⟨#[]⟩ [] [] ((p :: M).flatMap (mE d)) (M.length + 1) _ K).mpr (pick_t (decide_eq_true (by omega)) (drT_mk h0 h1 (pick_f (beq_eq_false_iff_ne.2 hr) ⟨nn_mE d _ _, hI⟩)))⟩
theorem mzero1 {zs : List Int} {e0 k : Int} (N : Nat) (K : AExit → List Value → AH → Prop) (hI : iterE 1 Tryz.prog 88 [0, 1, 4, 5, 63, 64, 65] [4] [4, 5] [3] (oneLoop (codeOf Tryz.f4) 19) N (vM 0 2) (hM0 (intsV zs) e0 k) K) :
    iterE 1 Tryz.prog 88 [0, 1, 4, 5, 63, 64, 65] [4] [4, 5] [3] (oneLoop (codeOf Tryz.f4) 19) (N + 1) (vM 0 1) (hM0 (intsV zs) e0 k) K :=
  ⟨SRn false (intsV zs) 0 0 0 (vV 0 false 0 ⟨#[]⟩ [] []), [], noHooks, 900, (SRn_ok (ok := false) (fun h => Bool.noConfusion h)).cfg, loops_none _ _ _ _, (mrN1 false (intsV zs) e0 0 0 0 0 k 0 false 0 ⟨#[]⟩ [] [] _ K).mpr (pick_f (by decide) hI)⟩
theorem mcall2 {zs : List Int} {d : Nat} (hd : d ≤ 100) {e0 e e1 k : Int} {x : ValLaw.T d} (h0 : 0 ≤ e0) (h1 : e0 ≤ 1000000) (he : e0 + 1 = e) (hr : nextR (intsV zs) e0 3 = 0)
    (hF : RvF (intsV zs) (d : Int) e e1 (enc d x)) (N : Nat) (K : AExit → List Value → AH → Prop) : ∀ (M : List (ValLaw.W × ValLaw.T d)), (M.map (·.1)).Sublist (ValLaw.names6.take 2) →
    iterE 1 Tryz.prog 88 [0, 1, 4, 5, 63, 64, 65] [4] [4, 5] [3] (oneLoop (codeOf Tryz.f4) 19) N (vM ((d + 1 : Nat) : Int) 3) (hMs (intsV zs) e1 k d (M ++ [([98], x)])) K →
    iterE 1 Tryz.prog 88 [0, 1, 4, 5, 63, 64, 65] [4] [4, 5] [3] (oneLoop (codeOf Tryz.f4) 19) (N + 1) (vM ((d + 1 : Nat) : Int) 2) (hMs (intsV zs) e0 k d M) K
  | [], _, hI => by
    obtain ⟨k2, f, n2, s, lx, ly, hx⟩ := enc_vV d x
    have hc : cE d x = [.int .i64 k2, .bool f, .int .i64 n2, .string s, fz ⟨lx⟩, fz ⟨ly⟩] := by unfold cE; rw [hx]; rfl
    have e4 : hMs (intsV zs) e1 k d [([98], x)] = hM1 (intsV zs) e1 k (.string (bl [98]) :: [.int .i64 k2, .bool f, .int .i64 n2, .string s, fz ⟨lx⟩, fz ⟨ly⟩]) 1 := by
      show hM1 _ _ _ (mE d ([98], x) ++ []) _ = _
      rw [List.append_nil, ← hc]
      rfl
    have e5 : NoNames (.cells ⟨.string (bl [98]) :: [.int .i64 k2, .bool f, .int .i64 n2, .string s, fz ⟨lx⟩, fz ⟨ly⟩]⟩ 53 (0, 0)) := by
      have := nn_mE d [(([98] : List UInt8), x)] 53
      rw [← hc]
      have e6 : [(([98] : List UInt8), x)].flatMap (mE d) = .string (bl [98]) :: cE d x := List.append_nil _
      rw [e6] at this
      exact this
    rw [hx] at hF
    refine ⟨SRn true (intsV zs) e e1 (d : Int) (vV k2 f n2 s lx ly), [], noHooks, 900, (SRn_ok (fun _ => ⟨rfl, hF⟩)).cfg, loops_none _ _ _ _, (mrN2 true (intsV zs) e0 e e1 (d : Int) ((d + 1 : Nat) : Int) k k2 f n2 s lx ly _ K).mpr ?_⟩
    refine pick_t (decide_eq_true (by omega)) (drT_mk h0 h1 (pick_t (by rw [hr]; rfl) (need_mk (rvC_mk he hd) ⟨e5, ?_⟩)))
    have hI : iterE 1 Tryz.prog 88 [0, 1, 4, 5, 63, 64, 65] [4] [4, 5] [3] (oneLoop (codeOf Tryz.f4) 19) N (vM ((d + 1 : Nat) : Int) 3) (hMs (intsV zs) e1 k d [([98], x)]) K := hI
    rw [e4] at hI
    exact hI
  | p :: M, hM, hI => by
    have hl := mE_len d (p :: M)
    have hz : (0 + (M.length + 1) * 7).ble (Array.mk ((p :: M).flatMap (mE d))).size = true := size_le (j := (p :: M).length) hl
    have hj : (p :: M).length ≤ 6 := by have := hM.length_le; rw [List.length_map] at this; exact Nat.le_trans this (by decide)
    obtain ⟨k2, f, n2, s, lx, ly, hx⟩ := enc_vV d x
    have hc : cE d x = [.int .i64 k2, .bool f, .int .i64 n2, .string s, fz ⟨lx⟩, fz ⟨ly⟩] := by unfold cE; rw [hx]; rfl
    rw [hx] at hF
    refine ⟨SRn true (intsV zs) e e1 (d : Int) (vV k2 f n2 s lx ly), [], noHooks, 900, (SRn_ok (fun _ => ⟨rfl, hF⟩)).cfg, loops_none _ _ _ _, (mrB2 true (intsV zs) e0 e e1 (d : Int) ((d + 1 : Nat) : Int) k k2 f n2 s lx ly ((p :: M).flatMap (mE d)) (M.length + 1) _ K).mpr ?_⟩
    refine pick_t (decide_eq_true (by omega)) (drT_mk h0 h1 (pick_t (by rw [hr]; rfl) (need_mk (rvC_mk he hd) ?_)))
    refine pick_f (ble_ss _) (need_mk (by rw [Bool.and_eq_true, Nat.ble_eq, Nat.ble_eq]; have : (p :: M).length = M.length + 1 := rfl; omega) (need_mk (by rw [hz]; rfl) ?_))
    have e3 : List.take ((M.length + 1) * 7) (List.drop 0 (Array.mk ((p :: M).flatMap (mE d))).toList) ++ (.string (bl [98]) :: [.int .i64 k2, .bool f, .int .i64 n2, .string s, fz ⟨lx⟩, fz ⟨ly⟩]) = ((p :: M) ++ [([98], x)]).flatMap (mE d) := by
      rw [List.drop_zero, List.take_of_length_le (by show ((p :: M).flatMap (mE d)).length ≤ _; rw [hl]; exact Nat.le_refl _), ← hc, List.flatMap_append]
      show _ = _ ++ (mE d ([98], x) ++ [])
      rw [List.append_nil]
      rfl
    refine ⟨?_, ?_⟩
    · show NoNames (.cells ⟨List.take ((M.length + 1) * 7) (List.drop 0 (Array.mk ((p :: M).flatMap (mE d))).toList) ++ (.string (bl [98]) :: [.int .i64 k2, .bool f, .int .i64 n2, .string s, fz ⟨lx⟩, fz ⟨ly⟩])⟩ 53 (0, 0))
      rw [e3]; exact nn_mE d _ _
    · show iterE _ _ _ _ _ _ _ _ _ _ (hM1 (intsV zs) e1 k (List.take ((M.length + 1) * 7) (List.drop 0 (Array.mk ((p :: M).flatMap (mE d))).toList) ++ (.string (bl [98]) :: [.int .i64 k2, .bool f, .int .i64 n2, .string s, fz ⟨lx⟩, fz ⟨ly⟩])) (M.length + 1 + 1)) K
      rw [e3]
      have e4 : hMs (intsV zs) e1 k d ((p :: M) ++ [([98], x)]) = hM1 (intsV zs) e1 k (((p :: M) ++ [([98], x)]).flatMap (mE d)) (M.length + 1 + 1) := by
        show hM1 _ _ _ _ ((M ++ [_]).length + 1) = _
        rw [List.length_append, List.length_singleton]
        rfl
      rw [← e4]
      exact hI
theorem mskip2 {zs : List Int} {d : Nat} {e0 k : Int} (h0 : 0 ≤ e0) (h1 : e0 ≤ 1000000) (hr : nextR (intsV zs) e0 3 ≠ 0) (N : Nat) (K : AExit → List Value → AH → Prop) (M : List (ValLaw.W × ValLaw.T d))
    (hI : iterE 1 Tryz.prog 88 [0, 1, 4, 5, 63, 64, 65] [4] [4, 5] [3] (oneLoop (codeOf Tryz.f4) 19) N (vM ((d + 1 : Nat) : Int) 3) (hMs (intsV zs) (e0 + 1) k d M) K) :
    iterE 1 Tryz.prog 88 [0, 1, 4, 5, 63, 64, 65] [4] [4, 5] [3] (oneLoop (codeOf Tryz.f4) 19) (N + 1) (vM ((d + 1 : Nat) : Int) 2) (hMs (intsV zs) e0 k d M) K := match M, hI with
  | [], hI => ⟨SRn false (intsV zs) 0 0 0 (vV 0 false 0 ⟨#[]⟩ [] []), [], noHooks, 900, (SRn_ok (ok := false) (fun h => Bool.noConfusion h)).cfg, loops_none _ _ _ _, (mrN2 false (intsV zs) e0 0 0 0 ((d + 1 : Nat) : Int) k 0 false 0 ⟨#[]⟩ [] [] _ K).mpr (pick_t (decide_eq_true (by omega)) (drT_mk h0 h1 (pick_f (beq_eq_false_iff_ne.2 hr) hI)))⟩
  | p :: M, hI => ⟨SRn false (intsV zs) 0 0 0 (vV 0 false 0 ⟨#[]⟩ [] []), [], noHooks, 900, (SRn_ok (ok := false) (fun h => Bool.noConfusion h)).cfg, loops_none _ _ _ _, (mrB2 false (intsV zs) e0 0 0 0 ((d + 1 : Nat) : Int) k 0 false 0 ⟨#[]⟩ [] [] ((p :: M).flatMap (mE d)) (M.length + 1) _ K).mpr (pick_t (decide_eq_true (by omega)) (drT_mk h0 h1 (pick_f (beq_eq_false_iff_ne.2 hr) ⟨nn_mE d _ _, hI⟩)))⟩
theorem mzero2 {zs : List Int} {e0 k : Int} (N : Nat) (K : AExit → List Value → AH → Prop) (hI : iterE 1 Tryz.prog 88 [0, 1, 4, 5, 63, 64, 65] [4] [4, 5] [3] (oneLoop (codeOf Tryz.f4) 19) N (vM 0 3) (hM0 (intsV zs) e0 k) K) :
    iterE 1 Tryz.prog 88 [0, 1, 4, 5, 63, 64, 65] [4] [4, 5] [3] (oneLoop (codeOf Tryz.f4) 19) (N + 1) (vM 0 2) (hM0 (intsV zs) e0 k) K :=
  ⟨SRn false (intsV zs) 0 0 0 (vV 0 false 0 ⟨#[]⟩ [] []), [], noHooks, 900, (SRn_ok (ok := false) (fun h => Bool.noConfusion h)).cfg, loops_none _ _ _ _, (mrN2 false (intsV zs) e0 0 0 0 0 k 0 false 0 ⟨#[]⟩ [] [] _ K).mpr (pick_f (by decide) hI)⟩
theorem mcall3 {zs : List Int} {d : Nat} (hd : d ≤ 100) {e0 e e1 k : Int} {x : ValLaw.T d} (h0 : 0 ≤ e0) (h1 : e0 ≤ 1000000) (he : e0 + 1 = e) (hr : nextR (intsV zs) e0 3 = 0)
    (hF : RvF (intsV zs) (d : Int) e e1 (enc d x)) (N : Nat) (K : AExit → List Value → AH → Prop) : ∀ (M : List (ValLaw.W × ValLaw.T d)), (M.map (·.1)).Sublist (ValLaw.names6.take 3) →
    iterE 1 Tryz.prog 88 [0, 1, 4, 5, 63, 64, 65] [4] [4, 5] [3] (oneLoop (codeOf Tryz.f4) 19) N (vM ((d + 1 : Nat) : Int) 4) (hMs (intsV zs) e1 k d (M ++ [([99, 32, 100], x)])) K →
    iterE 1 Tryz.prog 88 [0, 1, 4, 5, 63, 64, 65] [4] [4, 5] [3] (oneLoop (codeOf Tryz.f4) 19) (N + 1) (vM ((d + 1 : Nat) : Int) 3) (hMs (intsV zs) e0 k d M) K
  | [], _, hI => by
    obtain ⟨k2, f, n2, s, lx, ly, hx⟩ := enc_vV d x
    have hc : cE d x = [.int .i64 k2, .bool f, .int .i64 n2, .string s, fz ⟨lx⟩, fz ⟨ly⟩] := by unfold cE; rw [hx]; rfl
    have e4 : hMs (intsV zs) e1 k d [([99, 32, 100], x)] = hM1 (intsV zs) e1 k (.string (bl [99, 32, 100]) :: [.int .i64 k2, .bool f, .int .i64 n2, .string s, fz ⟨lx⟩, fz ⟨ly⟩]) 1 := by
      show hM1 _ _ _ (mE d ([99, 32, 100], x) ++ []) _ = _
      rw [List.append_nil, ← hc]
      rfl
    have e5 : NoNames (.cells ⟨.string (bl [99, 32, 100]) :: [.int .i64 k2, .bool f, .int .i64 n2, .string s, fz ⟨lx⟩, fz ⟨ly⟩]⟩ 53 (0, 0)) := by
      have := nn_mE d [(([99, 32, 100] : List UInt8), x)] 53
      rw [← hc]
      have e6 : [(([99, 32, 100] : List UInt8), x)].flatMap (mE d) = .string (bl [99, 32, 100]) :: cE d x := List.append_nil _
      rw [e6] at this
      exact this
    rw [hx] at hF
    refine ⟨SRn true (intsV zs) e e1 (d : Int) (vV k2 f n2 s lx ly), [], noHooks, 900, (SRn_ok (fun _ => ⟨rfl, hF⟩)).cfg, loops_none _ _ _ _, (mrN3 true (intsV zs) e0 e e1 (d : Int) ((d + 1 : Nat) : Int) k k2 f n2 s lx ly _ K).mpr ?_⟩
    refine pick_t (decide_eq_true (by omega)) (drT_mk h0 h1 (pick_t (by rw [hr]; rfl) (need_mk (rvC_mk he hd) ⟨e5, ?_⟩)))
    have hI : iterE 1 Tryz.prog 88 [0, 1, 4, 5, 63, 64, 65] [4] [4, 5] [3] (oneLoop (codeOf Tryz.f4) 19) N (vM ((d + 1 : Nat) : Int) 4) (hMs (intsV zs) e1 k d [([99, 32, 100], x)]) K := hI
    rw [e4] at hI
    exact hI
  | p :: M, hM, hI => by
    have hl := mE_len d (p :: M)
    have hz : (0 + (M.length + 1) * 7).ble (Array.mk ((p :: M).flatMap (mE d))).size = true := size_le (j := (p :: M).length) hl
    have hj : (p :: M).length ≤ 6 := by have := hM.length_le; rw [List.length_map] at this; exact Nat.le_trans this (by decide)
    obtain ⟨k2, f, n2, s, lx, ly, hx⟩ := enc_vV d x
    have hc : cE d x = [.int .i64 k2, .bool f, .int .i64 n2, .string s, fz ⟨lx⟩, fz ⟨ly⟩] := by unfold cE; rw [hx]; rfl
    rw [hx] at hF
    refine ⟨SRn true (intsV zs) e e1 (d : Int) (vV k2 f n2 s lx ly), [], noHooks, 900, (SRn_ok (fun _ => ⟨rfl, hF⟩)).cfg, loops_none _ _ _ _, (mrB3 true (intsV zs) e0 e e1 (d : Int) ((d + 1 : Nat) : Int) k k2 f n2 s lx ly ((p :: M).flatMap (mE d)) (M.length + 1) _ K).mpr ?_⟩
    refine pick_t (decide_eq_true (by omega)) (drT_mk h0 h1 (pick_t (by rw [hr]; rfl) (need_mk (rvC_mk he hd) ?_)))
    refine pick_f (ble_ss _) (need_mk (by rw [Bool.and_eq_true, Nat.ble_eq, Nat.ble_eq]; have : (p :: M).length = M.length + 1 := rfl; omega) (need_mk (by rw [hz]; rfl) ?_))
    have e3 : List.take ((M.length + 1) * 7) (List.drop 0 (Array.mk ((p :: M).flatMap (mE d))).toList) ++ (.string (bl [99, 32, 100]) :: [.int .i64 k2, .bool f, .int .i64 n2, .string s, fz ⟨lx⟩, fz ⟨ly⟩]) = ((p :: M) ++ [([99, 32, 100], x)]).flatMap (mE d) := by
      rw [List.drop_zero, List.take_of_length_le (by show ((p :: M).flatMap (mE d)).length ≤ _; rw [hl]; exact Nat.le_refl _), ← hc, List.flatMap_append]
      show _ = _ ++ (mE d ([99, 32, 100], x) ++ [])
      rw [List.append_nil]
      rfl
    refine ⟨?_, ?_⟩
    · show NoNames (.cells ⟨List.take ((M.length + 1) * 7) (List.drop 0 (Array.mk ((p :: M).flatMap (mE d))).toList) ++ (.string (bl [99, 32, 100]) :: [.int .i64 k2, .bool f, .int .i64 n2, .string s, fz ⟨lx⟩, fz ⟨ly⟩])⟩ 53 (0, 0))
      rw [e3]; exact nn_mE d _ _
    · show iterE _ _ _ _ _ _ _ _ _ _ (hM1 (intsV zs) e1 k (List.take ((M.length + 1) * 7) (List.drop 0 (Array.mk ((p :: M).flatMap (mE d))).toList) ++ (.string (bl [99, 32, 100]) :: [.int .i64 k2, .bool f, .int .i64 n2, .string s, fz ⟨lx⟩, fz ⟨ly⟩])) (M.length + 1 + 1)) K
      rw [e3]
      have e4 : hMs (intsV zs) e1 k d ((p :: M) ++ [([99, 32, 100], x)]) = hM1 (intsV zs) e1 k (((p :: M) ++ [([99, 32, 100], x)]).flatMap (mE d)) (M.length + 1 + 1) := by
        show hM1 _ _ _ _ ((M ++ [_]).length + 1) = _
        rw [List.length_append, List.length_singleton]
        rfl
      rw [← e4]
      exact hI
theorem mskip3 {zs : List Int} {d : Nat} {e0 k : Int} (h0 : 0 ≤ e0) (h1 : e0 ≤ 1000000) (hr : nextR (intsV zs) e0 3 ≠ 0) (N : Nat) (K : AExit → List Value → AH → Prop) (M : List (ValLaw.W × ValLaw.T d))
    (hI : iterE 1 Tryz.prog 88 [0, 1, 4, 5, 63, 64, 65] [4] [4, 5] [3] (oneLoop (codeOf Tryz.f4) 19) N (vM ((d + 1 : Nat) : Int) 4) (hMs (intsV zs) (e0 + 1) k d M) K) :
    iterE 1 Tryz.prog 88 [0, 1, 4, 5, 63, 64, 65] [4] [4, 5] [3] (oneLoop (codeOf Tryz.f4) 19) (N + 1) (vM ((d + 1 : Nat) : Int) 3) (hMs (intsV zs) e0 k d M) K := match M, hI with
  | [], hI => ⟨SRn false (intsV zs) 0 0 0 (vV 0 false 0 ⟨#[]⟩ [] []), [], noHooks, 900, (SRn_ok (ok := false) (fun h => Bool.noConfusion h)).cfg, loops_none _ _ _ _, (mrN3 false (intsV zs) e0 0 0 0 ((d + 1 : Nat) : Int) k 0 false 0 ⟨#[]⟩ [] [] _ K).mpr (pick_t (decide_eq_true (by omega)) (drT_mk h0 h1 (pick_f (beq_eq_false_iff_ne.2 hr) hI)))⟩
  | p :: M, hI => ⟨SRn false (intsV zs) 0 0 0 (vV 0 false 0 ⟨#[]⟩ [] []), [], noHooks, 900, (SRn_ok (ok := false) (fun h => Bool.noConfusion h)).cfg, loops_none _ _ _ _, (mrB3 false (intsV zs) e0 0 0 0 ((d + 1 : Nat) : Int) k 0 false 0 ⟨#[]⟩ [] [] ((p :: M).flatMap (mE d)) (M.length + 1) _ K).mpr (pick_t (decide_eq_true (by omega)) (drT_mk h0 h1 (pick_f (beq_eq_false_iff_ne.2 hr) ⟨nn_mE d _ _, hI⟩)))⟩
theorem mzero3 {zs : List Int} {e0 k : Int} (N : Nat) (K : AExit → List Value → AH → Prop) (hI : iterE 1 Tryz.prog 88 [0, 1, 4, 5, 63, 64, 65] [4] [4, 5] [3] (oneLoop (codeOf Tryz.f4) 19) N (vM 0 4) (hM0 (intsV zs) e0 k) K) :
    iterE 1 Tryz.prog 88 [0, 1, 4, 5, 63, 64, 65] [4] [4, 5] [3] (oneLoop (codeOf Tryz.f4) 19) (N + 1) (vM 0 3) (hM0 (intsV zs) e0 k) K :=
  ⟨SRn false (intsV zs) 0 0 0 (vV 0 false 0 ⟨#[]⟩ [] []), [], noHooks, 900, (SRn_ok (ok := false) (fun h => Bool.noConfusion h)).cfg, loops_none _ _ _ _, (mrN3 false (intsV zs) e0 0 0 0 0 k 0 false 0 ⟨#[]⟩ [] [] _ K).mpr (pick_f (by decide) hI)⟩
theorem mcall4 {zs : List Int} {d : Nat} (hd : d ≤ 100) {e0 e e1 k : Int} {x : ValLaw.T d} (h0 : 0 ≤ e0) (h1 : e0 ≤ 1000000) (he : e0 + 1 = e) (hr : nextR (intsV zs) e0 3 = 0)
    (hF : RvF (intsV zs) (d : Int) e e1 (enc d x)) (N : Nat) (K : AExit → List Value → AH → Prop) : ∀ (M : List (ValLaw.W × ValLaw.T d)), (M.map (·.1)).Sublist (ValLaw.names6.take 4) →
    iterE 1 Tryz.prog 88 [0, 1, 4, 5, 63, 64, 65] [4] [4, 5] [3] (oneLoop (codeOf Tryz.f4) 19) N (vM ((d + 1 : Nat) : Int) 5) (hMs (intsV zs) e1 k d (M ++ [([110], x)])) K →
    iterE 1 Tryz.prog 88 [0, 1, 4, 5, 63, 64, 65] [4] [4, 5] [3] (oneLoop (codeOf Tryz.f4) 19) (N + 1) (vM ((d + 1 : Nat) : Int) 4) (hMs (intsV zs) e0 k d M) K
  | [], _, hI => by
    obtain ⟨k2, f, n2, s, lx, ly, hx⟩ := enc_vV d x
    have hc : cE d x = [.int .i64 k2, .bool f, .int .i64 n2, .string s, fz ⟨lx⟩, fz ⟨ly⟩] := by unfold cE; rw [hx]; rfl
    have e4 : hMs (intsV zs) e1 k d [([110], x)] = hM1 (intsV zs) e1 k (.string (bl [110]) :: [.int .i64 k2, .bool f, .int .i64 n2, .string s, fz ⟨lx⟩, fz ⟨ly⟩]) 1 := by
      show hM1 _ _ _ (mE d ([110], x) ++ []) _ = _
      rw [List.append_nil, ← hc]
      rfl
    have e5 : NoNames (.cells ⟨.string (bl [110]) :: [.int .i64 k2, .bool f, .int .i64 n2, .string s, fz ⟨lx⟩, fz ⟨ly⟩]⟩ 53 (0, 0)) := by
      have := nn_mE d [(([110] : List UInt8), x)] 53
      rw [← hc]
      have e6 : [(([110] : List UInt8), x)].flatMap (mE d) = .string (bl [110]) :: cE d x := List.append_nil _
      rw [e6] at this
      exact this
    rw [hx] at hF
    refine ⟨SRn true (intsV zs) e e1 (d : Int) (vV k2 f n2 s lx ly), [], noHooks, 900, (SRn_ok (fun _ => ⟨rfl, hF⟩)).cfg, loops_none _ _ _ _, (mrN4 true (intsV zs) e0 e e1 (d : Int) ((d + 1 : Nat) : Int) k k2 f n2 s lx ly _ K).mpr ?_⟩
    refine pick_t (decide_eq_true (by omega)) (drT_mk h0 h1 (pick_t (by rw [hr]; rfl) (need_mk (rvC_mk he hd) ⟨e5, ?_⟩)))
    have hI : iterE 1 Tryz.prog 88 [0, 1, 4, 5, 63, 64, 65] [4] [4, 5] [3] (oneLoop (codeOf Tryz.f4) 19) N (vM ((d + 1 : Nat) : Int) 5) (hMs (intsV zs) e1 k d [([110], x)]) K := hI
    rw [e4] at hI
    exact hI
  | p :: M, hM, hI => by
    have hl := mE_len d (p :: M)
    have hz : (0 + (M.length + 1) * 7).ble (Array.mk ((p :: M).flatMap (mE d))).size = true := size_le (j := (p :: M).length) hl
    have hj : (p :: M).length ≤ 6 := by have := hM.length_le; rw [List.length_map] at this; exact Nat.le_trans this (by decide)
    obtain ⟨k2, f, n2, s, lx, ly, hx⟩ := enc_vV d x
    have hc : cE d x = [.int .i64 k2, .bool f, .int .i64 n2, .string s, fz ⟨lx⟩, fz ⟨ly⟩] := by unfold cE; rw [hx]; rfl
    rw [hx] at hF
    refine ⟨SRn true (intsV zs) e e1 (d : Int) (vV k2 f n2 s lx ly), [], noHooks, 900, (SRn_ok (fun _ => ⟨rfl, hF⟩)).cfg, loops_none _ _ _ _, (mrB4 true (intsV zs) e0 e e1 (d : Int) ((d + 1 : Nat) : Int) k k2 f n2 s lx ly ((p :: M).flatMap (mE d)) (M.length + 1) _ K).mpr ?_⟩
    refine pick_t (decide_eq_true (by omega)) (drT_mk h0 h1 (pick_t (by rw [hr]; rfl) (need_mk (rvC_mk he hd) ?_)))
    refine pick_f (ble_ss _) (need_mk (by rw [Bool.and_eq_true, Nat.ble_eq, Nat.ble_eq]; have : (p :: M).length = M.length + 1 := rfl; omega) (need_mk (by rw [hz]; rfl) ?_))
    have e3 : List.take ((M.length + 1) * 7) (List.drop 0 (Array.mk ((p :: M).flatMap (mE d))).toList) ++ (.string (bl [110]) :: [.int .i64 k2, .bool f, .int .i64 n2, .string s, fz ⟨lx⟩, fz ⟨ly⟩]) = ((p :: M) ++ [([110], x)]).flatMap (mE d) := by
      rw [List.drop_zero, List.take_of_length_le (by show ((p :: M).flatMap (mE d)).length ≤ _; rw [hl]; exact Nat.le_refl _), ← hc, List.flatMap_append]
      show _ = _ ++ (mE d ([110], x) ++ [])
      rw [List.append_nil]
      rfl
    refine ⟨?_, ?_⟩
    · show NoNames (.cells ⟨List.take ((M.length + 1) * 7) (List.drop 0 (Array.mk ((p :: M).flatMap (mE d))).toList) ++ (.string (bl [110]) :: [.int .i64 k2, .bool f, .int .i64 n2, .string s, fz ⟨lx⟩, fz ⟨ly⟩])⟩ 53 (0, 0))
      rw [e3]; exact nn_mE d _ _
    · show iterE _ _ _ _ _ _ _ _ _ _ (hM1 (intsV zs) e1 k (List.take ((M.length + 1) * 7) (List.drop 0 (Array.mk ((p :: M).flatMap (mE d))).toList) ++ (.string (bl [110]) :: [.int .i64 k2, .bool f, .int .i64 n2, .string s, fz ⟨lx⟩, fz ⟨ly⟩])) (M.length + 1 + 1)) K
      rw [e3]
      have e4 : hMs (intsV zs) e1 k d ((p :: M) ++ [([110], x)]) = hM1 (intsV zs) e1 k (((p :: M) ++ [([110], x)]).flatMap (mE d)) (M.length + 1 + 1) := by
        show hM1 _ _ _ _ ((M ++ [_]).length + 1) = _
        rw [List.length_append, List.length_singleton]
        rfl
      rw [← e4]
      exact hI
theorem mskip4 {zs : List Int} {d : Nat} {e0 k : Int} (h0 : 0 ≤ e0) (h1 : e0 ≤ 1000000) (hr : nextR (intsV zs) e0 3 ≠ 0) (N : Nat) (K : AExit → List Value → AH → Prop) (M : List (ValLaw.W × ValLaw.T d))
    (hI : iterE 1 Tryz.prog 88 [0, 1, 4, 5, 63, 64, 65] [4] [4, 5] [3] (oneLoop (codeOf Tryz.f4) 19) N (vM ((d + 1 : Nat) : Int) 5) (hMs (intsV zs) (e0 + 1) k d M) K) :
    iterE 1 Tryz.prog 88 [0, 1, 4, 5, 63, 64, 65] [4] [4, 5] [3] (oneLoop (codeOf Tryz.f4) 19) (N + 1) (vM ((d + 1 : Nat) : Int) 4) (hMs (intsV zs) e0 k d M) K := match M, hI with
  | [], hI => ⟨SRn false (intsV zs) 0 0 0 (vV 0 false 0 ⟨#[]⟩ [] []), [], noHooks, 900, (SRn_ok (ok := false) (fun h => Bool.noConfusion h)).cfg, loops_none _ _ _ _, (mrN4 false (intsV zs) e0 0 0 0 ((d + 1 : Nat) : Int) k 0 false 0 ⟨#[]⟩ [] [] _ K).mpr (pick_t (decide_eq_true (by omega)) (drT_mk h0 h1 (pick_f (beq_eq_false_iff_ne.2 hr) hI)))⟩
  | p :: M, hI => ⟨SRn false (intsV zs) 0 0 0 (vV 0 false 0 ⟨#[]⟩ [] []), [], noHooks, 900, (SRn_ok (ok := false) (fun h => Bool.noConfusion h)).cfg, loops_none _ _ _ _, (mrB4 false (intsV zs) e0 0 0 0 ((d + 1 : Nat) : Int) k 0 false 0 ⟨#[]⟩ [] [] ((p :: M).flatMap (mE d)) (M.length + 1) _ K).mpr (pick_t (decide_eq_true (by omega)) (drT_mk h0 h1 (pick_f (beq_eq_false_iff_ne.2 hr) ⟨nn_mE d _ _, hI⟩)))⟩
theorem mzero4 {zs : List Int} {e0 k : Int} (N : Nat) (K : AExit → List Value → AH → Prop) (hI : iterE 1 Tryz.prog 88 [0, 1, 4, 5, 63, 64, 65] [4] [4, 5] [3] (oneLoop (codeOf Tryz.f4) 19) N (vM 0 5) (hM0 (intsV zs) e0 k) K) :
    iterE 1 Tryz.prog 88 [0, 1, 4, 5, 63, 64, 65] [4] [4, 5] [3] (oneLoop (codeOf Tryz.f4) 19) (N + 1) (vM 0 4) (hM0 (intsV zs) e0 k) K :=
  ⟨SRn false (intsV zs) 0 0 0 (vV 0 false 0 ⟨#[]⟩ [] []), [], noHooks, 900, (SRn_ok (ok := false) (fun h => Bool.noConfusion h)).cfg, loops_none _ _ _ _, (mrN4 false (intsV zs) e0 0 0 0 0 k 0 false 0 ⟨#[]⟩ [] [] _ K).mpr (pick_f (by decide) hI)⟩
theorem mcall5 {zs : List Int} {d : Nat} (hd : d ≤ 100) {e0 e e1 k : Int} {x : ValLaw.T d} (h0 : 0 ≤ e0) (h1 : e0 ≤ 1000000) (he : e0 + 1 = e) (hr : nextR (intsV zs) e0 3 = 0)
    (hF : RvF (intsV zs) (d : Int) e e1 (enc d x)) (N : Nat) (K : AExit → List Value → AH → Prop) : ∀ (M : List (ValLaw.W × ValLaw.T d)), (M.map (·.1)).Sublist (ValLaw.names6.take 5) →
    iterE 1 Tryz.prog 88 [0, 1, 4, 5, 63, 64, 65] [4] [4, 5] [3] (oneLoop (codeOf Tryz.f4) 19) N (vM ((d + 1 : Nat) : Int) 6) (hMs (intsV zs) e1 k d (M ++ [([115], x)])) K →
    iterE 1 Tryz.prog 88 [0, 1, 4, 5, 63, 64, 65] [4] [4, 5] [3] (oneLoop (codeOf Tryz.f4) 19) (N + 1) (vM ((d + 1 : Nat) : Int) 5) (hMs (intsV zs) e0 k d M) K
  | [], _, hI => by
    obtain ⟨k2, f, n2, s, lx, ly, hx⟩ := enc_vV d x
    have hc : cE d x = [.int .i64 k2, .bool f, .int .i64 n2, .string s, fz ⟨lx⟩, fz ⟨ly⟩] := by unfold cE; rw [hx]; rfl
    have e4 : hMs (intsV zs) e1 k d [([115], x)] = hM1 (intsV zs) e1 k (.string (bl [115]) :: [.int .i64 k2, .bool f, .int .i64 n2, .string s, fz ⟨lx⟩, fz ⟨ly⟩]) 1 := by
      show hM1 _ _ _ (mE d ([115], x) ++ []) _ = _
      rw [List.append_nil, ← hc]
      rfl
    have e5 : NoNames (.cells ⟨.string (bl [115]) :: [.int .i64 k2, .bool f, .int .i64 n2, .string s, fz ⟨lx⟩, fz ⟨ly⟩]⟩ 53 (0, 0)) := by
      have := nn_mE d [(([115] : List UInt8), x)] 53
      rw [← hc]
      have e6 : [(([115] : List UInt8), x)].flatMap (mE d) = .string (bl [115]) :: cE d x := List.append_nil _
      rw [e6] at this
      exact this
    rw [hx] at hF
    refine ⟨SRn true (intsV zs) e e1 (d : Int) (vV k2 f n2 s lx ly), [], noHooks, 900, (SRn_ok (fun _ => ⟨rfl, hF⟩)).cfg, loops_none _ _ _ _, (mrN5 true (intsV zs) e0 e e1 (d : Int) ((d + 1 : Nat) : Int) k k2 f n2 s lx ly _ K).mpr ?_⟩
    refine pick_t (decide_eq_true (by omega)) (drT_mk h0 h1 (pick_t (by rw [hr]; rfl) (need_mk (rvC_mk he hd) ⟨e5, ?_⟩)))
    have hI : iterE 1 Tryz.prog 88 [0, 1, 4, 5, 63, 64, 65] [4] [4, 5] [3] (oneLoop (codeOf Tryz.f4) 19) N (vM ((d + 1 : Nat) : Int) 6) (hMs (intsV zs) e1 k d [([115], x)]) K := hI
    rw [e4] at hI
    exact hI
  | p :: M, hM, hI => by
    have hl := mE_len d (p :: M)
    have hz : (0 + (M.length + 1) * 7).ble (Array.mk ((p :: M).flatMap (mE d))).size = true := size_le (j := (p :: M).length) hl
    have hj : (p :: M).length ≤ 6 := by have := hM.length_le; rw [List.length_map] at this; exact Nat.le_trans this (by decide)
    obtain ⟨k2, f, n2, s, lx, ly, hx⟩ := enc_vV d x
    have hc : cE d x = [.int .i64 k2, .bool f, .int .i64 n2, .string s, fz ⟨lx⟩, fz ⟨ly⟩] := by unfold cE; rw [hx]; rfl
    rw [hx] at hF
    refine ⟨SRn true (intsV zs) e e1 (d : Int) (vV k2 f n2 s lx ly), [], noHooks, 900, (SRn_ok (fun _ => ⟨rfl, hF⟩)).cfg, loops_none _ _ _ _, (mrB5 true (intsV zs) e0 e e1 (d : Int) ((d + 1 : Nat) : Int) k k2 f n2 s lx ly ((p :: M).flatMap (mE d)) (M.length + 1) _ K).mpr ?_⟩
    refine pick_t (decide_eq_true (by omega)) (drT_mk h0 h1 (pick_t (by rw [hr]; rfl) (need_mk (rvC_mk he hd) ?_)))
    refine pick_f (ble_ss _) (need_mk (by rw [Bool.and_eq_true, Nat.ble_eq, Nat.ble_eq]; have : (p :: M).length = M.length + 1 := rfl; omega) (need_mk (by rw [hz]; rfl) ?_))
    have e3 : List.take ((M.length + 1) * 7) (List.drop 0 (Array.mk ((p :: M).flatMap (mE d))).toList) ++ (.string (bl [115]) :: [.int .i64 k2, .bool f, .int .i64 n2, .string s, fz ⟨lx⟩, fz ⟨ly⟩]) = ((p :: M) ++ [([115], x)]).flatMap (mE d) := by
      rw [List.drop_zero, List.take_of_length_le (by show ((p :: M).flatMap (mE d)).length ≤ _; rw [hl]; exact Nat.le_refl _), ← hc, List.flatMap_append]
      show _ = _ ++ (mE d ([115], x) ++ [])
      rw [List.append_nil]
      rfl
    refine ⟨?_, ?_⟩
    · show NoNames (.cells ⟨List.take ((M.length + 1) * 7) (List.drop 0 (Array.mk ((p :: M).flatMap (mE d))).toList) ++ (.string (bl [115]) :: [.int .i64 k2, .bool f, .int .i64 n2, .string s, fz ⟨lx⟩, fz ⟨ly⟩])⟩ 53 (0, 0))
      rw [e3]; exact nn_mE d _ _
    · show iterE _ _ _ _ _ _ _ _ _ _ (hM1 (intsV zs) e1 k (List.take ((M.length + 1) * 7) (List.drop 0 (Array.mk ((p :: M).flatMap (mE d))).toList) ++ (.string (bl [115]) :: [.int .i64 k2, .bool f, .int .i64 n2, .string s, fz ⟨lx⟩, fz ⟨ly⟩])) (M.length + 1 + 1)) K
      rw [e3]
      have e4 : hMs (intsV zs) e1 k d ((p :: M) ++ [([115], x)]) = hM1 (intsV zs) e1 k (((p :: M) ++ [([115], x)]).flatMap (mE d)) (M.length + 1 + 1) := by
        show hM1 _ _ _ _ ((M ++ [_]).length + 1) = _
        rw [List.length_append, List.length_singleton]
        rfl
      rw [← e4]
      exact hI
theorem mskip5 {zs : List Int} {d : Nat} {e0 k : Int} (h0 : 0 ≤ e0) (h1 : e0 ≤ 1000000) (hr : nextR (intsV zs) e0 3 ≠ 0) (N : Nat) (K : AExit → List Value → AH → Prop) (M : List (ValLaw.W × ValLaw.T d))
    (hI : iterE 1 Tryz.prog 88 [0, 1, 4, 5, 63, 64, 65] [4] [4, 5] [3] (oneLoop (codeOf Tryz.f4) 19) N (vM ((d + 1 : Nat) : Int) 6) (hMs (intsV zs) (e0 + 1) k d M) K) :
    iterE 1 Tryz.prog 88 [0, 1, 4, 5, 63, 64, 65] [4] [4, 5] [3] (oneLoop (codeOf Tryz.f4) 19) (N + 1) (vM ((d + 1 : Nat) : Int) 5) (hMs (intsV zs) e0 k d M) K := match M, hI with
  | [], hI => ⟨SRn false (intsV zs) 0 0 0 (vV 0 false 0 ⟨#[]⟩ [] []), [], noHooks, 900, (SRn_ok (ok := false) (fun h => Bool.noConfusion h)).cfg, loops_none _ _ _ _, (mrN5 false (intsV zs) e0 0 0 0 ((d + 1 : Nat) : Int) k 0 false 0 ⟨#[]⟩ [] [] _ K).mpr (pick_t (decide_eq_true (by omega)) (drT_mk h0 h1 (pick_f (beq_eq_false_iff_ne.2 hr) hI)))⟩
  | p :: M, hI => ⟨SRn false (intsV zs) 0 0 0 (vV 0 false 0 ⟨#[]⟩ [] []), [], noHooks, 900, (SRn_ok (ok := false) (fun h => Bool.noConfusion h)).cfg, loops_none _ _ _ _, (mrB5 false (intsV zs) e0 0 0 0 ((d + 1 : Nat) : Int) k 0 false 0 ⟨#[]⟩ [] [] ((p :: M).flatMap (mE d)) (M.length + 1) _ K).mpr (pick_t (decide_eq_true (by omega)) (drT_mk h0 h1 (pick_f (beq_eq_false_iff_ne.2 hr) ⟨nn_mE d _ _, hI⟩)))⟩
theorem mzero5 {zs : List Int} {e0 k : Int} (N : Nat) (K : AExit → List Value → AH → Prop) (hI : iterE 1 Tryz.prog 88 [0, 1, 4, 5, 63, 64, 65] [4] [4, 5] [3] (oneLoop (codeOf Tryz.f4) 19) N (vM 0 6) (hM0 (intsV zs) e0 k) K) :
    iterE 1 Tryz.prog 88 [0, 1, 4, 5, 63, 64, 65] [4] [4, 5] [3] (oneLoop (codeOf Tryz.f4) 19) (N + 1) (vM 0 5) (hM0 (intsV zs) e0 k) K :=
  ⟨SRn false (intsV zs) 0 0 0 (vV 0 false 0 ⟨#[]⟩ [] []), [], noHooks, 900, (SRn_ok (ok := false) (fun h => Bool.noConfusion h)).cfg, loops_none _ _ _ _, (mrN5 false (intsV zs) e0 0 0 0 0 k 0 false 0 ⟨#[]⟩ [] [] _ K).mpr (pick_f (by decide) hI)⟩
theorem mend {zs : List Int} {d : Nat} {D e k : Int} (N : Nat) (K : AExit → List Value → AH → Prop) (M : List (ValLaw.W × ValLaw.T d)) (hK : K (.exit 3) [p1V, p2V] (hXs (intsV zs) e k d M)) :
    iterE 1 Tryz.prog 88 [0, 1, 4, 5, 63, 64, 65] [4] [4, 5] [3] (oneLoop (codeOf Tryz.f4) 19) (N + 1) (vM D 6) (hMs (intsV zs) e k d M) K := match M, hK with
  | [], hK => ⟨SRn false (intsV zs) 0 0 0 (vV 0 false 0 ⟨#[]⟩ [] []), [], noHooks, 900, (SRn_ok (ok := false) (fun h => Bool.noConfusion h)).cfg, loops_none _ _ _ _, (mrN6 false (intsV zs) e 0 0 0 D k 0 false 0 ⟨#[]⟩ [] [] _ K).mpr hK⟩
  | p :: M, hK => ⟨SRn false (intsV zs) 0 0 0 (vV 0 false 0 ⟨#[]⟩ [] []), [], noHooks, 900, (SRn_ok (ok := false) (fun h => Bool.noConfusion h)).cfg, loops_none _ _ _ _, (mrB6 false (intsV zs) e 0 0 0 D k 0 false 0 ⟨#[]⟩ [] [] ((p :: M).flatMap (mE d)) (M.length + 1) _ K).mpr ⟨nn_mE d _ _, hK⟩⟩
end Go.Proofs.YtmclppkligkooaaGreatDoor
