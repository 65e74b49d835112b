/-
  Values as they are drawn: RightValue hands back a right value.
-/
import Derived.Test.YtmclppkligkooaaGreatDoorVaI
namespace Go.Proofs.YtmclppkligkooaaGreatDoor
open Go.Ev Go.RowKit
set_option maxRecDepth 100000

def mR : Nat → Nat
  | 0 => 10
  | d + 1 => 10 + 7 * mR d
def RvEx (zs : List Int) (d : Nat) : Prop := ∀ e : Int, 0 ≤ e → e + (mR d : Int) ≤ 900000 → ∃ (v : ValLaw.T d) (e' : Int), ValLaw.GR d v ∧ e ≤ e' ∧ e' ≤ e + (mR d : Int) ∧ RvF (intsV zs) (d : Int) e e' (enc d v)
theorem lloop {zs : List Int} {d : Nat} (IH : RvEx zs d) (hd : d ≤ 100) (k : Int) {n : Nat} (hn : n ≤ 3) : ∀ (r i : Nat) (L : List (ValLaw.T d)) (e : Int), i + r = n → L.length ≤ i → (∀ x ∈ L, ValLaw.GR d x) → 0 ≤ e → e + (r : Int) * (mR d : Int) ≤ 900000 →
    ∃ (L' : List (ValLaw.T d)) (e' : Int), L'.length ≤ n ∧ (∀ x ∈ L', ValLaw.GR d x) ∧ e ≤ e' ∧ e' ≤ e + (r : Int) * (mR d : Int) ∧ ∀ K, K (.exit 1) [p1V, p2V] (hLs (intsV zs) e' k d L') → iterE 1 Tryz.prog 88 [0, 1, 4, 5, 46, 47] [3] [4, 5] [3] (oneLoop (codeOf Tryz.f4) 13) (r + 1) (vL ((d + 1 : Nat) : Int) (n : Int) (i : Int)) (hLs (intsV zs) e k d L) K
  | 0, i, L, e, h1, h2, h3, h4, h5 => by
    obtain rfl : i = n := by omega
    exact ⟨L, e, h2, h3, by omega, by omega, fun K hK => lend 0 K L hK⟩
  | r + 1, i, L, e, h1, h2, h3, h4, h5 => by
    have e0 : ((r + 1 : Nat) : Int) * (mR d : Int) = (r : Int) * (mR d : Int) + (mR d : Int) := by rw [Int.natCast_add, Int.add_mul]; omega
    have hp : (0 : Int) ≤ (r : Int) * (mR d : Int) := Int.mul_nonneg (by omega) (by omega)
    rw [e0] at h5
    obtain ⟨x, e1, a1, a2, a3, a4⟩ := IH e h4 (by omega)
    obtain ⟨L', e', b1, b2, b3, b4, b5⟩ := lloop IH hd k hn r (i + 1) (L ++ [x]) e1 (by omega) (by rw [List.length_append, List.length_singleton]; omega) (fun y hy => by
      rcases List.mem_append.1 hy with q | q
      · exact h3 y q
      · rw [List.mem_singleton.1 q]; exact a1) (by omega) (by omega)
    exact ⟨L', e', b1, b2, by omega, by rw [e0]; omega, fun K hK => lcall hd (by omega) (by omega) a4 (r + 1) K L (by omega) (b5 K hK)⟩
theorem lloop0 {zs : List Int} (e k : Int) {n : Nat} (hn : n ≤ 3) (K : AExit → List Value → AH → Prop) (hK : K (.exit 1) [p1V, p2V] (hL0 (intsV zs) e k)) : ∀ (r i : Nat), i + r = n → iterE 1 Tryz.prog 88 [0, 1, 4, 5, 46, 47] [3] [4, 5] [3] (oneLoop (codeOf Tryz.f4) 13) (r + 1) (vL 0 (n : Int) (i : Int)) (hL0 (intsV zs) e k) K
  | 0, i, h => by
    obtain rfl : i = n := by omega
    exact lend (d := 0) 0 K [] hK
  | r + 1, i, h => lzero (by omega) (by omega) (r + 1) K (lloop0 e k hn K hK r (i + 1) (by omega))
theorem mstep0 {zs : List Int} {d : Nat} (IH : RvEx zs d) (hd : d ≤ 100) {e k : Int} {M : List (ValLaw.W × ValLaw.T d)} (hM : (M.map (·.1)).Sublist (ValLaw.names6.take 0)) (hG : ∀ p ∈ M, ValLaw.GR d p.2) (h0 : 0 ≤ e) (h1 : e + 1 + (mR d : Int) ≤ 900000) :
    ∃ (M' : List (ValLaw.W × ValLaw.T d)) (e' : Int), (M'.map (·.1)).Sublist (ValLaw.names6.take 1) ∧ (∀ p ∈ M', ValLaw.GR d p.2) ∧ e ≤ e' ∧ e' ≤ e + 1 + (mR d : Int) ∧ ∀ N K, iterE 1 Tryz.prog 88 [0, 1, 4, 5, 63, 64, 65] [4] [4, 5] [3] (oneLoop (codeOf Tryz.f4) 19) N (vM ((d + 1 : Nat) : Int) 1) (hMs (intsV zs) e' k d M') K →
      iterE 1 Tryz.prog 88 [0, 1, 4, 5, 63, 64, 65] [4] [4, 5] [3] (oneLoop (codeOf Tryz.f4) 19) (N + 1) (vM ((d + 1 : Nat) : Int) 0) (hMs (intsV zs) e k d M) K := by
  by_cases hr : nextR (intsV zs) e 3 = 0
  · obtain ⟨x, e1, a1, a2, a3, a4⟩ := IH (e + 1) (by omega) (by omega)
    refine ⟨M ++ [([], x)], e1, ?_, fun p hp => ?_, by omega, by omega, fun N K hI => mcall0 hd h0 (by omega) rfl hr a4 N K M hM hI⟩
    · rw [List.map_append]
      exact hM.append (List.Sublist.refl [([] : List UInt8)])
    · rcases List.mem_append.1 hp with q | q
      · exact hG p q
      · rw [List.mem_singleton.1 q]; exact a1
  · exact ⟨M, e + 1, hM.trans (by decide), hG, by omega, by omega, fun N K hI => mskip0 h0 (by omega) hr N K M hM hI⟩
theorem mstep1 {zs : List Int} {d : Nat} (IH : RvEx zs d) (hd : d ≤ 100) {e k : Int} {M : List (ValLaw.W × ValLaw.T d)} (hM : (M.map (·.1)).Sublist (ValLaw.names6.take 1)) (hG : ∀ p ∈ M, ValLaw.GR d p.2) (h0 : 0 ≤ e) (h1 : e + 1 + (mR d : Int) ≤ 900000) :
    ∃ (M' : List (ValLaw.W × ValLaw.T d)) (e' : Int), (M'.map (·.1)).Sublist (ValLaw.names6.take 2) ∧ (∀ p ∈ M', ValLaw.GR d p.2) ∧ e ≤ e' ∧ e' ≤ e + 1 + (mR d : Int) ∧ ∀ N K, iterE 1 Tryz.prog 88 [0, 1, 4, 5, 63, 64, 65] [4] [4, 5] [3] (oneLoop (codeOf Tryz.f4) 19) N (vM ((d + 1 : Nat) : Int) 2) (hMs (intsV zs) e' k d M') K →
      iterE 1 Tryz.prog 88 [0, 1, 4, 5, 63, 64, 65] [4] [4, 5] [3] (oneLoop (codeOf Tryz.f4) 19) (N + 1) (vM ((d + 1 : Nat) : Int) 1) (hMs (intsV zs) e k d M) K := by
  by_cases hr : nextR (intsV zs) e 3 = 0
  · obtain ⟨x, e1, a1, a2, a3, a4⟩ := IH (e + 1) (by omega) (by omega)
    refine ⟨M ++ [([97], x)], e1, ?_, fun p hp => ?_, by omega, by omega, fun N K hI => mcall1 hd h0 (by omega) rfl hr a4 N K M hM hI⟩
    · rw [List.map_append]
      exact hM.append (List.Sublist.refl [([97] : List UInt8)])
    · rcases List.mem_append.1 hp with q | q
      · exact hG p q
      · rw [List.mem_singleton.1 q]; exact a1
  · exact ⟨M, e + 1, hM.trans (by decide), hG, by omega, by omega, fun N K hI => mskip1 h0 (by omega) hr N K M hI⟩
theorem mstep2 {zs : List Int} {d : Nat} (IH : RvEx zs d) (hd : d ≤ 100) {e k : Int} {M : List (ValLaw.W × ValLaw.T d)} (hM : (M.map (·.1)).Sublist (ValLaw.names6.take 2)) (hG : ∀ p ∈ M, ValLaw.GR d p.2) (h0 : 0 ≤ e) (h1 : e + 1 + (mR d : Int) ≤ 900000) :
    ∃ (M' : List (ValLaw.W × ValLaw.T d)) (e' : Int), (M'.map (·.1)).Sublist (ValLaw.names6.take 3) ∧ (∀ p ∈ M', ValLaw.GR d p.2) ∧ e ≤ e' ∧ e' ≤ e + 1 + (mR d : Int) ∧ ∀ N K, iterE 1 Tryz.prog 88 [0, 1, 4, 5, 63, 64, 65] [4] [4, 5] [3] (oneLoop (codeOf Tryz.f4) 19) N (vM ((d + 1 : Nat) : Int) 3) (hMs (intsV zs) e' k d M') K →
      iterE 1 Tryz.prog 88 [0, 1, 4, 5, 63, 64, 65] [4] [4, 5] [3] (oneLoop (codeOf Tryz.f4) 19) (N + 1) (vM ((d + 1 : Nat) : Int) 2) (hMs (intsV zs) e k d M) K := by
  by_cases hr : nextR (intsV zs) e 3 = 0
  · obtain ⟨x, e1, a1, a2, a3, a4⟩ := IH (e + 1) (by omega) (by omega)
    refine ⟨M ++ [([98], x)], e1, ?_, fun p hp => ?_, by omega, by omega, fun N K hI => mcall2 hd h0 (by omega) rfl hr a4 N K M hM hI⟩
    · rw [List.map_append]
      exact hM.append (List.Sublist.refl [([98] : List UInt8)])
    · rcases List.mem_append.1 hp with q | q
      · exact hG p q
      · rw [List.mem_singleton.1 q]; exact a1
  · exact ⟨M, e + 1, hM.trans (by decide), hG, by omega, by omega, fun N K hI => mskip2 h0 (by omega) hr N K M hI⟩
theorem mstep3 {zs : List Int} {d : Nat} (IH : RvEx zs d) (hd : d ≤ 100) {e k : Int} {M : List (ValLaw.W × ValLaw.T d)} (hM : (M.map (·.1)).Sublist (ValLaw.names6.take 3)) (hG : ∀ p ∈ M, ValLaw.GR d p.2) (h0 : 0 ≤ e) (h1 : e + 1 + (mR d : Int) ≤ 900000) :
    ∃ (M' : List (ValLaw.W × ValLaw.T d)) (e' : Int), (M'.map (·.1)).Sublist (ValLaw.names6.take 4) ∧ (∀ p ∈ M', ValLaw.GR d p.2) ∧ e ≤ e' ∧ e' ≤ e + 1 + (mR d : Int) ∧ ∀ N K, iterE 1 Tryz.prog 88 [0, 1, 4, 5, 63, 64, 65] [4] [4, 5] [3] (oneLoop (codeOf Tryz.f4) 19) N (vM ((d + 1 : Nat) : Int) 4) (hMs (intsV zs) e' k d M') K →
      iterE 1 Tryz.prog 88 [0, 1, 4, 5, 63, 64, 65] [4] [4, 5] [3] (oneLoop (codeOf Tryz.f4) 19) (N + 1) (vM ((d + 1 : Nat) : Int) 3) (hMs (intsV zs) e k d M) K := by
  by_cases hr : nextR (intsV zs) e 3 = 0
  · obtain ⟨x, e1, a1, a2, a3, a4⟩ := IH (e + 1) (by omega) (by omega)
    refine ⟨M ++ [([99, 32, 100], x)], e1, ?_, fun p hp => ?_, by omega, by omega, fun N K hI => mcall3 hd h0 (by omega) rfl hr a4 N K M hM hI⟩
    · rw [List.map_append]
      exact hM.append (List.Sublist.refl [([99, 32, 100] : List UInt8)])
    · rcases List.mem_append.1 hp with q | q
      · exact hG p q
      · rw [List.mem_singleton.1 q]; exact a1
  · exact ⟨M, e + 1, hM.trans (by decide), hG, by omega, by omega, fun N K hI => mskip3 h0 (by omega) hr N K M hI⟩
theorem mstep4 {zs : List Int} {d : Nat} (IH : RvEx zs d) (hd : d ≤ 100) {e k : Int} {M : List (ValLaw.W × ValLaw.T d)} (hM : (M.map (·.1)).Sublist (ValLaw.names6.take 4)) (hG : ∀ p ∈ M, ValLaw.GR d p.2) (h0 : 0 ≤ e) (h1 : e + 1 + (mR d : Int) ≤ 900000) :
    ∃ (M' : List (ValLaw.W × ValLaw.T d)) (e' : Int), (M'.map (·.1)).Sublist (ValLaw.names6.take 5) ∧ (∀ p ∈ M', ValLaw.GR d p.2) ∧ e ≤ e' ∧ e' ≤ e + 1 + (mR d : Int) ∧ ∀ N K, iterE 1 Tryz.prog 88 [0, 1, 4, 5, 63, 64, 65] [4] [4, 5] [3] (oneLoop (codeOf Tryz.f4) 19) N (vM ((d + 1 : Nat) : Int) 5) (hMs (intsV zs) e' k d M') K →
      iterE 1 Tryz.prog 88 [0, 1, 4, 5, 63, 64, 65] [4] [4, 5] [3] (oneLoop (codeOf Tryz.f4) 19) (N + 1) (vM ((d + 1 : Nat) : Int) 4) (hMs (intsV zs) e k d M) K := by
  by_cases hr : nextR (intsV zs) e 3 = 0
  · obtain ⟨x, e1, a1, a2, a3, a4⟩ := IH (e + 1) (by omega) (by omega)
    refine ⟨M ++ [([110], x)], e1, ?_, fun p hp => ?_, by omega, by omega, fun N K hI => mcall4 hd h0 (by omega) rfl hr a4 N K M hM hI⟩
    · rw [List.map_append]
      exact hM.append (List.Sublist.refl [([110] : List UInt8)])
    · rcases List.mem_append.1 hp with q | q
      · exact hG p q
      · rw [List.mem_singleton.1 q]; exact a1
  · exact ⟨M, e + 1, hM.trans (by decide), hG, by omega, by omega, fun N K hI => mskip4 h0 (by omega) hr N K M hI⟩
theorem mstep5 {zs : List Int} {d : Nat} (IH : RvEx zs d) (hd : d ≤ 100) {e k : Int} {M : List (ValLaw.W × ValLaw.T d)} (hM : (M.map (·.1)).Sublist (ValLaw.names6.take 5)) (hG : ∀ p ∈ M, ValLaw.GR d p.2) (h0 : 0 ≤ e) (h1 : e + 1 + (mR d : Int) ≤ 900000) :
    ∃ (M' : List (ValLaw.W × ValLaw.T d)) (e' : Int), (M'.map (·.1)).Sublist (ValLaw.names6.take 6) ∧ (∀ p ∈ M', ValLaw.GR d p.2) ∧ e ≤ e' ∧ e' ≤ e + 1 + (mR d : Int) ∧ ∀ N K, iterE 1 Tryz.prog 88 [0, 1, 4, 5, 63, 64, 65] [4] [4, 5] [3] (oneLoop (codeOf Tryz.f4) 19) N (vM ((d + 1 : Nat) : Int) 6) (hMs (intsV zs) e' k d M') K →
      iterE 1 Tryz.prog 88 [0, 1, 4, 5, 63, 64, 65] [4] [4, 5] [3] (oneLoop (codeOf Tryz.f4) 19) (N + 1) (vM ((d + 1 : Nat) : Int) 5) (hMs (intsV zs) e k d M) K := by
  by_cases hr : nextR (intsV zs) e 3 = 0
  · obtain ⟨x, e1, a1, a2, a3, a4⟩ := IH (e + 1) (by omega) (by omega)
    refine ⟨M ++ [([115], x)], e1, ?_, fun p hp => ?_, by omega, by omega, fun N K hI => mcall5 hd h0 (by omega) rfl hr a4 N K M hM hI⟩
    · rw [List.map_append]
      exact hM.append (List.Sublist.refl [([115] : List UInt8)])
    · rcases List.mem_append.1 hp with q | q
      · exact hG p q
      · rw [List.mem_singleton.1 q]; exact a1
  · exact ⟨M, e + 1, hM.trans (by decide), hG, by omega, by omega, fun N K hI => mskip5 h0 (by omega) hr N K M hI⟩

/-! the ends, frozen -/
theorem flat_get {α : Type} {f : α → List Value} {w : Nat} (hf : ∀ x, (f x).length = w) : ∀ {L : List α} {i j : Nat} {x : α} {v : Value}, L[i]? = some x → (f x)[j]? = some v → (L.flatMap f)[i * w + j]? = some v
  | y :: l, 0, j, x, v, h, hv => by
    simp at h
    subst h
    rw [Nat.zero_mul, Nat.zero_add, List.flatMap_cons, List.getElem?_append_left (List.getElem?_eq_some_iff.1 hv).1]
    exact hv
  | y :: l, i + 1, j, x, v, h, hv => by
    have := flat_get hf (L := l) (by simpa using h) hv
    have e1 : (i + 1) * w + j = w + (i * w + j) := by rw [Nat.succ_mul]; omega
    rw [e1, List.flatMap_cons, List.getElem?_append_right (by rw [hf]; omega), hf, Nat.add_sub_cancel_left]
    exact this
theorem mE_seven (d : Nat) (p : ValLaw.W × ValLaw.T d) : (mE d p).length = 7 := by unfold mE; rw [List.length_cons, (cE_six d p.2).1]
theorem wkL {zs : List Int} {d : Nat} (e k : Int) (τ : Array Value) : ∀ L : List (ValLaw.T d), ∃ nx lw, Weak 1 Tryz.prog τ (hLs (intsV zs) e k d L) τ (hFl nx lw (intsV zs) e k (L.map (enc d)))
  | [] => ⟨3, 2, by
      have hW := Weak.cell (p := 1) (P := Tryz.prog) (τ := τ) (h := hL0 (intsV zs) e k) (g := 2) (k := 4) (v := nlV) (v2 := fz ⟨[]⟩) (ds := vW k false 0 ⟨#[]⟩ nlV nlV) (t := 29) (fr := (0, 0)) rfl rfl fun N v' hv => by
        obtain rfl := hv.inv_slice0
        exact .fz0 _ _
      exact hW⟩
  | x :: l => ⟨4, 2, by
      have hle : (l.length + 1) * 6 ≤ (Array.mk ((x :: l).flatMap (cE d))).size := by
        show (l.length + 1) * 6 ≤ ((x :: l).flatMap (cE d)).length
        rw [cE_len]; exact Nat.le_refl _
      have hs : ∀ (i : Nat) y, (Array.mk ((x :: l).map (enc d)))[i]? = some y → y.cells.size = 6 := by
        intro i y hy
        have hy : ((x :: l).map (enc d))[i]? = some y := by simpa using hy
        rw [List.getElem?_map] at hy
        obtain ⟨z, _, rfl⟩ := Option.map_eq_some_iff.1 hy
        exact (cE_six d z).1
      have hx : ∀ (i j : Nat) y v, (Array.mk ((x :: l).map (enc d)))[i]? = some y → y.cells[j]? = some v → (Array.mk ((x :: l).flatMap (cE d)))[i * 6 + j]? = some v := by
        intro i j y v hy hv
        have hy : ((x :: l).map (enc d))[i]? = some y := by simpa using hy
        rw [List.getElem?_map] at hy
        obtain ⟨z, hz, rfl⟩ := Option.map_eq_some_iff.1 hy
        have := flat_get (f := cE d) (w := 6) (fun u => (cE_six d u).1) hz (show (cE d z)[j]? = some v by unfold cE; simpa using hv)
        simpa using this
      have hW := Weak.freezeAt (p := 1) (P := Tryz.prog) (τ := τ) (h := hL1 (intsV zs) e k ((x :: l).flatMap (cE d)) (l.length + 1)) (n := l.length + 1) (cap := l.length + 1) (c := ⟨(x :: l).flatMap (cE d)⟩) (t := 29) (fr := (0, 0)) 3 6 ⟨(x :: l).map (enc d)⟩ rfl (cE_p1 d _) (by simp) (Nat.le_refl _) hle hs hx (g := 2) (k := 4) (ds := vW k false 0 ⟨#[]⟩ (.slice (some ⟨3, 0, none⟩) (l.length + 1) (l.length + 1)) nlV) (t2 := 29) (fr2 := (0, 0)) (by decide) rfl rfl
      exact hW⟩
theorem wkM {zs : List Int} {d : Nat} (e k : Int) (τ : Array Value) : ∀ L : List (ValLaw.W × ValLaw.T d), ∃ nx lw, Weak 1 Tryz.prog τ (hXs (intsV zs) e k d L) τ (hFm nx lw (intsV zs) e k (L.map fun p => mbr p.1 (enc d p.2)))
  | [] => ⟨3, 2, by
      have hW := Weak.cell (p := 1) (P := Tryz.prog) (τ := τ) (h := hL0 (intsV zs) e k) (g := 2) (k := 5) (v := nlV) (v2 := fz ⟨[]⟩) (ds := vW k false 0 ⟨#[]⟩ nlV nlV) (t := 29) (fr := (0, 0)) rfl rfl fun N v' hv => by
        obtain rfl := hv.inv_slice0
        exact .fz0 _ _
      exact hW⟩
  | x :: l => ⟨4, 2, by
      have hle : (l.length + 1) * 7 ≤ (Array.mk ((x :: l).flatMap (mE d))).size := by
        show (l.length + 1) * 7 ≤ ((x :: l).flatMap (mE d)).length
        rw [mE_len]; exact Nat.le_refl _
      have hs : ∀ (i : Nat) y, (Array.mk ((x :: l).map (fun p => mbr p.1 (enc d p.2))))[i]? = some y → y.cells.size = 7 := by
        intro i y hy
        have hy : ((x :: l).map (fun p => mbr p.1 (enc d p.2)))[i]? = some y := by simpa using hy
        rw [List.getElem?_map] at hy
        obtain ⟨z, _, rfl⟩ := Option.map_eq_some_iff.1 hy
        exact mE_seven d z
      have hx : ∀ (i j : Nat) y v, (Array.mk ((x :: l).map (fun p => mbr p.1 (enc d p.2))))[i]? = some y → y.cells[j]? = some v → (Array.mk ((x :: l).flatMap (mE d)))[i * 7 + j]? = some v := by
        intro i j y v hy hv
        have hy : ((x :: l).map (fun p => mbr p.1 (enc d p.2)))[i]? = some y := by simpa using hy
        rw [List.getElem?_map] at hy
        obtain ⟨z, hz, rfl⟩ := Option.map_eq_some_iff.1 hy
        have hv2 : (mE d z)[j]? = some v := by
          have : (mbr z.1 (enc d z.2)).cells = ⟨mE d z⟩ := rfl
          rw [this] at hv
          simpa using hv
        have := flat_get (f := mE d) (w := 7) (mE_seven d) hz hv2
        simpa using this
      have hW := Weak.freezeAt (p := 1) (P := Tryz.prog) (τ := τ) (h := hX1 (intsV zs) e k ((x :: l).flatMap (mE d)) (l.length + 1)) (n := l.length + 1) (cap := l.length + 1) (c := ⟨(x :: l).flatMap (mE d)⟩) (t := 53) (fr := (0, 0)) 3 7 ⟨(x :: l).map (fun p => mbr p.1 (enc d p.2))⟩ rfl (mE_p1 d _) (by simp) (Nat.le_refl _) hle hs hx (g := 2) (k := 5) (ds := vW k false 0 ⟨#[]⟩ nlV (.slice (some ⟨3, 0, none⟩) (l.length + 1) (l.length + 1))) (t2 := 29) (fr2 := (0, 0)) (by decide) rfl rfl
      exact hW⟩
/-! the whole -/
theorem someRV : Tryz.f4.body.isSome = true := by kernel_rfl
theorem oneRV13 : (loopAt (codeOf Tryz.f4) 13).length = 1 := by kernel_rfl
theorem oneRV19 : (loopAt (codeOf Tryz.f4) 19).length = 1 := by kernel_rfl
theorem SI1_ok : SI1.cfg.OK Tryz.prog := (spNext_ok []).cfg
theorem noA (zs : List Int) (nx lw : Nat) (e k : Int) (xs : List Value) : LSpec 1 Tryz.prog 88 (oneLoop (codeOf Tryz.f4) 13) (hookLS 1 88 [0, 1, 4, 5, 46, 47] [3] [4, 5] (fun vals h K => (fun _ _ => False) vals h ∧ K (.exit 1) [p1V, p2V] (hFl nx lw (intsV zs) e k xs))) := by
  refine hookW_ok (sameX := [3]) mixed (by decide) ?_
  rintro vals h K ⟨hh, _⟩
  exact hh.elim
theorem noB (zs : List Int) (nx lw : Nat) (e k : Int) (xs : List Value) : LSpec 1 Tryz.prog 88 (oneLoop (codeOf Tryz.f4) 19) (hookLS 1 88 [0, 1, 4, 5, 63, 64, 65] [4] [4, 5] (fun vals h K => (fun _ _ => False) vals h ∧ K (.exit 3) [p1V, p2V] (hFm nx lw (intsV zs) e k xs))) := by
  refine hookW_ok (sameX := [3]) mixed (by decide) ?_
  rintro vals h K ⟨hh, _⟩
  exact hh.elim
theorem le6 {k : Int} {f : Bool} {n : Int} {s : ByteArray} {l l' m m' : Value} (h1 : Le l l') (h2 : Le m m') : Le (.agg ⟨vW k f n s l m⟩) (.agg ⟨vW k f n s l' m'⟩) := by
  refine Le.agg rfl fun i x y a b => ?_
  match i, a, b with
  | 0, a, b => cases a; cases b; exact Le.rfl'
  | 1, a, b => cases a; cases b; exact Le.rfl'
  | 2, a, b => cases a; cases b; exact Le.rfl'
  | 3, a, b => cases a; cases b; exact Le.rfl'
  | 4, a, b => cases a; cases b; exact h1
  | 5, a, b => cases a; cases b; exact h2
  | i + 6, a, _ => cases a
theorem rv_done {X : Array Value} {D e e' : Int} {x : Value} (hF : FnOK 1 Tryz.prog 4 ⟨[p0V, .int .i64 D]⟩ (Ev.h1 (strm X e)) (fun v g => Le v x ∧ g.get 0 = some (strm X e'))) : RvF X D e e' x :=
  FnOK.weak1 (hF.mono fun _ g ⟨h1, h2⟩ => ⟨x, g, Weak.val h1, rfl, h2⟩)
theorem in8 (r : Int) (h0 : 0 ≤ r) (h1 : r < 8) : 0 ≤ gI k8L r ∧ gI k8L r ≤ 5 := by
  have : r = 0 ∨ r = 1 ∨ r = 2 ∨ r = 3 ∨ r = 4 ∨ r = 5 ∨ r = 6 ∨ r = 7 := by omega
  rcases this with rfl | rfl | rfl | rfl | rfl | rfl | rfl | rfl <;> decide +kernel
theorem in3 (r : Int) (h0 : 0 ≤ r) (h1 : r < 3) : 0 ≤ gI k3L r ∧ gI k3L r ≤ 5 := by
  have : r = 0 ∨ r = 1 ∨ r = 2 := by omega
  rcases this with rfl | rfl | rfl <;> decide +kernel
theorem inN (r q : Int) (h0 : 0 ≤ r) (h1 : r < 8) (q0 : 0 ≤ q) (q1 : q < 100) : -1000000000000000 ≤ gI (nuL q) r ∧ gI (nuL q) r ≤ 1000000000000000 := by
  have : r = 0 ∨ r = 1 ∨ r = 2 ∨ r = 3 ∨ r = 4 ∨ r = 5 ∨ r = 6 ∨ r = 7 := by omega
  rcases this with rfl | rfl | rfl | rfl | rfl | rfl | rfl | rfl
  · show -1000000000000000 ≤ (0 : Int) ∧ (0 : Int) ≤ 1000000000000000
    decide
  · show -1000000000000000 ≤ (1 : Int) ∧ (1 : Int) ≤ 1000000000000000
    decide
  · show -1000000000000000 ≤ ((-1) : Int) ∧ ((-1) : Int) ≤ 1000000000000000
    decide
  · show -1000000000000000 ≤ (5 : Int) ∧ (5 : Int) ≤ 1000000000000000
    decide
  · show -1000000000000000 ≤ (12 : Int) ∧ (12 : Int) ≤ 1000000000000000
    decide
  · show -1000000000000000 ≤ (1000000000000000 : Int) ∧ (1000000000000000 : Int) ≤ 1000000000000000
    decide
  · show -1000000000000000 ≤ ((-1000000000000000) : Int) ∧ ((-1000000000000000) : Int) ≤ 1000000000000000
    decide
  · show -1000000000000000 ≤ q ∧ q ≤ 1000000000000000
    omega
theorem inW (r : Int) (h0 : 0 ≤ r) (h1 : r < 10) : ∃ w ∈ ValLaw.wordsU, gS wdL r = bl w := by
  have : r = 0 ∨ r = 1 ∨ r = 2 ∨ r = 3 ∨ r = 4 ∨ r = 5 ∨ r = 6 ∨ r = 7 ∨ r = 8 ∨ r = 9 := by omega
  rcases this with rfl | rfl | rfl | rfl | rfl | rfl | rfl | rfl | rfl | rfl
  · exact ⟨[], by decide, rfl⟩
  · exact ⟨[97], by decide, rfl⟩
  · exact ⟨[98], by decide, rfl⟩
  · exact ⟨[97, 32, 98], by decide, rfl⟩
  · exact ⟨[120, 34, 121, 92, 122], by decide, rfl⟩
  · exact ⟨[195, 169, 10, 9], by decide, rfl⟩
  · exact ⟨[1, 127], by decide, rfl⟩
  · exact ⟨[49, 50], by decide, rfl⟩
  · exact ⟨[45, 51], by decide, rfl⟩
  · exact ⟨[65, 98, 44, 99, 68], by decide, rfl⟩
theorem rv_head {zs : List Int} (D : Int) {e : Int} (h0 : 0 ≤ e) (h1 : e ≤ 900000) : ∃ (k e' : Int), (0 ≤ k ∧ k ≤ 5) ∧ e ≤ e' ∧ e' ≤ e + 3 ∧ ∀ K : Int → Int → Prop, K k e' → rvH (intsV zs) D e K := by
  have b1 := nx_in zs (d := e) (n := 8) h0 (by omega) (by omega) (by omega)
  have b2 := nx_in zs (d := e + 1 + 1) (n := 3) (by omega) (by omega) (by omega) (by omega)
  have mk : ∀ {Y : Prop}, Y → drT (intsV zs) e (rg (nextR (intsV zs) e 8) 8 8 Y) := fun y => drT_mk h0 (by omega) (rg_mk h0 (by omega) rfl (by decide) y)
  by_cases hD : D > 0
  · by_cases hf : nextR (intsV zs) (e + 1) 2 = 0
    · exact ⟨_, _, in3 _ b2.1 b2.2, by omega, by omega, fun K hK => mk (pick_t (decide_eq_true hD) (drT_mk (by omega) (by omega) (pick_t (by rw [hf]; rfl) (drT_mk (by omega) (by omega) (rg_mk (by omega) (by omega) rfl (by decide) hK)))))⟩
    · exact ⟨_, _, in8 _ b1.1 b1.2, by omega, by omega, fun K hK => mk (pick_t (decide_eq_true hD) (drT_mk (by omega) (by omega) (pick_f (beq_eq_false_iff_ne.2 hf) hK)))⟩
  · exact ⟨_, _, in8 _ b1.1 b1.2, by omega, by omega, fun K hK => mk (pick_f (decide_eq_false hD) hK)⟩
theorem okD_mk {k : Int} {f : Bool} {n : Int} {w : List UInt8} (h0 : 0 ≤ k) (h1 : k ≤ 5) (h2 : k = 1 ∨ f = false) (h3 : k = 2 ∨ n = 0) (h4 : k = 3 ∨ w = []) (hw : w ∈ ValLaw.wordsU) (n0 : -1000000000000000 ≤ n) (n1 : n ≤ 1000000000000000) : ValLaw.okD (k, f, n, w) := ⟨⟨h0, h1, h2, h3, h4⟩, hw, n0, n1⟩
theorem okD4 : ValLaw.okD (4, false, 0, []) := okD_mk (by decide) (by decide) (.inr rfl) (.inr rfl) (.inr rfl) (by decide) (by decide) (by decide)
theorem okD5 : ValLaw.okD (5, false, 0, []) := okD_mk (by decide) (by decide) (.inr rfl) (.inr rfl) (.inr rfl) (by decide) (by decide) (by decide)
def leafT : (d : Nat) → ValLaw.Base → ValLaw.T d
  | 0, b => b
  | _ + 1, b => (b, [], [])
theorem leaf_enc : ∀ (d : Nat) (b : ValLaw.Base), enc d (leafT d b) = vV b.1 b.2.1 b.2.2.1 (bl b.2.2.2) [] []
  | 0, _ => rfl
  | _ + 1, _ => rfl
theorem leaf_gr : ∀ {d : Nat} {b : ValLaw.Base}, ValLaw.okD b → ValLaw.GR d (leafT d b)
  | 0, _, h => h
  | _ + 1, _, h => ⟨h, .inr rfl, .inr rfl, fun x hx => (by cases hx), fun x hx => (by cases hx), Nat.zero_le _, List.nil_sublist _⟩
theorem rv_leaf {zs : List Int} {D : Int} {e k e' : Int} (h0 : 0 ≤ e') (h1 : e' ≤ 900010) (hH : ∀ K : Int → Int → Prop, K k e' → rvH (intsV zs) D e K) (hk0 : 0 ≤ k) (hk : k ≤ 3) :
    ∃ (b : ValLaw.Base) (e2 : Int), ValLaw.okD b ∧ e' ≤ e2 ∧ e2 ≤ e' + 2 ∧ RvF (intsV zs) D e e2 (vV b.1 b.2.1 b.2.2.1 (bl b.2.2.2) [] []) := by
  have go : ∀ {x : Value} {e2 : Int}, rvK (intsV zs) D 0 0 0 [] [] (fun _ _ => False) (fun _ _ => False) (fun v o => Le v x ∧ o = some (strm (intsV zs) e2)) k e' → RvF (intsV zs) D e e2 x := fun {x e2} ht =>
    rv_done (FnOK.ttree SI1_ok mixed Tryz.func4 someRV (loops_or (loops_one oneRV13 (noA zs 0 0 0 0 [])) (loops_one oneRV19 (noB zs 0 0 0 0 []))) (rv0 0 0 0 0 (intsV zs) e 0 0 0 D [] [] (fun _ _ => False) (fun _ _ => False) (fun v o => Le v x ∧ o = some (strm (intsV zs) e2))) (hH _ ht))
  have hL : ∀ {k : Int} {f : Bool} {n : Int} {s : ByteArray}, Le (.agg ⟨vW k f n s nlV nlV⟩) (vV k f n s [] []) := le6 Le.nil Le.nil
  have hk : k = 0 ∨ k = 1 ∨ k = 2 ∨ k = 3 := by omega
  rcases hk with rfl | rfl | rfl | rfl
  · exact ⟨(0, false, 0, []), e', okD_mk (by decide) (by decide) (.inr rfl) (.inr rfl) (.inr rfl) (by decide) (by decide) (by decide), by omega, by omega, go (by unfold rvK; exact ⟨hL, rfl⟩)⟩
  · refine ⟨(1, nextR (intsV zs) e' 2 == 0, 0, []), e' + 1, okD_mk (by decide) (by decide) (.inl rfl) (.inr rfl) (.inr rfl) (by decide) (by decide) (by decide), by omega, by omega, go ?_⟩
    unfold rvK
    exact drT_mk h0 (by omega) ⟨hL, rfl⟩
  · have b1 := nx_in zs (d := e') (n := 100) h0 (by omega) (by omega) (by omega)
    have b2 := nx_in zs (d := e' + 1) (n := 8) (by omega) (by omega) (by omega) (by omega)
    have hn := inN _ _ b2.1 b2.2 b1.1 b1.2
    refine ⟨(2, false, gI (nuL (nextR (intsV zs) e' 100)) (nextR (intsV zs) (e' + 1) 8), []), e' + 1 + 1, okD_mk (by decide) (by decide) (.inr rfl) (.inl rfl) (.inr rfl) (by decide) hn.1 hn.2, by omega, by omega, go ?_⟩
    unfold rvK
    exact drT_mk h0 (by omega) (drT_mk (by omega) (by omega) (rg_mk (by omega) (by omega) rfl (by decide) ⟨hL, rfl⟩))
  · have b1 := nx_in zs (d := e') (n := 10) h0 (by omega) (by omega) (by omega)
    obtain ⟨w, hw, hs⟩ := inW _ b1.1 b1.2
    refine ⟨(3, false, 0, w), e' + 1, okD_mk (by decide) (by decide) (.inr rfl) (.inr rfl) (.inl rfl) hw (by decide) (by decide), by omega, by omega, go ?_⟩
    unfold rvK
    refine drT_mk h0 (by omega) (rg_mk (by omega) (by omega) rfl (by decide) ?_)
    show Le _ (vV 3 false 0 (bl w) [] []) ∧ _
    rw [← hs]
    exact ⟨hL, rfl⟩
end Go.Proofs.YtmclppkligkooaaGreatDoor
