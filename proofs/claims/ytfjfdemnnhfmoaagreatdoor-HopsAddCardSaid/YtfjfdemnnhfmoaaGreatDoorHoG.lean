/-
  Headers: Forward's loop.
-/
import Derived.Test.YtfjfdemnnhfmoaaGreatDoorHoF
namespace Go.Proofs.YtfjfdemnnhfmoaaGreatDoor
open Go.Ev Go.RowKit RecLaw PathLaw HopLaw

noncomputable def SFl : SC := ⟨idn, spOr spWo2 (fun _ _ _ => none), true, false⟩
theorem SFl_ok : SFl.cfg.OK Tryz.prog := (spWo2_ok.or none_ok).cfg
def fwH (r0 r1 : List Value) : AH := ⟨2, 2, [(0, .cells ⟨r0⟩ 41 (0, 0)), (1, .cells ⟨r1⟩ 41 (0, 0))]⟩
theorem fwl (r0 r1 xs ps : List Value) (b : ByteArray) (n i : Int) (B : List Value → AH → Prop) (Q : AExit → List Value → AH → Prop) :
    once 0 Tryz.prog SFl [] noHooks 600 88 [1, 2, 4, 8, 43, 44, 45] [0, 1] [1, 2, 4, 8] [0, 1] (oneLoop (codeOf Tryz.f18) 13) [.string b, .pointer (some ⟨0, 0, none⟩), .pointer (some ⟨1, 0, none⟩), fz ⟨xs⟩, fz ⟨ps⟩, .int .i64 n, .int .i64 i] (fwH r0 r1) B Q =
      bif decide (i < n) then ptE ps i fun s => bif xs.all shpH && (hlist xs).all okN && Nat.ble xs.length 4 && inU asksU s then
        NoNames (.cells ⟨r0⟩ 41 (0, 0)) ∧ NoNames (.cells ⟨r1⟩ 41 (0, 0)) ∧ B [.string b, .pointer (some ⟨0, 0, none⟩), .pointer (some ⟨1, 0, none⟩), fz ⟨(removeL s (hlist xs)).map hv⟩, fz ⟨ps⟩, .int .i64 n, .int .i64 (IntKind.i64.wrap (i + 1))] (fwH r0 r1) else False
      else NoNames (.cells ⟨r0⟩ 41 (0, 0)) ∧ NoNames (.cells ⟨r1⟩ 41 (0, 0)) ∧ Q (.exit 0) [.string b, .pointer (some ⟨0, 0, none⟩), .pointer (some ⟨1, 0, none⟩), fz ⟨xs⟩] (fwH r0 r1) := by kernel_rfl
def removeAll : List (List UInt8) → List (ByteArray × ByteArray) → List (ByteArray × ByteArray)
  | [], l => l
  | k :: ks, l => removeAll ks (removeL (bl k) l)
theorem removeL_sub (k : ByteArray) (l : List (ByteArray × ByteArray)) : (removeL k l).Sublist l := by
  unfold removeL
  exact List.filter_sublist
theorem removeAll_sub : ∀ (ks : List (List UInt8)) (l : List (ByteArray × ByteArray)), (removeAll ks l).Sublist l
  | [], l => List.Sublist.refl _
  | k :: ks, l => (removeAll_sub ks _).trans (removeL_sub _ _)
theorem fwl_it (n : Nat) {vals : List Value} {h : AH} {K : AExit → List Value → AH → Prop} (hx : once 0 Tryz.prog SFl [] noHooks 600 88 [1, 2, 4, 8, 43, 44, 45] [0, 1] [1, 2, 4, 8] [0, 1] (oneLoop (codeOf Tryz.f18) 13) vals h (fun v g => iter 0 Tryz.prog SFl [] noHooks 600 88 [1, 2, 4, 8, 43, 44, 45] [0, 1] [1, 2, 4, 8] [0, 1] (oneLoop (codeOf Tryz.f18) 13) n v g K) K) : iter 0 Tryz.prog SFl [] noHooks 600 88 [1, 2, 4, 8, 43, 44, 45] [0, 1] [1, 2, 4, 8] [0, 1] (oneLoop (codeOf Tryz.f18) 13) (n + 1) vals h K := hx
theorem fwl_in {r0 r1 : List Value} {b : ByteArray} {ks : List (List UInt8)} (h0 : NoNames (.cells ⟨r0⟩ 41 (0, 0))) (h1 : NoNames (.cells ⟨r1⟩ 41 (0, 0))) (hk : ∀ k ∈ ks, inU asksU (bl k) = true) (hn : ks.length ≤ 100) (K : AExit → List Value → AH → Prop) :
    ∀ (r j : Nat) (l : List (ByteArray × ByteArray)), j + r = ks.length → l.all okN = true → l.length ≤ 4 → K (.exit 0) [.string b, .pointer (some ⟨0, 0, none⟩), .pointer (some ⟨1, 0, none⟩), fz ⟨(removeAll (ks.drop j) l).map hv⟩] (fwH r0 r1) →
      iter 0 Tryz.prog SFl [] noHooks 600 88 [1, 2, 4, 8, 43, 44, 45] [0, 1] [1, 2, 4, 8] [0, 1] (oneLoop (codeOf Tryz.f18) 13) (r + 1) [.string b, .pointer (some ⟨0, 0, none⟩), .pointer (some ⟨1, 0, none⟩), fz ⟨l.map hv⟩, fz ⟨ks.map strV⟩, .int .i64 (ks.length : Int), .int .i64 (j : Int)] (fwH r0 r1) K
  | 0, j, l, e, hl, h4, hK => by
    rw [List.drop_of_length_le (by omega)] at hK
    exact fwl_it 0 ((fwl _ _ _ _ _ _ _ _ K).mpr (pick_f (decide_eq_false (by omega)) ⟨h0, h1, hK⟩))
  | r + 1, j, l, e, hl, h4, hK => by
    have hj : j < ks.length := by omega
    rw [List.drop_eq_getElem_cons hj] at hK
    have hs := removeL_sub (bl ks[j]) l
    have ih := fwl_in h0 h1 hk hn K r (j + 1) (removeL (bl ks[j]) l) (by omega) (List.all_eq_true.2 fun p hp => List.all_eq_true.1 hl p (hs.subset hp)) (Nat.le_trans hs.length_le h4) hK
    refine fwl_it (r + 1) ((fwl _ _ _ _ _ _ _ _ K).mpr (pick_t (decide_eq_true (by omega)) (ptE_ok hj (need_mk ?_ ⟨h0, h1, ?_⟩))))
    · rw [shp_hv, hlist_hv, hl, List.length_map, Nat.ble_eq_true_of_le h4, hk _ (List.getElem_mem hj)]; rfl
    · rw [hlist_hv, wrap1 (by omega)]
      exact ih
theorem oneFW : (loopAt (codeOf Tryz.f18) 13).length = 1 := by kernel_rfl
theorem fwl_hook {r0 r1 : List Value} {b : ByteArray} {ks : List (List UInt8)} {l : List (ByteArray × ByteArray)} (h0 : NoNames (.cells ⟨r0⟩ 41 (0, 0))) (h1 : NoNames (.cells ⟨r1⟩ 41 (0, 0))) (hk : ∀ k ∈ ks, inU asksU (bl k) = true) (hn : ks.length ≤ 100) (hl : l.all okN = true) (h4 : l.length ≤ 4) :
    LoopsOK 0 Tryz.prog 88 (hook1 13 (hookLS 0 88 [1, 2, 4, 8, 43, 44, 45] [0, 1] [1, 2, 4, 8] (fun vals h K => (vals = [.string b, .pointer (some ⟨0, 0, none⟩), .pointer (some ⟨1, 0, none⟩), fz ⟨l.map hv⟩, fz ⟨ks.map strV⟩, .int .i64 (ks.length : Int), .int .i64 0] ∧ h = fwH r0 r1) ∧ K (.exit 0) [.string b, .pointer (some ⟨0, 0, none⟩), .pointer (some ⟨1, 0, none⟩), fz ⟨(removeAll ks l).map hv⟩] (fwH r0 r1)))) (codeOf Tryz.f18) := by
  refine loops_one oneFW ?_
  refine hook_ok (G := []) (L := noHooks) (f := 600) (sameX := [0, 1]) SFl_ok mixed (by decide) (loops_none _ _ _ _) ?_
  rintro vals h K ⟨⟨rfl, rfl⟩, hK⟩
  exact ⟨_, fwl_in h0 h1 hk hn K ks.length 0 l (by omega) hl h4 (by rw [List.drop_zero]; exact hK)⟩
end Go.Proofs.YtfjfdemnnhfmoaaGreatDoor
