/-
  Headers: CheckRequest as a specification; Forward's loop.
-/
import Derived.Test.YtfjfdemnnhfmoaaGreatDoorHoE
namespace Go.Proofs.YtfjfdemnnhfmoaaGreatDoor
open Go.Ev Go.RowKit RecLaw PathLaw HopLaw

noncomputable def crT (a : Int) (m ho p q f b : ByteArray) (l : List (ByteArray × ByteArray)) (Q : Value → Prop) : Prop :=
  bif decide (a ≥ 0) then bif !(bif true then decide (a < 345686400000) else false) then Q (.int .i64 1) else bif inU namesU m then bif inU hostsU ho then bif inU pathsU p then bif inU qrsU q then bif okVal f then
    bif (l.map hv).all shpH && (hlist (l.map hv)).all okH && Nat.ble (l.map hv).length 50 then bif decide ((b.size : Int) > 20000) then Q (.int .i64 2) else Q (.int .i64 0) else False else False else False else False else False else False else Q (.int .i64 1)
theorem cr_eq (a : Int) (m ho p q f b : ByteArray) (l : List (ByteArray × ByteArray)) (Q : Value → Prop) : ffn Tryz.prog SCr [] 3000 [] Tryz.f35 [rqV a m ho p q f l b] h0 (fun v _ => Q v) = crT a m ho p q f b l Q := by kernel_rfl
noncomputable def okRq (a : Int) (m ho p q f b : ByteArray) (l : List (ByteArray × ByteArray)) : Bool :=
  decide (0 ≤ a) && decide (a < 345686400000) && inU namesU m && inU hostsU ho && inU pathsU p && inU qrsU q && okVal f && (l.all okH && Nat.ble l.length 50) && Nat.ble b.size 20000
theorem hlist_hv (l : List (ByteArray × ByteArray)) : hlist (l.map hv) = l := by
  induction l with
  | nil => rfl
  | cons p l ih => unfold hlist at ih ⊢; rw [List.map_cons, List.map_cons, ih]; rfl
theorem shp_hv (l : List (ByteArray × ByteArray)) : (l.map hv).all shpH = true := by
  induction l with
  | nil => rfl
  | cons p l ih => rw [List.map_cons, List.all_cons, ih]; rfl
theorem cr_fn {a : Int} {m ho p q f b : ByteArray} {l : List (ByteArray × ByteArray)} (h : okRq a m ho p q f b l = true) : FnOK 0 Tryz.prog 35 ⟨[rqV a m ho p q f l b]⟩ h0 (fun v _ => v = .int .i64 0) := by
  unfold okRq at h
  simp only [Bool.and_eq_true, decide_eq_true_eq, Nat.ble_eq] at h
  obtain ⟨⟨⟨⟨⟨⟨⟨⟨h1, h2⟩, h3⟩, h4⟩, h5⟩, h6⟩, h7⟩, h8, h9⟩, h10⟩ := h
  refine FnOK.ftree SCr_ok mixed Tryz.func35 cr_some (cr_eq a m ho p q f b l _) ?_
  refine pick_t (decide_eq_true h1) (pick_f (by rw [decide_eq_true h2]; rfl) (need_mk h3 (need_mk h4 (need_mk h5 (need_mk h6 (need_mk h7 (need_mk ?_ (pick_f (decide_eq_false (by omega)) rfl))))))))
  rw [shp_hv, hlist_hv, h8, List.length_map, Nat.ble_eq_true_of_le h9]; rfl
noncomputable def spCr (f : FuncId) (args : Array Value) (h : AH) : Option (Bool × Value × AH) :=
  cond (Nat.beq f 35) (match args with
    | ⟨[.agg ⟨[.int .i64 a, .string m, .string ho, .string p, .string q, .string f, .func (.yield 0) ⟨xs⟩ ⟨[]⟩, .string b]⟩]⟩ => some (xs.all shpH && okRq a m ho p q f b (hlist xs), .int .i64 0, h)
    | _ => none) none
theorem spCr_ok : SpOK spCr := by
  intro f args h v h' hs
  unfold spCr at hs
  obtain ⟨hf, hs2⟩ := cond_some hs
  clear hs
  have := Nat.eq_of_beq_eq_true hf
  subst this
  split at hs2
  · injection hs2 with hs
    injection hs with hb hs
    injection hs with hv hh
    subst hv hh
    rename_i a m ho p q f xs b
    simp only [Bool.and_eq_true] at hb
    have hF := cr_fn hb.2
    unfold rqV at hF
    rw [shpH_all hb.1] at hF
    exact ⟨FnOK.pure hF rfl rfl h, Nat.le_refl _⟩
  · cases hs2
end Go.Proofs.YtfjfdemnnhfmoaaGreatDoor
