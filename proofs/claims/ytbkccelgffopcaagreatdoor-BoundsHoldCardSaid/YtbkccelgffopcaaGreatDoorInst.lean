/-
  Instances as they are drawn: their check, the place of a key, their order, as specifications.
-/
import Derived.Test.YtbkccelgffopcaaGreatDoorOrdB
namespace Go.Proofs.YtbkccelgffopcaaGreatDoor
open Go.Ev Go.RowKit

def SN : SC := ⟨idn, fun _ _ _ => none, false, true⟩
theorem SN_ok : SN.cfg.OK Tryz.prog := none_ok.cfg
theorem some23 : Tryz.f23.body.isSome = true := by kernel_rfl
theorem some35 : Tryz.f35.body.isSome = true := by kernel_rfl
noncomputable def wtK (ws : List Int) (X Y : Prop) : Prop :=
  List.rec (motive := fun _ => Prop) Y (fun w _ ih => cond (decide (w < 1)) X (cond (decide (w > 100)) X ih)) ws
theorem wtK_mk {X Y : Prop} (hY : Y) : ∀ (ws : List Int), (∀ w ∈ ws, 1 ≤ w ∧ w ≤ 100) → wtK ws X Y
  | [], _ => hY
  | w :: ws, h => by
    have h1 := h w (by simp)
    exact pick_f (by simp; omega) (pick_f (by simp; omega) (wtK_mk hY ws fun v hv => h v (by simp [hv])))
def keyIs (a b : ByteArray) : Bool := beqN (natsOf a) (natsOf b)
theorem keyIs_eq {a b : ByteArray} (h : keyIs a b = true) : a = b := natsOf_inj (beqN_eq h)
theorem keyIs_refl (a : ByteArray) : keyIs a a = true := by
  unfold keyIs
  generalize natsOf a = l
  induction l with
  | nil => rfl
  | cons x l ih => simp [beqN, ih, Nat.beq_refl]
def idxI : List ByteArray → ByteArray → Int
  | [], _ => 0
  | b :: l, a => cond (keyIs b a) 0 (idxI l a + 1)
def eqKeys : List ByteArray → List ByteArray → Bool
  | [], [] => true
  | a :: l, b :: r => keyIs a b && eqKeys l r
  | _, _ => false
theorem eqKeys_eq : ∀ {a b : List ByteArray}, eqKeys a b = true → a = b
  | [], [], _ => rfl
  | a :: l, b :: r, h => by
    simp only [eqKeys, Bool.and_eq_true] at h
    rw [keyIs_eq h.1, eqKeys_eq h.2]
def isKeys (ks : List ByteArray) : Bool := keys4.any fun s => eqKeys s ks
theorem isKeys_mem {ks : List ByteArray} (h : isKeys ks = true) : ks ∈ keys4 := by
  obtain ⟨t, h1, h2⟩ := List.any_eq_true.1 h
  rw [← eqKeys_eq h2]
  exact h1
def isInst : Value → Bool
  | .agg ⟨[.string _, .int .i64 _]⟩ => true
  | _ => false
def plist (xs : List Value) : List (ByteArray × Int) := xs.map fun v => (toStr (v.cells.toList.getD 0 undef), toInt (v.cells.toList.getD 1 undef))
theorem isInst_all : ∀ {xs : List Value}, xs.all isInst = true → (plist xs).map instV = xs
  | [], _ => rfl
  | v :: l, h => by
    simp only [List.all_cons, Bool.and_eq_true] at h
    have ih := isInst_all h.2
    have hv := h.1
    unfold isInst at hv
    split at hv
    · simp only [plist, List.map_cons] at ih ⊢
      rw [ih]
      rfl
    · cases hv
theorem plist_map (l : List (ByteArray × Int)) : plist (l.map instV) = l := by
  unfold plist
  rw [List.map_map]
  exact List.map_id'' (fun p => rfl) l
theorem inst_all (l : List (ByteArray × Int)) : (l.map instV).all isInst = true := by
  rw [List.all_eq_true]
  intro v hv
  obtain ⟨p, _, rfl⟩ := List.mem_map.1 hv
  rfl
theorem ci_a (w1 : Int) (Q : Value → Prop) : ffn Tryz.prog SN [] 3000 [] Tryz.f23 [fz ⟨[.agg ⟨[.string ⟨#[105, 97]⟩, .int .i64 w1]⟩]⟩] h0 (fun v _ => Q v) = wtK [w1] (Q (.int .i64 1)) (Q (.int .i64 0)) := by kernel_rfl
theorem pl_a_0 (w1 : Int) (Q : Value → Prop) : ffn Tryz.prog SN [] 3000 [] Tryz.f35 [fz ⟨[.agg ⟨[.string ⟨#[105, 97]⟩, .int .i64 w1]⟩]⟩, .string ⟨#[105, 97]⟩] h0 (fun v _ => Q v) = Q (.tuple ⟨[.int .i64 0, .bool true]⟩) := by kernel_rfl
theorem ci_b (w1 : Int) (Q : Value → Prop) : ffn Tryz.prog SN [] 3000 [] Tryz.f23 [fz ⟨[.agg ⟨[.string ⟨#[105, 98]⟩, .int .i64 w1]⟩]⟩] h0 (fun v _ => Q v) = wtK [w1] (Q (.int .i64 1)) (Q (.int .i64 0)) := by kernel_rfl
theorem pl_b_0 (w1 : Int) (Q : Value → Prop) : ffn Tryz.prog SN [] 3000 [] Tryz.f35 [fz ⟨[.agg ⟨[.string ⟨#[105, 98]⟩, .int .i64 w1]⟩]⟩, .string ⟨#[105, 98]⟩] h0 (fun v _ => Q v) = Q (.tuple ⟨[.int .i64 0, .bool true]⟩) := by kernel_rfl
theorem ci_c (w1 : Int) (Q : Value → Prop) : ffn Tryz.prog SN [] 3000 [] Tryz.f23 [fz ⟨[.agg ⟨[.string ⟨#[105, 99]⟩, .int .i64 w1]⟩]⟩] h0 (fun v _ => Q v) = wtK [w1] (Q (.int .i64 1)) (Q (.int .i64 0)) := by kernel_rfl
theorem pl_c_0 (w1 : Int) (Q : Value → Prop) : ffn Tryz.prog SN [] 3000 [] Tryz.f35 [fz ⟨[.agg ⟨[.string ⟨#[105, 99]⟩, .int .i64 w1]⟩]⟩, .string ⟨#[105, 99]⟩] h0 (fun v _ => Q v) = Q (.tuple ⟨[.int .i64 0, .bool true]⟩) := by kernel_rfl
theorem ci_d (w1 : Int) (Q : Value → Prop) : ffn Tryz.prog SN [] 3000 [] Tryz.f23 [fz ⟨[.agg ⟨[.string ⟨#[105, 100]⟩, .int .i64 w1]⟩]⟩] h0 (fun v _ => Q v) = wtK [w1] (Q (.int .i64 1)) (Q (.int .i64 0)) := by kernel_rfl
theorem pl_d_0 (w1 : Int) (Q : Value → Prop) : ffn Tryz.prog SN [] 3000 [] Tryz.f35 [fz ⟨[.agg ⟨[.string ⟨#[105, 100]⟩, .int .i64 w1]⟩]⟩, .string ⟨#[105, 100]⟩] h0 (fun v _ => Q v) = Q (.tuple ⟨[.int .i64 0, .bool true]⟩) := by kernel_rfl
theorem ci_ab (w1 w2 : Int) (Q : Value → Prop) : ffn Tryz.prog SN [] 3000 [] Tryz.f23 [fz ⟨[.agg ⟨[.string ⟨#[105, 97]⟩, .int .i64 w1]⟩, .agg ⟨[.string ⟨#[105, 98]⟩, .int .i64 w2]⟩]⟩] h0 (fun v _ => Q v) = wtK [w1, w2] (Q (.int .i64 1)) (Q (.int .i64 0)) := by kernel_rfl
theorem pl_ab_0 (w1 w2 : Int) (Q : Value → Prop) : ffn Tryz.prog SN [] 3000 [] Tryz.f35 [fz ⟨[.agg ⟨[.string ⟨#[105, 97]⟩, .int .i64 w1]⟩, .agg ⟨[.string ⟨#[105, 98]⟩, .int .i64 w2]⟩]⟩, .string ⟨#[105, 97]⟩] h0 (fun v _ => Q v) = Q (.tuple ⟨[.int .i64 0, .bool true]⟩) := by kernel_rfl
theorem pl_ab_1 (w1 w2 : Int) (Q : Value → Prop) : ffn Tryz.prog SN [] 3000 [] Tryz.f35 [fz ⟨[.agg ⟨[.string ⟨#[105, 97]⟩, .int .i64 w1]⟩, .agg ⟨[.string ⟨#[105, 98]⟩, .int .i64 w2]⟩]⟩, .string ⟨#[105, 98]⟩] h0 (fun v _ => Q v) = Q (.tuple ⟨[.int .i64 1, .bool true]⟩) := by kernel_rfl
theorem ci_ac (w1 w2 : Int) (Q : Value → Prop) : ffn Tryz.prog SN [] 3000 [] Tryz.f23 [fz ⟨[.agg ⟨[.string ⟨#[105, 97]⟩, .int .i64 w1]⟩, .agg ⟨[.string ⟨#[105, 99]⟩, .int .i64 w2]⟩]⟩] h0 (fun v _ => Q v) = wtK [w1, w2] (Q (.int .i64 1)) (Q (.int .i64 0)) := by kernel_rfl
theorem pl_ac_0 (w1 w2 : Int) (Q : Value → Prop) : ffn Tryz.prog SN [] 3000 [] Tryz.f35 [fz ⟨[.agg ⟨[.string ⟨#[105, 97]⟩, .int .i64 w1]⟩, .agg ⟨[.string ⟨#[105, 99]⟩, .int .i64 w2]⟩]⟩, .string ⟨#[105, 97]⟩] h0 (fun v _ => Q v) = Q (.tuple ⟨[.int .i64 0, .bool true]⟩) := by kernel_rfl
theorem pl_ac_1 (w1 w2 : Int) (Q : Value → Prop) : ffn Tryz.prog SN [] 3000 [] Tryz.f35 [fz ⟨[.agg ⟨[.string ⟨#[105, 97]⟩, .int .i64 w1]⟩, .agg ⟨[.string ⟨#[105, 99]⟩, .int .i64 w2]⟩]⟩, .string ⟨#[105, 99]⟩] h0 (fun v _ => Q v) = Q (.tuple ⟨[.int .i64 1, .bool true]⟩) := by kernel_rfl
theorem ci_ad (w1 w2 : Int) (Q : Value → Prop) : ffn Tryz.prog SN [] 3000 [] Tryz.f23 [fz ⟨[.agg ⟨[.string ⟨#[105, 97]⟩, .int .i64 w1]⟩, .agg ⟨[.string ⟨#[105, 100]⟩, .int .i64 w2]⟩]⟩] h0 (fun v _ => Q v) = wtK [w1, w2] (Q (.int .i64 1)) (Q (.int .i64 0)) := by kernel_rfl
theorem pl_ad_0 (w1 w2 : Int) (Q : Value → Prop) : ffn Tryz.prog SN [] 3000 [] Tryz.f35 [fz ⟨[.agg ⟨[.string ⟨#[105, 97]⟩, .int .i64 w1]⟩, .agg ⟨[.string ⟨#[105, 100]⟩, .int .i64 w2]⟩]⟩, .string ⟨#[105, 97]⟩] h0 (fun v _ => Q v) = Q (.tuple ⟨[.int .i64 0, .bool true]⟩) := by kernel_rfl
theorem pl_ad_1 (w1 w2 : Int) (Q : Value → Prop) : ffn Tryz.prog SN [] 3000 [] Tryz.f35 [fz ⟨[.agg ⟨[.string ⟨#[105, 97]⟩, .int .i64 w1]⟩, .agg ⟨[.string ⟨#[105, 100]⟩, .int .i64 w2]⟩]⟩, .string ⟨#[105, 100]⟩] h0 (fun v _ => Q v) = Q (.tuple ⟨[.int .i64 1, .bool true]⟩) := by kernel_rfl
theorem ci_bc (w1 w2 : Int) (Q : Value → Prop) : ffn Tryz.prog SN [] 3000 [] Tryz.f23 [fz ⟨[.agg ⟨[.string ⟨#[105, 98]⟩, .int .i64 w1]⟩, .agg ⟨[.string ⟨#[105, 99]⟩, .int .i64 w2]⟩]⟩] h0 (fun v _ => Q v) = wtK [w1, w2] (Q (.int .i64 1)) (Q (.int .i64 0)) := by kernel_rfl
theorem pl_bc_0 (w1 w2 : Int) (Q : Value → Prop) : ffn Tryz.prog SN [] 3000 [] Tryz.f35 [fz ⟨[.agg ⟨[.string ⟨#[105, 98]⟩, .int .i64 w1]⟩, .agg ⟨[.string ⟨#[105, 99]⟩, .int .i64 w2]⟩]⟩, .string ⟨#[105, 98]⟩] h0 (fun v _ => Q v) = Q (.tuple ⟨[.int .i64 0, .bool true]⟩) := by kernel_rfl
theorem pl_bc_1 (w1 w2 : Int) (Q : Value → Prop) : ffn Tryz.prog SN [] 3000 [] Tryz.f35 [fz ⟨[.agg ⟨[.string ⟨#[105, 98]⟩, .int .i64 w1]⟩, .agg ⟨[.string ⟨#[105, 99]⟩, .int .i64 w2]⟩]⟩, .string ⟨#[105, 99]⟩] h0 (fun v _ => Q v) = Q (.tuple ⟨[.int .i64 1, .bool true]⟩) := by kernel_rfl
theorem ci_bd (w1 w2 : Int) (Q : Value → Prop) : ffn Tryz.prog SN [] 3000 [] Tryz.f23 [fz ⟨[.agg ⟨[.string ⟨#[105, 98]⟩, .int .i64 w1]⟩, .agg ⟨[.string ⟨#[105, 100]⟩, .int .i64 w2]⟩]⟩] h0 (fun v _ => Q v) = wtK [w1, w2] (Q (.int .i64 1)) (Q (.int .i64 0)) := by kernel_rfl
theorem pl_bd_0 (w1 w2 : Int) (Q : Value → Prop) : ffn Tryz.prog SN [] 3000 [] Tryz.f35 [fz ⟨[.agg ⟨[.string ⟨#[105, 98]⟩, .int .i64 w1]⟩, .agg ⟨[.string ⟨#[105, 100]⟩, .int .i64 w2]⟩]⟩, .string ⟨#[105, 98]⟩] h0 (fun v _ => Q v) = Q (.tuple ⟨[.int .i64 0, .bool true]⟩) := by kernel_rfl
theorem pl_bd_1 (w1 w2 : Int) (Q : Value → Prop) : ffn Tryz.prog SN [] 3000 [] Tryz.f35 [fz ⟨[.agg ⟨[.string ⟨#[105, 98]⟩, .int .i64 w1]⟩, .agg ⟨[.string ⟨#[105, 100]⟩, .int .i64 w2]⟩]⟩, .string ⟨#[105, 100]⟩] h0 (fun v _ => Q v) = Q (.tuple ⟨[.int .i64 1, .bool true]⟩) := by kernel_rfl
theorem ci_cd (w1 w2 : Int) (Q : Value → Prop) : ffn Tryz.prog SN [] 3000 [] Tryz.f23 [fz ⟨[.agg ⟨[.string ⟨#[105, 99]⟩, .int .i64 w1]⟩, .agg ⟨[.string ⟨#[105, 100]⟩, .int .i64 w2]⟩]⟩] h0 (fun v _ => Q v) = wtK [w1, w2] (Q (.int .i64 1)) (Q (.int .i64 0)) := by kernel_rfl
theorem pl_cd_0 (w1 w2 : Int) (Q : Value → Prop) : ffn Tryz.prog SN [] 3000 [] Tryz.f35 [fz ⟨[.agg ⟨[.string ⟨#[105, 99]⟩, .int .i64 w1]⟩, .agg ⟨[.string ⟨#[105, 100]⟩, .int .i64 w2]⟩]⟩, .string ⟨#[105, 99]⟩] h0 (fun v _ => Q v) = Q (.tuple ⟨[.int .i64 0, .bool true]⟩) := by kernel_rfl
theorem pl_cd_1 (w1 w2 : Int) (Q : Value → Prop) : ffn Tryz.prog SN [] 3000 [] Tryz.f35 [fz ⟨[.agg ⟨[.string ⟨#[105, 99]⟩, .int .i64 w1]⟩, .agg ⟨[.string ⟨#[105, 100]⟩, .int .i64 w2]⟩]⟩, .string ⟨#[105, 100]⟩] h0 (fun v _ => Q v) = Q (.tuple ⟨[.int .i64 1, .bool true]⟩) := by kernel_rfl
theorem ci_abc (w1 w2 w3 : Int) (Q : Value → Prop) : ffn Tryz.prog SN [] 3000 [] Tryz.f23 [fz ⟨[.agg ⟨[.string ⟨#[105, 97]⟩, .int .i64 w1]⟩, .agg ⟨[.string ⟨#[105, 98]⟩, .int .i64 w2]⟩, .agg ⟨[.string ⟨#[105, 99]⟩, .int .i64 w3]⟩]⟩] h0 (fun v _ => Q v) = wtK [w1, w2, w3] (Q (.int .i64 1)) (Q (.int .i64 0)) := by kernel_rfl
theorem pl_abc_0 (w1 w2 w3 : Int) (Q : Value → Prop) : ffn Tryz.prog SN [] 3000 [] Tryz.f35 [fz ⟨[.agg ⟨[.string ⟨#[105, 97]⟩, .int .i64 w1]⟩, .agg ⟨[.string ⟨#[105, 98]⟩, .int .i64 w2]⟩, .agg ⟨[.string ⟨#[105, 99]⟩, .int .i64 w3]⟩]⟩, .string ⟨#[105, 97]⟩] h0 (fun v _ => Q v) = Q (.tuple ⟨[.int .i64 0, .bool true]⟩) := by kernel_rfl
theorem pl_abc_1 (w1 w2 w3 : Int) (Q : Value → Prop) : ffn Tryz.prog SN [] 3000 [] Tryz.f35 [fz ⟨[.agg ⟨[.string ⟨#[105, 97]⟩, .int .i64 w1]⟩, .agg ⟨[.string ⟨#[105, 98]⟩, .int .i64 w2]⟩, .agg ⟨[.string ⟨#[105, 99]⟩, .int .i64 w3]⟩]⟩, .string ⟨#[105, 98]⟩] h0 (fun v _ => Q v) = Q (.tuple ⟨[.int .i64 1, .bool true]⟩) := by kernel_rfl
theorem pl_abc_2 (w1 w2 w3 : Int) (Q : Value → Prop) : ffn Tryz.prog SN [] 3000 [] Tryz.f35 [fz ⟨[.agg ⟨[.string ⟨#[105, 97]⟩, .int .i64 w1]⟩, .agg ⟨[.string ⟨#[105, 98]⟩, .int .i64 w2]⟩, .agg ⟨[.string ⟨#[105, 99]⟩, .int .i64 w3]⟩]⟩, .string ⟨#[105, 99]⟩] h0 (fun v _ => Q v) = Q (.tuple ⟨[.int .i64 2, .bool true]⟩) := by kernel_rfl
theorem ci_abd (w1 w2 w3 : Int) (Q : Value → Prop) : ffn Tryz.prog SN [] 3000 [] Tryz.f23 [fz ⟨[.agg ⟨[.string ⟨#[105, 97]⟩, .int .i64 w1]⟩, .agg ⟨[.string ⟨#[105, 98]⟩, .int .i64 w2]⟩, .agg ⟨[.string ⟨#[105, 100]⟩, .int .i64 w3]⟩]⟩] h0 (fun v _ => Q v) = wtK [w1, w2, w3] (Q (.int .i64 1)) (Q (.int .i64 0)) := by kernel_rfl
theorem pl_abd_0 (w1 w2 w3 : Int) (Q : Value → Prop) : ffn Tryz.prog SN [] 3000 [] Tryz.f35 [fz ⟨[.agg ⟨[.string ⟨#[105, 97]⟩, .int .i64 w1]⟩, .agg ⟨[.string ⟨#[105, 98]⟩, .int .i64 w2]⟩, .agg ⟨[.string ⟨#[105, 100]⟩, .int .i64 w3]⟩]⟩, .string ⟨#[105, 97]⟩] h0 (fun v _ => Q v) = Q (.tuple ⟨[.int .i64 0, .bool true]⟩) := by kernel_rfl
theorem pl_abd_1 (w1 w2 w3 : Int) (Q : Value → Prop) : ffn Tryz.prog SN [] 3000 [] Tryz.f35 [fz ⟨[.agg ⟨[.string ⟨#[105, 97]⟩, .int .i64 w1]⟩, .agg ⟨[.string ⟨#[105, 98]⟩, .int .i64 w2]⟩, .agg ⟨[.string ⟨#[105, 100]⟩, .int .i64 w3]⟩]⟩, .string ⟨#[105, 98]⟩] h0 (fun v _ => Q v) = Q (.tuple ⟨[.int .i64 1, .bool true]⟩) := by kernel_rfl
theorem pl_abd_2 (w1 w2 w3 : Int) (Q : Value → Prop) : ffn Tryz.prog SN [] 3000 [] Tryz.f35 [fz ⟨[.agg ⟨[.string ⟨#[105, 97]⟩, .int .i64 w1]⟩, .agg ⟨[.string ⟨#[105, 98]⟩, .int .i64 w2]⟩, .agg ⟨[.string ⟨#[105, 100]⟩, .int .i64 w3]⟩]⟩, .string ⟨#[105, 100]⟩] h0 (fun v _ => Q v) = Q (.tuple ⟨[.int .i64 2, .bool true]⟩) := by kernel_rfl
theorem ci_acd (w1 w2 w3 : Int) (Q : Value → Prop) : ffn Tryz.prog SN [] 3000 [] Tryz.f23 [fz ⟨[.agg ⟨[.string ⟨#[105, 97]⟩, .int .i64 w1]⟩, .agg ⟨[.string ⟨#[105, 99]⟩, .int .i64 w2]⟩, .agg ⟨[.string ⟨#[105, 100]⟩, .int .i64 w3]⟩]⟩] h0 (fun v _ => Q v) = wtK [w1, w2, w3] (Q (.int .i64 1)) (Q (.int .i64 0)) := by kernel_rfl
theorem pl_acd_0 (w1 w2 w3 : Int) (Q : Value → Prop) : ffn Tryz.prog SN [] 3000 [] Tryz.f35 [fz ⟨[.agg ⟨[.string ⟨#[105, 97]⟩, .int .i64 w1]⟩, .agg ⟨[.string ⟨#[105, 99]⟩, .int .i64 w2]⟩, .agg ⟨[.string ⟨#[105, 100]⟩, .int .i64 w3]⟩]⟩, .string ⟨#[105, 97]⟩] h0 (fun v _ => Q v) = Q (.tuple ⟨[.int .i64 0, .bool true]⟩) := by kernel_rfl
theorem pl_acd_1 (w1 w2 w3 : Int) (Q : Value → Prop) : ffn Tryz.prog SN [] 3000 [] Tryz.f35 [fz ⟨[.agg ⟨[.string ⟨#[105, 97]⟩, .int .i64 w1]⟩, .agg ⟨[.string ⟨#[105, 99]⟩, .int .i64 w2]⟩, .agg ⟨[.string ⟨#[105, 100]⟩, .int .i64 w3]⟩]⟩, .string ⟨#[105, 99]⟩] h0 (fun v _ => Q v) = Q (.tuple ⟨[.int .i64 1, .bool true]⟩) := by kernel_rfl
theorem pl_acd_2 (w1 w2 w3 : Int) (Q : Value → Prop) : ffn Tryz.prog SN [] 3000 [] Tryz.f35 [fz ⟨[.agg ⟨[.string ⟨#[105, 97]⟩, .int .i64 w1]⟩, .agg ⟨[.string ⟨#[105, 99]⟩, .int .i64 w2]⟩, .agg ⟨[.string ⟨#[105, 100]⟩, .int .i64 w3]⟩]⟩, .string ⟨#[105, 100]⟩] h0 (fun v _ => Q v) = Q (.tuple ⟨[.int .i64 2, .bool true]⟩) := by kernel_rfl
theorem ci_bcd (w1 w2 w3 : Int) (Q : Value → Prop) : ffn Tryz.prog SN [] 3000 [] Tryz.f23 [fz ⟨[.agg ⟨[.string ⟨#[105, 98]⟩, .int .i64 w1]⟩, .agg ⟨[.string ⟨#[105, 99]⟩, .int .i64 w2]⟩, .agg ⟨[.string ⟨#[105, 100]⟩, .int .i64 w3]⟩]⟩] h0 (fun v _ => Q v) = wtK [w1, w2, w3] (Q (.int .i64 1)) (Q (.int .i64 0)) := by kernel_rfl
theorem pl_bcd_0 (w1 w2 w3 : Int) (Q : Value → Prop) : ffn Tryz.prog SN [] 3000 [] Tryz.f35 [fz ⟨[.agg ⟨[.string ⟨#[105, 98]⟩, .int .i64 w1]⟩, .agg ⟨[.string ⟨#[105, 99]⟩, .int .i64 w2]⟩, .agg ⟨[.string ⟨#[105, 100]⟩, .int .i64 w3]⟩]⟩, .string ⟨#[105, 98]⟩] h0 (fun v _ => Q v) = Q (.tuple ⟨[.int .i64 0, .bool true]⟩) := by kernel_rfl
theorem pl_bcd_1 (w1 w2 w3 : Int) (Q : Value → Prop) : ffn Tryz.prog SN [] 3000 [] Tryz.f35 [fz ⟨[.agg ⟨[.string ⟨#[105, 98]⟩, .int .i64 w1]⟩, .agg ⟨[.string ⟨#[105, 99]⟩, .int .i64 w2]⟩, .agg ⟨[.string ⟨#[105, 100]⟩, .int .i64 w3]⟩]⟩, .string ⟨#[105, 99]⟩] h0 (fun v _ => Q v) = Q (.tuple ⟨[.int .i64 1, .bool true]⟩) := by kernel_rfl
theorem pl_bcd_2 (w1 w2 w3 : Int) (Q : Value → Prop) : ffn Tryz.prog SN [] 3000 [] Tryz.f35 [fz ⟨[.agg ⟨[.string ⟨#[105, 98]⟩, .int .i64 w1]⟩, .agg ⟨[.string ⟨#[105, 99]⟩, .int .i64 w2]⟩, .agg ⟨[.string ⟨#[105, 100]⟩, .int .i64 w3]⟩]⟩, .string ⟨#[105, 100]⟩] h0 (fun v _ => Q v) = Q (.tuple ⟨[.int .i64 2, .bool true]⟩) := by kernel_rfl
theorem ci_abcd (w1 w2 w3 w4 : Int) (Q : Value → Prop) : ffn Tryz.prog SN [] 3000 [] Tryz.f23 [fz ⟨[.agg ⟨[.string ⟨#[105, 97]⟩, .int .i64 w1]⟩, .agg ⟨[.string ⟨#[105, 98]⟩, .int .i64 w2]⟩, .agg ⟨[.string ⟨#[105, 99]⟩, .int .i64 w3]⟩, .agg ⟨[.string ⟨#[105, 100]⟩, .int .i64 w4]⟩]⟩] h0 (fun v _ => Q v) = wtK [w1, w2, w3, w4] (Q (.int .i64 1)) (Q (.int .i64 0)) := by kernel_rfl
theorem pl_abcd_0 (w1 w2 w3 w4 : Int) (Q : Value → Prop) : ffn Tryz.prog SN [] 3000 [] Tryz.f35 [fz ⟨[.agg ⟨[.string ⟨#[105, 97]⟩, .int .i64 w1]⟩, .agg ⟨[.string ⟨#[105, 98]⟩, .int .i64 w2]⟩, .agg ⟨[.string ⟨#[105, 99]⟩, .int .i64 w3]⟩, .agg ⟨[.string ⟨#[105, 100]⟩, .int .i64 w4]⟩]⟩, .string ⟨#[105, 97]⟩] h0 (fun v _ => Q v) = Q (.tuple ⟨[.int .i64 0, .bool true]⟩) := by kernel_rfl
theorem pl_abcd_1 (w1 w2 w3 w4 : Int) (Q : Value → Prop) : ffn Tryz.prog SN [] 3000 [] Tryz.f35 [fz ⟨[.agg ⟨[.string ⟨#[105, 97]⟩, .int .i64 w1]⟩, .agg ⟨[.string ⟨#[105, 98]⟩, .int .i64 w2]⟩, .agg ⟨[.string ⟨#[105, 99]⟩, .int .i64 w3]⟩, .agg ⟨[.string ⟨#[105, 100]⟩, .int .i64 w4]⟩]⟩, .string ⟨#[105, 98]⟩] h0 (fun v _ => Q v) = Q (.tuple ⟨[.int .i64 1, .bool true]⟩) := by kernel_rfl
theorem pl_abcd_2 (w1 w2 w3 w4 : Int) (Q : Value → Prop) : ffn Tryz.prog SN [] 3000 [] Tryz.f35 [fz ⟨[.agg ⟨[.string ⟨#[105, 97]⟩, .int .i64 w1]⟩, .agg ⟨[.string ⟨#[105, 98]⟩, .int .i64 w2]⟩, .agg ⟨[.string ⟨#[105, 99]⟩, .int .i64 w3]⟩, .agg ⟨[.string ⟨#[105, 100]⟩, .int .i64 w4]⟩]⟩, .string ⟨#[105, 99]⟩] h0 (fun v _ => Q v) = Q (.tuple ⟨[.int .i64 2, .bool true]⟩) := by kernel_rfl
theorem pl_abcd_3 (w1 w2 w3 w4 : Int) (Q : Value → Prop) : ffn Tryz.prog SN [] 3000 [] Tryz.f35 [fz ⟨[.agg ⟨[.string ⟨#[105, 97]⟩, .int .i64 w1]⟩, .agg ⟨[.string ⟨#[105, 98]⟩, .int .i64 w2]⟩, .agg ⟨[.string ⟨#[105, 99]⟩, .int .i64 w3]⟩, .agg ⟨[.string ⟨#[105, 100]⟩, .int .i64 w4]⟩]⟩, .string ⟨#[105, 100]⟩] h0 (fun v _ => Q v) = Q (.tuple ⟨[.int .i64 3, .bool true]⟩) := by kernel_rfl
theorem ci_fn (l : List (ByteArray × Int)) (h : l.map Prod.fst ∈ keys4) (hw : ∀ p ∈ l, 1 ≤ p.2 ∧ p.2 ≤ 100) : FnOK 0 Tryz.prog 23 ⟨[fz ⟨l.map instV⟩]⟩ h0 (fun v _ => v = .int .i64 0) := by
  have hws : ∀ w ∈ l.map Prod.snd, 1 ≤ w ∧ w ≤ 100 := by
    intro w hw2
    obtain ⟨p, hp, rfl⟩ := List.mem_map.1 hw2
    exact hw p hp
  clear hw
  simp only [keys4, List.mem_cons, List.not_mem_nil, or_false] at h
  rcases h with h | h | h | h | h | h | h | h | h | h | h | h | h | h | h
  · match l, h, hws with
    | [(a0, w0)], h, hws =>
      simp only [List.map_cons, List.map_nil, List.cons.injEq, and_true] at h
      subst h
      exact FnOK.ftree SN_ok mixed Tryz.func23 some23 (ci_a w0 fun v => v = .int .i64 0) (wtK_mk rfl _ hws)
  · match l, h, hws with
    | [(a0, w0)], h, hws =>
      simp only [List.map_cons, List.map_nil, List.cons.injEq, and_true] at h
      subst h
      exact FnOK.ftree SN_ok mixed Tryz.func23 some23 (ci_b w0 fun v => v = .int .i64 0) (wtK_mk rfl _ hws)
  · match l, h, hws with
    | [(a0, w0)], h, hws =>
      simp only [List.map_cons, List.map_nil, List.cons.injEq, and_true] at h
      subst h
      exact FnOK.ftree SN_ok mixed Tryz.func23 some23 (ci_c w0 fun v => v = .int .i64 0) (wtK_mk rfl _ hws)
  · match l, h, hws with
    | [(a0, w0)], h, hws =>
      simp only [List.map_cons, List.map_nil, List.cons.injEq, and_true] at h
      subst h
      exact FnOK.ftree SN_ok mixed Tryz.func23 some23 (ci_d w0 fun v => v = .int .i64 0) (wtK_mk rfl _ hws)
  · match l, h, hws with
    | [(a0, w0), (a1, w1)], h, hws =>
      simp only [List.map_cons, List.map_nil, List.cons.injEq, and_true] at h
      obtain ⟨rfl, rfl⟩ := h
      exact FnOK.ftree SN_ok mixed Tryz.func23 some23 (ci_ab w0 w1 fun v => v = .int .i64 0) (wtK_mk rfl _ hws)
  · match l, h, hws with
    | [(a0, w0), (a1, w1)], h, hws =>
      simp only [List.map_cons, List.map_nil, List.cons.injEq, and_true] at h
      obtain ⟨rfl, rfl⟩ := h
      exact FnOK.ftree SN_ok mixed Tryz.func23 some23 (ci_ac w0 w1 fun v => v = .int .i64 0) (wtK_mk rfl _ hws)
  · match l, h, hws with
    | [(a0, w0), (a1, w1)], h, hws =>
      simp only [List.map_cons, List.map_nil, List.cons.injEq, and_true] at h
      obtain ⟨rfl, rfl⟩ := h
      exact FnOK.ftree SN_ok mixed Tryz.func23 some23 (ci_ad w0 w1 fun v => v = .int .i64 0) (wtK_mk rfl _ hws)
  · match l, h, hws with
    | [(a0, w0), (a1, w1)], h, hws =>
      simp only [List.map_cons, List.map_nil, List.cons.injEq, and_true] at h
      obtain ⟨rfl, rfl⟩ := h
      exact FnOK.ftree SN_ok mixed Tryz.func23 some23 (ci_bc w0 w1 fun v => v = .int .i64 0) (wtK_mk rfl _ hws)
  · match l, h, hws with
    | [(a0, w0), (a1, w1)], h, hws =>
      simp only [List.map_cons, List.map_nil, List.cons.injEq, and_true] at h
      obtain ⟨rfl, rfl⟩ := h
      exact FnOK.ftree SN_ok mixed Tryz.func23 some23 (ci_bd w0 w1 fun v => v = .int .i64 0) (wtK_mk rfl _ hws)
  · match l, h, hws with
    | [(a0, w0), (a1, w1)], h, hws =>
      simp only [List.map_cons, List.map_nil, List.cons.injEq, and_true] at h
      obtain ⟨rfl, rfl⟩ := h
      exact FnOK.ftree SN_ok mixed Tryz.func23 some23 (ci_cd w0 w1 fun v => v = .int .i64 0) (wtK_mk rfl _ hws)
  · match l, h, hws with
    | [(a0, w0), (a1, w1), (a2, w2)], h, hws =>
      simp only [List.map_cons, List.map_nil, List.cons.injEq, and_true] at h
      obtain ⟨rfl, rfl, rfl⟩ := h
      exact FnOK.ftree SN_ok mixed Tryz.func23 some23 (ci_abc w0 w1 w2 fun v => v = .int .i64 0) (wtK_mk rfl _ hws)
  · match l, h, hws with
    | [(a0, w0), (a1, w1), (a2, w2)], h, hws =>
      simp only [List.map_cons, List.map_nil, List.cons.injEq, and_true] at h
      obtain ⟨rfl, rfl, rfl⟩ := h
      exact FnOK.ftree SN_ok mixed Tryz.func23 some23 (ci_abd w0 w1 w2 fun v => v = .int .i64 0) (wtK_mk rfl _ hws)
  · match l, h, hws with
    | [(a0, w0), (a1, w1), (a2, w2)], h, hws =>
      simp only [List.map_cons, List.map_nil, List.cons.injEq, and_true] at h
      obtain ⟨rfl, rfl, rfl⟩ := h
      exact FnOK.ftree SN_ok mixed Tryz.func23 some23 (ci_acd w0 w1 w2 fun v => v = .int .i64 0) (wtK_mk rfl _ hws)
  · match l, h, hws with
    | [(a0, w0), (a1, w1), (a2, w2)], h, hws =>
      simp only [List.map_cons, List.map_nil, List.cons.injEq, and_true] at h
      obtain ⟨rfl, rfl, rfl⟩ := h
      exact FnOK.ftree SN_ok mixed Tryz.func23 some23 (ci_bcd w0 w1 w2 fun v => v = .int .i64 0) (wtK_mk rfl _ hws)
  · match l, h, hws with
    | [(a0, w0), (a1, w1), (a2, w2), (a3, w3)], h, hws =>
      simp only [List.map_cons, List.map_nil, List.cons.injEq, and_true] at h
      obtain ⟨rfl, rfl, rfl, rfl⟩ := h
      exact FnOK.ftree SN_ok mixed Tryz.func23 some23 (ci_abcd w0 w1 w2 w3 fun v => v = .int .i64 0) (wtK_mk rfl _ hws)
theorem pl_fn (l : List (ByteArray × Int)) (a : ByteArray) (h : l.map Prod.fst ∈ keys4) (ha : a ∈ l.map Prod.fst) : FnOK 0 Tryz.prog 35 ⟨[fz ⟨l.map instV⟩, .string a]⟩ h0 (fun v _ => v = .tuple ⟨[.int .i64 (idxI (l.map Prod.fst) a), .bool true]⟩) := by
  simp only [keys4, List.mem_cons, List.not_mem_nil, or_false] at h
  rcases h with h | h | h | h | h | h | h | h | h | h | h | h | h | h | h
  · match l, h, ha with
    | [(a0, w0)], h, ha =>
      simp only [List.map_cons, List.map_nil, List.cons.injEq, and_true] at h
      subst h
      simp only [List.map_cons, List.map_nil, List.mem_cons, List.not_mem_nil, or_false] at ha
      subst ha
      exact FnOK.ftree SN_ok mixed Tryz.func35 some35 (pl_a_0 w0 fun v => v = _) rfl
  · match l, h, ha with
    | [(a0, w0)], h, ha =>
      simp only [List.map_cons, List.map_nil, List.cons.injEq, and_true] at h
      subst h
      simp only [List.map_cons, List.map_nil, List.mem_cons, List.not_mem_nil, or_false] at ha
      subst ha
      exact FnOK.ftree SN_ok mixed Tryz.func35 some35 (pl_b_0 w0 fun v => v = _) rfl
  · match l, h, ha with
    | [(a0, w0)], h, ha =>
      simp only [List.map_cons, List.map_nil, List.cons.injEq, and_true] at h
      subst h
      simp only [List.map_cons, List.map_nil, List.mem_cons, List.not_mem_nil, or_false] at ha
      subst ha
      exact FnOK.ftree SN_ok mixed Tryz.func35 some35 (pl_c_0 w0 fun v => v = _) rfl
  · match l, h, ha with
    | [(a0, w0)], h, ha =>
      simp only [List.map_cons, List.map_nil, List.cons.injEq, and_true] at h
      subst h
      simp only [List.map_cons, List.map_nil, List.mem_cons, List.not_mem_nil, or_false] at ha
      subst ha
      exact FnOK.ftree SN_ok mixed Tryz.func35 some35 (pl_d_0 w0 fun v => v = _) rfl
  · match l, h, ha with
    | [(a0, w0), (a1, w1)], h, ha =>
      simp only [List.map_cons, List.map_nil, List.cons.injEq, and_true] at h
      obtain ⟨rfl, rfl⟩ := h
      simp only [List.map_cons, List.map_nil, List.mem_cons, List.not_mem_nil, or_false] at ha
      rcases ha with rfl | rfl
      · exact FnOK.ftree SN_ok mixed Tryz.func35 some35 (pl_ab_0 w0 w1 fun v => v = _) rfl
      · exact FnOK.ftree SN_ok mixed Tryz.func35 some35 (pl_ab_1 w0 w1 fun v => v = _) rfl
  · match l, h, ha with
    | [(a0, w0), (a1, w1)], h, ha =>
      simp only [List.map_cons, List.map_nil, List.cons.injEq, and_true] at h
      obtain ⟨rfl, rfl⟩ := h
      simp only [List.map_cons, List.map_nil, List.mem_cons, List.not_mem_nil, or_false] at ha
      rcases ha with rfl | rfl
      · exact FnOK.ftree SN_ok mixed Tryz.func35 some35 (pl_ac_0 w0 w1 fun v => v = _) rfl
      · exact FnOK.ftree SN_ok mixed Tryz.func35 some35 (pl_ac_1 w0 w1 fun v => v = _) rfl
  · match l, h, ha with
    | [(a0, w0), (a1, w1)], h, ha =>
      simp only [List.map_cons, List.map_nil, List.cons.injEq, and_true] at h
      obtain ⟨rfl, rfl⟩ := h
      simp only [List.map_cons, List.map_nil, List.mem_cons, List.not_mem_nil, or_false] at ha
      rcases ha with rfl | rfl
      · exact FnOK.ftree SN_ok mixed Tryz.func35 some35 (pl_ad_0 w0 w1 fun v => v = _) rfl
      · exact FnOK.ftree SN_ok mixed Tryz.func35 some35 (pl_ad_1 w0 w1 fun v => v = _) rfl
  · match l, h, ha with
    | [(a0, w0), (a1, w1)], h, ha =>
      simp only [List.map_cons, List.map_nil, List.cons.injEq, and_true] at h
      obtain ⟨rfl, rfl⟩ := h
      simp only [List.map_cons, List.map_nil, List.mem_cons, List.not_mem_nil, or_false] at ha
      rcases ha with rfl | rfl
      · exact FnOK.ftree SN_ok mixed Tryz.func35 some35 (pl_bc_0 w0 w1 fun v => v = _) rfl
      · exact FnOK.ftree SN_ok mixed Tryz.func35 some35 (pl_bc_1 w0 w1 fun v => v = _) rfl
  · match l, h, ha with
    | [(a0, w0), (a1, w1)], h, ha =>
      simp only [List.map_cons, List.map_nil, List.cons.injEq, and_true] at h
      obtain ⟨rfl, rfl⟩ := h
      simp only [List.map_cons, List.map_nil, List.mem_cons, List.not_mem_nil, or_false] at ha
      rcases ha with rfl | rfl
      · exact FnOK.ftree SN_ok mixed Tryz.func35 some35 (pl_bd_0 w0 w1 fun v => v = _) rfl
      · exact FnOK.ftree SN_ok mixed Tryz.func35 some35 (pl_bd_1 w0 w1 fun v => v = _) rfl
  · match l, h, ha with
    | [(a0, w0), (a1, w1)], h, ha =>
      simp only [List.map_cons, List.map_nil, List.cons.injEq, and_true] at h
      obtain ⟨rfl, rfl⟩ := h
      simp only [List.map_cons, List.map_nil, List.mem_cons, List.not_mem_nil, or_false] at ha
      rcases ha with rfl | rfl
      · exact FnOK.ftree SN_ok mixed Tryz.func35 some35 (pl_cd_0 w0 w1 fun v => v = _) rfl
      · exact FnOK.ftree SN_ok mixed Tryz.func35 some35 (pl_cd_1 w0 w1 fun v => v = _) rfl
  · match l, h, ha with
    | [(a0, w0), (a1, w1), (a2, w2)], h, ha =>
      simp only [List.map_cons, List.map_nil, List.cons.injEq, and_true] at h
      obtain ⟨rfl, rfl, rfl⟩ := h
      simp only [List.map_cons, List.map_nil, List.mem_cons, List.not_mem_nil, or_false] at ha
      rcases ha with rfl | rfl | rfl
      · exact FnOK.ftree SN_ok mixed Tryz.func35 some35 (pl_abc_0 w0 w1 w2 fun v => v = _) rfl
      · exact FnOK.ftree SN_ok mixed Tryz.func35 some35 (pl_abc_1 w0 w1 w2 fun v => v = _) rfl
      · exact FnOK.ftree SN_ok mixed Tryz.func35 some35 (pl_abc_2 w0 w1 w2 fun v => v = _) rfl
  · match l, h, ha with
    | [(a0, w0), (a1, w1), (a2, w2)], h, ha =>
      simp only [List.map_cons, List.map_nil, List.cons.injEq, and_true] at h
      obtain ⟨rfl, rfl, rfl⟩ := h
      simp only [List.map_cons, List.map_nil, List.mem_cons, List.not_mem_nil, or_false] at ha
      rcases ha with rfl | rfl | rfl
      · exact FnOK.ftree SN_ok mixed Tryz.func35 some35 (pl_abd_0 w0 w1 w2 fun v => v = _) rfl
      · exact FnOK.ftree SN_ok mixed Tryz.func35 some35 (pl_abd_1 w0 w1 w2 fun v => v = _) rfl
      · exact FnOK.ftree SN_ok mixed Tryz.func35 some35 (pl_abd_2 w0 w1 w2 fun v => v = _) rfl
  · match l, h, ha with
    | [(a0, w0), (a1, w1), (a2, w2)], h, ha =>
      simp only [List.map_cons, List.map_nil, List.cons.injEq, and_true] at h
      obtain ⟨rfl, rfl, rfl⟩ := h
      simp only [List.map_cons, List.map_nil, List.mem_cons, List.not_mem_nil, or_false] at ha
      rcases ha with rfl | rfl | rfl
      · exact FnOK.ftree SN_ok mixed Tryz.func35 some35 (pl_acd_0 w0 w1 w2 fun v => v = _) rfl
      · exact FnOK.ftree SN_ok mixed Tryz.func35 some35 (pl_acd_1 w0 w1 w2 fun v => v = _) rfl
      · exact FnOK.ftree SN_ok mixed Tryz.func35 some35 (pl_acd_2 w0 w1 w2 fun v => v = _) rfl
  · match l, h, ha with
    | [(a0, w0), (a1, w1), (a2, w2)], h, ha =>
      simp only [List.map_cons, List.map_nil, List.cons.injEq, and_true] at h
      obtain ⟨rfl, rfl, rfl⟩ := h
      simp only [List.map_cons, List.map_nil, List.mem_cons, List.not_mem_nil, or_false] at ha
      rcases ha with rfl | rfl | rfl
      · exact FnOK.ftree SN_ok mixed Tryz.func35 some35 (pl_bcd_0 w0 w1 w2 fun v => v = _) rfl
      · exact FnOK.ftree SN_ok mixed Tryz.func35 some35 (pl_bcd_1 w0 w1 w2 fun v => v = _) rfl
      · exact FnOK.ftree SN_ok mixed Tryz.func35 some35 (pl_bcd_2 w0 w1 w2 fun v => v = _) rfl
  · match l, h, ha with
    | [(a0, w0), (a1, w1), (a2, w2), (a3, w3)], h, ha =>
      simp only [List.map_cons, List.map_nil, List.cons.injEq, and_true] at h
      obtain ⟨rfl, rfl, rfl, rfl⟩ := h
      simp only [List.map_cons, List.map_nil, List.mem_cons, List.not_mem_nil, or_false] at ha
      rcases ha with rfl | rfl | rfl | rfl
      · exact FnOK.ftree SN_ok mixed Tryz.func35 some35 (pl_abcd_0 w0 w1 w2 w3 fun v => v = _) rfl
      · exact FnOK.ftree SN_ok mixed Tryz.func35 some35 (pl_abcd_1 w0 w1 w2 w3 fun v => v = _) rfl
      · exact FnOK.ftree SN_ok mixed Tryz.func35 some35 (pl_abcd_2 w0 w1 w2 w3 fun v => v = _) rfl
      · exact FnOK.ftree SN_ok mixed Tryz.func35 some35 (pl_abcd_3 w0 w1 w2 w3 fun v => v = _) rfl
def wtOk (p : ByteArray × Int) : Bool := decide (1 ≤ p.2) && decide (p.2 ≤ 100)
def spChkI (f : FuncId) (args : Array Value) (h : AH) : Option (Bool × Value × AH) :=
  cond (Nat.beq f 23) (match args with
    | ⟨[.func (.yield 0) ⟨xs⟩ ⟨[]⟩]⟩ => some (xs.all isInst && isKeys ((plist xs).map Prod.fst) && (plist xs).all wtOk, .int .i64 0, h)
    | _ => none) none
theorem spChkI_ok : SpOK (spChkI) := by
  intro f args h v h' hs
  unfold spChkI at hs
  obtain ⟨hf, hs2⟩ := cond_some hs
  clear hs
  have := Nat.eq_of_beq_eq_true hf
  subst this
  split at hs2
  · injection hs2 with hs
    injection hs with hb hs
    injection hs with hv hh
    subst hv hh
    simp only [Bool.and_eq_true] at hb
    have hF := ci_fn _ (isKeys_mem hb.1.2) (fun p hp => by simpa [wtOk] using List.all_eq_true.1 hb.2 p hp)
    rw [isInst_all hb.1.1] at hF
    exact ⟨FnOK.pure hF rfl rfl h, Nat.le_refl _⟩
  · cases hs2
def spPlace (f : FuncId) (args : Array Value) (h : AH) : Option (Bool × Value × AH) :=
  cond (Nat.beq f 35) (match args with
    | ⟨[.func (.yield 0) ⟨xs⟩ ⟨[]⟩, .string a]⟩ => some (xs.all isInst && isKeys ((plist xs).map Prod.fst) && inU ((plist xs).map Prod.fst) a, .tuple ⟨[.int .i64 (idxI ((plist xs).map Prod.fst) a), .bool true]⟩, h)
    | _ => none) none
theorem spPlace_ok : SpOK (spPlace) := by
  intro f args h v h' hs
  unfold spPlace at hs
  obtain ⟨hf, hs2⟩ := cond_some hs
  clear hs
  have := Nat.eq_of_beq_eq_true hf
  subst this
  split at hs2
  · injection hs2 with hs
    injection hs with hb hs
    injection hs with hv hh
    subst hv hh
    simp only [Bool.and_eq_true] at hb
    have hF := pl_fn _ _ (isKeys_mem hb.1.2) (inU_mem hb.2)
    rw [isInst_all hb.1.1] at hF
    exact ⟨FnOK.pure hF rfl rfl h, Nat.le_refl _⟩
  · cases hs2
noncomputable def spOrd (f : FuncId) (args : Array Value) (h : AH) : Option (Bool × Value × AH) :=
  cond (Nat.beq f 25) (match args with
    | ⟨[.func (.yield 0) ⟨xs⟩ ⟨[]⟩, .string k]⟩ => some (xs.all isInst && isKeys ((plist xs).map Prod.fst) && Nat.ble k.size 1000, fz ⟨(sortO k (plist xs)).map instV⟩, h)
    | _ => none) none
theorem spOrd_ok : SpOK (spOrd) := by
  intro f args h v h' hs
  unfold spOrd at hs
  obtain ⟨hf, hs2⟩ := cond_some hs
  clear hs
  have := Nat.eq_of_beq_eq_true hf
  subst this
  split at hs2
  · injection hs2 with hs
    injection hs with hb hs
    injection hs with hv hh
    subst hv hh
    simp only [Bool.and_eq_true, Nat.ble_eq] at hb
    have hF := ord4_fn _ hb.2 _ (isKeys_mem hb.1.2)
    rw [isInst_all hb.1.1] at hF
    exact ⟨FnOK.pure hF rfl rfl h, Nat.le_refl _⟩
  · cases hs2
open Classical in
noncomputable def toldB (ys : List (ByteArray × Int)) (k : ByteArray) (xs : List Value) : Bool := decide (sortO k (plist xs) = ys)
theorem toldB_eq {ys : List (ByteArray × Int)} {k : ByteArray} {xs : List Value} : toldB ys k xs = true ↔ sortO k (plist xs) = ys := by simp [toldB]
noncomputable def spOrdT (ys : List (ByteArray × Int)) (f : FuncId) (args : Array Value) (h : AH) : Option (Bool × Value × AH) :=
  cond (Nat.beq f 25) (match args with
    | ⟨[.func (.yield 0) ⟨xs⟩ ⟨[]⟩, .string k]⟩ => some (xs.all isInst && isKeys ((plist xs).map Prod.fst) && Nat.ble k.size 1000 && toldB ys k xs, fz ⟨ys.map instV⟩, h)
    | _ => none) none
theorem spOrdT_ok (ys : List (ByteArray × Int)) : SpOK (spOrdT ys) := by
  intro f args h v h' hs
  unfold spOrdT at hs
  obtain ⟨hf, hs2⟩ := cond_some hs
  clear hs
  have := Nat.eq_of_beq_eq_true hf
  subst this
  split at hs2
  · injection hs2 with hs
    injection hs with hb hs
    injection hs with hv hh
    subst hv hh
    simp only [Bool.and_eq_true, Nat.ble_eq] at hb
    have hF := ord4_fn _ hb.1.2 _ (isKeys_mem hb.1.1.2)
    rw [isInst_all hb.1.1.1, toldB_eq.1 hb.2] at hF
    exact ⟨FnOK.pure hF rfl rfl h, Nat.le_refl _⟩
  · cases hs2
end Go.Proofs.YtbkccelgffopcaaGreatDoor
