/-
  Requests: right ones, as they are drawn.
-/
import Derived.Test.YtjphemllikflpaaGreatDoorByP
import Derived.Test.YtjphemllikflpaaGreatDoorByG
namespace Go.Proofs.YtjphemllikflpaaGreatDoor
open Go.Ev Go.RowKit RecLaw PathLaw QueryLaw

def meS : List Bs := [[71, 69, 84], [72, 69, 65, 68], [80, 79, 83, 84], [103, 101, 116]]
def meQ (s : ByteArray) : Prop := s.data.toList ∈ meS
def hoS : List Bs := [[97, 46, 98], [65, 46, 66], [97, 46, 98, 58, 56, 48], [99, 46, 100, 58, 56, 48, 56, 48]]
def hoQ (s : ByteArray) : Prop := s.data.toList ∈ hoS
def paS : List Bs := [[47], [47, 97], [47, 97, 47, 98], [47, 97, 47, 46, 46, 47, 98], [47, 37, 52, 49]]
def paQ (s : ByteArray) : Prop := s.data.toList ∈ paS
def quS : List Bs := [[], [120, 61, 49], [98, 61, 50, 38, 97, 61, 49]]
def quQ (s : ByteArray) : Prop := s.data.toList ∈ quS
def boS : List Bs := [[104, 101, 108, 108, 111], [120], [97, 98, 97, 98, 97, 98, 97, 98, 97, 98, 97, 98, 97, 98, 97, 98, 97, 98, 97, 98, 97, 98, 97, 98, 97, 98, 97, 98, 97, 98, 97, 98, 97, 98, 97, 98, 97, 98, 97, 98, 97, 98, 97, 98, 97, 98, 97, 98, 97, 98, 97, 98, 97, 98, 97, 98, 97, 98, 97, 98, 97, 98, 97, 98, 97, 98, 97, 98, 97, 98, 97, 98, 97, 98, 97, 98, 97, 98, 97, 98], []]
def boQ (s : ByteArray) : Prop := s.data.toList ∈ boS
/-- Right requests. -/
structure RtR (r : Rq) : Prop where
  m : r.m ∈ meS
  ho : r.ho ∈ hoS
  p : r.p ∈ paS
  q : r.q ∈ quS
  n : r.hs.length ≤ 4
  hs : ∀ h ∈ r.hs, h.1 ∈ nmS ∧ h.2 ∈ vaS
  bd : r.bd ∈ boS
def gI (l : List Value) (r : Int) : Int := toInt (l.getD (0 + r.toNat * 1) (Value.tuple { toList := [] }))
def atL : List Value := [.int .i64 0, .int .i64 5, .int .i64 1000, .int .i64 60000]
def meL : List Value := [.string ⟨#[71, 69, 84]⟩, .string ⟨#[71, 69, 84]⟩, .string ⟨#[71, 69, 84]⟩, .string ⟨#[72, 69, 65, 68]⟩, .string ⟨#[80, 79, 83, 84]⟩, .string ⟨#[103, 101, 116]⟩]
def hoL : List Value := [.string ⟨#[97, 46, 98]⟩, .string ⟨#[97, 46, 98]⟩, .string ⟨#[65, 46, 66]⟩, .string ⟨#[97, 46, 98, 58, 56, 48]⟩, .string ⟨#[99, 46, 100, 58, 56, 48, 56, 48]⟩]
def paL : List Value := [.string ⟨#[47]⟩, .string ⟨#[47, 97]⟩, .string ⟨#[47, 97]⟩, .string ⟨#[47, 97, 47, 98]⟩, .string ⟨#[47, 97, 47, 46, 46, 47, 98]⟩, .string ⟨#[47, 37, 52, 49]⟩]
def quL : List Value := [.string ⟨#[]⟩, .string ⟨#[]⟩, .string ⟨#[120, 61, 49]⟩, .string ⟨#[98, 61, 50, 38, 97, 61, 49]⟩]
def frL : List Value := [.string ⟨#[49, 48, 46, 48, 46, 48, 46, 49]⟩, .string ⟨#[49, 48, 46, 48, 46, 48, 46, 49]⟩, .string ⟨#[57, 46, 57, 46, 57, 46, 57]⟩, .string ⟨#[]⟩]
def boL : List Value := [.string ⟨#[104, 101, 108, 108, 111]⟩, .string ⟨#[120]⟩, .string (bl (Lib.repeatL [97, 98] 40))]
theorem me_all : ∀ v ∈ meL, meQ (toStr v) := by
  intro v hv
  simp only [meL, List.mem_cons, List.not_mem_nil, or_false] at hv
  rcases hv with rfl | rfl | rfl | rfl | rfl | rfl
  · show _ ∈ meS; decide
  · show _ ∈ meS; decide
  · show _ ∈ meS; decide
  · show _ ∈ meS; decide
  · show _ ∈ meS; decide
  · show _ ∈ meS; decide
theorem ho_all : ∀ v ∈ hoL, hoQ (toStr v) := by
  intro v hv
  simp only [hoL, List.mem_cons, List.not_mem_nil, or_false] at hv
  rcases hv with rfl | rfl | rfl | rfl | rfl
  · show _ ∈ hoS; decide
  · show _ ∈ hoS; decide
  · show _ ∈ hoS; decide
  · show _ ∈ hoS; decide
  · show _ ∈ hoS; decide
theorem pa_all : ∀ v ∈ paL, paQ (toStr v) := by
  intro v hv
  simp only [paL, List.mem_cons, List.not_mem_nil, or_false] at hv
  rcases hv with rfl | rfl | rfl | rfl | rfl | rfl
  · show _ ∈ paS; decide
  · show _ ∈ paS; decide
  · show _ ∈ paS; decide
  · show _ ∈ paS; decide
  · show _ ∈ paS; decide
  · show _ ∈ paS; decide
theorem qu_all : ∀ v ∈ quL, quQ (toStr v) := by
  intro v hv
  simp only [quL, List.mem_cons, List.not_mem_nil, or_false] at hv
  rcases hv with rfl | rfl | rfl | rfl
  · show _ ∈ quS; decide
  · show _ ∈ quS; decide
  · show _ ∈ quS; decide
  · show _ ∈ quS; decide
noncomputable def SRr (e : Bool) : SC := ⟨idn, spOr spRg (spOr (spGH 31 9 500 e) (spNext [])), true, true⟩
theorem SRr_ok (e : Bool) : (SRr e).cfg.OK Tryz.prog := (spRg_ok.or ((spGH_ok rh_ex e).or (spNext_ok []))).cfg
noncomputable def rqD (xs : Array Value) (e : Bool) (d : Int) (b : ByteArray) : Value :=
  rV (gI atL (nextR xs d 4)) (gS meL (nextR xs (d + 1) 6)) (gS hoL (nextR xs (d + 1 + 1) 5)) (gS paL (nextR xs (d + 1 + 1 + 1) 6)) (gS quL (nextR xs (d + 1 + 1 + 1 + 1) 4)) (gS frL (nextR xs (d + 1 + 1 + 1 + 1 + 1) 4)) b (hdT e (ghC 31 9 xs (d + 1 + 1 + 1 + 1 + 1 + 1)).1)
noncomputable def gh (xs : Array Value) (F : FuncId) (w m : Int) (e : Bool) (d : Int) (X : Prop) : Prop := bif decide (0 ≤ d) && decide (d ≤ m) && allInts xs && (cond e (ghC F w xs d).1.isEmpty (!(ghC F w xs d).1.isEmpty)) then X else False
noncomputable def rrF (xs : Array Value) (e : Bool) (d E : Int) (Q : Value → Option Obj → Prop) : Prop :=
  dr xs E (bif nextR xs E 4 == 0 then dr xs (E + 1) (rg (nextR xs (E + 1) 3) 3 3 (Q (rqD xs e d (gS boL (nextR xs (E + 1) 3))) (some (strm xs (E + 1 + 1))))) else Q (rqD xs e d ⟨#[]⟩) (some (strm xs (E + 1))))
noncomputable def rrT (xs : Array Value) (e : Bool) (d : Int) (Q : Value → Option Obj → Prop) : Prop :=
  dr xs d (rg (nextR xs d 4) 4 4 (dr xs (d + 1) (rg (nextR xs (d + 1) 6) 6 6 (dr xs (d + 1 + 1) (rg (nextR xs (d + 1 + 1) 5) 5 5 (dr xs (d + 1 + 1 + 1) (rg (nextR xs (d + 1 + 1 + 1) 6) 6 6
  (dr xs (d + 1 + 1 + 1 + 1) (rg (nextR xs (d + 1 + 1 + 1 + 1) 4) 4 4 (dr xs (d + 1 + 1 + 1 + 1 + 1) (rg (nextR xs (d + 1 + 1 + 1 + 1 + 1) 4) 4 4
  (gh xs 31 9 500 e (d + 1 + 1 + 1 + 1 + 1 + 1) (rrF xs e d (ghC 31 9 xs (d + 1 + 1 + 1 + 1 + 1 + 1)).2 Q)))))))))))))
theorem rr_t (xs : Array Value) (d : Int) (Q : Value → Option Obj → Prop) : ffn Tryz.prog (SRr true) [] 3000 [] Tryz.f9 [.pointer (some ⟨0, 0, none⟩)] (Ev.h1 (strm xs d)) (fun v h => Q v (h.get 0)) = rrT xs true d Q := by kernel_rfl
theorem rr_f (xs : Array Value) (d : Int) (Q : Value → Option Obj → Prop) : ffn Tryz.prog (SRr false) [] 3000 [] Tryz.f9 [.pointer (some ⟨0, 0, none⟩)] (Ev.h1 (strm xs d)) (fun v h => Q v (h.get 0)) = rrT xs false d Q := by kernel_rfl
theorem someRR : Tryz.f9.body.isSome = true := by kernel_rfl
theorem gh_mk {zs : List Int} {F : FuncId} {w m : Int} {e : Bool} {d : Int} (h0 : 0 ≤ d) (h1 : d ≤ m) (he : (ghC F w (intsV zs) d).1.isEmpty = e) {X : Prop} (hX : X) : gh (intsV zs) F w m e d X := by
  refine need_mk ?_ hX
  rw [allInts_intsV, he]
  cases e <;> simp [h0, h1]
theorem rV_eq {a : Int} {m ho p q f b : ByteArray} {L : List (Bs × Bs)} {hd : Value} (h : hd = hdV L) : rV a m ho p q f b hd = rqV ⟨a, m.data.toList, ho.data.toList, p.data.toList, q.data.toList, f.data.toList, L, b.data.toList⟩ := by
  subst h
  unfold rqV strV
  simp only [bl_self]
  rfl
theorem len_size (s : ByteArray) : s.data.toList.length = s.size := by rw [← bl_size, bl_self]
theorem okR_of {a : Int} {m ho p q f b : ByteArray} {L : List (Bs × Bs)} (h1 : meQ m) (h2 : hoQ ho) (h3 : paQ p) (h4 : quQ q) (h6 : HLOk L) (h7 : boQ b) : RtR ⟨a, m.data.toList, ho.data.toList, p.data.toList, q.data.toList, f.data.toList, L, b.data.toList⟩ := ⟨h1, h2, h3, h4, h6.1, h6.2, h7⟩
theorem bo_all : ∀ v ∈ boL, boQ (toStr v) := by
  intro v hv
  simp only [boL, List.mem_cons, List.not_mem_nil, or_false] at hv
  rcases hv with rfl | rfl | rfl
  · show _ ∈ boS; decide
  · show _ ∈ boS; decide
  · show (bl _).data.toList ∈ boS; rw [bl_list]; decide +kernel
def RrOK (F : FuncId) (w : Int) (xs : Array Value) (d : Int) (r : Rq × Int) : Prop := RtR r.1 ∧ 0 ≤ r.2 ∧ r.2 ≤ d + w ∧
  FnOK 1 Tryz.prog F ⟨[.pointer (some ⟨0, 0, none⟩)]⟩ (Ev.h1 (strm xs d)) (fun u g => u = rqV r.1 ∧ g.get 0 = some (strm xs r.2))
open Classical in
noncomputable def rrC (F : FuncId) (w : Int) (xs : Array Value) (d : Int) : Rq × Int := if h : ∃ r, RrOK F w xs d r then h.choose else (zeroR, 0)
def RrEx (F : FuncId) (w m : Int) : Prop := ∀ (zs : List Int) (d : Int), 0 ≤ d → d ≤ m → ∃ r, RrOK F w (intsV zs) d r
theorem rrC_ok {F : FuncId} {w m : Int} (hx : RrEx F w m) (zs : List Int) {d : Int} (h0 : 0 ≤ d) (h1 : d ≤ m) : RrOK F w (intsV zs) d (rrC F w (intsV zs) d) := by
  have h := hx zs d h0 h1
  unfold rrC
  rw [dif_pos h]
  exact h.choose_spec
theorem rrT_ex (zs : List Int) {d : Int} (h0 : 0 ≤ d) (h1 : d ≤ 100) {e : Bool} (he : (ghC 31 9 (intsV zs) (d + 1 + 1 + 1 + 1 + 1 + 1)).1.isEmpty = e) : ∃ (r : Rq) (x : Int), (RtR r ∧ 0 ≤ x ∧ x ≤ d + 20) ∧ ∀ Q : Value → Option Obj → Prop, Q (rqV r) (some (strm (intsV zs) x)) → rrT (intsV zs) e d Q := by
  obtain ⟨g1, g2, g3, _⟩ := ghC_ok rh_ex zs (d := d + 1 + 1 + 1 + 1 + 1 + 1) (by omega) (by omega)
  have hd : hdT e (ghC 31 9 (intsV zs) (d + 1 + 1 + 1 + 1 + 1 + 1)).1 = hdV (ghC 31 9 (intsV zs) (d + 1 + 1 + 1 + 1 + 1 + 1)).1 := by rw [← he]; exact hdT_eq _
  have b0 := (nextR_spec zs 4 d h0 (by omega) (by omega) (by omega)).1
  have b1 := (nextR_spec zs 6 (d + 1) (by omega) (by omega) (by omega) (by omega)).1
  have b2 := (nextR_spec zs 5 (d + 1 + 1) (by omega) (by omega) (by omega) (by omega)).1
  have b3 := (nextR_spec zs 6 (d + 1 + 1 + 1) (by omega) (by omega) (by omega) (by omega)).1
  have b4 := (nextR_spec zs 4 (d + 1 + 1 + 1 + 1) (by omega) (by omega) (by omega) (by omega)).1
  have b5 := (nextR_spec zs 4 (d + 1 + 1 + 1 + 1 + 1) (by omega) (by omega) (by omega) (by omega)).1
  have q1 := gS_in (m := 6) rfl me_all b1.1 b1.2
  have q2 := gS_in (m := 5) rfl ho_all b2.1 b2.2
  have q3 := gS_in (m := 6) rfl pa_all b3.1 b3.2
  have q4 := gS_in (m := 4) rfl qu_all b4.1 b4.2
  have main : ∀ (Q : Value → Option Obj → Prop), rrF (intsV zs) e d (ghC 31 9 (intsV zs) (d + 1 + 1 + 1 + 1 + 1 + 1)).2 Q → rrT (intsV zs) e d Q := by
    intro Q hQ
    refine dr_mk h0 (by omega) (rg_mk h0 (by omega) rfl (by decide) ?_)
    refine dr_mk (by omega) (by omega) (rg_mk (by omega) (by omega) rfl (by decide) ?_)
    refine dr_mk (by omega) (by omega) (rg_mk (by omega) (by omega) rfl (by decide) ?_)
    refine dr_mk (by omega) (by omega) (rg_mk (by omega) (by omega) rfl (by decide) ?_)
    refine dr_mk (by omega) (by omega) (rg_mk (by omega) (by omega) rfl (by decide) ?_)
    refine dr_mk (by omega) (by omega) (rg_mk (by omega) (by omega) rfl (by decide) ?_)
    exact gh_mk (by omega) (by omega) he hQ
  have eb : ∀ b : ByteArray, rqD (intsV zs) e d b = rqV ⟨gI atL (nextR (intsV zs) d 4), (gS meL (nextR (intsV zs) (d + 1) 6)).data.toList, (gS hoL (nextR (intsV zs) (d + 1 + 1) 5)).data.toList, (gS paL (nextR (intsV zs) (d + 1 + 1 + 1) 6)).data.toList, (gS quL (nextR (intsV zs) (d + 1 + 1 + 1 + 1) 4)).data.toList, (gS frL (nextR (intsV zs) (d + 1 + 1 + 1 + 1 + 1) 4)).data.toList, (ghC 31 9 (intsV zs) (d + 1 + 1 + 1 + 1 + 1 + 1)).1, b.data.toList⟩ := fun b => rV_eq hd
  by_cases c : nextR (intsV zs) (ghC 31 9 (intsV zs) (d + 1 + 1 + 1 + 1 + 1 + 1)).2 4 = 0
  · refine ⟨_, _, ⟨okR_of (b := gS boL (nextR (intsV zs) ((ghC 31 9 (intsV zs) (d + 1 + 1 + 1 + 1 + 1 + 1)).2 + 1) 3)) q1 q2 q3 q4 g1 (gS_in (m := 3) rfl bo_all (nextR_spec zs 3 _ (by omega) (by omega) (by omega) (by omega)).1.1 (nextR_spec zs 3 _ (by omega) (by omega) (by omega) (by omega)).1.2), ?_, ?_⟩, fun Q hQ => main Q (dr_mk g2 (by omega) (pick_t (by rw [c]; rfl) (dr_mk (by omega) (by omega) (rg_mk (by omega) (by omega) rfl (by decide) ((eb _).symm ▸ hQ)))))⟩ <;> omega
  · refine ⟨_, _, ⟨okR_of (b := ⟨#[]⟩) q1 q2 q3 q4 g1 (show _ ∈ boS by decide), ?_, ?_⟩, fun Q hQ => main Q (dr_mk g2 (by omega) (pick_f (by simpa using c) ((eb _).symm ▸ hQ)))⟩ <;> omega
theorem rr_ex : RrEx 9 20 100 := by
  intro zs d h0 h1
  cases he : (ghC 31 9 (intsV zs) (d + 1 + 1 + 1 + 1 + 1 + 1)).1.isEmpty with
  | true =>
    obtain ⟨r, x, ⟨g1, g2, g3⟩, g4⟩ := rrT_ex zs h0 h1 he
    exact ⟨(r, x), g1, g2, g3, FnOK.ftree (SRr_ok true) mixed Tryz.func9 someRR (rr_t (intsV zs) d (fun u o => u = rqV r ∧ o = some (strm (intsV zs) x))) (g4 _ ⟨rfl, rfl⟩)⟩
  | false =>
    obtain ⟨r, x, ⟨g1, g2, g3⟩, g4⟩ := rrT_ex zs h0 h1 he
    exact ⟨(r, x), g1, g2, g3, FnOK.ftree (SRr_ok false) mixed Tryz.func9 someRR (rr_f (intsV zs) d (fun u o => u = rqV r ∧ o = some (strm (intsV zs) x))) (g4 _ ⟨rfl, rfl⟩)⟩
/-- A request, its headers told. -/
noncomputable def rqT (e : Bool) (r : Rq) : Value := rV r.at_ (bl r.m) (bl r.ho) (bl r.p) (bl r.q) (bl r.f) (bl r.bd) (hdT e r.hs)
theorem rqT_eq (r : Rq) : rqT r.hs.isEmpty r = rqV r := by
  unfold rqT
  rw [hdT_eq]
  rfl
noncomputable def spRR (F : FuncId) (w m : Int) (e : Bool) (f : FuncId) (args : Array Value) (h : AH) : Option (Bool × Value × AH) :=
  cond (Nat.beq f F) (match args with
    | ⟨[.pointer (some ⟨b, 0, none⟩)]⟩ => match h.get b with
      | some (.cells ⟨[.func (.yield 0) xs ⟨[]⟩, .int .i64 at_]⟩ t (0, 0)) =>
        some (Nat.beq t 25 && decide (0 ≤ at_) && decide (at_ ≤ m) && allInts xs && (cond e (rrC F w xs at_).1.hs.isEmpty (!(rrC F w xs at_).1.hs.isEmpty)), rqT e (rrC F w xs at_).1, h.set b (.cells ⟨[fz xs, .int .i64 (rrC F w xs at_).2]⟩ 25 (0, 0)))
      | _ => none
    | _ => none) none
/-- A whole request. -/
noncomputable def spRW (F : FuncId) (w m : Int) (f : FuncId) (args : Array Value) (h : AH) : Option (Bool × Value × AH) :=
  cond (Nat.beq f F) (match args with
    | ⟨[.pointer (some ⟨b, 0, none⟩)]⟩ => match h.get b with
      | some (.cells ⟨[.func (.yield 0) xs ⟨[]⟩, .int .i64 at_]⟩ t (0, 0)) =>
        some (Nat.beq t 25 && decide (0 ≤ at_) && decide (at_ ≤ m) && allInts xs, rqV (rrC F w xs at_).1, h.set b (.cells ⟨[fz xs, .int .i64 (rrC F w xs at_).2]⟩ 25 (0, 0)))
      | _ => none
    | _ => none) none
theorem p3_rq (r : Rq) : p3 (rqV r) = true := by obtain ⟨_, _, _, _, _, _, hs, _⟩ := r; cases hs <;> rfl
theorem rw_call {F : FuncId} {w m : Int} (hx : RrEx F w m) {zs : List Int} {at_ : Int} (h0 : 0 ≤ at_) (h1 : at_ ≤ m) {h : AH} {b : Nat} (hg : h.get b = some (strm (intsV zs) at_)) :
    CallOK Tryz.prog F ⟨[.pointer (some ⟨b, 0, none⟩)]⟩ h (rqV (rrC F w (intsV zs) at_).1) (h.set b (strm (intsV zs) (rrC F w (intsV zs) at_).2)) := by
  obtain ⟨_, _, _, hF⟩ := rrC_ok hx zs h0 h1
  exact FnOK.ref (cs := ⟨[fz (intsV zs), .int .i64 at_]⟩) (cs' := ⟨[fz (intsV zs), .int .i64 (rrC F w (intsV zs) at_).2]⟩) (args := []) hF rfl (by simp [p1, fz]) (by simp [p1, fz]) (p3_rq _) hg
theorem spRR_ok {F : FuncId} {w m : Int} (hx : RrEx F w m) (e : Bool) : SpOK (spRR F w m e) := by
  intro f args h v h' hs
  unfold spRR at hs
  obtain ⟨hf, hs2⟩ := cond_some hs
  clear hs
  have := Nat.eq_of_beq_eq_true hf
  subst this
  split at hs2
  · rename_i b
    split at hs2
    · rename_i xs at_ t hg
      injection hs2 with hs
      injection hs with hb hs
      injection hs with hv hh
      subst hv hh
      simp only [Bool.and_eq_true, decide_eq_true_eq] at hb
      obtain ⟨⟨⟨⟨b1, b2⟩, b3⟩, b4⟩, b5⟩ := hb
      have b1 := Nat.eq_of_beq_eq_true b1
      subst b1
      obtain ⟨zs, rfl⟩ := intsV_of_all b4
      have he : rqT e (rrC f w (intsV zs) at_).1 = rqV (rrC f w (intsV zs) at_).1 := by
        rw [← rqT_eq]
        cases e with
        | true => rw [show (rrC f w (intsV zs) at_).1.hs.isEmpty = true from b5]
        | false =>
          have b5 : (!(rrC f w (intsV zs) at_).1.hs.isEmpty) = true := b5
          rw [Bool.not_eq_true'] at b5
          rw [b5]
      rw [he]
      exact ⟨rw_call hx b2 b3 hg, Nat.le_refl _⟩
    · cases hs2
  · cases hs2
theorem spRW_ok {F : FuncId} {w m : Int} (hx : RrEx F w m) : SpOK (spRW F w m) := by
  intro f args h v h' hs
  unfold spRW at hs
  obtain ⟨hf, hs2⟩ := cond_some hs
  clear hs
  have := Nat.eq_of_beq_eq_true hf
  subst this
  split at hs2
  · rename_i b
    split at hs2
    · rename_i xs at_ t hg
      injection hs2 with hs
      injection hs with hb hs
      injection hs with hv hh
      subst hv hh
      simp only [Bool.and_eq_true, decide_eq_true_eq] at hb
      obtain ⟨⟨⟨b1, b2⟩, b3⟩, b4⟩ := hb
      have b1 := Nat.eq_of_beq_eq_true b1
      subst b1
      obtain ⟨zs, rfl⟩ := intsV_of_all b4
      exact ⟨rw_call hx b2 b3 hg, Nat.le_refl _⟩
    · cases hs2
  · cases hs2
end Go.Proofs.YtjphemllikflpaaGreatDoor
