/-
  Requests and responses as text.
-/
import Derived.Test.YtjphemllikflpaaGreatDoorByM
import Derived.Test.YtjphemllikflpaaGreatDoorByN
namespace Go.Proofs.YtjphemllikflpaaGreatDoor
open Go.Ev Go.RowKit RecLaw PathLaw QueryLaw BytesLaw

def httpB : Bs := [72, 84, 84, 80, 47, 49, 46, 49]
def dcF (n : Nat) : Bs := match dcL.find? (fun t => t.1 == n) with
  | some t => t.2
  | none => []
def stF (n : Int) : Bs := match stL.find? (fun t => (t.1 : Int) == n) with
  | some t => t.2
  | none => []
def tgtB (p q : Bs) : Bs := if q = [] then p else p ++ 63 :: q
def reqF (r : Rq) : Bs := r.m ++ 32 :: (tgtB r.p r.q ++ 32 :: httpB)
def lenH (b : Bs) : List (Bs × Bs) := if b = [] then [] else [(clN, dcF b.length)]
def reqH (r : Rq) : List (Bs × Bs) := (hostN, r.ho) :: (r.hs ++ lenH r.bd)
def reqT (r : Rq) : Bs := headT (reqF r) (reqH r) ++ r.bd
def rspH (r : Rs) : List (Bs × Bs) := r.hs ++ [(clN, dcF r.bd.length)]
def rspT (r : Rs) : Bs := headT (stF r.st) (rspH r) ++ r.bd

/-! the tables -/
theorem me_ok : ∀ m ∈ meS, (32 : UInt8) ∉ m ∧ (13 : UInt8) ∉ m ∧ m ≠ [] ∧ m.length ≤ 10 ∧ tokB m = true := by decide +kernel
theorem pa_ok : ∀ p ∈ paS, (32 : UInt8) ∉ p ∧ (13 : UInt8) ∉ p ∧ (63 : UInt8) ∉ p ∧ p ≠ [] ∧ p.length ≤ 10 ∧ okP p = true := by decide +kernel
theorem qu_ok : ∀ q ∈ quS, (32 : UInt8) ∉ q ∧ (13 : UInt8) ∉ q ∧ q.length ≤ 10 ∧ okQ q = true := by decide +kernel
theorem ho_ok : ∀ h ∈ hoS, h ∈ hosts ∧ h.length ≤ 20 ∧ fldQ h = true ∧ ((nhF h).2 == 0) = true := by decide +kernel
theorem nm_ok : ∀ n ∈ nmS, n ∈ allS ∧ n.length ≤ 20 ∧ tokB n = true ∧ frB n = false ∧ nmB n hostN = false ∧ nmB n clN = false ∧ nmB n teN = false := by decide +kernel
theorem va_ok : ∀ v ∈ vaS, v.length ≤ 30 ∧ fldQ v = true := by decide +kernel
theorem bo_ok : ∀ b ∈ boS, b.length ≤ 80 ∧ b.length ∈ lnL.map (·.1) := by decide +kernel
theorem bs_ok : ∀ b ∈ bsS, b.length ≤ 80 ∧ b.length ∈ lnL.map (·.1) := by decide +kernel
theorem ln_ok : ∀ n ∈ lnL.map (·.1), (n, dcF n) ∈ lnL ∧ (n, dcF n) ∈ dcL ∧ (dcF n).length ≤ 3 ∧ fldQ (dcF n) = true := by decide +kernel
theorem st_ok : ∀ n ∈ stI, 0 ≤ n ∧ (n.toNat, stF n) ∈ stL ∧ (n.toNat, dcF n.toNat) ∈ dcL ∧ (stF n).length ≤ 20 ∧ (13 : UInt8) ∉ stF n := by decide +kernel
theorem host_ok : hostN ∈ allS ∧ hostN ∈ askS ∧ clN ∈ allS ∧ clN ∈ askS ∧ teN ∈ askS ∧ tokB hostN = true ∧ tokB clN = true ∧ frB hostN = false ∧ frB clN = true ∧ nmB hostN hostN = true ∧ nmB hostN clN = false ∧ nmB hostN teN = false ∧ nmB clN hostN = false ∧ nmB clN clN = true ∧ nmB clN teN = false := by decide +kernel

/-! headers -/
abbrev HsOk (L : List (Bs × Bs)) : Prop := ∀ h ∈ L, h.1 ∈ nmS ∧ h.2 ∈ vaS
theorem val_app (k : Bs) : ∀ A B : List (Bs × Bs), valB k (A ++ B) = valB k A ++ valB k B
  | [], B => rfl
  | p :: A, B => by
    rw [List.cons_append, valB, valB, val_app k A B]
    split <;> rfl
theorem val_no {k : Bs} : ∀ {L : List (Bs × Bs)}, (∀ p ∈ L, nmB p.1 k = false) → valB k L = []
  | [], _ => rfl
  | p :: L, h => by
    rw [valB, h p (by simp), if_neg (by decide)]
    exact val_no fun q hq => h q (by simp [hq])
theorem hs_no {L : List (Bs × Bs)} (h : HsOk L) : valB hostN L = [] ∧ valB clN L = [] ∧ valB teN L = [] :=
  ⟨val_no fun p hp => (nm_ok _ (h p hp).1).2.2.2.2.1, val_no fun p hp => (nm_ok _ (h p hp).1).2.2.2.2.2.1, val_no fun p hp => (nm_ok _ (h p hp).1).2.2.2.2.2.2⟩
theorem val1 {k a : Bs} (v : Bs) (h : nmB a k = true) : valB k [(a, v)] = [v] := by unfold valB; rw [h]; rfl
theorem val0 {k a : Bs} (v : Bs) (h : nmB a k = false) : valB k [(a, v)] = [] := by unfold valB; rw [h]; rfl
theorem vc {k a : Bs} (v : Bs) (L : List (Bs × Bs)) : valB k ((a, v) :: L) = valB k [(a, v)] ++ valB k L := val_app k [(a, v)] L
theorem nf_hs {L : List (Bs × Bs)} (h : HsOk L) : nfB L = L := by
  unfold nfB
  rw [List.filter_eq_self]
  intro p hp
  rw [(nm_ok _ (h p hp).1).2.2.2.1]; rfl
theorem rm_hs {L : List (Bs × Bs)} (h : HsOk L) : rmB hostN L = L := by
  unfold rmB
  rw [List.filter_eq_self]
  intro p hp
  rw [(nm_ok _ (h p hp).1).2.2.2.2.1]; rfl
theorem rm_cons (v : Bs) (L : List (Bs × Bs)) : rmB hostN ((hostN, v) :: L) = rmB hostN L := by
  unfold rmB
  rw [List.filter_cons, host_ok.2.2.2.2.2.2.2.2.2.1]
  rfl
theorem nf_app (A B : List (Bs × Bs)) : nfB (A ++ B) = nfB A ++ nfB B := List.filter_append ..
theorem nf_cl (v : Bs) : nfB [(clN, v)] = [] := by
  unfold nfB
  rw [List.filter_cons, host_ok.2.2.2.2.2.2.2.2.1]
  rfl
theorem nf_ho (v : Bs) (L : List (Bs × Bs)) : nfB ((hostN, v) :: L) = (hostN, v) :: nfB L := by
  unfold nfB
  rw [List.filter_cons, host_ok.2.2.2.2.2.2.2.1]
  rfl

/-! requests -/
theorem req_host {r : Rq} (h : RtR r) : valB hostN (reqH r) = [r.ho] := by
  unfold reqH lenH
  rw [vc, val_app, val1 _ host_ok.2.2.2.2.2.2.2.2.2.1, (hs_no h.hs).1]
  split
  · rfl
  · rw [val0 _ host_ok.2.2.2.2.2.2.2.2.2.2.2.2.1]; rfl
theorem req_cl {r : Rq} (h : RtR r) : valB clN (reqH r) = (if r.bd = [] then [] else [dcF r.bd.length]) := by
  unfold reqH lenH
  rw [vc, val_app, val0 _ host_ok.2.2.2.2.2.2.2.2.2.2.1, (hs_no h.hs).2.1]
  split
  · rfl
  · rw [val1 _ host_ok.2.2.2.2.2.2.2.2.2.2.2.2.2.1]; rfl
theorem req_te {r : Rq} (h : RtR r) : valB teN (reqH r) = [] := by
  unfold reqH lenH
  rw [vc, val_app, val0 _ host_ok.2.2.2.2.2.2.2.2.2.2.2.1, (hs_no h.hs).2.2]
  split
  · rfl
  · rw [val0 _ host_ok.2.2.2.2.2.2.2.2.2.2.2.2.2.2]; rfl
theorem req_nf {r : Rq} (h : RtR r) : nfB (reqH r) = (hostN, r.ho) :: r.hs := by
  unfold reqH lenH
  rw [nf_ho, nf_app, nf_hs h.hs]
  split
  · simp [nfB]
  · rw [nf_cl, List.append_nil]
theorem hd_len {p : Bs × Bs} (h1 : p.1.length ≤ 20) (h2 : p.2.length ≤ 30) : (BytesLaw.hdB p).length ≤ 60 := by
  unfold BytesLaw.hdB
  simp only [List.length_append, List.length_cons, List.length_nil]
  omega
theorem hds_len : ∀ {L : List (Bs × Bs)}, (∀ p ∈ L, p.1.length ≤ 20 ∧ p.2.length ≤ 30) → (L.flatMap BytesLaw.hdB).length ≤ 60 * L.length
  | [], _ => Nat.zero_le _
  | p :: L, h => by
    have h1 := hd_len (h p (by simp)).1 (h p (by simp)).2
    have h2 := hds_len fun q hq => h q (List.mem_cons_of_mem p hq)
    rw [List.flatMap_cons, List.length_append, List.length_cons]
    omega
def HdOk (L : List (Bs × Bs)) : Prop := ∀ p ∈ L, (p.1 ∈ allS ∧ tokB p.1 = true ∧ fldQ p.2 = true) ∧ p.1.length ≤ 20 ∧ p.2.length ≤ 30
theorem hs_ok {L : List (Bs × Bs)} (h : HsOk L) : HdOk L := fun p hp => by
  have a := nm_ok _ (h p hp).1
  have b := va_ok _ (h p hp).2
  exact ⟨⟨a.1, a.2.2.1, b.2⟩, a.2.1, b.1⟩
theorem cl_ok {n : Nat} (h : n ∈ lnL.map (·.1)) : HdOk [(clN, dcF n)] := fun p hp => by
  have a := ln_ok n h
  cases List.mem_singleton.1 hp
  exact ⟨⟨host_ok.2.2.1, host_ok.2.2.2.2.2.2.1, a.2.2.2⟩, show clN.length ≤ 20 from by decide, by have := a.2.2.1; show (dcF n).length ≤ 30; omega⟩
theorem ok_app {A B : List (Bs × Bs)} (h1 : HdOk A) (h2 : HdOk B) : HdOk (A ++ B) := fun p hp => (List.mem_append.1 hp).elim (h1 p) (h2 p)
theorem req_ok {r : Rq} (h : RtR r) : HdOk (reqH r) := by
  have hh : HdOk [(hostN, r.ho)] := fun p hp => by
    have a := ho_ok _ h.ho
    cases List.mem_singleton.1 hp
    exact ⟨⟨host_ok.1, host_ok.2.2.2.2.2.1, a.2.2.1⟩, show hostN.length ≤ 20 from by decide, by have := a.2.1; show r.ho.length ≤ 30; omega⟩
  refine ok_app hh (ok_app (hs_ok h.hs) ?_)
  unfold lenH
  split
  · exact fun p hp => by cases hp
  · exact cl_ok (bo_ok _ h.bd).2
theorem req_len {r : Rq} (h : RtR r) : (reqH r).length ≤ 6 := by
  have := h.n
  unfold reqH lenH
  split <;> simp <;> omega
theorem reqF_ok {r : Rq} (h : RtR r) : (13 : UInt8) ∉ reqF r ∧ (reqF r).length ≤ 60 ∧ (32 : UInt8) ∉ tgtB r.p r.q ∧ tgtB r.p r.q ≠ [] := by
  obtain ⟨a1, a2, a3, a4, _⟩ := me_ok _ h.m
  obtain ⟨b1, b2, b3, b4, b5, _⟩ := pa_ok _ h.p
  obtain ⟨c1, c2, c3, _⟩ := qu_ok _ h.q
  have d : (13 : UInt8) ∉ httpB := by decide
  have t : (13 : UInt8) ∉ tgtB r.p r.q ∧ (tgtB r.p r.q).length ≤ 30 ∧ (32 : UInt8) ∉ tgtB r.p r.q ∧ tgtB r.p r.q ≠ [] := by
    unfold tgtB
    split
    · exact ⟨b2, by omega, b1, b4⟩
    · refine ⟨?_, ?_, ?_, ?_⟩
      · simp only [List.mem_append, List.mem_cons, not_or]; exact ⟨b2, by decide, c2⟩
      · simp only [List.length_append, List.length_cons]; omega
      · simp only [List.mem_append, List.mem_cons, not_or]; exact ⟨b1, by decide, c1⟩
      · simp
  refine ⟨?_, ?_, t.2.2⟩
  · unfold reqF
    simp only [List.mem_append, List.mem_cons, not_or]
    exact ⟨a2, by decide, t.1, by decide, d⟩
  · unfold reqF
    have : httpB.length = 8 := rfl
    have := t.2.1
    simp only [List.length_append, List.length_cons]
    omega
theorem head_len {F : Bs} {H : List (Bs × Bs)} (hH : HdOk H) : (headT F H).length ≤ F.length + 60 * H.length + 4 := by
  have := hds_len fun p hp => (hH p hp).2
  unfold headT
  simp only [List.length_append, List.length_cons, List.length_nil]
  omega
theorem reqT_len {r : Rq} (h : RtR r) : (reqT r).length ≤ 600 := by
  have a := head_len (F := reqF r) (req_ok h)
  have b := req_len h
  have c := (reqF_ok h).2.1
  have d := (bo_ok _ h.bd).1
  unfold reqT
  rw [List.length_append]
  omega

/-! responses -/
theorem rsp_cl {r : Rs} (h : RtS r) : valB clN (rspH r) = [dcF r.bd.length] := by
  unfold rspH
  rw [val_app, (hs_no h.hs).2.1, val1 _ host_ok.2.2.2.2.2.2.2.2.2.2.2.2.2.1]; rfl
theorem rsp_te {r : Rs} (h : RtS r) : valB teN (rspH r) = [] := by
  unfold rspH
  rw [val_app, (hs_no h.hs).2.2, val0 _ host_ok.2.2.2.2.2.2.2.2.2.2.2.2.2.2]; rfl
theorem rsp_nf {r : Rs} (h : RtS r) : nfB (rspH r) = r.hs := by
  unfold rspH
  rw [nf_app, nf_hs h.hs, nf_cl, List.append_nil]
theorem rsp_ok {r : Rs} (h : RtS r) : HdOk (rspH r) := ok_app (hs_ok h.hs) (cl_ok (bs_ok _ h.bd).2)
theorem rsp_len {r : Rs} (h : RtS r) : (rspH r).length ≤ 4 := by
  have := h.n
  unfold rspH
  simp
  omega
theorem rspT_len {r : Rs} (h : RtS r) : (rspT r).length ≤ 600 := by
  have a := head_len (F := stF r.st) (rsp_ok h)
  have b := rsp_len h
  have c := (st_ok _ h.st).2.2.2.1
  have d := (bs_ok _ h.bd).1
  unfold rspT
  rw [List.length_append]
  omega
end Go.Proofs.YtjphemllikflpaaGreatDoor
