/-
  Requests: nearly always right ones, as they are drawn.
-/
import Derived.Test.YtnaeehnkabojdaaGreatDoorQuR
namespace Go.Proofs.YtnaeehnkabojdaaGreatDoor
open Go.Ev Go.RowKit RecLaw PathLaw QueryLaw

def odI : List Value := [.int .i64 (-1), .int .i64 1001, .int .i64 0, .int .i64 1000, .int .i64 (-1099511627776), .int .i64 1099511627776]
def bdI : List Value := [.int .i64 20000, .int .i64 20001]
noncomputable def SRq (e e2 : Bool) (j : Int) : SC := ⟨idn, spOr spRg (spOr (spRR 38 20 100 e) (spOr (spGS 41 shortB 1) (spOr (spGS 45 shortB 1) (spOr (spGS 42 hostS 1) (spOr (spGS 43 shortB 150) (spOr (spGS 44 qryS 150) (spOr (spGH 46 40 40 e2) (spNk 8 j)))))))), true, true⟩
theorem SRq_ok (e e2 : Bool) (j : Int) : (SRq e e2 j).cfg.OK Tryz.prog := (spRg_ok.or ((spRR_ok rr_ex e).or ((spGS_ok tt_gs).or ((spGS_ok ft_gs).or ((spGS_ok hn_gs).or ((spGS_ok pn_gs).or ((spGS_ok qn_gs).or ((spGH_ok hd_ex e2).or (spNk_ok 8 j))))))))).cfg
noncomputable def rqC0 (xs : Array Value) (e e2 : Bool) (r : Rq) (E : Int) (Q : Value → Option Obj → Prop) : Prop := dr xs E (bif nextR xs E 12 == 0 then dr xs (E + 1) (rg (nextR xs (E + 1) 6) 6 6 (Q (rV (gI odI (nextR xs (E + 1) 6)) (bl r.m) (bl r.ho) (bl r.p) (bl r.q) (bl r.f) (bl r.bd) (hdT e r.hs)) (some (strm xs (E + 1 + 1))))) else dr xs (E + 1) (Q (rV (IntKind.i64.wrap (0 + nextR xs (E + 1) 1001)) (bl r.m) (bl r.ho) (bl r.p) (bl r.q) (bl r.f) (bl r.bd) (hdT e r.hs)) (some (strm xs (E + 1 + 1)))))
noncomputable def rqC1 (xs : Array Value) (e e2 : Bool) (r : Rq) (E : Int) (Q : Value → Option Obj → Prop) : Prop := gn xs E (Q (rV r.at_ (gsC 41 shortB 1 xs E).1 (bl r.ho) (bl r.p) (bl r.q) (bl r.f) (bl r.bd) (hdT e r.hs)) (some (strm xs (gsC 41 shortB 1 xs E).2)))
noncomputable def rqC2 (xs : Array Value) (e e2 : Bool) (r : Rq) (E : Int) (Q : Value → Option Obj → Prop) : Prop := gn xs E (Q (rV r.at_ (bl r.m) (gsC 42 hostS 1 xs E).1 (bl r.p) (bl r.q) (bl r.f) (bl r.bd) (hdT e r.hs)) (some (strm xs (gsC 42 hostS 1 xs E).2)))
noncomputable def rqC3 (xs : Array Value) (e e2 : Bool) (r : Rq) (E : Int) (Q : Value → Option Obj → Prop) : Prop := gn xs E (Q (rV r.at_ (bl r.m) (bl r.ho) (gsC 43 shortB 150 xs E).1 (bl r.q) (bl r.f) (bl r.bd) (hdT e r.hs)) (some (strm xs (gsC 43 shortB 150 xs E).2)))
noncomputable def rqC4 (xs : Array Value) (e e2 : Bool) (r : Rq) (E : Int) (Q : Value → Option Obj → Prop) : Prop := gn xs E (Q (rV r.at_ (bl r.m) (bl r.ho) (bl r.p) (gsC 44 qryS 150 xs E).1 (bl r.f) (bl r.bd) (hdT e r.hs)) (some (strm xs (gsC 44 qryS 150 xs E).2)))
noncomputable def rqC5 (xs : Array Value) (e e2 : Bool) (r : Rq) (E : Int) (Q : Value → Option Obj → Prop) : Prop := gn xs E (Q (rV r.at_ (bl r.m) (bl r.ho) (bl r.p) (bl r.q) (gsC 45 shortB 1 xs E).1 (bl r.bd) (hdT e r.hs)) (some (strm xs (gsC 45 shortB 1 xs E).2)))
noncomputable def rqC6 (xs : Array Value) (e e2 : Bool) (r : Rq) (E : Int) (Q : Value → Option Obj → Prop) : Prop := gh xs 46 40 40 e2 E (Q (rV r.at_ (bl r.m) (bl r.ho) (bl r.p) (bl r.q) (bl r.f) (bl r.bd) (hdT e2 (ghC 46 40 xs E).1)) (some (strm xs (ghC 46 40 xs E).2)))
noncomputable def rqC7 (xs : Array Value) (e e2 : Bool) (r : Rq) (E : Int) (Q : Value → Option Obj → Prop) : Prop := dr xs E (rg (nextR xs E 2) 2 2 (bif decide (0 ≤ gI bdI (nextR xs E 2)) && decide (gI bdI (nextR xs E 2) ≤ 100000) && Nat.ble ((ByteArray.mk #[98]).size * (gI bdI (nextR xs E 2)).toNat) 100000 then Q (rV r.at_ (bl r.m) (bl r.ho) (bl r.p) (bl r.q) (bl r.f) (bl (Lib.repeatL (ByteArray.mk #[98]).data.toList (gI bdI (nextR xs E 2)).toNat)) (hdT e r.hs)) (some (strm xs (E + 1))) else False))
noncomputable def rqA (xs : Array Value) (e e2 : Bool) (j : Int) (F : Array Value → Bool → Bool → Rq → Int → (Value → Option Obj → Prop) → Prop) (r : Rq) (D : Int) (Q : Value → Option Obj → Prop) : Prop :=
  dr xs D (bif nextR xs D 6 == 0 then drK xs (D + 1) 8 j (F xs e e2 r (D + 1 + 1) Q) else Q (rqT e r) (some (strm xs (D + 1))))
noncomputable def rqG (xs : Array Value) (e : Bool) (d : Int) (X : Prop) : Prop := bif decide (0 ≤ d) && decide (d ≤ 100) && allInts xs && (cond e (rrC 38 20 xs d).1.hs.isEmpty (!(rrC 38 20 xs d).1.hs.isEmpty)) then X else False
theorem rq0_f (xs : Array Value) (d : Int) (Q : Value → Option Obj → Prop) : ffn Tryz.prog (SRq false false 0) [] 3000 [] Tryz.f11 [.pointer (some ⟨0, 0, none⟩)] (Ev.h1 (strm xs d)) (fun v h => Q v (h.get 0)) =
    rqG xs false d (rqA xs false false 0 rqC0 (rrC 38 20 xs d).1 (rrC 38 20 xs d).2 Q) := by kernel_rfl
theorem rq0_t (xs : Array Value) (d : Int) (Q : Value → Option Obj → Prop) : ffn Tryz.prog (SRq true false 0) [] 3000 [] Tryz.f11 [.pointer (some ⟨0, 0, none⟩)] (Ev.h1 (strm xs d)) (fun v h => Q v (h.get 0)) =
    rqG xs true d (rqA xs true false 0 rqC0 (rrC 38 20 xs d).1 (rrC 38 20 xs d).2 Q) := by kernel_rfl
theorem rq1_f (xs : Array Value) (d : Int) (Q : Value → Option Obj → Prop) : ffn Tryz.prog (SRq false false 1) [] 3000 [] Tryz.f11 [.pointer (some ⟨0, 0, none⟩)] (Ev.h1 (strm xs d)) (fun v h => Q v (h.get 0)) =
    rqG xs false d (rqA xs false false 1 rqC1 (rrC 38 20 xs d).1 (rrC 38 20 xs d).2 Q) := by kernel_rfl
theorem rq1_t (xs : Array Value) (d : Int) (Q : Value → Option Obj → Prop) : ffn Tryz.prog (SRq true false 1) [] 3000 [] Tryz.f11 [.pointer (some ⟨0, 0, none⟩)] (Ev.h1 (strm xs d)) (fun v h => Q v (h.get 0)) =
    rqG xs true d (rqA xs true false 1 rqC1 (rrC 38 20 xs d).1 (rrC 38 20 xs d).2 Q) := by kernel_rfl
theorem rq2_f (xs : Array Value) (d : Int) (Q : Value → Option Obj → Prop) : ffn Tryz.prog (SRq false false 2) [] 3000 [] Tryz.f11 [.pointer (some ⟨0, 0, none⟩)] (Ev.h1 (strm xs d)) (fun v h => Q v (h.get 0)) =
    rqG xs false d (rqA xs false false 2 rqC2 (rrC 38 20 xs d).1 (rrC 38 20 xs d).2 Q) := by kernel_rfl
theorem rq2_t (xs : Array Value) (d : Int) (Q : Value → Option Obj → Prop) : ffn Tryz.prog (SRq true false 2) [] 3000 [] Tryz.f11 [.pointer (some ⟨0, 0, none⟩)] (Ev.h1 (strm xs d)) (fun v h => Q v (h.get 0)) =
    rqG xs true d (rqA xs true false 2 rqC2 (rrC 38 20 xs d).1 (rrC 38 20 xs d).2 Q) := by kernel_rfl
theorem rq3_f (xs : Array Value) (d : Int) (Q : Value → Option Obj → Prop) : ffn Tryz.prog (SRq false false 3) [] 3000 [] Tryz.f11 [.pointer (some ⟨0, 0, none⟩)] (Ev.h1 (strm xs d)) (fun v h => Q v (h.get 0)) =
    rqG xs false d (rqA xs false false 3 rqC3 (rrC 38 20 xs d).1 (rrC 38 20 xs d).2 Q) := by kernel_rfl
theorem rq3_t (xs : Array Value) (d : Int) (Q : Value → Option Obj → Prop) : ffn Tryz.prog (SRq true false 3) [] 3000 [] Tryz.f11 [.pointer (some ⟨0, 0, none⟩)] (Ev.h1 (strm xs d)) (fun v h => Q v (h.get 0)) =
    rqG xs true d (rqA xs true false 3 rqC3 (rrC 38 20 xs d).1 (rrC 38 20 xs d).2 Q) := by kernel_rfl
theorem rq4_f (xs : Array Value) (d : Int) (Q : Value → Option Obj → Prop) : ffn Tryz.prog (SRq false false 4) [] 3000 [] Tryz.f11 [.pointer (some ⟨0, 0, none⟩)] (Ev.h1 (strm xs d)) (fun v h => Q v (h.get 0)) =
    rqG xs false d (rqA xs false false 4 rqC4 (rrC 38 20 xs d).1 (rrC 38 20 xs d).2 Q) := by kernel_rfl
theorem rq4_t (xs : Array Value) (d : Int) (Q : Value → Option Obj → Prop) : ffn Tryz.prog (SRq true false 4) [] 3000 [] Tryz.f11 [.pointer (some ⟨0, 0, none⟩)] (Ev.h1 (strm xs d)) (fun v h => Q v (h.get 0)) =
    rqG xs true d (rqA xs true false 4 rqC4 (rrC 38 20 xs d).1 (rrC 38 20 xs d).2 Q) := by kernel_rfl
theorem rq5_f (xs : Array Value) (d : Int) (Q : Value → Option Obj → Prop) : ffn Tryz.prog (SRq false false 5) [] 3000 [] Tryz.f11 [.pointer (some ⟨0, 0, none⟩)] (Ev.h1 (strm xs d)) (fun v h => Q v (h.get 0)) =
    rqG xs false d (rqA xs false false 5 rqC5 (rrC 38 20 xs d).1 (rrC 38 20 xs d).2 Q) := by kernel_rfl
theorem rq5_t (xs : Array Value) (d : Int) (Q : Value → Option Obj → Prop) : ffn Tryz.prog (SRq true false 5) [] 3000 [] Tryz.f11 [.pointer (some ⟨0, 0, none⟩)] (Ev.h1 (strm xs d)) (fun v h => Q v (h.get 0)) =
    rqG xs true d (rqA xs true false 5 rqC5 (rrC 38 20 xs d).1 (rrC 38 20 xs d).2 Q) := by kernel_rfl
theorem rq6_ff (xs : Array Value) (d : Int) (Q : Value → Option Obj → Prop) : ffn Tryz.prog (SRq false false 6) [] 3000 [] Tryz.f11 [.pointer (some ⟨0, 0, none⟩)] (Ev.h1 (strm xs d)) (fun v h => Q v (h.get 0)) =
    rqG xs false d (rqA xs false false 6 rqC6 (rrC 38 20 xs d).1 (rrC 38 20 xs d).2 Q) := by kernel_rfl
theorem rq6_ft (xs : Array Value) (d : Int) (Q : Value → Option Obj → Prop) : ffn Tryz.prog (SRq false true 6) [] 3000 [] Tryz.f11 [.pointer (some ⟨0, 0, none⟩)] (Ev.h1 (strm xs d)) (fun v h => Q v (h.get 0)) =
    rqG xs false d (rqA xs false true 6 rqC6 (rrC 38 20 xs d).1 (rrC 38 20 xs d).2 Q) := by kernel_rfl
theorem rq6_tf (xs : Array Value) (d : Int) (Q : Value → Option Obj → Prop) : ffn Tryz.prog (SRq true false 6) [] 3000 [] Tryz.f11 [.pointer (some ⟨0, 0, none⟩)] (Ev.h1 (strm xs d)) (fun v h => Q v (h.get 0)) =
    rqG xs true d (rqA xs true false 6 rqC6 (rrC 38 20 xs d).1 (rrC 38 20 xs d).2 Q) := by kernel_rfl
theorem rq6_tt (xs : Array Value) (d : Int) (Q : Value → Option Obj → Prop) : ffn Tryz.prog (SRq true true 6) [] 3000 [] Tryz.f11 [.pointer (some ⟨0, 0, none⟩)] (Ev.h1 (strm xs d)) (fun v h => Q v (h.get 0)) =
    rqG xs true d (rqA xs true true 6 rqC6 (rrC 38 20 xs d).1 (rrC 38 20 xs d).2 Q) := by kernel_rfl
theorem rq7_f (xs : Array Value) (d : Int) (Q : Value → Option Obj → Prop) : ffn Tryz.prog (SRq false false 7) [] 3000 [] Tryz.f11 [.pointer (some ⟨0, 0, none⟩)] (Ev.h1 (strm xs d)) (fun v h => Q v (h.get 0)) =
    rqG xs false d (rqA xs false false 7 rqC7 (rrC 38 20 xs d).1 (rrC 38 20 xs d).2 Q) := by kernel_rfl
theorem rq7_t (xs : Array Value) (d : Int) (Q : Value → Option Obj → Prop) : ffn Tryz.prog (SRq true false 7) [] 3000 [] Tryz.f11 [.pointer (some ⟨0, 0, none⟩)] (Ev.h1 (strm xs d)) (fun v h => Q v (h.get 0)) =
    rqG xs true d (rqA xs true false 7 rqC7 (rrC 38 20 xs d).1 (rrC 38 20 xs d).2 Q) := by kernel_rfl
theorem someRQ : Tryz.f11.body.isSome = true := by kernel_rfl
end Go.Proofs.YtnaeehnkabojdaaGreatDoor
