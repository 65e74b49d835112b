/-
  Bytes: the law's run.
-/
import Derived.Test.YtjphemllikflpaaGreatDoorByW
namespace Go.Proofs.YtjphemllikflpaaGreatDoor
open Go.Ev Go.RowKit RecLaw PathLaw QueryLaw BytesLaw

def moL : List Value := [.string ⟨#[]⟩, .string ⟨#[109, 111, 114, 101]⟩, .string ⟨#[48, 13, 10]⟩]
/-- A response that was read. -/
noncomputable def rsF2 (a : Rs) : Value := sV a.st (fz ⟨a.hs.map prV⟩) (bl a.bd)
noncomputable def rqF2 (r : Rq) : Value := rqW r (fz ⟨r.hs.map prV⟩)
noncomputable def spLw (e1 e2 : Bool) (B c mo t u : ByteArray) (k nc nt nu : Int) (r : Rq) (a : Rs) : FuncId → Array Value → AH → Option (Bool × Value × AH) :=
  spOr spReady (spOr (spT 7 [.string B, .int .i64 k] (.tuple ⟨[.string c, .int .i64 0]⟩)) (spOr (spT 8 [.string (c ++ mo)] (.tuple ⟨[.string B, .int .i64 nc, .int .i64 0]⟩))
  (spOr (spRR 9 20 100 e1) (spOr (spRP 20 200 e2) (spOr (spT 11 [rqW r (hdT e1 r.hs)] (.tuple ⟨[.string t, .int .i64 0]⟩)) (spOr (spT 12 [.string (t ++ mo)] (.tuple ⟨[rqF2 r, .int .i64 nt, .int .i64 0]⟩))
  (spOr (spT 13 [rsT e2 a] (.tuple ⟨[.string u, .int .i64 0]⟩)) (spOr (spT 14 [.string (u ++ mo)] (.tuple ⟨[rsF2 a, .int .i64 nu, .int .i64 0]⟩))
  (spOr (spT 15 [rqF2 r, rqW r (hdT e1 r.hs)] (.bool true)) (spOr (spT 16 [rsF2 a, rsT e2 a] (.bool true)) (spOr spRg (spNext []))))))))))))
noncomputable def SLw (e1 e2 : Bool) (B c mo t u : ByteArray) (k nc nt nu : Int) (r : Rq) (a : Rs) : SC := ⟨idn, spLw e1 e2 B c mo t u k nc nt nu r a, true, true⟩
noncomputable def tqU (x y : List Value) (X : Prop) : Prop := bif tq x y then X else False
noncomputable def kqU (a b : ByteArray) (X : Prop) : Prop := bif Nat.ble (a.size + b.size) 1000000 then X else False
noncomputable def lwF (e1 e2 : Bool) (r' : Rq) (a' : Rs) (m' : ByteArray) (B c mo t u : ByteArray) (k nc nt nu : Int) (r : Rq) (a : Rs) (Q : Value → Prop) : Prop :=
  tqU [rqW r' (hdT e1 r'.hs)] [rqW r (hdT e1 r.hs)] (kqU t m' (tqU [.string (t ++ m')] [.string (t ++ mo)] (tqU [rsT e2 a'] [rsT e2 a] (kqU u m' (tqU [.string (u ++ m')] [.string (u ++ mo)]
    (bif nt == (t.size : Int) then bif nu == (u.size : Int) then tqU [rqF2 r, rqW r' (hdT e1 r'.hs)] [rqF2 r, rqW r (hdT e1 r.hs)] (tqU [rsF2 a, rsT e2 a'] [rsF2 a, rsT e2 a] (Q (.bool true))) else Q (.bool false) else Q (.bool false)))))))
noncomputable def lwG (xs : Array Value) (e1 e2 : Bool) (m' : ByteArray) (B c mo t u : ByteArray) (k nc nt nu : Int) (r : Rq) (a : Rs) (Q : Value → Prop) : Prop :=
  bif decide ((0 : Int) ≤ 3) && decide ((3 : Int) ≤ 100) && allInts xs && (cond e1 (rrC 9 20 xs 3).1.hs.isEmpty (!(rrC 9 20 xs 3).1.hs.isEmpty)) then
    bif decide (0 ≤ (rrC 9 20 xs 3).2) && decide ((rrC 9 20 xs 3).2 ≤ 200) && allInts xs && (cond e2 (rpC 20 xs (rrC 9 20 xs 3).2).1.hs.isEmpty (!(rpC 20 xs (rrC 9 20 xs 3).2).1.hs.isEmpty)) then
      lwF e1 e2 (rrC 9 20 xs 3).1 (rpC 20 xs (rrC 9 20 xs 3).2).1 m' B c mo t u k nc nt nu r a Q
    else False else False
noncomputable def lwT (xs : Array Value) (e1 e2 : Bool) (B c mo t u : ByteArray) (k nc nt nu : Int) (r : Rq) (a : Rs) (Q : Value → Prop) : Prop :=
  dr xs 0 (bif decide (0 ≤ W (0 + nextR xs 0 41)) && decide (W (0 + nextR xs 0 41) ≤ 100000) && Nat.ble ((ByteArray.mk #[97, 98]).size * (W (0 + nextR xs 0 41)).toNat) 100000 then
    dr xs (0 + 1) (rg (nextR xs (0 + 1) 3) 3 3 (dr xs (0 + 1 + 1) (tqU [.string (bl (Lib.repeatL (ByteArray.mk #[97, 98]).data.toList (W (0 + nextR xs 0 41)).toNat)), .int .i64 (W (1 + nextR xs (0 + 1 + 1) 30))] [.string B, .int .i64 k]
      (kqU c (gS moL (nextR xs (0 + 1) 3)) (tqU [.string (c ++ gS moL (nextR xs (0 + 1) 3))] [.string (c ++ mo)]
        (bif !(B.toList == (bl (Lib.repeatL (ByteArray.mk #[97, 98]).data.toList (W (0 + nextR xs 0 41)).toNat)).toList) then Q (.bool false) else bif !(nc == (c.size : Int)) then Q (.bool false) else
          lwG xs e1 e2 (gS moL (nextR xs (0 + 1) 3)) B c mo t u k nc nt nu r a Q)))))) else False)
set_option maxRecDepth 100000 in
theorem lw_tt (xs : Array Value) (B c mo t u : ByteArray) (k nc nt nu : Int) (r : Rq) (a : Rs) (Q : Value → Prop) : ffn Tryz.prog (SLw true true B c mo t u k nc nt nu r a) [] 3000 [] Tryz.f3 [fz xs] h0 (fun v _ => Q v) = lwT xs true true B c mo t u k nc nt nu r a Q := by kernel_rfl
set_option maxRecDepth 100000 in
theorem lw_tf (xs : Array Value) (B c mo t u : ByteArray) (k nc nt nu : Int) (r : Rq) (a : Rs) (Q : Value → Prop) : ffn Tryz.prog (SLw true false B c mo t u k nc nt nu r a) [] 3000 [] Tryz.f3 [fz xs] h0 (fun v _ => Q v) = lwT xs true false B c mo t u k nc nt nu r a Q := by kernel_rfl
set_option maxRecDepth 100000 in
theorem lw_ft (xs : Array Value) (B c mo t u : ByteArray) (k nc nt nu : Int) (r : Rq) (a : Rs) (Q : Value → Prop) : ffn Tryz.prog (SLw false true B c mo t u k nc nt nu r a) [] 3000 [] Tryz.f3 [fz xs] h0 (fun v _ => Q v) = lwT xs false true B c mo t u k nc nt nu r a Q := by kernel_rfl
set_option maxRecDepth 100000 in
theorem lw_ff (xs : Array Value) (B c mo t u : ByteArray) (k nc nt nu : Int) (r : Rq) (a : Rs) (Q : Value → Prop) : ffn Tryz.prog (SLw false false B c mo t u k nc nt nu r a) [] 3000 [] Tryz.f3 [fz xs] h0 (fun v _ => Q v) = lwT xs false false B c mo t u k nc nt nu r a Q := by kernel_rfl
theorem someLW : Tryz.f3.body.isSome = true := by kernel_rfl
theorem mo_all : ∀ v ∈ moL, (toStr v).size ≤ 10 := by
  intro v hv
  simp only [moL, List.mem_cons, List.not_mem_nil, or_false] at hv
  rcases hv with rfl | rfl | rfl
  · exact Nat.le_of_ble_eq_true rfl
  · exact Nat.le_of_ble_eq_true rfl
  · exact Nat.le_of_ble_eq_true rfl
theorem repLen (n : Nat) : (Lib.repeatL [97, 98] n).length = 2 * n := by
  rw [Lib.repeatL_length]
  simp
  omega
theorem tqU_mk {x : List Value} {X : Prop} (hX : X) : tqU x x X := need_mk (tq_eq rfl) hX
theorem kqU_mk {a b : ByteArray} (h : a.size + b.size ≤ 1000000) {X : Prop} (hX : X) : kqU a b X := need_mk (Nat.ble_eq_true_of_le h) hX
theorem hdT_of {L : List (Bs × Bs)} {e : Bool} (h : L.isEmpty = e) : hdT e L = hdV L := by rw [← h]; exact hdT_eq L
theorem uc_at {b m : Bs} {k : Nat} (hk : 1 ≤ k) (hk2 : k ≤ 30) (hb : b.length ≤ 2000) (hm : m.length ≤ 10) : FnOK 0 Tryz.prog 8 ⟨[.string (bl (chkT (chunks k b) ++ m))]⟩ h0 (fun v _ => v = .tuple ⟨[.string (bl b), .int .i64 ((chkT (chunks k b)).length : Int), .int .i64 0]⟩) := by
  have h1 := cut1_mem hk b.length b
  have hf : (chunks k b).flatten = b := cut1_flat hk b.length b (Nat.le_refl _)
  have hcl := chunks_len hk hk2 _ b (Nat.le_refl _)
  have := uc_fn (L := chunks k b) (more := m) (fun c hc => ⟨(h1 c hc).1, by have := (h1 c hc).2; omega⟩) (by rw [hf]; omega) (by unfold chkT endB; simp only [List.length_append, List.length_cons, List.length_nil]; omega)
  rw [hf] at this
  exact this
theorem SLw_ok {e1 e2 : Bool} {b m : Bs} {k : Nat} (hk : 1 ≤ k) (hk2 : k ≤ 30) (hb : b.length ≤ 2000) (hm : m.length ≤ 10) {r : Rq} (hr : RtR r) {a : Rs} (ha : RtS a) (h1 : r.hs.isEmpty = e1) (h2 : a.hs.isEmpty = e2) :
    (SLw e1 e2 (bl b) (bl (chkT (chunks k b))) (bl m) (bl (reqT r)) (bl (rspT a)) (k : Int) ((chkT (chunks k b)).length : Int) ((reqT r).length : Int) ((rspT a).length : Int) r a).cfg.OK Tryz.prog := by
  have q1 := hdT_of h1
  have q2 := hdT_of h2
  have n1 := hr.n
  have n2 := ha.n
  have s1 := ck_fn hk hk2 hb
  have s2 := (show FnOK 0 Tryz.prog 8 ⟨[.string (bl (chkT (chunks k b)) ++ bl m)]⟩ h0 (fun v _ => v = .tuple ⟨[.string (bl b), .int .i64 ((chkT (chunks k b)).length : Int), .int .i64 0]⟩) from by rw [bl_app]; exact uc_at hk hk2 hb hm)
  have s3 : FnOK 0 Tryz.prog 11 ⟨[rqW r (hdT e1 r.hs)]⟩ h0 (fun v _ => v = .tuple ⟨[strV (reqT r), .int .i64 0]⟩) := by rw [q1]; exact wq_fn hr
  have s4 : FnOK 0 Tryz.prog 12 ⟨[.string (bl (reqT r) ++ bl m)]⟩ h0 (fun v _ => v = .tuple ⟨[rqF2 r, .int .i64 ((reqT r).length : Int), .int .i64 0]⟩) := by rw [bl_app]; exact rd_fn hr (by omega)
  have s5 : FnOK 0 Tryz.prog 13 ⟨[rsT e2 a]⟩ h0 (fun v _ => v = .tuple ⟨[strV (rspT a), .int .i64 0]⟩) := by unfold rsT; rw [q2]; exact ws_fn ha
  have s6 : FnOK 0 Tryz.prog 14 ⟨[.string (bl (rspT a) ++ bl m)]⟩ h0 (fun v _ => v = .tuple ⟨[rsF2 a, .int .i64 ((rspT a).length : Int), .int .i64 0]⟩) := by rw [bl_app]; exact ru_fn ha (by omega)
  have s7 : FnOK 0 Tryz.prog 15 ⟨[rqF2 r, rqW r (hdT e1 r.hs)]⟩ h0 (fun v _ => v = .bool true) := by rw [q1]; exact sr_fn 0 _ _ _ _ _ _ r.hs n1
  have s8 : FnOK 0 Tryz.prog 16 ⟨[rsF2 a, rsT e2 a]⟩ h0 (fun v _ => v = .bool true) := by unfold rsT; rw [q2]; exact su_fn a.st _ a.hs (by omega)
  exact (spReady_ok.or ((spT_ok s1 rfl rfl).or ((spT_ok s2 rfl rfl).or ((spRR_ok rr_ex e1).or ((spRP_ok rp_ex e2).or ((spT_ok s3 (by cases e1 <;> rfl) rfl).or ((spT_ok s4 rfl rfl).or ((spT_ok s5 (by cases e2 <;> rfl) rfl).or ((spT_ok s6 rfl rfl).or ((spT_ok s7 (by cases e1 <;> rfl) rfl).or ((spT_ok s8 (by cases e2 <;> rfl) rfl).or (spRg_ok.or (spNext_ok []))))))))))))).cfg
theorem lwF_ok {e1 e2 : Bool} {B c m : ByteArray} {k nc : Int} {r : Rq} (hr : RtR r) {a : Rs} (ha : RtS a) (hm : m.size ≤ 10) {Q : Value → Prop} (hQ : Q (.bool true)) :
    lwF e1 e2 r a m B c m (bl (reqT r)) (bl (rspT a)) k nc ((reqT r).length : Int) ((rspT a).length : Int) r a Q := by
  have l1 := reqT_len hr
  have l2 := rspT_len ha
  unfold lwF
  rw [bl_size, bl_size]
  refine tqU_mk (kqU_mk (by rw [bl_size]; omega) (tqU_mk (tqU_mk (kqU_mk (by rw [bl_size]; omega) (tqU_mk (pick_t (by simp) (pick_t (by simp) (tqU_mk (tqU_mk hQ)))))))))
theorem lw_ok (zs : List Int) {e1 e2 : Bool} (h1 : (rrC 9 20 (intsV zs) 3).1.hs.isEmpty = e1) (h2 : (rpC 20 (intsV zs) (rrC 9 20 (intsV zs) 3).2).1.hs.isEmpty = e2) :
    ∃ (b m : Bs) (k : Nat) (r : Rq) (a : Rs), (1 ≤ k ∧ k ≤ 30 ∧ b.length ≤ 2000 ∧ m.length ≤ 10 ∧ RtR r ∧ RtS a ∧ r.hs.isEmpty = e1 ∧ a.hs.isEmpty = e2) ∧
      ∀ Q : Value → Prop, Q (.bool true) → lwT (intsV zs) e1 e2 (bl b) (bl (chkT (chunks k b))) (bl m) (bl (reqT r)) (bl (rspT a)) (k : Int) ((chkT (chunks k b)).length : Int) ((reqT r).length : Int) ((rspT a).length : Int) r a Q := by
  obtain ⟨hr, d0, d1, _⟩ := rrC_ok rr_ex zs (d := 3) (by omega) (by omega)
  obtain ⟨ha, _, _, _⟩ := rpC_ok rp_ex zs (d := (rrC 9 20 (intsV zs) 3).2) d0 (by omega)
  have b0 := (nextR_spec zs 41 0 (by omega) (by omega) (by omega) (by omega)).1
  have b1 := (nextR_spec zs 3 (0 + 1) (by omega) (by omega) (by omega) (by omega)).1
  have b2 := (nextR_spec zs 30 (0 + 1 + 1) (by omega) (by omega) (by omega) (by omega)).1
  have g1 := gS_in (m := 3) (P := fun s => s.size ≤ 10) rfl mo_all b1.1 b1.2
  obtain ⟨n, hn⟩ : ∃ n : Nat, nextR (intsV zs) 0 41 = (n : Int) := ⟨_, (Int.toNat_of_nonneg b0.1).symm⟩
  obtain ⟨j, hj⟩ : ∃ j : Nat, nextR (intsV zs) (0 + 1 + 1) 30 = (j : Int) := ⟨_, (Int.toNat_of_nonneg b2.1).symm⟩
  have w0 : W (0 + nextR (intsV zs) 0 41) = (n : Int) := by rw [hn, Int.zero_add]; exact wrap_id _ (by omega) (by omega)
  have w2 : W (1 + nextR (intsV zs) (0 + 1 + 1) 30) = ((j + 1 : Nat) : Int) := by rw [hj]; unfold W; rw [wrap_id _ (by omega) (by omega)]; omega
  have hmb : gS moL (nextR (intsV zs) (0 + 1) 3) = bl (gS moL (nextR (intsV zs) (0 + 1) 3)).data.toList := (bl_self _).symm
  have hlen : (gS moL (nextR (intsV zs) (0 + 1) 3)).data.toList.length ≤ 10 := by rw [len_size]; exact g1
  have hcl := chunks_len (k := j + 1) (by omega) (by omega) _ (Lib.repeatL [97, 98] n) (Nat.le_refl _)
  have hrl := repLen n
  have hck : (chkT (chunks (j + 1) (Lib.repeatL [97, 98] n))).length ≤ 1000 := by unfold chkT endB; simp only [List.length_append, List.length_cons, List.length_nil]; omega
  refine ⟨Lib.repeatL [97, 98] n, (gS moL (nextR (intsV zs) (0 + 1) 3)).data.toList, j + 1, (rrC 9 20 (intsV zs) 3).1, (rpC 20 (intsV zs) (rrC 9 20 (intsV zs) 3).2).1, ⟨by omega, by omega, by omega, hlen, hr, ha, h1, h2⟩, fun Q hQ => ?_⟩
  rw [bl_self]
  unfold lwT lwG
  rw [w0, w2, Int.toNat_natCast, bl_size]
  refine dr_mk (by omega) (by omega) (need_mk ?_ (dr_mk (by omega) (by omega) (rg_mk (by omega) (by omega) rfl (by decide) (dr_mk (by omega) (by omega) (tqU_mk (kqU_mk (by rw [bl_size]; omega) (tqU_mk (pick_f (by simp) (pick_f (by simp) (need_mk ?_ (need_mk ?_ (lwF_ok hr ha g1 hQ))))))))))))
  · have : Nat.ble ((ByteArray.mk #[97, 98]).size * n) 100000 = true := Nat.ble_eq_true_of_le (by show 2 * n ≤ _; omega)
    rw [this, decide_eq_true (show (0 : Int) ≤ (n : Int) by omega), decide_eq_true (show (n : Int) ≤ 100000 by omega)]; rfl
  · rw [allInts_intsV, h1]; cases e1 <;> rfl
  · rw [allInts_intsV, h2, decide_eq_true d0, decide_eq_true (show (rrC 9 20 (intsV zs) 3).2 ≤ 200 by omega)]; cases e2 <;> rfl
end Go.Proofs.YtjphemllikflpaaGreatDoor
