/-
  Bytes: requests and responses that are read.
-/
import Derived.Test.YtjphemllikflpaaGreatDoorByV
namespace Go.Proofs.YtjphemllikflpaaGreatDoor
open Go.Ev Go.RowKit RecLaw PathLaw QueryLaw BytesLaw

noncomputable def zR : Value := rV 0 ⟨#[]⟩ ⟨#[]⟩ ⟨#[]⟩ ⟨#[]⟩ ⟨#[]⟩ ⟨#[]⟩ (.slice none 0 0)
noncomputable def zS : Value := sV 0 (.slice none 0 0) ⟨#[]⟩
def htB : ByteArray := ⟨#[72, 84, 84, 80, 47, 49, 46, 49]⟩
noncomputable def hdW (F : ByteArray) (H : List Value) (a : Int) : Value := .agg ⟨[.string F, fz ⟨H⟩, .int .i64 a]⟩
noncomputable def SRe (s F m t v ho b : ByteArray) (H l hs : List Value) (a n : Int) (rv : Value) : SC := ⟨idn, spOr (spT 37 [.string s] (.tuple ⟨[hdW F H a, .bool true]⟩)) (spOr (spT 38 [.string F] (.tuple ⟨[fz ⟨[.string m, .string t, .string v]⟩, .bool true]⟩))
  (spOr (spT 39 [fz ⟨H⟩, .string hoB] (fz ⟨[.string ho]⟩)) (spOr (spT 40 [hdW F H a, .string s, .int .i64 1] (.tuple ⟨[fz ⟨l⟩, .string b, .int .i64 n, .int .i64 0]⟩)) (spOr (spT 35 [fz ⟨l⟩, .string hoB] (fz ⟨hs⟩)) (spOr spIg (spT 33 [rv] (.int .i64 0))))))), false, true⟩
noncomputable def ixQ (x : ByteArray) : Int := Lib.index x.data.toList [63]
noncomputable def ctQ (x : ByteArray) (K : ByteArray → ByteArray → Prop) : Prop :=
  bif Nat.ble x.size 1000000 && true then bif decide (ixQ x ≥ 0) then bif decide (0 ≤ ixQ x) && decide (ixQ x ≤ (x.size : Int)) then
    bif decide (0 ≤ W (ixQ x + 1)) && decide (W (ixQ x + 1) ≤ (x.size : Int)) && decide ((x.size : Int) ≤ (x.size : Int)) then K (x.extract 0 (ixQ x).toNat) (x.extract (W (ixQ x + 1)).toNat x.size) else False else False
  else K x ⟨#[]⟩ else False
noncomputable def reF (v : Value) (e : Int) (Q : Value → Prop) : Prop := Q (.tuple ⟨[v, .int .i64 0, .int .i64 e]⟩)
noncomputable def reE (s F m t v ho b : ByteArray) (H l hs : List Value) (a n : Int) (rv : Value) (Q : Value → Prop) : Prop :=
  bif decide ((s.size : Int) > 60000) then reF zR 2 Q else tqT [.string s] (tqT [.string F] (bif !(v.toList == htB.toList) then reF zR 9 Q else bif decide (((Array.mk H).size : Int) > 50) then reF zR 2 Q else
    tqT [fz ⟨H⟩, .string hoB] (tqT [hdW F H a, .string s, .int .i64 1] (tqT [fz ⟨l⟩, .string hoB] (ctQ t fun pa qu => bif tq [rV 0 m ho pa qu ⟨#[]⟩ b (fz ⟨hs⟩)] [rv] then Q (.tuple ⟨[rV 0 m ho pa qu ⟨#[]⟩ b (fz ⟨hs⟩), .int .i64 n, .int .i64 0]⟩) else False)))))
set_option maxRecDepth 20000 in
theorem ree (s F m t v ho b : ByteArray) (H l hs : List Value) (a n : Int) (rv : Value) (Q : Value → Prop) : ffn Tryz.prog (SRe s F m t v ho b H l hs a n rv) [] 3000 [] Tryz.f12 [.string s] h0 (fun v _ => Q v) = reE s F m t v ho b H l hs a n rv Q := by kernel_rfl
theorem someRDQ : Tryz.f12.body.isSome = true := by kernel_rfl
theorem ixc (c : UInt8) : ∀ (l r : Bs), c ∉ l → Lib.index (l ++ c :: r) [c] = (l.length : Int)
  | [], r, _ => by
    rw [List.nil_append, Lib.index]
    simp
  | x :: l, r, h => by
    have h1 : ¬ c = x := fun e => h (by simp [e])
    have ih := ixc c l r fun e => h (by simp [e])
    rw [List.cons_append, Lib.index, ih]
    have hp : List.isPrefixOf [c] (x :: (l ++ c :: r)) = false := by
      rw [List.isPrefixOf_cons_cons]
      have : (c == x) = false := beq_eq_false_iff_ne.2 h1
      rw [this]; rfl
    have hn : (((l.length : Nat) : Int) == -1) = false := by rw [beq_eq_false_iff_ne]; omega
    rw [hp, hn]
    simp
theorem ix0 : ∀ p ∈ paS, Lib.index p [63] = -1 := by decide +kernel
theorem ctQ_ok {r : Rq} (h : RtR r) {K : ByteArray → ByteArray → Prop} (hK : K (bl r.p) (bl r.q)) : ctQ (bl (tgtB r.p r.q)) K := by
  have l3 := (pa_ok _ h.p).2.2.2.2.1
  have l4 := (qu_ok _ h.q).2.2.1
  unfold ctQ ixQ
  rw [bl_list, bl_size]
  unfold tgtB
  by_cases hq : r.q = []
  · rw [if_pos hq, ix0 _ h.p]
    refine need_mk (by rw [Nat.ble_eq_true_of_le (by omega)]; rfl) (pick_f (by decide) ?_)
    rw [hq] at hK
    exact hK
  · rw [if_neg hq, ixc 63 _ _ (pa_ok _ h.p).2.2.1]
    have hlen : (r.p ++ 63 :: r.q).length = r.p.length + (r.q.length + 1) := by simp
    have w1 : W ((r.p.length : Int) + 1) = ((r.p.length + 1 : Nat) : Int) := w_nat 1 (by omega) (by omega)
    have e1 : (bl (r.p ++ 63 :: r.q)).extract 0 r.p.length = bl r.p := by
      rw [bl_cut _ _ _ (by omega), List.drop_zero, List.take_left]
    have e2 : (bl (r.p ++ 63 :: r.q)).extract (r.p.length + 1) (r.p ++ 63 :: r.q).length = bl r.q := by
      rw [bl_cut _ _ _ (Nat.le_refl _), List.take_length, ← List.drop_drop, List.drop_left]
      rfl
    rw [w1]
    simp only [Int.toNat_natCast, e1, e2]
    refine need_mk (by rw [Nat.ble_eq_true_of_le (by omega)]; rfl) (pick_t (decide_eq_true (by omega)) (need_mk ?_ (need_mk ?_ hK)))
    · simp only [Bool.and_eq_true, decide_eq_true_eq]; omega
    · simp only [Bool.and_eq_true, decide_eq_true_eq]; omega
theorem hdn_req {r : Rq} (h : RtR r) : HdN (reqH r) := ⟨by unfold reqH; simp, req_len h, fun p hp => (req_ok h p hp).1.1⟩
theorem rst_req {r : Rq} (h : RtR r) (F : ByteArray) (more : Bs) : FnOK 0 Tryz.prog 40 ⟨[hdW F ((reqH r).map prV) ((headT (reqF r) (reqH r)).length : Int), .string (bl (reqT r ++ more)), .int .i64 1]⟩ h0
    (fun v _ => v = .tuple ⟨[fz ⟨((hostN, r.ho) :: r.hs).map prV⟩, strV r.bd, .int .i64 ((reqT r).length : Int), .int .i64 0]⟩) := by
  have hl := reqT_len h
  have hp : (headT (reqF r) (reqH r)).length ≤ 10000 := by
    unfold reqT at hl
    rw [List.length_append] at hl
    omega
  have hb := (bo_ok _ h.bd).1
  have e : reqT r ++ more = headT (reqF r) (reqH r) ++ (r.bd ++ more) := by unfold reqT; rw [List.append_assoc]
  have hc := req_cl h
  rw [e]
  by_cases hz : r.bd = []
  · rw [if_pos hz] at hc
    have h5 : (reqH r).length ≤ 5 := by
      have := h.n
      unfold reqH lenH
      rw [if_pos hz]
      simp; omega
    have := rst_n F (pre := headT (reqF r) (reqH r)) (more := r.bd ++ more) hp (k := 1) (by omega) (reqH r) (hdn_req h) h5 hc (req_te h)
    rw [req_nf h] at this
    unfold reqT
    rw [hz, List.append_nil]
    rw [hz] at this
    exact this
  · rw [if_neg hz] at hc
    have := rst_s F (pre := headT (reqF r) (reqH r)) (bd := r.bd) (more := more) (t := (r.bd.length, dcF r.bd.length)) (ln_ok _ (bo_ok _ h.bd).2).1 rfl (by omega) hp (k := 1) (by omega) (reqH r) (hdn_req h) hc (req_te h)
    rw [req_nf h] at this
    exact this
theorem http_no : (32 : UInt8) ∉ httpB ∧ httpB ≠ [] := by decide
theorem rd_fn {r : Rq} (h : RtR r) {more : Bs} (hm : more.length ≤ 100) : FnOK 0 Tryz.prog 12 ⟨[.string (bl (reqT r ++ more))]⟩ h0 (fun v _ => v = .tuple ⟨[rqW r (fz ⟨r.hs.map prV⟩), .int .i64 ((reqT r).length : Int), .int .i64 0]⟩) := by
  have hl := reqT_len h
  have e : reqT r ++ more = headT (reqF r) (reqH r) ++ (r.bd ++ more) := by unfold reqT; rw [List.append_assoc]
  obtain ⟨f1, f2, f3, f4⟩ := reqF_ok h
  have hr6 := req_len h
  have s1 : FnOK 0 Tryz.prog 37 ⟨[.string (bl (reqT r ++ more))]⟩ h0 (fun v _ => v = .tuple ⟨[hdW (bl (reqF r)) ((reqH r).map prV) ((headT (reqF r) (reqH r)).length : Int), .bool true]⟩) := by
    rw [e]
    exact rh_fn f1 (by omega) (fun p hp => (req_ok h p hp).1.2) (by rw [← e, List.length_append]; omega)
  have s2 : FnOK 0 Tryz.prog 38 ⟨[.string (bl (reqF r))]⟩ h0 (fun v _ => v = .tuple ⟨[fz ⟨[strV r.m, strV (tgtB r.p r.q), strV httpB]⟩, .bool true]⟩) :=
    kw_fn (me_ok _ h.m).1 f3 http_no.1 (me_ok _ h.m).2.2.1 f4 http_no.2 (by show (reqF r).length ≤ 1000; omega)
  have s3 : FnOK 0 Tryz.prog 39 ⟨[fz ⟨(reqH r).map prV⟩, .string hoB]⟩ h0 (fun v _ => v = fz ⟨[strV r.ho]⟩) := by
    have := va_fn (k := hostN) host_ok.2.1 (reqH r) (hdn_req h).1 hr6 (hdn_req h).2.2
    rw [req_host h] at this
    exact this
  have s4 := rst_req h (bl (reqF r)) more
  have s5 : FnOK 0 Tryz.prog 35 ⟨[fz ⟨((hostN, r.ho) :: r.hs).map prV⟩, .string hoB]⟩ h0 (fun v _ => v = fz ⟨r.hs.map prV⟩) := by
    have hn := h.n
    have := wo_fn (k := hostN) host_ok.2.1 ((hostN, r.ho) :: r.hs) (by simp) (by simp; omega) fun q hq => (List.mem_cons.1 hq).elim (fun q => by rw [q]; exact host_ok.1) fun q => (nm_ok _ (h.hs _ q).1).1
    rw [rm_cons, rm_hs h.hs] at this
    exact this
  have s6 := cv_fn h (hv_fz h.hs h.n)
  refine FnOK.ftree ((spT_ok s1 rfl rfl).or ((spT_ok s2 rfl rfl).or ((spT_ok s3 rfl rfl).or ((spT_ok s4 rfl rfl).or ((spT_ok s5 rfl rfl).or (spIg_ok.or (spT_ok s6 rfl rfl))))))).cfg mixed Tryz.func12 someRDQ
    (ree (bl (reqT r ++ more)) (bl (reqF r)) (bl r.m) (bl (tgtB r.p r.q)) (bl httpB) (bl r.ho) (bl r.bd) ((reqH r).map prV) (((hostN, r.ho) :: r.hs).map prV) (r.hs.map prV) ((headT (reqF r) (reqH r)).length : Int) ((reqT r).length : Int) (rqW r (fz ⟨r.hs.map prV⟩)) (fun v => v = .tuple ⟨[rqW r (fz ⟨r.hs.map prV⟩), .int .i64 ((reqT r).length : Int), .int .i64 0]⟩)) ?_
  unfold reE
  rw [bl_size, List.length_append]
  refine pick_f (decide_eq_false (by omega)) (tqT_mk (tqT_mk (pick_f (by decide +kernel) (pick_f (decide_eq_false ?_) (tqT_mk (tqT_mk (tqT_mk (ctQ_ok h (need_mk (tq_eq rfl) rfl)))))))))
  simp
  omega

/-! ReadResponse -/
noncomputable def SRu (s F b : ByteArray) (st : Int) (H l : List Value) (a n : Int) : SC := ⟨idn, spOr (spT 37 [.string s] (.tuple ⟨[hdW F H a, .bool true]⟩)) (spOr (spT 42 [.string F] (.tuple ⟨[.int .i64 st, .bool true]⟩))
  (spOr (spT 40 [hdW F H a, .string s, .int .i64 0] (.tuple ⟨[fz ⟨l⟩, .string b, .int .i64 n, .int .i64 0]⟩)) (spT 41 [sV st (fz ⟨l⟩) b] (.int .i64 0)))), false, true⟩
noncomputable def ruE (s F b : ByteArray) (st : Int) (H l : List Value) (a n : Int) (Q : Value → Prop) : Prop :=
  bif decide ((s.size : Int) > 60000) then reF zS 2 Q else tqT [.string s] (tqT [.string F] (bif decide (((Array.mk H).size : Int) > 50) then reF zS 2 Q else
    tqT [hdW F H a, .string s, .int .i64 0] (tqT [sV st (fz ⟨l⟩) b] (Q (.tuple ⟨[sV st (fz ⟨l⟩) b, .int .i64 n, .int .i64 0]⟩)))))
set_option maxRecDepth 20000 in
theorem rue (s F b : ByteArray) (st : Int) (H l : List Value) (a n : Int) (Q : Value → Prop) : ffn Tryz.prog (SRu s F b st H l a n) [] 3000 [] Tryz.f14 [.string s] h0 (fun v _ => Q v) = ruE s F b st H l a n Q := by kernel_rfl
theorem someRDS : Tryz.f14.body.isSome = true := by kernel_rfl
theorem ru_fn {r : Rs} (h : RtS r) {more : Bs} (hm : more.length ≤ 100) : FnOK 0 Tryz.prog 14 ⟨[.string (bl (rspT r ++ more))]⟩ h0 (fun v _ => v = .tuple ⟨[sV r.st (fz ⟨r.hs.map prV⟩) (bl r.bd), .int .i64 ((rspT r).length : Int), .int .i64 0]⟩) := by
  have hl := rspT_len h
  have hb := (bs_ok _ h.bd).1
  have e : rspT r ++ more = headT (stF r.st) (rspH r) ++ (r.bd ++ more) := by unfold rspT; rw [List.append_assoc]
  obtain ⟨q1, q2, q3, q4, q5⟩ := st_ok _ h.st
  have hr6 := rsp_len h
  have hp : (headT (stF r.st) (rspH r)).length ≤ 10000 := by
    unfold rspT at hl
    rw [List.length_append] at hl
    omega
  have hH : HdN (rspH r) := ⟨by unfold rspH; simp, by omega, fun p hp => (rsp_ok h p hp).1.1⟩
  have s1 : FnOK 0 Tryz.prog 37 ⟨[.string (bl (rspT r ++ more))]⟩ h0 (fun v _ => v = .tuple ⟨[hdW (bl (stF r.st)) ((rspH r).map prV) ((headT (stF r.st) (rspH r)).length : Int), .bool true]⟩) := by
    rw [e]
    exact rh_fn q5 (by omega) (fun p hp => (rsp_ok h p hp).1.2) (by rw [← e, List.length_append]; omega)
  have s2 : FnOK 0 Tryz.prog 42 ⟨[.string (bl (stF r.st))]⟩ h0 (fun v _ => v = .tuple ⟨[.int .i64 r.st, .bool true]⟩) := by
    have := st_fn q2
    rw [show (((r.st.toNat, stF r.st) : Nat × Bs).1 : Int) = r.st from Int.toNat_of_nonneg q1] at this
    exact this
  have s4 : FnOK 0 Tryz.prog 40 ⟨[hdW (bl (stF r.st)) ((rspH r).map prV) ((headT (stF r.st) (rspH r)).length : Int), .string (bl (rspT r ++ more)), .int .i64 0]⟩ h0
      (fun v _ => v = .tuple ⟨[fz ⟨r.hs.map prV⟩, strV r.bd, .int .i64 ((rspT r).length : Int), .int .i64 0]⟩) := by
    rw [e]
    have := rst_s (bl (stF r.st)) (pre := headT (stF r.st) (rspH r)) (bd := r.bd) (more := more) (t := (r.bd.length, dcF r.bd.length)) (ln_ok _ (bs_ok _ h.bd).2).1 rfl (by omega) hp (k := 0) (by omega) (rspH r) hH (rsp_cl h) (rsp_te h)
    rw [rsp_nf h] at this
    exact this
  have s6 := cs_fn h (hv_fz h.hs (by have := h.n; omega))
  refine FnOK.ftree ((spT_ok s1 rfl rfl).or ((spT_ok s2 rfl rfl).or ((spT_ok s4 rfl rfl).or (spT_ok s6 rfl rfl)))).cfg mixed Tryz.func14 someRDS
    (rue (bl (rspT r ++ more)) (bl (stF r.st)) (bl r.bd) r.st ((rspH r).map prV) (r.hs.map prV) ((headT (stF r.st) (rspH r)).length : Int) ((rspT r).length : Int) (fun v => v = .tuple ⟨[sV r.st (fz ⟨r.hs.map prV⟩) (bl r.bd), .int .i64 ((rspT r).length : Int), .int .i64 0]⟩)) ?_
  unfold ruE
  rw [bl_size, List.length_append]
  refine pick_f (decide_eq_false (by omega)) (tqT_mk (tqT_mk (pick_f (decide_eq_false ?_) (tqT_mk (tqT_mk rfl)))))
  simp
  omega

/-! SameRequest, SameResponse -/
noncomputable def SNf : SC := ⟨idn, fun _ _ _ => none, false, true⟩
theorem SNf_ok : SNf.cfg.OK Tryz.prog := none_ok.cfg
def eqT (F : Prop) : List PB → Prop → Prop
  | [], K => K
  | p :: l, K => bif !(p.1 == p.1 && (p.2 == p.2 && true)) then F else eqT F l K
theorem ba_self (a : ByteArray) : (a == a) = true := by
  show (a.data == a.data) = true
  simp
theorem eqT_ok (F : Prop) {K : Prop} (hK : K) : ∀ L : List PB, eqT F L K
  | [] => hK
  | p :: l => pick_f (by rw [ba_self, ba_self]; rfl) (eqT_ok F hK l)
noncomputable def srE (a : Int) (m ho p q f b : ByteArray) (K F : Prop) : Prop :=
  bif a == a then bif m.toList == m.toList then bif ho.toList == ho.toList then bif p.toList == p.toList then bif q.toList == q.toList then bif f.toList == f.toList then bif b.toList == b.toList then K else F else F else F else F else F else F else F
noncomputable def suE (a : Int) (b : ByteArray) (K F : Prop) : Prop := bif a == a then bif b.toList == b.toList then K else F else F
theorem sre0 (a : Int) (m ho p q f b  : ByteArray) (Q : Value → Prop) : ffn Tryz.prog SNf [] 900 [] Tryz.f15 [rV a m ho p q f b (fz ⟨[]⟩), rV a m ho p q f b (.slice none 0 0)] h0 (fun v _ => Q v) =
    srE a m ho p q f b (eqT (Q (.bool false)) [] (Q (.bool true))) (Q (.bool false)) := by kernel_rfl
theorem sue0 (a : Int) (b  : ByteArray) (Q : Value → Prop) : ffn Tryz.prog SNf [] 900 [] Tryz.f16 [sV a (fz ⟨[]⟩) b, sV a (.slice none 0 0) b] h0 (fun v _ => Q v) =
    suE a b (eqT (Q (.bool false)) [] (Q (.bool true))) (Q (.bool false)) := by kernel_rfl
theorem sre1 (a : Int) (m ho p q f b a0 b0 : ByteArray) (Q : Value → Prop) : ffn Tryz.prog SNf [] 900 [] Tryz.f15 [rV a m ho p q f b (fz ⟨[.agg ⟨[.string a0, .string b0]⟩]⟩), rV a m ho p q f b (fz ⟨[.agg ⟨[.string a0, .string b0]⟩]⟩)] h0 (fun v _ => Q v) =
    srE a m ho p q f b (eqT (Q (.bool false)) [(a0, b0)] (Q (.bool true))) (Q (.bool false)) := by kernel_rfl
theorem sue1 (a : Int) (b a0 b0 : ByteArray) (Q : Value → Prop) : ffn Tryz.prog SNf [] 900 [] Tryz.f16 [sV a (fz ⟨[.agg ⟨[.string a0, .string b0]⟩]⟩) b, sV a (fz ⟨[.agg ⟨[.string a0, .string b0]⟩]⟩) b] h0 (fun v _ => Q v) =
    suE a b (eqT (Q (.bool false)) [(a0, b0)] (Q (.bool true))) (Q (.bool false)) := by kernel_rfl
theorem sre2 (a : Int) (m ho p q f b a0 b0 a1 b1 : ByteArray) (Q : Value → Prop) : ffn Tryz.prog SNf [] 900 [] Tryz.f15 [rV a m ho p q f b (fz ⟨[.agg ⟨[.string a0, .string b0]⟩, .agg ⟨[.string a1, .string b1]⟩]⟩), rV a m ho p q f b (fz ⟨[.agg ⟨[.string a0, .string b0]⟩, .agg ⟨[.string a1, .string b1]⟩]⟩)] h0 (fun v _ => Q v) =
    srE a m ho p q f b (eqT (Q (.bool false)) [(a0, b0), (a1, b1)] (Q (.bool true))) (Q (.bool false)) := by kernel_rfl
theorem sue2 (a : Int) (b a0 b0 a1 b1 : ByteArray) (Q : Value → Prop) : ffn Tryz.prog SNf [] 900 [] Tryz.f16 [sV a (fz ⟨[.agg ⟨[.string a0, .string b0]⟩, .agg ⟨[.string a1, .string b1]⟩]⟩) b, sV a (fz ⟨[.agg ⟨[.string a0, .string b0]⟩, .agg ⟨[.string a1, .string b1]⟩]⟩) b] h0 (fun v _ => Q v) =
    suE a b (eqT (Q (.bool false)) [(a0, b0), (a1, b1)] (Q (.bool true))) (Q (.bool false)) := by kernel_rfl
theorem sre3 (a : Int) (m ho p q f b a0 b0 a1 b1 a2 b2 : ByteArray) (Q : Value → Prop) : ffn Tryz.prog SNf [] 900 [] Tryz.f15 [rV a m ho p q f b (fz ⟨[.agg ⟨[.string a0, .string b0]⟩, .agg ⟨[.string a1, .string b1]⟩, .agg ⟨[.string a2, .string b2]⟩]⟩), rV a m ho p q f b (fz ⟨[.agg ⟨[.string a0, .string b0]⟩, .agg ⟨[.string a1, .string b1]⟩, .agg ⟨[.string a2, .string b2]⟩]⟩)] h0 (fun v _ => Q v) =
    srE a m ho p q f b (eqT (Q (.bool false)) [(a0, b0), (a1, b1), (a2, b2)] (Q (.bool true))) (Q (.bool false)) := by kernel_rfl
theorem sue3 (a : Int) (b a0 b0 a1 b1 a2 b2 : ByteArray) (Q : Value → Prop) : ffn Tryz.prog SNf [] 900 [] Tryz.f16 [sV a (fz ⟨[.agg ⟨[.string a0, .string b0]⟩, .agg ⟨[.string a1, .string b1]⟩, .agg ⟨[.string a2, .string b2]⟩]⟩) b, sV a (fz ⟨[.agg ⟨[.string a0, .string b0]⟩, .agg ⟨[.string a1, .string b1]⟩, .agg ⟨[.string a2, .string b2]⟩]⟩) b] h0 (fun v _ => Q v) =
    suE a b (eqT (Q (.bool false)) [(a0, b0), (a1, b1), (a2, b2)] (Q (.bool true))) (Q (.bool false)) := by kernel_rfl
theorem sre4 (a : Int) (m ho p q f b a0 b0 a1 b1 a2 b2 a3 b3 : ByteArray) (Q : Value → Prop) : ffn Tryz.prog SNf [] 900 [] Tryz.f15 [rV a m ho p q f b (fz ⟨[.agg ⟨[.string a0, .string b0]⟩, .agg ⟨[.string a1, .string b1]⟩, .agg ⟨[.string a2, .string b2]⟩, .agg ⟨[.string a3, .string b3]⟩]⟩), rV a m ho p q f b (fz ⟨[.agg ⟨[.string a0, .string b0]⟩, .agg ⟨[.string a1, .string b1]⟩, .agg ⟨[.string a2, .string b2]⟩, .agg ⟨[.string a3, .string b3]⟩]⟩)] h0 (fun v _ => Q v) =
    srE a m ho p q f b (eqT (Q (.bool false)) [(a0, b0), (a1, b1), (a2, b2), (a3, b3)] (Q (.bool true))) (Q (.bool false)) := by kernel_rfl
theorem sue4 (a : Int) (b a0 b0 a1 b1 a2 b2 a3 b3 : ByteArray) (Q : Value → Prop) : ffn Tryz.prog SNf [] 900 [] Tryz.f16 [sV a (fz ⟨[.agg ⟨[.string a0, .string b0]⟩, .agg ⟨[.string a1, .string b1]⟩, .agg ⟨[.string a2, .string b2]⟩, .agg ⟨[.string a3, .string b3]⟩]⟩) b, sV a (fz ⟨[.agg ⟨[.string a0, .string b0]⟩, .agg ⟨[.string a1, .string b1]⟩, .agg ⟨[.string a2, .string b2]⟩, .agg ⟨[.string a3, .string b3]⟩]⟩) b] h0 (fun v _ => Q v) =
    suE a b (eqT (Q (.bool false)) [(a0, b0), (a1, b1), (a2, b2), (a3, b3)] (Q (.bool true))) (Q (.bool false)) := by kernel_rfl
theorem someSRQ : Tryz.f15.body.isSome = true := by kernel_rfl
theorem someSRS : Tryz.f16.body.isSome = true := by kernel_rfl
theorem srE_ok {a : Int} {m ho p q f b : ByteArray} {K F : Prop} (hK : K) : srE a m ho p q f b K F := by
  unfold srE
  simp only [beq_self_eq_true, cond_true]
  exact hK
theorem suE_ok {a : Int} {b : ByteArray} {K F : Prop} (hK : K) : suE a b K F := by
  unfold suE
  simp only [beq_self_eq_true, cond_true]
  exact hK
theorem sr_fn (a : Int) (m ho p q f b : ByteArray) : ∀ (L : List (Bs × Bs)), L.length ≤ 4 → FnOK 0 Tryz.prog 15 ⟨[rV a m ho p q f b (fz ⟨L.map prV⟩), rV a m ho p q f b (hdV L)]⟩ h0 (fun v _ => v = .bool true)
  | [], _ => FnOK.ftree SNf_ok mixed Tryz.func15 someSRQ (sre0 a m ho p q f b  (fun v => v = .bool true)) (srE_ok (eqT_ok _ rfl _))
  | [p0], _ => FnOK.ftree SNf_ok mixed Tryz.func15 someSRQ (sre1 a m ho p q f b (bl p0.1) (bl p0.2) (fun v => v = .bool true)) (srE_ok (eqT_ok _ rfl _))
  | [p0, p1], _ => FnOK.ftree SNf_ok mixed Tryz.func15 someSRQ (sre2 a m ho p q f b (bl p0.1) (bl p0.2) (bl p1.1) (bl p1.2) (fun v => v = .bool true)) (srE_ok (eqT_ok _ rfl _))
  | [p0, p1, p2], _ => FnOK.ftree SNf_ok mixed Tryz.func15 someSRQ (sre3 a m ho p q f b (bl p0.1) (bl p0.2) (bl p1.1) (bl p1.2) (bl p2.1) (bl p2.2) (fun v => v = .bool true)) (srE_ok (eqT_ok _ rfl _))
  | [p0, p1, p2, p3], _ => FnOK.ftree SNf_ok mixed Tryz.func15 someSRQ (sre4 a m ho p q f b (bl p0.1) (bl p0.2) (bl p1.1) (bl p1.2) (bl p2.1) (bl p2.2) (bl p3.1) (bl p3.2) (fun v => v = .bool true)) (srE_ok (eqT_ok _ rfl _))
  | _ :: _ :: _ :: _ :: _ :: _, h => absurd h (by simp)
theorem su_fn (a : Int) (b : ByteArray) : ∀ (L : List (Bs × Bs)), L.length ≤ 4 → FnOK 0 Tryz.prog 16 ⟨[sV a (fz ⟨L.map prV⟩) b, sV a (hdV L) b]⟩ h0 (fun v _ => v = .bool true)
  | [], _ => FnOK.ftree SNf_ok mixed Tryz.func16 someSRS (sue0 a b  (fun v => v = .bool true)) (suE_ok (eqT_ok _ rfl _))
  | [p0], _ => FnOK.ftree SNf_ok mixed Tryz.func16 someSRS (sue1 a b (bl p0.1) (bl p0.2) (fun v => v = .bool true)) (suE_ok (eqT_ok _ rfl _))
  | [p0, p1], _ => FnOK.ftree SNf_ok mixed Tryz.func16 someSRS (sue2 a b (bl p0.1) (bl p0.2) (bl p1.1) (bl p1.2) (fun v => v = .bool true)) (suE_ok (eqT_ok _ rfl _))
  | [p0, p1, p2], _ => FnOK.ftree SNf_ok mixed Tryz.func16 someSRS (sue3 a b (bl p0.1) (bl p0.2) (bl p1.1) (bl p1.2) (bl p2.1) (bl p2.2) (fun v => v = .bool true)) (suE_ok (eqT_ok _ rfl _))
  | [p0, p1, p2, p3], _ => FnOK.ftree SNf_ok mixed Tryz.func16 someSRS (sue4 a b (bl p0.1) (bl p0.2) (bl p1.1) (bl p1.2) (bl p2.1) (bl p2.2) (bl p3.1) (bl p3.2) (fun v => v = .bool true)) (suE_ok (eqT_ok _ rfl _))
  | _ :: _ :: _ :: _ :: _ :: _, h => absurd h (by simp)
end Go.Proofs.YtjphemllikflpaaGreatDoor
