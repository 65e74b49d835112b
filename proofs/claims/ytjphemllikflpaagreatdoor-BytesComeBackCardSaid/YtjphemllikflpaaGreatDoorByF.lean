/-
  Requests: tokens, fields, headers, requests that are right, as specifications.
-/
import Derived.Test.YtjphemllikflpaaGreatDoorByH
import Derived.Test.YtjphemllikflpaaGreatDoorByK
import Derived.Lib.TrimByte
/-! Plain laws for QueriesComeBack: requests, what is wrong with them, their normal form. -/
namespace QueryLaw
open PathLaw RecLaw Go.Lib Go.Proofs.YtjphemllikflpaaGreatDoor
abbrev Bs : Type := List UInt8
structure Rq where
  at_ : Int
  m : Bs
  ho : Bs
  p : Bs
  q : Bs
  f : Bs
  hs : List (Bs × Bs)
  bd : Bs
def zeroR : Rq := ⟨0, [], [], [], [], [], [], []⟩
def fldQ (s : Bs) : Bool := decide (s.length ≤ 2000) && s.all (fun c => decide (32 ≤ c) && decide (c ≤ 126)) && trimB s 32 == s
def chL : List (Bs × Bs) → Int
  | [] => 0
  | p :: r => if tokB p.1 then if fldQ p.2 then chL r else 3 else 5
def chE (l : List (Bs × Bs)) : Int := if l.length > 50 then 2 else chL l
def endT : Int := 345686400000
def crE (r : Rq) : Int :=
  if 0 ≤ r.at_ ∧ r.at_ < endT then if tokB r.m then if (nhF r.ho).2 = 0 then if okP r.p then if okQ r.q then if fldQ r.f then
    if chE r.hs = 0 then if r.bd.length > 20000 then 2 else 0 else chE r.hs
  else 3 else 3 else 3 else 3 else 5 else 1
def noE (r : Rq) : Int := if crE r = 0 then if npE r.p = 0 then if pqE r.q = 0 then if (nq (pqL r.q)).length > 1000 then 2 else 0 else pqE r.q else npE r.p else crE r
def nrmR (r : Rq) : Rq := { r with m := toUpperA r.m, ho := (nhF r.ho).1, p := npS r.p, q := nq (pqL r.q), hs := r.hs.map fun h => (toLowerA h.1, h.2) }
def noR (r : Rq) : Rq := if noE r = 0 then nrmR r else zeroR
/-- The bounds of requests that are drawn. -/
structure OkR (r : Rq) : Prop where
  m : r.m.length ≤ 10000
  ho : r.ho ∈ hosts
  p : r.p.length ≤ 10000
  q : r.q.length ≤ 10000
  f : r.f.length ≤ 10000
  n : r.hs.length ≤ 5 ∨ 50 < r.hs.length ∧ r.hs.length ≤ 100
  hs : ∀ h ∈ r.hs, h.1.length ≤ 10000 ∧ h.2.length ≤ 10000
  qs : pqE r.q = 0 → (pqL r.q).length ≤ 4
theorem crE_iff {r : Rq} : crE r = 0 ↔ (0 ≤ r.at_ ∧ r.at_ < endT) ∧ tokB r.m = true ∧ (nhF r.ho).2 = 0 ∧ okP r.p = true ∧ okQ r.q = true ∧ fldQ r.f = true ∧ chE r.hs = 0 ∧ r.bd.length ≤ 20000 := by
  unfold crE
  constructor
  · intro h
    split at h
    · split at h
      · split at h
        · split at h
          · split at h
            · split at h
              · split at h
                · split at h
                  · cases h
                  · refine ⟨by assumption, by assumption, by assumption, by assumption, by assumption, by assumption, by assumption, by omega⟩
                · contradiction
              · cases h
            · cases h
          · cases h
        · cases h
      · cases h
    · cases h
  · rintro ⟨h1, h2, h3, h4, h5, h6, h7, h8⟩
    rw [if_pos h1, if_pos h2, if_pos h3, if_pos h4, if_pos h5, if_pos h6, if_pos h7, if_neg (by omega)]
theorem noE_iff {r : Rq} : noE r = 0 ↔ crE r = 0 ∧ npE r.p = 0 ∧ pqE r.q = 0 ∧ (nq (pqL r.q)).length ≤ 1000 := by
  unfold noE
  constructor
  · intro h
    split at h
    · split at h
      · split at h
        · split at h
          · cases h
          · refine ⟨by assumption, by assumption, by assumption, by omega⟩
        · contradiction
      · contradiction
    · contradiction
  · rintro ⟨h1, h2, h3, h4⟩
    rw [if_pos h1, if_pos h2, if_pos h3, if_neg (by omega)]
theorem ch_low : ∀ {l : List (Bs × Bs)}, chL l = 0 → chL (l.map fun h => (toLowerA h.1, h.2)) = 0 ∧ (l.map fun h => (toLowerA h.1, h.2)).map (fun h => (toLowerA h.1, h.2)) = l.map fun h => (toLowerA h.1, h.2)
  | [], _ => ⟨rfl, rfl⟩
  | p :: r, h => by
    unfold chL at h
    split at h
    · rename_i h1
      split at h
      · rename_i h2
        obtain ⟨i1, i2⟩ := ch_low h
        obtain ⟨t1, t2⟩ := lowB_tok h1
        refine ⟨?_, ?_⟩
        · rw [List.map_cons, chL, if_pos t1, if_pos h2]; exact i1
        · rw [List.map_cons, List.map_cons, i2, t2]
      · cases h
    · cases h
theorem chE_iff {l : List (Bs × Bs)} : chE l = 0 ↔ l.length ≤ 50 ∧ chL l = 0 := by
  unfold chE
  split
  · exact ⟨fun h => (by cases h), fun h => (by omega)⟩
  · exact ⟨fun h => ⟨by omega, h⟩, fun h => h.2⟩
theorem up_len (s : Bs) : (toUpperA s).length = s.length := by simp [toUpperA]
theorem low_len (s : Bs) : (toLowerA s).length = s.length := by simp [toLowerA]
theorem host_len : ∀ s ∈ hosts, s.length ≤ 100 := by decide +kernel
/-- A normal request is right, is normal, and stays as it is. -/
theorem nrm_law {r : Rq} (ok : OkR r) (h : noE r = 0) : OkR (noR r) ∧ crE (noR r) = 0 ∧ noE (noR r) = 0 ∧ noR (noR r) = noR r := by
  have hr : noR r = nrmR r := by unfold noR; rw [if_pos h]
  rw [hr]
  obtain ⟨h1, h2, h3, h4⟩ := noE_iff.1 h
  obtain ⟨c1, c2, c3, c4, c5, c6, c7, c8⟩ := crE_iff.1 h1
  obtain ⟨hh1, hh2⟩ := host_ok _ ok.ho c3
  obtain ⟨u1, u2⟩ := upB_tok c2
  obtain ⟨hl, hc⟩ := chE_iff.1 c7
  obtain ⟨l1, l2⟩ := ch_low hc
  -- the path
  have hnp : npE r.p = 0 → Nrm (npS r.p) := by
    intro hp
    unfold npE at hp
    rw [if_pos c4] at hp
    cases hq : np r.p with
    | none => rw [hq] at hp; cases hp
    | some x =>
      have : npS r.p = x := by unfold npS; rw [if_pos c4, hq]; rfl
      rw [this]
      exact np_nrm c4 hq
  have hN := hnp h2
  have hokN : okP (npS r.p) = true := by obtain ⟨_, _, _, _, h⟩ := hN; exact h
  have hself := nrm_np hN
  have e1 : npE (npS r.p) = 0 := by unfold npE; rw [if_pos hokN, hself]; rfl
  have e2 : npS (npS r.p) = npS r.p := by
    have key : ∀ x : Bs, okP x = true → np x = some x → npS x = x := fun x a b => by unfold npS; rw [if_pos a, b]; rfl
    exact key _ hokN hself
  -- the query
  have hk := ok.qs h3
  obtain ⟨q1, q2, q3⟩ := nq_pq h4 (by omega)
  have hq : okQ (nq (pqL r.q)) = true := nq_ok h4
  have ecr : crE (nrmR r) = 0 := by
    refine crE_iff.2 ⟨c1, u1, ?_, hokN, hq, c6, chE_iff.2 ⟨?_, l1⟩, c8⟩
    · show (nhF (nhF r.ho).1).2 = 0
      rw [hh2]
    · show (r.hs.map _).length ≤ 50
      rw [List.length_map]; exact hl
  have eno : noE (nrmR r) = 0 := noE_iff.2 ⟨ecr, e1, q1, by show (nq (pqL (nq (pqL r.q)))).length ≤ 1000; rw [q2]; exact h4⟩
  refine ⟨⟨?_, hh1, ?_, ?_, ok.f, ?_, ?_, ?_⟩, ecr, eno, ?_⟩
  · show (toUpperA r.m).length ≤ _
    rw [up_len]; exact ok.m
  · have := (okP_iff.1 hokN).1
    show (npS r.p).length ≤ _
    omega
  · show (nq (pqL r.q)).length ≤ _
    omega
  · show (r.hs.map _).length ≤ 5 ∨ _
    rw [List.length_map]
    show r.hs.length ≤ 5 ∨ 50 < (r.hs.map _).length ∧ (r.hs.map _).length ≤ 100
    rw [List.length_map]; exact ok.n
  · intro x hx
    obtain ⟨y, hy, rfl⟩ := List.mem_map.1 (show x ∈ r.hs.map _ from hx)
    have := ok.hs y hy
    show (toLowerA y.1).length ≤ _ ∧ y.2.length ≤ _
    rw [low_len]; exact this
  · intro _
    show (pqL (nq (pqL r.q))).length ≤ 4
    rw [q3]
    have := nq_count (pqL r.q)
    omega
  · have : noR (nrmR r) = nrmR (nrmR r) := by unfold noR; rw [if_pos eno]
    rw [this]
    show ({ at_ := r.at_, m := toUpperA (toUpperA r.m), ho := (nhF (nhF r.ho).1).1, p := npS (npS r.p), q := nq (pqL (nq (pqL r.q))), f := r.f, hs := (r.hs.map _).map _, bd := r.bd } : Rq) = _
    rw [u2, hh2, e2, q2, l2]
    rfl
/-- How many pairs a query has: no more than parts. -/
theorem pq_few {s : Bs} {n : Nat} (h : (spl 38 s).length ≤ n) : (pqL s).length ≤ n := by
  unfold pqL
  split
  · cases hq : prs (spl 38 s) with
    | none => exact Nat.zero_le _
    | some L => exact Nat.le_trans (prs_len _ hq) h
  · exact Nat.zero_le _
theorem spl_join {ws : List Bs} (h : ∀ w ∈ ws, (38 : UInt8) ∉ w) : (spl 38 (join ws [38])).length ≤ max ws.length 1 := by
  cases ws with
  | nil => exact Nat.le_refl _
  | cons w r =>
    rw [join_body, spl_body 38 _ _ _ (h w (by simp)) (fun x hx => h x (by simp [hx])) rfl]
    exact Nat.le_max_left _ _
end QueryLaw
/-! Plain laws for BytesComeBack: bodies in chunks, requests and responses as bytes. -/
namespace BytesLaw
open PathLaw RecLaw QueryLaw Go.Lib
def crlf : Bs := [13, 10]
/-- The first end of a line. -/
theorem ix2 : ∀ (l r : Bs), (13 : UInt8) ∉ l → index (l ++ 13 :: 10 :: r) crlf = (l.length : Int)
  | [], r, _ => by
    rw [List.nil_append, index]
    rfl
  | c :: l, r, h => by
    have h1 : ¬ (13 : UInt8) = c := fun e => h (by simp [e])
    have ih := ix2 l r fun e => h (by simp [e])
    rw [List.cons_append, index, ih]
    have hp : crlf.isPrefixOf (c :: (l ++ 13 :: 10 :: r)) = false := by
      unfold crlf
      rw [List.isPrefixOf_cons_cons]
      have : ((13 : UInt8) == c) = false := beq_eq_false_iff_ne.2 h1
      rw [this]; rfl
    have hn : (((l.length : Nat) : Int) == -1) = false := by rw [beq_eq_false_iff_ne]; omega
    rw [hp, hn]
    simp
/-! Chunks -/
def hexD (n : Nat) : UInt8 := UInt8.ofNat (if n < 10 then 48 + n else 87 + n)
def hexN (n : Nat) : Bs := if n < 16 then [hexD n] else [hexD (n / 16), hexD (n % 16)]
def chB (c : Bs) : Bs := hexN c.length ++ 13 :: 10 :: (c ++ [13, 10])
def endB : Bs := [48, 13, 10, 13, 10]
def cut1 (k : Nat) : Nat → Bs → List Bs
  | 0, _ => []
  | f + 1, b => if b = [] then [] else b.take k :: cut1 k f (b.drop k)
def chunks (k : Nat) (b : Bs) : List Bs := cut1 k b.length b
def chkT (L : List Bs) : Bs := L.flatMap chB ++ endB
theorem cut1_nil (k : Nat) : ∀ f, cut1 k f [] = []
  | 0 => rfl
  | f + 1 => by rw [cut1, if_pos rfl]
theorem cut1_flat {k : Nat} (hk : 1 ≤ k) : ∀ (f : Nat) (b : Bs), b.length ≤ f → (cut1 k f b).flatten = b
  | 0, b, h => by
    have : b = [] := List.length_eq_zero_iff.1 (by omega)
    subst this; rfl
  | f + 1, b, h => by
    rw [cut1]
    split
    · rename_i e; subst e; rfl
    · rename_i e
      have hp := List.length_pos_iff.2 e
      rw [List.flatten_cons, cut1_flat hk f (b.drop k) (by rw [List.length_drop]; omega), List.take_append_drop]
theorem cut1_mem {k : Nat} (hk : 1 ≤ k) : ∀ (f : Nat) (b : Bs), ∀ c ∈ cut1 k f b, c ≠ [] ∧ c.length ≤ k
  | 0, b, c, h => by cases h
  | f + 1, b, c, h => by
    rw [cut1] at h
    split at h
    · cases h
    · rename_i e
      rcases List.mem_cons.1 h with rfl | h
      · have hp := List.length_pos_iff.2 e
        refine ⟨fun q => ?_, by rw [List.length_take]; omega⟩
        have := congrArg List.length q
        rw [List.length_take, List.length_nil] at this
        omega
      · exact cut1_mem hk f _ c h
theorem cut1_fuel {k : Nat} (hk : 1 ≤ k) : ∀ (f g : Nat) (b : Bs), b.length ≤ f → b.length ≤ g → cut1 k f b = cut1 k g b
  | 0, g, b, h, _ => by
    have : b = [] := List.length_eq_zero_iff.1 (by omega)
    subst this
    rw [cut1_nil, cut1_nil]
  | f + 1, 0, b, _, h => by
    have : b = [] := List.length_eq_zero_iff.1 (by omega)
    subst this
    rw [cut1_nil, cut1_nil]
  | f + 1, g + 1, b, h1, h2 => by
    rw [cut1, cut1]
    split
    · rfl
    · rename_i e
      have hp := List.length_pos_iff.2 e
      rw [cut1_fuel hk f g (b.drop k) (by rw [List.length_drop]; omega) (by rw [List.length_drop]; omega)]
theorem chunks_cons {k : Nat} (hk : 1 ≤ k) {b : Bs} (h : b ≠ []) : chunks k b = b.take k :: chunks k (b.drop k) := by
  have hp := List.length_pos_iff.2 h
  unfold chunks
  obtain ⟨m, hm⟩ : ∃ m, b.length = m + 1 := ⟨b.length - 1, by omega⟩
  rw [hm, cut1, if_neg h, cut1_fuel hk m (b.drop k).length (b.drop k) (by rw [List.length_drop]; omega) (Nat.le_refl _)]
theorem hexN_no : ∀ n < 256, (13 : UInt8) ∉ hexN n := by decide +kernel
theorem hexN_len : ∀ n < 256, (hexN n).length ≤ 2 := by decide +kernel
/-! Heads -/
def hdB (h : Bs × Bs) : Bs := h.1 ++ 58 :: 32 :: (h.2 ++ [13, 10])
/-- What may stand in a name; what may stand in a value. -/
theorem tok_no {s : Bs} (h : tokB s = true) : (58 : UInt8) ∉ s ∧ (13 : UInt8) ∉ s := by
  obtain ⟨_, _, h3⟩ := tokB_iff.1 h
  exact ⟨fun q => by have := h3 _ q; revert this; decide, fun q => by have := h3 _ q; revert this; decide⟩
theorem fld_no {s : Bs} (h : fldQ s = true) : (13 : UInt8) ∉ s ∧ trimB s 32 = s := by
  simp only [fldQ, Bool.and_eq_true, List.all_eq_true, decide_eq_true_eq, beq_iff_eq] at h
  refine ⟨fun q => ?_, h.2⟩
  have := h.1.2 _ q
  revert this; decide
theorem colon : ∀ (n r : Bs), (58 : UInt8) ∉ n → indexByte (n ++ 58 :: r) 58 = (n.length : Int) := fun n r h => idx_at r h
theorem dropW_le {p : UInt8 → Bool} : ∀ l : Bs, (l.dropWhile p).length ≤ l.length
  | [] => Nat.le_refl _
  | c :: l => by
    rw [List.dropWhile_cons]
    split
    · exact Nat.le_succ_of_le (dropW_le l)
    · exact Nat.le_refl _
theorem dropW_head {p : UInt8 → Bool} {c : UInt8} {l : Bs} (h : (c :: l).length ≤ ((c :: l).dropWhile p).length) : p c = false := by
  cases hp : p c with
  | false => rfl
  | true =>
    rw [List.dropWhile_cons, hp, if_pos rfl] at h
    have := dropW_le (p := p) l
    simp at h; omega
/-- A blank ahead of a value goes. -/
theorem trim_blank {s : Bs} (h : trimB s 32 = s) : trimB (32 :: s) 32 = s := by
  cases hs : s with
  | nil => decide
  | cons a l =>
    have hne : s ≠ [] := by rw [hs]; simp
    have e := congrArg List.length h
    unfold trimB trimLeftB trimRightB at e
    have h1 := dropW_le (p := (· == 32)) (s.reverse.dropWhile (· == 32)).reverse
    rw [List.length_reverse] at h1
    have h2 := dropW_le (p := (· == 32)) s.reverse
    rw [List.length_reverse] at h2
    obtain ⟨x, r, hr⟩ : ∃ x r, s.reverse = x :: r := by
      cases hq : s.reverse with
      | nil => exact absurd (List.reverse_eq_nil_iff.1 hq) hne
      | cons x r => exact ⟨x, r, rfl⟩
    have hx : (x == 32) = false := dropW_head (p := (· == 32)) (c := x) (l := r) (by rw [← hr, List.length_reverse]; omega)
    have hR : s.reverse.dropWhile (· == 32) = s.reverse := by rw [hr, List.dropWhile_cons, hx]; rfl
    rw [hR, List.reverse_reverse, hs] at e
    have ha : (a == 32) = false := dropW_head (p := (· == 32)) (c := a) (l := l) (by omega)
    unfold trimB trimLeftB trimRightB
    rw [← hs, List.reverse_cons, hr, List.cons_append, List.dropWhile_cons, hx, if_neg Bool.false_ne_true, ← List.cons_append, ← hr, List.reverse_append, List.reverse_reverse]
    show (32 :: s).dropWhile (· == 32) = s
    rw [List.dropWhile_cons, hs, List.dropWhile_cons, ha]
    rfl
end BytesLaw
namespace Go.Proofs.YtjphemllikflpaaGreatDoor
open Go.Ev Go.RowKit RecLaw PathLaw QueryLaw

/-! IsToken -/
noncomputable def STk : SC := ⟨idn, spTb, true, true⟩
theorem STk_ok : STk.cfg.OK Tryz.prog := spTb_ok.cfg
theorem tkr (s : ByteArray) (n i : Int) (B : List Value → AH → Prop) (Q : AExit → List Value → AH → Prop) : once 0 Tryz.prog STk [] noHooks 600 22 [0, 5, 6] [] [0, 2] [] (oneLoop (codeOf Tryz.f60) 2) [.string s, .int .i64 n, .int .i64 i] h0 B Q =
    bif decide (i < n) then bif decide (0 ≤ i) && decide (i < (s.size : Int)) then bif decide (bT s i < 256) then
      bif !tokC (byI (bT s i)) then Q .ret [.string s, .bool false] h0 else B [.string s, .int .i64 n, .int .i64 (W (i + 1))] h0 else False else False else Q (.exit 0) [.string s, anyV] h0 := by kernel_rfl
set_option maxRecDepth 20000 in
theorem tk_loop (K : AExit → List Value → AH → Prop) (n : Nat) (hn : n ≤ 20000) : ∀ (l pre : List UInt8), pre.length + l.length = n → (l.all tokC = true → K (.exit 0) [.string (bl (pre ++ l)), anyV] h0) → (l.all tokC = false → K .ret [.string (bl (pre ++ l)), .bool false] h0) →
    iter 0 Tryz.prog STk [] noHooks 600 22 [0, 5, 6] [] [0, 2] [] (oneLoop (codeOf Tryz.f60) 2) (l.length + 1) [.string (bl (pre ++ l)), .int .i64 (n : Int), .int .i64 ((pre.length : Nat) : Int)] h0 K
  | [], pre, h1, hK, _ => (tkr _ _ _ _ K).mpr (pick_f (decide_eq_false (by simp at h1; omega)) (hK rfl))
  | c :: l, pre, h1, hK, hB => by
    have hsz : (bl (pre ++ c :: l)).size = pre.length + (l.length + 1) := by rw [bl_size, List.length_append, List.length_cons]
    rw [List.length_cons] at h1
    have b0 : bT (bl (pre ++ c :: l)) ((pre.length : Nat) : Int) = (c.toNat : Int) := bT_at 0 rfl
    have w1 : W ((pre.length : Int) + 1) = ((pre.length + 1 : Nat) : Int) := w_nat 1 (by omega) (by omega)
    refine (tkr _ _ _ _ K).mpr (pick_t (decide_eq_true (by omega)) (need_mk (by rw [hsz]; simp; omega) ?_))
    rw [b0, byI_of, w1]
    refine need_mk (u8_lt c) ?_
    rw [List.all_cons] at hK hB
    cases ht : tokC c with
    | false => exact pick_t rfl (hB (by rw [ht]; rfl))
    | true =>
      rw [ht, Bool.true_and] at hK hB
      refine pick_f rfl ?_
      have hpre : pre ++ c :: l = (pre ++ [c]) ++ l := by simp
      have hpl : (pre.length + 1 : Nat) = (pre ++ [c]).length := by simp
      rw [hpre] at hK hB ⊢
      rw [hpl]
      exact tk_loop K n hn l (pre ++ [c]) (by simp; omega) hK hB
theorem oneTK : (loopAt (codeOf Tryz.f60) 2).length = 1 := by kernel_rfl
theorem someTK : Tryz.f60.body.isSome = true := by kernel_rfl
theorem tkT (s : ByteArray) (C : List Value → AH → Prop) (Q : Value → Prop) : tfn Tryz.prog STk [] (hook1 2 (hookLS 0 22 [0, 5, 6] [] [0, 2] (fun vals h K => C vals h ∧ K (.exit 0) [.string s, anyV] h0))) 600 [] Tryz.f60 [.string s] h0 (fun v _ => Q v) =
    (C [.string s, .int .i64 (s.size : Int), .int .i64 0] h0 ∧ bif !(s.toList == (ByteArray.mk #[]).toList) then Q (.bool (decide ((s.size : Int) ≤ 100))) else Q (.bool false)) := by kernel_rfl
theorem tkF (s : ByteArray) (C : List Value → AH → Prop) (Q : Value → Prop) : tfn Tryz.prog STk [] (hook1 2 (hookLS 0 22 [0, 5, 6] [] [0, 2] (fun vals h K => C vals h ∧ K .ret [.string s, .bool false] h0))) 600 [] Tryz.f60 [.string s] h0 (fun v _ => Q v) =
    (C [.string s, .int .i64 (s.size : Int), .int .i64 0] h0 ∧ Q (.bool false)) := by kernel_rfl
theorem bl_beq0 (l : List UInt8) : ((bl l).toList == (ByteArray.mk #[]).toList) = l.isEmpty := by
  rw [bl_beq]
  cases l <;> rfl
theorem tk_fn {l : List UInt8} (hl : l.length ≤ 20000) : FnOK 0 Tryz.prog 60 ⟨[.string (bl l)]⟩ h0 (fun v _ => v = .bool (tokB l)) := by
  have hloop := fun K => tk_loop K l.length hl l [] (by simp)
  simp only [List.nil_append, List.length_nil] at hloop
  have key : ∀ (cl : (AExit → List Value → AH → Prop) → Prop), (∀ K, cl K → (l.all tokC = true → K (.exit 0) [.string (bl l), anyV] h0) ∧ (l.all tokC = false → K .ret [.string (bl l), .bool false] h0)) →
      LSpec 0 Tryz.prog 22 (oneLoop (codeOf Tryz.f60) 2) (hookLS 0 22 [0, 5, 6] [] [0, 2] (fun vals h K => (vals = [.string (bl l), .int .i64 (l.length : Int), .int .i64 0] ∧ h = h0) ∧ cl K)) := by
    intro cl hcl
    refine hook_ok (G := []) (L := noHooks) (f := 600) (sameX := []) STk_ok mixed (by decide) (loops_none _ _ _ _) ?_
    rintro vals h K ⟨⟨rfl, rfl⟩, hK⟩
    obtain ⟨h1, h2⟩ := hcl K hK
    exact ⟨_, hloop K h1 h2⟩
  cases ht : l.all tokC with
  | true =>
    refine FnOK.ttree STk_ok mixed Tryz.func60 someTK (loops_one oneTK (key (fun K => K (.exit 0) [.string (bl l), anyV] h0) fun K hK => ⟨fun _ => hK, fun h => by rw [ht] at h; cases h⟩)) (tkT (bl l) _ (fun v => v = .bool (tokB l))) ?_
    refine ⟨⟨by rw [bl_size], rfl⟩, ?_⟩
    rw [bl_beq0, bl_size]
    unfold tokB
    rw [ht, Bool.and_true]
    cases l with
    | nil => exact rfl
    | cons a l =>
      show Value.bool _ = Value.bool _
      congr 1
      simp
      omega
  | false =>
    refine FnOK.ttree STk_ok mixed Tryz.func60 someTK (loops_one oneTK (key (fun K => K .ret [.string (bl l), .bool false] h0) fun K hK => ⟨fun h => by (rw [ht] at h; cases h), fun _ => hK⟩)) (tkF (bl l) _ (fun v => v = .bool (tokB l))) ?_
    refine ⟨⟨by rw [bl_size], rfl⟩, ?_⟩
    unfold tokB
    rw [ht, Bool.and_false]
noncomputable def spTk (f : FuncId) (args : Array Value) (h : AH) : Option (Bool × Value × AH) :=
  cond (Nat.beq f 60) (match args with
    | ⟨[.string s]⟩ => some (Nat.ble s.data.toList.length 20000, .bool (tokB s.data.toList), h)
    | _ => none) none
theorem spTk_ok : SpOK spTk := by
  intro f args h v h' hs
  unfold spTk at hs
  obtain ⟨hf, hs2⟩ := cond_some hs
  clear hs
  have := Nat.eq_of_beq_eq_true hf
  subst this
  split at hs2
  · injection hs2 with hs
    injection hs with hb hs
    injection hs with hv hh
    subst hv hh
    rename_i s
    have := tk_fn (Nat.le_of_ble_eq_true hb)
    rw [bl_self] at this
    exact ⟨FnOK.pure this rfl rfl h, Nat.le_refl _⟩
  · cases hs2

/-! IsField -/
noncomputable def spTm (f : FuncId) (args : Array Value) (h : AH) : Option (Bool × Value × AH) :=
  cond (Nat.beq f 57) (match args with
    | ⟨[.string s, .string c]⟩ => some (Nat.ble s.size 100000 && isB c 32, .string (bl (Lib.trimB s.data.toList 32)), h)
    | _ => none) none
theorem spTm_ok : SpOK spTm := by
  intro f args h v h' hs
  unfold spTm at hs
  obtain ⟨hf, hs2⟩ := cond_some hs
  clear hs
  have := Nat.eq_of_beq_eq_true hf
  subst this
  split at hs2
  · injection hs2 with hs
    injection hs with hb hs
    injection hs with hv hh
    subst hv hh
    rename_i s c
    rw [Bool.and_eq_true] at hb
    have := isB_eq (b := 32) hb.2
    subst this
    have hs := Nat.le_of_ble_eq_true hb.1
    exact ⟨flat_call (args := [.string s, .string ⟨#[32]⟩]) rfl rfl fun w => (Tryz.strings_Trim_one s 32 (by decide) w (by omega)).mono fun e w' ⟨h1, h2⟩ => ⟨h1, h2.elim (fun q => q ▸ Below.refl _ _) (fun q => q ▸ below_drew _)⟩, Nat.le_refl _⟩
  · cases hs2
noncomputable def SF : SC := ⟨idn, spOr spIr spTm, true, true⟩
theorem SF_ok : SF.cfg.OK Tryz.prog := (spIr_ok.or spTm_ok).cfg
theorem someIFD : Tryz.f64.body.isSome = true := by kernel_rfl
theorem ifd (s : ByteArray) (Q : Value → Prop) : ffn Tryz.prog SF [] 600 [] Tryz.f64 [.string s] h0 (fun v _ => Q v) =
    bif decide ((s.size : Int) ≤ 2000) then bif Nat.ble s.data.toList.length 100000 then bif s.data.toList.all (rng 32 126) then bif Nat.ble s.size 100000 && true then Q (.bool ((bl (Lib.trimB s.data.toList 32)).toList == s.toList)) else False else Q (.bool false) else False else Q (.bool false) := by kernel_rfl
theorem rng_fld (c : UInt8) : rng 32 126 c = (decide (32 ≤ c) && decide (c ≤ 126)) := all_u8 (p := fun c => rng 32 126 c == (decide (32 ≤ c) && decide (c ≤ 126))) (by decide +kernel) c |> eq_of_beq
theorem fld_fn (l : List UInt8) : FnOK 0 Tryz.prog 64 ⟨[.string (bl l)]⟩ h0 (fun v _ => v = .bool (fldQ l)) := by
  refine FnOK.ftree SF_ok mixed Tryz.func64 someIFD (ifd (bl l) (fun v => v = .bool (fldQ l))) ?_
  rw [bl_size, bl_list]
  unfold fldQ
  have e : l.all (rng 32 126) = l.all (fun c => decide (32 ≤ c) && decide (c ≤ 126)) := by congr 1; funext c; exact rng_fld c
  rw [← e]
  by_cases h1 : l.length ≤ 2000
  · rw [decide_eq_true h1]
    refine pick_t (decide_eq_true (by omega)) (need_mk (Nat.ble_eq_true_of_le (by omega)) ?_)
    cases h2 : l.all (rng 32 126) with
    | false => exact rfl
    | true =>
      refine need_mk (by rw [Nat.ble_eq_true_of_le (show l.length ≤ 100000 by omega)]; rfl) ?_
      rw [bl_beq, bl_list]
      rfl
  · rw [decide_eq_false h1]
    exact pick_f (decide_eq_false (by omega)) rfl
noncomputable def spFq (f : FuncId) (args : Array Value) (h : AH) : Option (Bool × Value × AH) :=
  cond (Nat.beq f 64) (match args with
    | ⟨[.string s]⟩ => some (true, .bool (fldQ s.data.toList), h)
    | _ => none) none
theorem spFq_ok : SpOK spFq := by
  intro f args h v h' hs
  unfold spFq at hs
  obtain ⟨hf, hs2⟩ := cond_some hs
  clear hs
  have := Nat.eq_of_beq_eq_true hf
  subst this
  split at hs2
  · injection hs2 with hs
    injection hs with hb hs
    injection hs with hv hh
    subst hv hh
    rename_i s
    have := fld_fn s.data.toList
    rw [bl_self] at this
    exact ⟨FnOK.pure this rfl rfl h, Nat.le_refl _⟩
  · cases hs2

/-! queryFault -/
noncomputable def SQf : SC := ⟨idn, spOr spIr spIx, true, true⟩
theorem SQf_ok : SQf.cfg.OK Tryz.prog := (spIr_ok.or spIx_ok).cfg
theorem someQF : Tryz.f63.body.isSome = true := by kernel_rfl
theorem qff (s : ByteArray) (Q : Value → Prop) : ffn Tryz.prog SQf [] 600 [] Tryz.f63 [.string s] h0 (fun v _ => Q v) =
    bif decide ((s.size : Int) > 1000) then Q (.int .i64 3) else bif Nat.ble s.data.toList.length 100000 then bif !s.data.toList.all (rng 33 126) then Q (.int .i64 3) else
      bif decide (ixS 35 s ≥ 0) then Q (.int .i64 3) else Q (.int .i64 0) else False := by kernel_rfl
theorem ink_eq (c : UInt8) : qInk c = (rng 33 126 c && !(c == 35)) := all_u8 (p := fun c => qInk c == (rng 33 126 c && !(c == 35))) (by decide +kernel) c |> eq_of_beq
theorem all_ink : ∀ l : List UInt8, l.all qInk = (l.all (rng 33 126) && !(l.contains 35))
  | [] => rfl
  | c :: l => by
    rw [List.all_cons, all_ink l, ink_eq, List.all_cons, List.contains_cons, show (35 == c) = (c == 35) from by rw [Bool.beq_comm]]
    cases rng 33 126 c <;> cases c == 35 <;> cases l.all (rng 33 126) <;> cases l.contains 35 <;> rfl
theorem ix_in (c : UInt8) : ∀ l : List UInt8, decide (Lib.indexByte l c ≥ 0) = l.contains c
  | [] => rfl
  | b :: l => by
    have ih := ix_in c l
    have hge := Lib.indexByte_ge l c
    unfold Lib.indexByte
    by_cases hb : b = c
    · subst hb; simp
    · have : (c == b) = false := by simpa using fun e => hb e.symm
      rw [List.contains_cons, this, Bool.false_or, ← ih]
      simp only [beq_eq_false_iff_ne.2 hb, Bool.false_eq_true, if_false]
      split
      · rename_i h; rw [beq_iff_eq] at h; rw [h]
      · rename_i h; rw [beq_iff_eq] at h
        have a : decide (Lib.indexByte l c + 1 ≥ 0) = true := decide_eq_true (by omega)
        have b : decide (Lib.indexByte l c ≥ 0) = true := decide_eq_true (by omega)
        rw [a, b]
def qfC (l : List UInt8) : Int := if okQ l then 0 else 3
theorem qf_fn {l : List UInt8} (hl : l.length ≤ 20000) : FnOK 0 Tryz.prog 63 ⟨[.string (bl l)]⟩ h0 (fun v _ => v = .int .i64 (qfC l)) := by
  refine FnOK.ftree SQf_ok mixed Tryz.func63 someQF (qff (bl l) (fun v => v = .int .i64 (qfC l))) ?_
  have hx : decide (ixS 35 (bl l) ≥ 0) = l.contains 35 := by unfold ixS; rw [bl_list]; exact ix_in 35 l
  rw [bl_list, bl_size, hx]
  unfold qfC okQ
  rw [all_ink]
  by_cases h1 : ((l.length : Nat) : Int) > 1000
  · rw [decide_eq_false (show ¬ l.length ≤ 1000 by omega)]
    exact pick_t (decide_eq_true h1) rfl
  · rw [decide_eq_true (show l.length ≤ 1000 by omega)]
    refine pick_f (decide_eq_false h1) (need_mk (Nat.ble_eq_true_of_le (by omega)) ?_)
    cases l.all (rng 33 126) <;> cases l.contains 35 <;> exact rfl
noncomputable def spQf (f : FuncId) (args : Array Value) (h : AH) : Option (Bool × Value × AH) :=
  cond (Nat.beq f 63) (match args with
    | ⟨[.string s]⟩ => some (Nat.ble s.data.toList.length 20000, .int .i64 (qfC s.data.toList), h)
    | _ => none) none
theorem spQf_ok : SpOK spQf := by
  intro f args h v h' hs
  unfold spQf at hs
  obtain ⟨hf, hs2⟩ := cond_some hs
  clear hs
  have := Nat.eq_of_beq_eq_true hf
  subst this
  split at hs2
  · injection hs2 with hs
    injection hs with hb hs
    injection hs with hv hh
    subst hv hh
    rename_i s
    have := qf_fn (Nat.le_of_ble_eq_true hb)
    rw [bl_self] at this
    exact ⟨FnOK.pure this rfl rfl h, Nat.le_refl _⟩
  · cases hs2

/-! CheckHeaders -/
/-- Two strings as a value. -/
def prV (p : Bs × Bs) : Value := .agg ⟨[strV p.1, strV p.2]⟩
def e2 (x : Value) : Value := .agg ⟨etaL [.str, .str] 0 x⟩
def elV (xs : List Value) (i : Int) : Value := (Array.mk xs).toList.getD i.toNat undef
def s1 (x : Value) : ByteArray := toStr (x.cells.toList.getD 0 undef)
def s2 (x : Value) : ByteArray := toStr (x.cells.toList.getD 1 undef)
theorem elV_at {L : List (Bs × Bs)} {i : Nat} {p : Bs × Bs} {l : List (Bs × Bs)} (h : L.drop i = p :: l) : elV (L.map prV) (i : Int) = prV p := by
  have : L[i]? = some p := by rw [← List.head?_drop, h]; rfl
  show (L.map prV).getD i _ = _
  rw [List.getD_eq_getElem?_getD, List.getElem?_map, this]; rfl
theorem e2_pr (p : Bs × Bs) : prV p = e2 (prV p) := rfl
noncomputable def SCh : SC := ⟨idn, spOr spTk spFq, true, true⟩
theorem SCh_ok : SCh.cfg.OK Tryz.prog := (spTk_ok.or spFq_ok).cfg
theorem chr (vs : List Value) (n i : Int) (B : List Value → AH → Prop) (Q : AExit → List Value → AH → Prop) : once 0 Tryz.prog SCh [] noHooks 600 23 [8, 9, 10] [] [2] [] (oneLoop (codeOf Tryz.f65) 4) [fz ⟨vs⟩, .int .i64 n, .int .i64 i] h0 B Q =
    bif decide (i < n) then bif decide (0 ≤ i) && decide (i < ((Array.mk vs).size : Int)) && Nat.beq (e2 (elV vs i)).cells.size 2 then elV vs i = e2 (elV vs i) ∧
      bif Nat.ble (s1 (elV vs i)).data.toList.length 20000 then bif !tokB (s1 (elV vs i)).data.toList then Q .ret [.int .i64 5] h0 else bif !fldQ (s2 (elV vs i)).data.toList then Q .ret [.int .i64 3] h0 else B [fz ⟨vs⟩, .int .i64 n, .int .i64 (W (i + 1))] h0
      else False else False else Q (.exit 0) [anyV] h0 := by kernel_rfl
theorem oneCH : (loopAt (codeOf Tryz.f65) 4).length = 1 := by kernel_rfl
theorem someCH : Tryz.f65.body.isSome = true := by kernel_rfl
theorem ch_loop (K : AExit → List Value → AH → Prop) (L : List (Bs × Bs)) (hn : L.length ≤ 1000) (hL : ∀ p ∈ L, p.1.length ≤ 10000 ∧ p.2.length ≤ 10000) : ∀ (l : List (Bs × Bs)) (i : Nat), L.drop i = l → i + l.length = L.length → (chL l = 0 → K (.exit 0) [anyV] h0) → (chL l ≠ 0 → K .ret [.int .i64 (chL l)] h0) →
    iter 0 Tryz.prog SCh [] noHooks 600 23 [8, 9, 10] [] [2] [] (oneLoop (codeOf Tryz.f65) 4) (l.length + 1) [fz ⟨L.map prV⟩, .int .i64 (L.length : Int), .int .i64 (i : Int)] h0 K
  | [], i, _, h2, hK, _ => (chr _ _ _ _ K).mpr (pick_f (decide_eq_false (by simp at h2; omega)) (hK rfl))
  | p :: l, i, h1, h2, hK, hB => by
    have e := elV_at h1
    rw [List.length_cons] at h2
    have w1 : W ((i : Int) + 1) = ((i + 1 : Nat) : Int) := w_nat 1 (by omega) (by omega)
    have hp := hL p (by have : p ∈ L.drop i := by rw [h1]; simp
                        exact List.mem_of_mem_drop this)
    refine (chr _ _ _ _ K).mpr (pick_t (decide_eq_true (by omega)) (need_mk ?_ ?_))
    · simp only [Bool.and_eq_true, decide_eq_true_eq]
      exact ⟨⟨by omega, by simp; omega⟩, rfl⟩
    · rw [e, w1]
      refine ⟨rfl, ?_⟩
      rw [show s1 (prV p) = bl p.1 from rfl, show s2 (prV p) = bl p.2 from rfl, bl_list, bl_list]
      refine need_mk (Nat.ble_eq_true_of_le (by omega)) ?_
      unfold chL at hK hB
      cases ht : tokB p.1 with
      | false =>
        rw [ht] at hB
        exact hB (by simp)
      | true =>
        rw [ht, if_pos rfl] at hK hB
        cases hf : fldQ p.2 with
        | false =>
          rw [hf] at hB
          exact hB (by simp)
        | true =>
          rw [hf, if_pos rfl] at hK hB
          exact ch_loop K L hn hL l (i + 1) (by rw [← List.drop_drop, h1]; rfl) (by omega) hK hB
theorem chT (vs : List Value) (C : List Value → AH → Prop) (Q : Value → Prop) : tfn Tryz.prog SCh [] (hook1 4 (hookLS 0 23 [8, 9, 10] [] [2] (fun vals h K => C vals h ∧ K (.exit 0) [anyV] h0))) 600 [] Tryz.f65 [fz ⟨vs⟩] h0 (fun v _ => Q v) =
    bif decide (((Array.mk vs).size : Int) > 50) then Q (.int .i64 2) else (C [fz ⟨vs⟩, .int .i64 ((Array.mk vs).size : Int), .int .i64 0] h0 ∧ Q (.int .i64 0)) := by kernel_rfl
theorem chF (vs : List Value) (e : Int) (C : List Value → AH → Prop) (Q : Value → Prop) : tfn Tryz.prog SCh [] (hook1 4 (hookLS 0 23 [8, 9, 10] [] [2] (fun vals h K => C vals h ∧ K .ret [.int .i64 e] h0))) 600 [] Tryz.f65 [fz ⟨vs⟩] h0 (fun v _ => Q v) =
    bif decide (((Array.mk vs).size : Int) > 50) then Q (.int .i64 2) else (C [fz ⟨vs⟩, .int .i64 ((Array.mk vs).size : Int), .int .i64 0] h0 ∧ Q (.int .i64 e)) := by kernel_rfl
theorem chN (Q : Value → Prop) : ffn Tryz.prog SCh [] 600 [] Tryz.f65 [.slice none 0 0] h0 (fun v _ => Q v) = Q (.int .i64 0) := by kernel_rfl
/-- Headers as a value: none is nil. -/
def hdV : List (Bs × Bs) → Value
  | [] => .slice none 0 0
  | p :: l => fz ⟨(p :: l).map prV⟩
theorem ch_fn {L : List (Bs × Bs)} (hn : L.length ≤ 1000) (hL : ∀ p ∈ L, p.1.length ≤ 10000 ∧ p.2.length ≤ 10000) : FnOK 0 Tryz.prog 65 ⟨[hdV L]⟩ h0 (fun v _ => v = .int .i64 (chE L)) := by
  cases L with
  | nil => exact FnOK.ftree SCh_ok mixed Tryz.func65 someCH (chN (fun v => v = .int .i64 (chE []))) rfl
  | cons p l =>
    have hloop := fun K => ch_loop K (p :: l) hn hL (p :: l) 0 rfl (by simp)
    have key : ∀ (cl : (AExit → List Value → AH → Prop) → Prop), (∀ K, cl K → (chL (p :: l) = 0 → K (.exit 0) [anyV] h0) ∧ (chL (p :: l) ≠ 0 → K .ret [.int .i64 (chL (p :: l))] h0)) →
        LSpec 0 Tryz.prog 23 (oneLoop (codeOf Tryz.f65) 4) (hookLS 0 23 [8, 9, 10] [] [2] (fun vals h K => (vals = [fz ⟨(p :: l).map prV⟩, .int .i64 ((p :: l).length : Int), .int .i64 0] ∧ h = h0) ∧ cl K)) := by
      intro cl hcl
      refine hook_ok (G := []) (L := noHooks) (f := 600) (sameX := []) SCh_ok mixed (by decide) (loops_none _ _ _ _) ?_
      rintro vals h K ⟨⟨rfl, rfl⟩, hK⟩
      obtain ⟨h1, h2⟩ := hcl K hK
      exact ⟨_, hloop K h1 h2⟩
    have hsz : ((Array.mk ((p :: l).map prV)).size : Int) = ((p :: l).length : Int) := by simp
    by_cases hc : chL (p :: l) = 0
    · refine FnOK.ttree SCh_ok mixed Tryz.func65 someCH (loops_one oneCH (key (fun K => K (.exit 0) [anyV] h0) fun K hK => ⟨fun _ => hK, fun h => absurd hc h⟩)) (chT ((p :: l).map prV) _ (fun v => v = .int .i64 (chE (p :: l)))) ?_
      rw [hsz]
      unfold chE
      by_cases hm : (p :: l).length > 50
      · rw [if_pos hm]
        exact pick_t (decide_eq_true (by omega)) rfl
      · rw [if_neg hm, hc]
        exact pick_f (decide_eq_false (by omega)) ⟨⟨rfl, rfl⟩, rfl⟩
    · refine FnOK.ttree SCh_ok mixed Tryz.func65 someCH (loops_one oneCH (key (fun K => K .ret [.int .i64 (chL (p :: l))] h0) fun K hK => ⟨fun h => absurd h hc, fun _ => hK⟩)) (chF ((p :: l).map prV) (chL (p :: l)) _ (fun v => v = .int .i64 (chE (p :: l)))) ?_
      rw [hsz]
      unfold chE
      by_cases hm : (p :: l).length > 50
      · rw [if_pos hm]
        exact pick_t (decide_eq_true (by omega)) rfl
      · rw [if_neg hm]
        exact pick_f (decide_eq_false (by omega)) ⟨⟨rfl, rfl⟩, rfl⟩
/-- The headers that a value tells. -/
def unP (v : Value) : Bs × Bs := ((s1 v).data.toList, (s2 v).data.toList)
def unH (v : Value) : List (Bs × Bs) := match v with
  | .func (.yield 0) ⟨vs⟩ ⟨[]⟩ => vs.map unP
  | _ => []
theorem unP_pr (p : Bs × Bs) : unP (prV p) = p := by
  show ((bl p.1).data.toList, (bl p.2).data.toList) = p
  rw [bl_list, bl_list]
theorem unP_map (L : List (Bs × Bs)) : (L.map prV).map unP = L := by
  rw [List.map_map]
  have : unP ∘ prV = id := by funext l; exact unP_pr l
  rw [this, List.map_id]
theorem unH_hd : ∀ L : List (Bs × Bs), unH (hdV L) = L
  | [] => rfl
  | p :: l => unP_map (p :: l)
def HOk (L : List (Bs × Bs)) : Prop := L.length ≤ 1000 ∧ ∀ p ∈ L, p.1.length ≤ 10000 ∧ p.2.length ≤ 10000
open Classical in
noncomputable def okHd (v : Value) : Bool := @decide (∃ L, HOk L ∧ v = hdV L) (Classical.propDecidable _)
open Classical in
theorem okHd_iff {v : Value} : okHd v = true ↔ ∃ L, HOk L ∧ v = hdV L := by unfold okHd; exact decide_eq_true_iff
theorem p2_hd : ∀ L : List (Bs × Bs), p2 (hdV L) = true
  | [] => rfl
  | _ :: _ => rfl
noncomputable def spCh (f : FuncId) (args : Array Value) (h : AH) : Option (Bool × Value × AH) :=
  cond (Nat.beq f 65) (match args with
    | ⟨[v]⟩ => some (okHd v, .int .i64 (chE (unH v)), h)
    | _ => none) none
theorem spCh_ok : SpOK spCh := by
  intro f args h v h' hs
  unfold spCh at hs
  obtain ⟨hf, hs2⟩ := cond_some hs
  clear hs
  have := Nat.eq_of_beq_eq_true hf
  subst this
  split at hs2
  · injection hs2 with hs
    injection hs with hb hs
    injection hs with hv hh
    subst hv hh
    rename_i v
    obtain ⟨L, hL, rfl⟩ := okHd_iff.1 hb
    rw [unH_hd]
    exact ⟨FnOK.pure (ch_fn hL.1 hL.2) (by show (p2 _ && true) = true; rw [p2_hd]; rfl) rfl h, Nat.le_refl _⟩
  · cases hs2
end Go.Proofs.YtjphemllikflpaaGreatDoor
