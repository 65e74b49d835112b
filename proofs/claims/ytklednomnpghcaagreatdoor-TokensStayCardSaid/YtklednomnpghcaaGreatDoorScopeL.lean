/-
  'least' as a specification: each of the rising lists of the nine scopes is run once.
-/
import Derived.Test.YtklednomnpghcaaGreatDoorScopeL0
import Derived.Test.YtklednomnpghcaaGreatDoorScopeL1
import Derived.Test.YtklednomnpghcaaGreatDoorScopeL2
import Derived.Test.YtklednomnpghcaaGreatDoorScopeL3
namespace Go.Proofs.YtklednomnpghcaaGreatDoor
open Go.Ev Go.RowKit ScopeLaw

def AllS (P : List (List UInt8) → Prop) : List (List UInt8) → List (List UInt8) → Prop
  | pre, [] => P pre
  | pre, x :: F => AllS P pre F ∧ AllS P (pre ++ [x]) F
theorem AllS_mem {P : List (List UInt8) → Prop} : ∀ (F pre : List (List UInt8)), AllS P pre F → ∀ R ∈ subs F, P (pre ++ R)
  | [], pre, h, R, hR => by
    have : R = [] := by simpa [subs] using hR
    subst this
    rw [List.append_nil]
    exact h
  | x :: F, pre, h, R, hR => by
    rw [subs, List.mem_append] at hR
    rcases hR with hR | hR
    · exact AllS_mem F pre h.1 R hR
    · obtain ⟨R', h1, rfl⟩ := List.mem_map.1 hR
      have := AllS_mem F (pre ++ [x]) h.2 R' h1
      simpa using this
def nineL : List (List UInt8) := [[42], [97], [97, 58, 42], [97, 58, 98], [97, 58, 98, 58, 42], [97, 58, 98, 58, 99], [98], [98, 58, 42], [98, 58, 99]]
theorem lr_all : AllS LR [] nineL := ⟨⟨⟨⟨⟨⟨⟨⟨⟨lr0, lr1⟩, ⟨lr2, lr3⟩⟩, ⟨⟨lr4, lr5⟩, ⟨lr6, lr7⟩⟩⟩, ⟨⟨⟨lr8, lr9⟩, ⟨lr10, lr11⟩⟩, ⟨⟨lr12, lr13⟩, ⟨lr14, lr15⟩⟩⟩⟩, ⟨⟨⟨⟨lr16, lr17⟩, ⟨lr18, lr19⟩⟩, ⟨⟨lr20, lr21⟩, ⟨lr22, lr23⟩⟩⟩, ⟨⟨⟨lr24, lr25⟩, ⟨lr26, lr27⟩⟩, ⟨⟨lr28, lr29⟩, ⟨lr30, lr31⟩⟩⟩⟩⟩, ⟨⟨⟨⟨⟨lr32, lr33⟩, ⟨lr34, lr35⟩⟩, ⟨⟨lr36, lr37⟩, ⟨lr38, lr39⟩⟩⟩, ⟨⟨⟨lr40, lr41⟩, ⟨lr42, lr43⟩⟩, ⟨⟨lr44, lr45⟩, ⟨lr46, lr47⟩⟩⟩⟩, ⟨⟨⟨⟨lr48, lr49⟩, ⟨lr50, lr51⟩⟩, ⟨⟨lr52, lr53⟩, ⟨lr54, lr55⟩⟩⟩, ⟨⟨⟨lr56, lr57⟩, ⟨lr58, lr59⟩⟩, ⟨⟨lr60, lr61⟩, ⟨lr62, lr63⟩⟩⟩⟩⟩⟩, ⟨⟨⟨⟨⟨⟨lr64, lr65⟩, ⟨lr66, lr67⟩⟩, ⟨⟨lr68, lr69⟩, ⟨lr70, lr71⟩⟩⟩, ⟨⟨⟨lr72, lr73⟩, ⟨lr74, lr75⟩⟩, ⟨⟨lr76, lr77⟩, ⟨lr78, lr79⟩⟩⟩⟩, ⟨⟨⟨⟨lr80, lr81⟩, ⟨lr82, lr83⟩⟩, ⟨⟨lr84, lr85⟩, ⟨lr86, lr87⟩⟩⟩, ⟨⟨⟨lr88, lr89⟩, ⟨lr90, lr91⟩⟩, ⟨⟨lr92, lr93⟩, ⟨lr94, lr95⟩⟩⟩⟩⟩, ⟨⟨⟨⟨⟨lr96, lr97⟩, ⟨lr98, lr99⟩⟩, ⟨⟨lr100, lr101⟩, ⟨lr102, lr103⟩⟩⟩, ⟨⟨⟨lr104, lr105⟩, ⟨lr106, lr107⟩⟩, ⟨⟨lr108, lr109⟩, ⟨lr110, lr111⟩⟩⟩⟩, ⟨⟨⟨⟨lr112, lr113⟩, ⟨lr114, lr115⟩⟩, ⟨⟨lr116, lr117⟩, ⟨lr118, lr119⟩⟩⟩, ⟨⟨⟨lr120, lr121⟩, ⟨lr122, lr123⟩⟩, ⟨⟨lr124, lr125⟩, ⟨lr126, lr127⟩⟩⟩⟩⟩⟩⟩, ⟨⟨⟨⟨⟨⟨⟨lr128, lr129⟩, ⟨lr130, lr131⟩⟩, ⟨⟨lr132, lr133⟩, ⟨lr134, lr135⟩⟩⟩, ⟨⟨⟨lr136, lr137⟩, ⟨lr138, lr139⟩⟩, ⟨⟨lr140, lr141⟩, ⟨lr142, lr143⟩⟩⟩⟩, ⟨⟨⟨⟨lr144, lr145⟩, ⟨lr146, lr147⟩⟩, ⟨⟨lr148, lr149⟩, ⟨lr150, lr151⟩⟩⟩, ⟨⟨⟨lr152, lr153⟩, ⟨lr154, lr155⟩⟩, ⟨⟨lr156, lr157⟩, ⟨lr158, lr159⟩⟩⟩⟩⟩, ⟨⟨⟨⟨⟨lr160, lr161⟩, ⟨lr162, lr163⟩⟩, ⟨⟨lr164, lr165⟩, ⟨lr166, lr167⟩⟩⟩, ⟨⟨⟨lr168, lr169⟩, ⟨lr170, lr171⟩⟩, ⟨⟨lr172, lr173⟩, ⟨lr174, lr175⟩⟩⟩⟩, ⟨⟨⟨⟨lr176, lr177⟩, ⟨lr178, lr179⟩⟩, ⟨⟨lr180, lr181⟩, ⟨lr182, lr183⟩⟩⟩, ⟨⟨⟨lr184, lr185⟩, ⟨lr186, lr187⟩⟩, ⟨⟨lr188, lr189⟩, ⟨lr190, lr191⟩⟩⟩⟩⟩⟩, ⟨⟨⟨⟨⟨⟨lr192, lr193⟩, ⟨lr194, lr195⟩⟩, ⟨⟨lr196, lr197⟩, ⟨lr198, lr199⟩⟩⟩, ⟨⟨⟨lr200, lr201⟩, ⟨lr202, lr203⟩⟩, ⟨⟨lr204, lr205⟩, ⟨lr206, lr207⟩⟩⟩⟩, ⟨⟨⟨⟨lr208, lr209⟩, ⟨lr210, lr211⟩⟩, ⟨⟨lr212, lr213⟩, ⟨lr214, lr215⟩⟩⟩, ⟨⟨⟨lr216, lr217⟩, ⟨lr218, lr219⟩⟩, ⟨⟨lr220, lr221⟩, ⟨lr222, lr223⟩⟩⟩⟩⟩, ⟨⟨⟨⟨⟨lr224, lr225⟩, ⟨lr226, lr227⟩⟩, ⟨⟨lr228, lr229⟩, ⟨lr230, lr231⟩⟩⟩, ⟨⟨⟨lr232, lr233⟩, ⟨lr234, lr235⟩⟩, ⟨⟨lr236, lr237⟩, ⟨lr238, lr239⟩⟩⟩⟩, ⟨⟨⟨⟨lr240, lr241⟩, ⟨lr242, lr243⟩⟩, ⟨⟨lr244, lr245⟩, ⟨lr246, lr247⟩⟩⟩, ⟨⟨⟨lr248, lr249⟩, ⟨lr250, lr251⟩⟩, ⟨⟨lr252, lr253⟩, ⟨lr254, lr255⟩⟩⟩⟩⟩⟩⟩⟩, ⟨⟨⟨⟨⟨⟨⟨⟨lr256, lr257⟩, ⟨lr258, lr259⟩⟩, ⟨⟨lr260, lr261⟩, ⟨lr262, lr263⟩⟩⟩, ⟨⟨⟨lr264, lr265⟩, ⟨lr266, lr267⟩⟩, ⟨⟨lr268, lr269⟩, ⟨lr270, lr271⟩⟩⟩⟩, ⟨⟨⟨⟨lr272, lr273⟩, ⟨lr274, lr275⟩⟩, ⟨⟨lr276, lr277⟩, ⟨lr278, lr279⟩⟩⟩, ⟨⟨⟨lr280, lr281⟩, ⟨lr282, lr283⟩⟩, ⟨⟨lr284, lr285⟩, ⟨lr286, lr287⟩⟩⟩⟩⟩, ⟨⟨⟨⟨⟨lr288, lr289⟩, ⟨lr290, lr291⟩⟩, ⟨⟨lr292, lr293⟩, ⟨lr294, lr295⟩⟩⟩, ⟨⟨⟨lr296, lr297⟩, ⟨lr298, lr299⟩⟩, ⟨⟨lr300, lr301⟩, ⟨lr302, lr303⟩⟩⟩⟩, ⟨⟨⟨⟨lr304, lr305⟩, ⟨lr306, lr307⟩⟩, ⟨⟨lr308, lr309⟩, ⟨lr310, lr311⟩⟩⟩, ⟨⟨⟨lr312, lr313⟩, ⟨lr314, lr315⟩⟩, ⟨⟨lr316, lr317⟩, ⟨lr318, lr319⟩⟩⟩⟩⟩⟩, ⟨⟨⟨⟨⟨⟨lr320, lr321⟩, ⟨lr322, lr323⟩⟩, ⟨⟨lr324, lr325⟩, ⟨lr326, lr327⟩⟩⟩, ⟨⟨⟨lr328, lr329⟩, ⟨lr330, lr331⟩⟩, ⟨⟨lr332, lr333⟩, ⟨lr334, lr335⟩⟩⟩⟩, ⟨⟨⟨⟨lr336, lr337⟩, ⟨lr338, lr339⟩⟩, ⟨⟨lr340, lr341⟩, ⟨lr342, lr343⟩⟩⟩, ⟨⟨⟨lr344, lr345⟩, ⟨lr346, lr347⟩⟩, ⟨⟨lr348, lr349⟩, ⟨lr350, lr351⟩⟩⟩⟩⟩, ⟨⟨⟨⟨⟨lr352, lr353⟩, ⟨lr354, lr355⟩⟩, ⟨⟨lr356, lr357⟩, ⟨lr358, lr359⟩⟩⟩, ⟨⟨⟨lr360, lr361⟩, ⟨lr362, lr363⟩⟩, ⟨⟨lr364, lr365⟩, ⟨lr366, lr367⟩⟩⟩⟩, ⟨⟨⟨⟨lr368, lr369⟩, ⟨lr370, lr371⟩⟩, ⟨⟨lr372, lr373⟩, ⟨lr374, lr375⟩⟩⟩, ⟨⟨⟨lr376, lr377⟩, ⟨lr378, lr379⟩⟩, ⟨⟨lr380, lr381⟩, ⟨lr382, lr383⟩⟩⟩⟩⟩⟩⟩, ⟨⟨⟨⟨⟨⟨⟨lr384, lr385⟩, ⟨lr386, lr387⟩⟩, ⟨⟨lr388, lr389⟩, ⟨lr390, lr391⟩⟩⟩, ⟨⟨⟨lr392, lr393⟩, ⟨lr394, lr395⟩⟩, ⟨⟨lr396, lr397⟩, ⟨lr398, lr399⟩⟩⟩⟩, ⟨⟨⟨⟨lr400, lr401⟩, ⟨lr402, lr403⟩⟩, ⟨⟨lr404, lr405⟩, ⟨lr406, lr407⟩⟩⟩, ⟨⟨⟨lr408, lr409⟩, ⟨lr410, lr411⟩⟩, ⟨⟨lr412, lr413⟩, ⟨lr414, lr415⟩⟩⟩⟩⟩, ⟨⟨⟨⟨⟨lr416, lr417⟩, ⟨lr418, lr419⟩⟩, ⟨⟨lr420, lr421⟩, ⟨lr422, lr423⟩⟩⟩, ⟨⟨⟨lr424, lr425⟩, ⟨lr426, lr427⟩⟩, ⟨⟨lr428, lr429⟩, ⟨lr430, lr431⟩⟩⟩⟩, ⟨⟨⟨⟨lr432, lr433⟩, ⟨lr434, lr435⟩⟩, ⟨⟨lr436, lr437⟩, ⟨lr438, lr439⟩⟩⟩, ⟨⟨⟨lr440, lr441⟩, ⟨lr442, lr443⟩⟩, ⟨⟨lr444, lr445⟩, ⟨lr446, lr447⟩⟩⟩⟩⟩⟩, ⟨⟨⟨⟨⟨⟨lr448, lr449⟩, ⟨lr450, lr451⟩⟩, ⟨⟨lr452, lr453⟩, ⟨lr454, lr455⟩⟩⟩, ⟨⟨⟨lr456, lr457⟩, ⟨lr458, lr459⟩⟩, ⟨⟨lr460, lr461⟩, ⟨lr462, lr463⟩⟩⟩⟩, ⟨⟨⟨⟨lr464, lr465⟩, ⟨lr466, lr467⟩⟩, ⟨⟨lr468, lr469⟩, ⟨lr470, lr471⟩⟩⟩, ⟨⟨⟨lr472, lr473⟩, ⟨lr474, lr475⟩⟩, ⟨⟨lr476, lr477⟩, ⟨lr478, lr479⟩⟩⟩⟩⟩, ⟨⟨⟨⟨⟨lr480, lr481⟩, ⟨lr482, lr483⟩⟩, ⟨⟨lr484, lr485⟩, ⟨lr486, lr487⟩⟩⟩, ⟨⟨⟨lr488, lr489⟩, ⟨lr490, lr491⟩⟩, ⟨⟨lr492, lr493⟩, ⟨lr494, lr495⟩⟩⟩⟩, ⟨⟨⟨⟨lr496, lr497⟩, ⟨lr498, lr499⟩⟩, ⟨⟨lr500, lr501⟩, ⟨lr502, lr503⟩⟩⟩, ⟨⟨⟨lr504, lr505⟩, ⟨lr506, lr507⟩⟩, ⟨⟨lr508, lr509⟩, ⟨lr510, lr511⟩⟩⟩⟩⟩⟩⟩⟩⟩
theorem nine_ten : ∀ x ∈ nineL, x ∈ ten := by
  intro x hx
  simp only [nineL, List.mem_cons, List.not_mem_nil, or_false] at hx
  rcases hx with rfl | rfl | rfl | rfl | rfl | rfl | rfl | rfl | rfl <;> decide
theorem nine_rise : nineL.Pairwise (below fun x y => x ≤ y) := by
  unfold below
  decide +kernel
theorem rising_nine {l : List (List UInt8)} (hl : ∀ x ∈ l, x ∈ nineL) : rising l ∈ subs nineL :=
  mem_subs ord_le nineL _ nine_rise (cut_rise ord_le (sorted l)) fun x hx => hl x ((rising_mem l x).1 hx)
def inNine (s : ByteArray) : Bool := nineL.any fun t => beqN (t.map UInt8.toNat) (natsOf s)
theorem inNine_ok {s : ByteArray} (h : inNine s = true) : s.data.toList ∈ nineL := by
  obtain ⟨t, h1, h2⟩ := List.any_eq_true.1 h
  have h3 : t.map UInt8.toNat = s.data.toList.map UInt8.toNat := beqN_eq h2
  rw [← (List.map_inj_right (fun x y => UInt8.toNat_inj.1)).1 h3]
  exact h1
theorem inNine_mk {x : List UInt8} (h : x ∈ nineL) : inNine ⟨x.toArray⟩ = true := List.any_eq_true.2 ⟨x, h, beqN_self _⟩
def isNine : Value → Bool
  | .string s => inNine s
  | _ => false
def nineR (vs : List Value) : Bool := vs.all isNine && Nat.ble vs.length 16
theorem nineR_ok {vs : List Value} (h : nineR vs = true) : vs = (vs.map unS).map scp ∧ (∀ x ∈ vs.map unS, x ∈ nineL) ∧ vs.length ≤ 16 ∧ vs.all isStr = true := by
  simp only [nineR, Bool.and_eq_true, Nat.ble_eq] at h
  have hs : vs.all isStr = true := by
    rw [List.all_eq_true]
    intro v hv
    have := List.all_eq_true.1 h.1 v hv
    unfold isNine at this
    split at this
    · rfl
    · cases this
  refine ⟨str_un hs, ?_, h.2, hs⟩
  intro x hx
  obtain ⟨v, hv, rfl⟩ := List.mem_map.1 hx
  have := List.all_eq_true.1 h.1 v hv
  unfold isNine at this
  split at this
  · exact inNine_ok this
  · cases this
theorem nineR_mk {l : List (List UInt8)} (h : ∀ x ∈ l, x ∈ nineL) (hl : l.length ≤ 16) : nineR (l.map scp) = true := by
  simp only [nineR, Bool.and_eq_true, Nat.ble_eq, List.length_map]
  refine ⟨?_, hl⟩
  rw [List.all_eq_true]
  intro v hv
  obtain ⟨s, hs, rfl⟩ := List.mem_map.1 hv
  exact inNine_mk (h s hs)
/-- The least of a list. -/
def leastV (vs : List Value) : List Value := (leastR (vs.map unS)).map scp
theorem some33 : Tryz.f33.body.isSome = true := by kernel_rfl
theorem le_fn {vs : List Value} (hv : nineR vs = true) (h1 : 1 ≤ vs.length) : FnOK 0 Tryz.prog 33 ⟨[fz ⟨vs⟩]⟩ h0 (fun v _ => v = fz ⟨leastV vs⟩) := by
  obtain ⟨e, hin, h16, hs⟩ := nineR_ok hv
  have hne : rising (vs.map unS) ≠ [] := by
    intro q
    match vs, h1 with
    | v :: l, _ =>
      have := (rising_mem ((v :: l).map unS) (unS v)).2 (by simp)
      rw [q] at this
      cases this
  have hL := AllS_mem nineL [] lr_all _ (rising_nine hin)
  rw [List.nil_append] at hL
  have hF := FnOK.ftree (p := 0) (SL_ok (rising (vs.map unS))) mixed Tryz.func33 some33 (hL hne vs (fun v o => v = .slice (some ⟨2, 0, none⟩) (leastL covB (rising (vs.map unS))).length (rising (vs.map unS)).length ∧
      o = some (.cells ⟨(leastL covB (rising (vs.map unS)) ++ List.replicate ((rising (vs.map unS)).length - (leastL covB (rising (vs.map unS))).length) []).map scp⟩ 9 (0, 0))))
    (need_mk (risB_iff.2 ⟨by simp only [strR, Bool.and_eq_true, Nat.ble_eq]; exact ⟨hs, by omega⟩, h1, h16, rfl⟩) ⟨rfl, rfl⟩)
  refine FnOK.weak1 (hF.mono ?_)
  rintro v g ⟨rfl, hb⟩
  exact ⟨_, _, freezeL (leastL covB (rising (vs.map unS))) _ rfl (List.length_filter_le _ _) ⟨_, rfl⟩ hb, rfl⟩
theorem le_nil (c : Nat) : FnOK 0 Tryz.prog 33 ⟨[.slice none 0 c]⟩ h0 (fun v _ => v = fz ⟨[]⟩) := by
  have hF := FnOK.ftree (p := 0) SR_ok mixed Tryz.func33 some33 (R := []) (n := 3000) (G := []) (args := [.slice none 0 c]) (h := h0) (Q := fun v _ => v = .slice none 0 0) (T := Value.slice none 0 0 = Value.slice none 0 0) (by kernel_rfl) rfl
  refine FnOK.weak1 (hF.mono ?_)
  rintro v g rfl
  exact ⟨_, _, nil1, rfl⟩
def spLe (f : FuncId) (args : Array Value) (h : AH) : Option (Bool × Value × AH) :=
  cond (Nat.beq f 33) (match args with
    | ⟨[.func (.yield 0) ⟨vs⟩ ⟨[]⟩]⟩ => some (nineR vs && Nat.ble 1 vs.length, fz ⟨leastV vs⟩, h)
    | ⟨[.slice none 0 _]⟩ => some (true, fz ⟨[]⟩, h)
    | _ => none) none
theorem spLe_ok : SpOK spLe := by
  intro f args h v h' hs
  unfold spLe at hs
  obtain ⟨hf, hs2⟩ := cond_some hs
  clear hs
  have := Nat.eq_of_beq_eq_true hf
  subst this
  split at hs2
  · injection hs2 with hs
    injection hs with hb hs
    injection hs with hv hh
    subst hv hh
    rw [Bool.and_eq_true, Nat.ble_eq] at hb
    exact ⟨FnOK.pure (le_fn hb.1 hb.2) rfl rfl h, Nat.le_refl _⟩
  · injection hs2 with hs
    injection hs with hb hs
    injection hs with hv hh
    subst hv hh
    exact ⟨FnOK.pure (le_nil _) rfl rfl h, Nat.le_refl _⟩
  · cases hs2
end Go.Proofs.YtklednomnpghcaaGreatDoor
