/-
  What follows the first loop of 'ChainsNarrow', one for each length of the chain.
-/
import Derived.Test.YtlgoekbfohhplaaGreatDoorScopeW
namespace Go.Proofs.YtlgoekbfohhplaaGreatDoor
open Go.Ev Go.RowKit ScopeLaw

def st1 (c : Cl) (X : Prop) : Prop := cond (c.cells.all oneCell) X False
def covT (F : Fns) (L : Cl) (Z : Prop) : List Cl → Prop → Prop
  | [], X => X
  | d :: l, X => st1 d (cond (F.okW d.sc && F.okW L.sc) (cond (!F.al d.sc L.sc) Z (cond (decide (L.fr < d.fr)) Z (cond (decide (L.to > d.to)) Z (covT F L Z l X)))) False)
def ccT (F : Fns) (Y Z : Prop) : List Cl → Prop → Prop
  | [], X => X
  | c :: l, X => st1 c (cond (F.key c.id && F.key c.sub && F.key c.iss && F.par c.par && F.okA c.aud && F.okC c.sc) (cond (F.cc c.fr c.to != 0) (cond (F.cc c.fr c.to == 0) Y Z) (ccT F Y Z l X)) False)
def idT (Z : Prop) (c : Cl) : List Cl → Prop → Prop
  | [], X => X
  | o :: l, X => cond (o.id.toList == c.id.toList) Z (idT Z c l X)
def chT (F : Fns) (Z : Prop) : List Cl → List Cl → Cl → Prop → Prop
  | [], _, _, X => X
  | c :: rest, seen, p, X => st1 c (st1 p (cond (!c.par.toList == p.id.toList) Z (idT Z c seen (cond (!c.iss.toList == p.iss.toList) Z (cond (F.okA c.aud && F.okA p.aud) (cond (!F.eq c.aud p.aud) Z
      (cond (F.okW p.sc && F.okW c.sc) (cond (!F.al p.sc c.sc) Z (cond (decide (c.fr < p.fr)) Z (cond (decide (c.to > p.to)) Z (chT F Z rest (seen ++ [c]) c X)))) False)) False)))))
def finT (F : Fns) (c0 : Cl) (rest : List Cl) (L : Cl) (Q : Value → Prop) : Prop :=
  st1 L (covT F L (Q (.bool false)) (c0 :: rest) (ccT F (Q (.bool true)) (Q (.bool false)) (c0 :: rest) (cond (!c0.par.toList == noS.toList) (Q (.bool false)) (chT F (Q (.bool false)) rest [c0] c0 (Q (.bool true))))))
/-- The first claims. -/
def rc0 (F : Fns) (xs : Array Value) : List Value := [.string (F.st xs 0), .string (F.st xs 1), .string (F.st xs 2), .string noS, F.au xs, F.le (F.rs xs 5), .int .i64 (F.fr xs), .int .i64 (F.to xs)]
noncomputable def begT (F : Fns) (xs : Array Value) (C : List Value → AH → Prop) (X : Prop) : Prop :=
  cond (allInts xs) (cond (([.string (F.st xs 0), .string (F.st xs 1), .string (F.st xs 2), .string (F.st xs 3), F.au xs, F.le (F.rs xs 5), .int .i64 (F.fr xs), .int .i64 (F.to xs)] : List Value).all oneCell)
    (NoNames (.cells ⟨rc0 F xs⟩ 39 (0, 0)) ∧ C (rdV 1 0) (rdH xs (scE xs 5 + 1 + 1) (rc0 F xs)) ∧ X) False) False
/-- The loop, told. -/
noncomputable def Lch (C : List Value → AH → Prop) (k : Nat) (cells : List Value) : Hooks := hook1 6 (hookLS 0 109 [3, 5, 24, 25, 26] [1] [5] (fun vals h K => C vals h ∧ K (.exit 0) [.slice (some ⟨0, 0, none⟩) k k] (chH cells)))
theorem fin1 (F : Fns) (xs : Array Value) (id0 sub0 iss0 par0 : ByteArray) (aud0 sc0 : Value) (fr0 to0 : Int) (C : List Value → AH → Prop) (Q : Value → Prop) : tfn Tryz.prog (SLf F) [] (Lch C 1 [.string id0, .string sub0, .string iss0, .string par0, aud0, sc0, .int .i64 fr0, .int .i64 to0]) 5000 [] Tryz.f4 [fz xs] h0 (fun v _ => Q v) =
    begT F xs C (finT F ⟨id0, sub0, iss0, par0, aud0, sc0, fr0, to0⟩ [] ⟨id0, sub0, iss0, par0, aud0, sc0, fr0, to0⟩ Q) := by kernel_rfl
theorem fin2 (F : Fns) (xs : Array Value) (id0 sub0 iss0 par0 : ByteArray) (aud0 sc0 : Value) (fr0 to0 : Int) (id1 sub1 iss1 par1 : ByteArray) (aud1 sc1 : Value) (fr1 to1 : Int) (C : List Value → AH → Prop) (Q : Value → Prop) : tfn Tryz.prog (SLf F) [] (Lch C 2 [.string id0, .string sub0, .string iss0, .string par0, aud0, sc0, .int .i64 fr0, .int .i64 to0, .string id1, .string sub1, .string iss1, .string par1, aud1, sc1, .int .i64 fr1, .int .i64 to1]) 5000 [] Tryz.f4 [fz xs] h0 (fun v _ => Q v) =
    begT F xs C (finT F ⟨id0, sub0, iss0, par0, aud0, sc0, fr0, to0⟩ [⟨id1, sub1, iss1, par1, aud1, sc1, fr1, to1⟩] ⟨id1, sub1, iss1, par1, aud1, sc1, fr1, to1⟩ Q) := by kernel_rfl
theorem fin3 (F : Fns) (xs : Array Value) (id0 sub0 iss0 par0 : ByteArray) (aud0 sc0 : Value) (fr0 to0 : Int) (id1 sub1 iss1 par1 : ByteArray) (aud1 sc1 : Value) (fr1 to1 : Int) (id2 sub2 iss2 par2 : ByteArray) (aud2 sc2 : Value) (fr2 to2 : Int) (C : List Value → AH → Prop) (Q : Value → Prop) : tfn Tryz.prog (SLf F) [] (Lch C 3 [.string id0, .string sub0, .string iss0, .string par0, aud0, sc0, .int .i64 fr0, .int .i64 to0, .string id1, .string sub1, .string iss1, .string par1, aud1, sc1, .int .i64 fr1, .int .i64 to1, .string id2, .string sub2, .string iss2, .string par2, aud2, sc2, .int .i64 fr2, .int .i64 to2]) 5000 [] Tryz.f4 [fz xs] h0 (fun v _ => Q v) =
    begT F xs C (finT F ⟨id0, sub0, iss0, par0, aud0, sc0, fr0, to0⟩ [⟨id1, sub1, iss1, par1, aud1, sc1, fr1, to1⟩, ⟨id2, sub2, iss2, par2, aud2, sc2, fr2, to2⟩] ⟨id2, sub2, iss2, par2, aud2, sc2, fr2, to2⟩ Q) := by kernel_rfl
theorem fin4 (F : Fns) (xs : Array Value) (id0 sub0 iss0 par0 : ByteArray) (aud0 sc0 : Value) (fr0 to0 : Int) (id1 sub1 iss1 par1 : ByteArray) (aud1 sc1 : Value) (fr1 to1 : Int) (id2 sub2 iss2 par2 : ByteArray) (aud2 sc2 : Value) (fr2 to2 : Int) (id3 sub3 iss3 par3 : ByteArray) (aud3 sc3 : Value) (fr3 to3 : Int) (C : List Value → AH → Prop) (Q : Value → Prop) : tfn Tryz.prog (SLf F) [] (Lch C 4 [.string id0, .string sub0, .string iss0, .string par0, aud0, sc0, .int .i64 fr0, .int .i64 to0, .string id1, .string sub1, .string iss1, .string par1, aud1, sc1, .int .i64 fr1, .int .i64 to1, .string id2, .string sub2, .string iss2, .string par2, aud2, sc2, .int .i64 fr2, .int .i64 to2, .string id3, .string sub3, .string iss3, .string par3, aud3, sc3, .int .i64 fr3, .int .i64 to3]) 5000 [] Tryz.f4 [fz xs] h0 (fun v _ => Q v) =
    begT F xs C (finT F ⟨id0, sub0, iss0, par0, aud0, sc0, fr0, to0⟩ [⟨id1, sub1, iss1, par1, aud1, sc1, fr1, to1⟩, ⟨id2, sub2, iss2, par2, aud2, sc2, fr2, to2⟩, ⟨id3, sub3, iss3, par3, aud3, sc3, fr3, to3⟩] ⟨id3, sub3, iss3, par3, aud3, sc3, fr3, to3⟩ Q) := by kernel_rfl
end Go.Proofs.YtlgoekbfohhplaaGreatDoor
