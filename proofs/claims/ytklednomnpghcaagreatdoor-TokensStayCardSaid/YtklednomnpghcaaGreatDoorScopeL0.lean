/-
  Runs of 'least', each once: part 0.
-/
import Derived.Test.YtklednomnpghcaaGreatDoorScopeLD
namespace Go.Proofs.YtklednomnpghcaaGreatDoor
open Go.Ev Go.RowKit ScopeLaw

theorem lr0 : LR [] := by
  intro h; exact absurd rfl h
theorem lr1 : LR [[98, 58, 99]] := by
  intro h vs Q; kernel_rfl
theorem lr2 : LR [[98, 58, 42]] := by
  intro h vs Q; kernel_rfl
theorem lr3 : LR [[98, 58, 42], [98, 58, 99]] := by
  intro h vs Q; kernel_rfl
theorem lr4 : LR [[98]] := by
  intro h vs Q; kernel_rfl
theorem lr5 : LR [[98], [98, 58, 99]] := by
  intro h vs Q; kernel_rfl
theorem lr6 : LR [[98], [98, 58, 42]] := by
  intro h vs Q; kernel_rfl
theorem lr7 : LR [[98], [98, 58, 42], [98, 58, 99]] := by
  intro h vs Q; kernel_rfl
theorem lr8 : LR [[97, 58, 98, 58, 99]] := by
  intro h vs Q; kernel_rfl
theorem lr9 : LR [[97, 58, 98, 58, 99], [98, 58, 99]] := by
  intro h vs Q; kernel_rfl
theorem lr10 : LR [[97, 58, 98, 58, 99], [98, 58, 42]] := by
  intro h vs Q; kernel_rfl
theorem lr11 : LR [[97, 58, 98, 58, 99], [98, 58, 42], [98, 58, 99]] := by
  intro h vs Q; kernel_rfl
theorem lr12 : LR [[97, 58, 98, 58, 99], [98]] := by
  intro h vs Q; kernel_rfl
theorem lr13 : LR [[97, 58, 98, 58, 99], [98], [98, 58, 99]] := by
  intro h vs Q; kernel_rfl
theorem lr14 : LR [[97, 58, 98, 58, 99], [98], [98, 58, 42]] := by
  intro h vs Q; kernel_rfl
theorem lr15 : LR [[97, 58, 98, 58, 99], [98], [98, 58, 42], [98, 58, 99]] := by
  intro h vs Q; kernel_rfl
theorem lr16 : LR [[97, 58, 98, 58, 42]] := by
  intro h vs Q; kernel_rfl
theorem lr17 : LR [[97, 58, 98, 58, 42], [98, 58, 99]] := by
  intro h vs Q; kernel_rfl
theorem lr18 : LR [[97, 58, 98, 58, 42], [98, 58, 42]] := by
  intro h vs Q; kernel_rfl
theorem lr19 : LR [[97, 58, 98, 58, 42], [98, 58, 42], [98, 58, 99]] := by
  intro h vs Q; kernel_rfl
theorem lr20 : LR [[97, 58, 98, 58, 42], [98]] := by
  intro h vs Q; kernel_rfl
theorem lr21 : LR [[97, 58, 98, 58, 42], [98], [98, 58, 99]] := by
  intro h vs Q; kernel_rfl
theorem lr22 : LR [[97, 58, 98, 58, 42], [98], [98, 58, 42]] := by
  intro h vs Q; kernel_rfl
theorem lr23 : LR [[97, 58, 98, 58, 42], [98], [98, 58, 42], [98, 58, 99]] := by
  intro h vs Q; kernel_rfl
theorem lr24 : LR [[97, 58, 98, 58, 42], [97, 58, 98, 58, 99]] := by
  intro h vs Q; kernel_rfl
theorem lr25 : LR [[97, 58, 98, 58, 42], [97, 58, 98, 58, 99], [98, 58, 99]] := by
  intro h vs Q; kernel_rfl
theorem lr26 : LR [[97, 58, 98, 58, 42], [97, 58, 98, 58, 99], [98, 58, 42]] := by
  intro h vs Q; kernel_rfl
theorem lr27 : LR [[97, 58, 98, 58, 42], [97, 58, 98, 58, 99], [98, 58, 42], [98, 58, 99]] := by
  intro h vs Q; kernel_rfl
theorem lr28 : LR [[97, 58, 98, 58, 42], [97, 58, 98, 58, 99], [98]] := by
  intro h vs Q; kernel_rfl
theorem lr29 : LR [[97, 58, 98, 58, 42], [97, 58, 98, 58, 99], [98], [98, 58, 99]] := by
  intro h vs Q; kernel_rfl
theorem lr30 : LR [[97, 58, 98, 58, 42], [97, 58, 98, 58, 99], [98], [98, 58, 42]] := by
  intro h vs Q; kernel_rfl
theorem lr31 : LR [[97, 58, 98, 58, 42], [97, 58, 98, 58, 99], [98], [98, 58, 42], [98, 58, 99]] := by
  intro h vs Q; kernel_rfl
theorem lr32 : LR [[97, 58, 98]] := by
  intro h vs Q; kernel_rfl
theorem lr33 : LR [[97, 58, 98], [98, 58, 99]] := by
  intro h vs Q; kernel_rfl
theorem lr34 : LR [[97, 58, 98], [98, 58, 42]] := by
  intro h vs Q; kernel_rfl
theorem lr35 : LR [[97, 58, 98], [98, 58, 42], [98, 58, 99]] := by
  intro h vs Q; kernel_rfl
theorem lr36 : LR [[97, 58, 98], [98]] := by
  intro h vs Q; kernel_rfl
theorem lr37 : LR [[97, 58, 98], [98], [98, 58, 99]] := by
  intro h vs Q; kernel_rfl
theorem lr38 : LR [[97, 58, 98], [98], [98, 58, 42]] := by
  intro h vs Q; kernel_rfl
theorem lr39 : LR [[97, 58, 98], [98], [98, 58, 42], [98, 58, 99]] := by
  intro h vs Q; kernel_rfl
theorem lr40 : LR [[97, 58, 98], [97, 58, 98, 58, 99]] := by
  intro h vs Q; kernel_rfl
theorem lr41 : LR [[97, 58, 98], [97, 58, 98, 58, 99], [98, 58, 99]] := by
  intro h vs Q; kernel_rfl
theorem lr42 : LR [[97, 58, 98], [97, 58, 98, 58, 99], [98, 58, 42]] := by
  intro h vs Q; kernel_rfl
theorem lr43 : LR [[97, 58, 98], [97, 58, 98, 58, 99], [98, 58, 42], [98, 58, 99]] := by
  intro h vs Q; kernel_rfl
theorem lr44 : LR [[97, 58, 98], [97, 58, 98, 58, 99], [98]] := by
  intro h vs Q; kernel_rfl
theorem lr45 : LR [[97, 58, 98], [97, 58, 98, 58, 99], [98], [98, 58, 99]] := by
  intro h vs Q; kernel_rfl
theorem lr46 : LR [[97, 58, 98], [97, 58, 98, 58, 99], [98], [98, 58, 42]] := by
  intro h vs Q; kernel_rfl
theorem lr47 : LR [[97, 58, 98], [97, 58, 98, 58, 99], [98], [98, 58, 42], [98, 58, 99]] := by
  intro h vs Q; kernel_rfl
theorem lr48 : LR [[97, 58, 98], [97, 58, 98, 58, 42]] := by
  intro h vs Q; kernel_rfl
theorem lr49 : LR [[97, 58, 98], [97, 58, 98, 58, 42], [98, 58, 99]] := by
  intro h vs Q; kernel_rfl
theorem lr50 : LR [[97, 58, 98], [97, 58, 98, 58, 42], [98, 58, 42]] := by
  intro h vs Q; kernel_rfl
theorem lr51 : LR [[97, 58, 98], [97, 58, 98, 58, 42], [98, 58, 42], [98, 58, 99]] := by
  intro h vs Q; kernel_rfl
theorem lr52 : LR [[97, 58, 98], [97, 58, 98, 58, 42], [98]] := by
  intro h vs Q; kernel_rfl
theorem lr53 : LR [[97, 58, 98], [97, 58, 98, 58, 42], [98], [98, 58, 99]] := by
  intro h vs Q; kernel_rfl
theorem lr54 : LR [[97, 58, 98], [97, 58, 98, 58, 42], [98], [98, 58, 42]] := by
  intro h vs Q; kernel_rfl
theorem lr55 : LR [[97, 58, 98], [97, 58, 98, 58, 42], [98], [98, 58, 42], [98, 58, 99]] := by
  intro h vs Q; kernel_rfl
theorem lr56 : LR [[97, 58, 98], [97, 58, 98, 58, 42], [97, 58, 98, 58, 99]] := by
  intro h vs Q; kernel_rfl
theorem lr57 : LR [[97, 58, 98], [97, 58, 98, 58, 42], [97, 58, 98, 58, 99], [98, 58, 99]] := by
  intro h vs Q; kernel_rfl
theorem lr58 : LR [[97, 58, 98], [97, 58, 98, 58, 42], [97, 58, 98, 58, 99], [98, 58, 42]] := by
  intro h vs Q; kernel_rfl
theorem lr59 : LR [[97, 58, 98], [97, 58, 98, 58, 42], [97, 58, 98, 58, 99], [98, 58, 42], [98, 58, 99]] := by
  intro h vs Q; kernel_rfl
theorem lr60 : LR [[97, 58, 98], [97, 58, 98, 58, 42], [97, 58, 98, 58, 99], [98]] := by
  intro h vs Q; kernel_rfl
theorem lr61 : LR [[97, 58, 98], [97, 58, 98, 58, 42], [97, 58, 98, 58, 99], [98], [98, 58, 99]] := by
  intro h vs Q; kernel_rfl
theorem lr62 : LR [[97, 58, 98], [97, 58, 98, 58, 42], [97, 58, 98, 58, 99], [98], [98, 58, 42]] := by
  intro h vs Q; kernel_rfl
theorem lr63 : LR [[97, 58, 98], [97, 58, 98, 58, 42], [97, 58, 98, 58, 99], [98], [98, 58, 42], [98, 58, 99]] := by
  intro h vs Q; kernel_rfl
theorem lr64 : LR [[97, 58, 42]] := by
  intro h vs Q; kernel_rfl
theorem lr65 : LR [[97, 58, 42], [98, 58, 99]] := by
  intro h vs Q; kernel_rfl
theorem lr66 : LR [[97, 58, 42], [98, 58, 42]] := by
  intro h vs Q; kernel_rfl
theorem lr67 : LR [[97, 58, 42], [98, 58, 42], [98, 58, 99]] := by
  intro h vs Q; kernel_rfl
theorem lr68 : LR [[97, 58, 42], [98]] := by
  intro h vs Q; kernel_rfl
theorem lr69 : LR [[97, 58, 42], [98], [98, 58, 99]] := by
  intro h vs Q; kernel_rfl
theorem lr70 : LR [[97, 58, 42], [98], [98, 58, 42]] := by
  intro h vs Q; kernel_rfl
theorem lr71 : LR [[97, 58, 42], [98], [98, 58, 42], [98, 58, 99]] := by
  intro h vs Q; kernel_rfl
theorem lr72 : LR [[97, 58, 42], [97, 58, 98, 58, 99]] := by
  intro h vs Q; kernel_rfl
theorem lr73 : LR [[97, 58, 42], [97, 58, 98, 58, 99], [98, 58, 99]] := by
  intro h vs Q; kernel_rfl
theorem lr74 : LR [[97, 58, 42], [97, 58, 98, 58, 99], [98, 58, 42]] := by
  intro h vs Q; kernel_rfl
theorem lr75 : LR [[97, 58, 42], [97, 58, 98, 58, 99], [98, 58, 42], [98, 58, 99]] := by
  intro h vs Q; kernel_rfl
theorem lr76 : LR [[97, 58, 42], [97, 58, 98, 58, 99], [98]] := by
  intro h vs Q; kernel_rfl
theorem lr77 : LR [[97, 58, 42], [97, 58, 98, 58, 99], [98], [98, 58, 99]] := by
  intro h vs Q; kernel_rfl
theorem lr78 : LR [[97, 58, 42], [97, 58, 98, 58, 99], [98], [98, 58, 42]] := by
  intro h vs Q; kernel_rfl
theorem lr79 : LR [[97, 58, 42], [97, 58, 98, 58, 99], [98], [98, 58, 42], [98, 58, 99]] := by
  intro h vs Q; kernel_rfl
theorem lr80 : LR [[97, 58, 42], [97, 58, 98, 58, 42]] := by
  intro h vs Q; kernel_rfl
theorem lr81 : LR [[97, 58, 42], [97, 58, 98, 58, 42], [98, 58, 99]] := by
  intro h vs Q; kernel_rfl
theorem lr82 : LR [[97, 58, 42], [97, 58, 98, 58, 42], [98, 58, 42]] := by
  intro h vs Q; kernel_rfl
theorem lr83 : LR [[97, 58, 42], [97, 58, 98, 58, 42], [98, 58, 42], [98, 58, 99]] := by
  intro h vs Q; kernel_rfl
theorem lr84 : LR [[97, 58, 42], [97, 58, 98, 58, 42], [98]] := by
  intro h vs Q; kernel_rfl
theorem lr85 : LR [[97, 58, 42], [97, 58, 98, 58, 42], [98], [98, 58, 99]] := by
  intro h vs Q; kernel_rfl
theorem lr86 : LR [[97, 58, 42], [97, 58, 98, 58, 42], [98], [98, 58, 42]] := by
  intro h vs Q; kernel_rfl
theorem lr87 : LR [[97, 58, 42], [97, 58, 98, 58, 42], [98], [98, 58, 42], [98, 58, 99]] := by
  intro h vs Q; kernel_rfl
theorem lr88 : LR [[97, 58, 42], [97, 58, 98, 58, 42], [97, 58, 98, 58, 99]] := by
  intro h vs Q; kernel_rfl
theorem lr89 : LR [[97, 58, 42], [97, 58, 98, 58, 42], [97, 58, 98, 58, 99], [98, 58, 99]] := by
  intro h vs Q; kernel_rfl
theorem lr90 : LR [[97, 58, 42], [97, 58, 98, 58, 42], [97, 58, 98, 58, 99], [98, 58, 42]] := by
  intro h vs Q; kernel_rfl
theorem lr91 : LR [[97, 58, 42], [97, 58, 98, 58, 42], [97, 58, 98, 58, 99], [98, 58, 42], [98, 58, 99]] := by
  intro h vs Q; kernel_rfl
theorem lr92 : LR [[97, 58, 42], [97, 58, 98, 58, 42], [97, 58, 98, 58, 99], [98]] := by
  intro h vs Q; kernel_rfl
theorem lr93 : LR [[97, 58, 42], [97, 58, 98, 58, 42], [97, 58, 98, 58, 99], [98], [98, 58, 99]] := by
  intro h vs Q; kernel_rfl
theorem lr94 : LR [[97, 58, 42], [97, 58, 98, 58, 42], [97, 58, 98, 58, 99], [98], [98, 58, 42]] := by
  intro h vs Q; kernel_rfl
theorem lr95 : LR [[97, 58, 42], [97, 58, 98, 58, 42], [97, 58, 98, 58, 99], [98], [98, 58, 42], [98, 58, 99]] := by
  intro h vs Q; kernel_rfl
theorem lr96 : LR [[97, 58, 42], [97, 58, 98]] := by
  intro h vs Q; kernel_rfl
theorem lr97 : LR [[97, 58, 42], [97, 58, 98], [98, 58, 99]] := by
  intro h vs Q; kernel_rfl
theorem lr98 : LR [[97, 58, 42], [97, 58, 98], [98, 58, 42]] := by
  intro h vs Q; kernel_rfl
theorem lr99 : LR [[97, 58, 42], [97, 58, 98], [98, 58, 42], [98, 58, 99]] := by
  intro h vs Q; kernel_rfl
theorem lr100 : LR [[97, 58, 42], [97, 58, 98], [98]] := by
  intro h vs Q; kernel_rfl
theorem lr101 : LR [[97, 58, 42], [97, 58, 98], [98], [98, 58, 99]] := by
  intro h vs Q; kernel_rfl
theorem lr102 : LR [[97, 58, 42], [97, 58, 98], [98], [98, 58, 42]] := by
  intro h vs Q; kernel_rfl
theorem lr103 : LR [[97, 58, 42], [97, 58, 98], [98], [98, 58, 42], [98, 58, 99]] := by
  intro h vs Q; kernel_rfl
theorem lr104 : LR [[97, 58, 42], [97, 58, 98], [97, 58, 98, 58, 99]] := by
  intro h vs Q; kernel_rfl
theorem lr105 : LR [[97, 58, 42], [97, 58, 98], [97, 58, 98, 58, 99], [98, 58, 99]] := by
  intro h vs Q; kernel_rfl
theorem lr106 : LR [[97, 58, 42], [97, 58, 98], [97, 58, 98, 58, 99], [98, 58, 42]] := by
  intro h vs Q; kernel_rfl
theorem lr107 : LR [[97, 58, 42], [97, 58, 98], [97, 58, 98, 58, 99], [98, 58, 42], [98, 58, 99]] := by
  intro h vs Q; kernel_rfl
theorem lr108 : LR [[97, 58, 42], [97, 58, 98], [97, 58, 98, 58, 99], [98]] := by
  intro h vs Q; kernel_rfl
theorem lr109 : LR [[97, 58, 42], [97, 58, 98], [97, 58, 98, 58, 99], [98], [98, 58, 99]] := by
  intro h vs Q; kernel_rfl
theorem lr110 : LR [[97, 58, 42], [97, 58, 98], [97, 58, 98, 58, 99], [98], [98, 58, 42]] := by
  intro h vs Q; kernel_rfl
theorem lr111 : LR [[97, 58, 42], [97, 58, 98], [97, 58, 98, 58, 99], [98], [98, 58, 42], [98, 58, 99]] := by
  intro h vs Q; kernel_rfl
theorem lr112 : LR [[97, 58, 42], [97, 58, 98], [97, 58, 98, 58, 42]] := by
  intro h vs Q; kernel_rfl
theorem lr113 : LR [[97, 58, 42], [97, 58, 98], [97, 58, 98, 58, 42], [98, 58, 99]] := by
  intro h vs Q; kernel_rfl
theorem lr114 : LR [[97, 58, 42], [97, 58, 98], [97, 58, 98, 58, 42], [98, 58, 42]] := by
  intro h vs Q; kernel_rfl
theorem lr115 : LR [[97, 58, 42], [97, 58, 98], [97, 58, 98, 58, 42], [98, 58, 42], [98, 58, 99]] := by
  intro h vs Q; kernel_rfl
theorem lr116 : LR [[97, 58, 42], [97, 58, 98], [97, 58, 98, 58, 42], [98]] := by
  intro h vs Q; kernel_rfl
theorem lr117 : LR [[97, 58, 42], [97, 58, 98], [97, 58, 98, 58, 42], [98], [98, 58, 99]] := by
  intro h vs Q; kernel_rfl
theorem lr118 : LR [[97, 58, 42], [97, 58, 98], [97, 58, 98, 58, 42], [98], [98, 58, 42]] := by
  intro h vs Q; kernel_rfl
theorem lr119 : LR [[97, 58, 42], [97, 58, 98], [97, 58, 98, 58, 42], [98], [98, 58, 42], [98, 58, 99]] := by
  intro h vs Q; kernel_rfl
theorem lr120 : LR [[97, 58, 42], [97, 58, 98], [97, 58, 98, 58, 42], [97, 58, 98, 58, 99]] := by
  intro h vs Q; kernel_rfl
theorem lr121 : LR [[97, 58, 42], [97, 58, 98], [97, 58, 98, 58, 42], [97, 58, 98, 58, 99], [98, 58, 99]] := by
  intro h vs Q; kernel_rfl
theorem lr122 : LR [[97, 58, 42], [97, 58, 98], [97, 58, 98, 58, 42], [97, 58, 98, 58, 99], [98, 58, 42]] := by
  intro h vs Q; kernel_rfl
theorem lr123 : LR [[97, 58, 42], [97, 58, 98], [97, 58, 98, 58, 42], [97, 58, 98, 58, 99], [98, 58, 42], [98, 58, 99]] := by
  intro h vs Q; kernel_rfl
theorem lr124 : LR [[97, 58, 42], [97, 58, 98], [97, 58, 98, 58, 42], [97, 58, 98, 58, 99], [98]] := by
  intro h vs Q; kernel_rfl
theorem lr125 : LR [[97, 58, 42], [97, 58, 98], [97, 58, 98, 58, 42], [97, 58, 98, 58, 99], [98], [98, 58, 99]] := by
  intro h vs Q; kernel_rfl
theorem lr126 : LR [[97, 58, 42], [97, 58, 98], [97, 58, 98, 58, 42], [97, 58, 98, 58, 99], [98], [98, 58, 42]] := by
  intro h vs Q; kernel_rfl
theorem lr127 : LR [[97, 58, 42], [97, 58, 98], [97, 58, 98, 58, 42], [97, 58, 98, 58, 99], [98], [98, 58, 42], [98, 58, 99]] := by
  intro h vs Q; kernel_rfl
end Go.Proofs.YtklednomnpghcaaGreatDoor
