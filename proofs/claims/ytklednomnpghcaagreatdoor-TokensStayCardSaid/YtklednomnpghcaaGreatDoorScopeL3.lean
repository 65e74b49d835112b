/-
  Runs of 'least', each once: part 3.
-/
import Derived.Test.YtklednomnpghcaaGreatDoorScopeLD
namespace Go.Proofs.YtklednomnpghcaaGreatDoor
open Go.Ev Go.RowKit ScopeLaw

theorem lr384 : LR [[42], [97]] := by
  intro h vs Q; kernel_rfl
theorem lr385 : LR [[42], [97], [98, 58, 99]] := by
  intro h vs Q; kernel_rfl
theorem lr386 : LR [[42], [97], [98, 58, 42]] := by
  intro h vs Q; kernel_rfl
theorem lr387 : LR [[42], [97], [98, 58, 42], [98, 58, 99]] := by
  intro h vs Q; kernel_rfl
theorem lr388 : LR [[42], [97], [98]] := by
  intro h vs Q; kernel_rfl
theorem lr389 : LR [[42], [97], [98], [98, 58, 99]] := by
  intro h vs Q; kernel_rfl
theorem lr390 : LR [[42], [97], [98], [98, 58, 42]] := by
  intro h vs Q; kernel_rfl
theorem lr391 : LR [[42], [97], [98], [98, 58, 42], [98, 58, 99]] := by
  intro h vs Q; kernel_rfl
theorem lr392 : LR [[42], [97], [97, 58, 98, 58, 99]] := by
  intro h vs Q; kernel_rfl
theorem lr393 : LR [[42], [97], [97, 58, 98, 58, 99], [98, 58, 99]] := by
  intro h vs Q; kernel_rfl
theorem lr394 : LR [[42], [97], [97, 58, 98, 58, 99], [98, 58, 42]] := by
  intro h vs Q; kernel_rfl
theorem lr395 : LR [[42], [97], [97, 58, 98, 58, 99], [98, 58, 42], [98, 58, 99]] := by
  intro h vs Q; kernel_rfl
theorem lr396 : LR [[42], [97], [97, 58, 98, 58, 99], [98]] := by
  intro h vs Q; kernel_rfl
theorem lr397 : LR [[42], [97], [97, 58, 98, 58, 99], [98], [98, 58, 99]] := by
  intro h vs Q; kernel_rfl
theorem lr398 : LR [[42], [97], [97, 58, 98, 58, 99], [98], [98, 58, 42]] := by
  intro h vs Q; kernel_rfl
theorem lr399 : LR [[42], [97], [97, 58, 98, 58, 99], [98], [98, 58, 42], [98, 58, 99]] := by
  intro h vs Q; kernel_rfl
theorem lr400 : LR [[42], [97], [97, 58, 98, 58, 42]] := by
  intro h vs Q; kernel_rfl
theorem lr401 : LR [[42], [97], [97, 58, 98, 58, 42], [98, 58, 99]] := by
  intro h vs Q; kernel_rfl
theorem lr402 : LR [[42], [97], [97, 58, 98, 58, 42], [98, 58, 42]] := by
  intro h vs Q; kernel_rfl
theorem lr403 : LR [[42], [97], [97, 58, 98, 58, 42], [98, 58, 42], [98, 58, 99]] := by
  intro h vs Q; kernel_rfl
theorem lr404 : LR [[42], [97], [97, 58, 98, 58, 42], [98]] := by
  intro h vs Q; kernel_rfl
theorem lr405 : LR [[42], [97], [97, 58, 98, 58, 42], [98], [98, 58, 99]] := by
  intro h vs Q; kernel_rfl
theorem lr406 : LR [[42], [97], [97, 58, 98, 58, 42], [98], [98, 58, 42]] := by
  intro h vs Q; kernel_rfl
theorem lr407 : LR [[42], [97], [97, 58, 98, 58, 42], [98], [98, 58, 42], [98, 58, 99]] := by
  intro h vs Q; kernel_rfl
theorem lr408 : LR [[42], [97], [97, 58, 98, 58, 42], [97, 58, 98, 58, 99]] := by
  intro h vs Q; kernel_rfl
theorem lr409 : LR [[42], [97], [97, 58, 98, 58, 42], [97, 58, 98, 58, 99], [98, 58, 99]] := by
  intro h vs Q; kernel_rfl
theorem lr410 : LR [[42], [97], [97, 58, 98, 58, 42], [97, 58, 98, 58, 99], [98, 58, 42]] := by
  intro h vs Q; kernel_rfl
theorem lr411 : LR [[42], [97], [97, 58, 98, 58, 42], [97, 58, 98, 58, 99], [98, 58, 42], [98, 58, 99]] := by
  intro h vs Q; kernel_rfl
theorem lr412 : LR [[42], [97], [97, 58, 98, 58, 42], [97, 58, 98, 58, 99], [98]] := by
  intro h vs Q; kernel_rfl
theorem lr413 : LR [[42], [97], [97, 58, 98, 58, 42], [97, 58, 98, 58, 99], [98], [98, 58, 99]] := by
  intro h vs Q; kernel_rfl
theorem lr414 : LR [[42], [97], [97, 58, 98, 58, 42], [97, 58, 98, 58, 99], [98], [98, 58, 42]] := by
  intro h vs Q; kernel_rfl
theorem lr415 : LR [[42], [97], [97, 58, 98, 58, 42], [97, 58, 98, 58, 99], [98], [98, 58, 42], [98, 58, 99]] := by
  intro h vs Q; kernel_rfl
theorem lr416 : LR [[42], [97], [97, 58, 98]] := by
  intro h vs Q; kernel_rfl
theorem lr417 : LR [[42], [97], [97, 58, 98], [98, 58, 99]] := by
  intro h vs Q; kernel_rfl
theorem lr418 : LR [[42], [97], [97, 58, 98], [98, 58, 42]] := by
  intro h vs Q; kernel_rfl
theorem lr419 : LR [[42], [97], [97, 58, 98], [98, 58, 42], [98, 58, 99]] := by
  intro h vs Q; kernel_rfl
theorem lr420 : LR [[42], [97], [97, 58, 98], [98]] := by
  intro h vs Q; kernel_rfl
theorem lr421 : LR [[42], [97], [97, 58, 98], [98], [98, 58, 99]] := by
  intro h vs Q; kernel_rfl
theorem lr422 : LR [[42], [97], [97, 58, 98], [98], [98, 58, 42]] := by
  intro h vs Q; kernel_rfl
theorem lr423 : LR [[42], [97], [97, 58, 98], [98], [98, 58, 42], [98, 58, 99]] := by
  intro h vs Q; kernel_rfl
theorem lr424 : LR [[42], [97], [97, 58, 98], [97, 58, 98, 58, 99]] := by
  intro h vs Q; kernel_rfl
theorem lr425 : LR [[42], [97], [97, 58, 98], [97, 58, 98, 58, 99], [98, 58, 99]] := by
  intro h vs Q; kernel_rfl
theorem lr426 : LR [[42], [97], [97, 58, 98], [97, 58, 98, 58, 99], [98, 58, 42]] := by
  intro h vs Q; kernel_rfl
theorem lr427 : LR [[42], [97], [97, 58, 98], [97, 58, 98, 58, 99], [98, 58, 42], [98, 58, 99]] := by
  intro h vs Q; kernel_rfl
theorem lr428 : LR [[42], [97], [97, 58, 98], [97, 58, 98, 58, 99], [98]] := by
  intro h vs Q; kernel_rfl
theorem lr429 : LR [[42], [97], [97, 58, 98], [97, 58, 98, 58, 99], [98], [98, 58, 99]] := by
  intro h vs Q; kernel_rfl
theorem lr430 : LR [[42], [97], [97, 58, 98], [97, 58, 98, 58, 99], [98], [98, 58, 42]] := by
  intro h vs Q; kernel_rfl
theorem lr431 : LR [[42], [97], [97, 58, 98], [97, 58, 98, 58, 99], [98], [98, 58, 42], [98, 58, 99]] := by
  intro h vs Q; kernel_rfl
theorem lr432 : LR [[42], [97], [97, 58, 98], [97, 58, 98, 58, 42]] := by
  intro h vs Q; kernel_rfl
theorem lr433 : LR [[42], [97], [97, 58, 98], [97, 58, 98, 58, 42], [98, 58, 99]] := by
  intro h vs Q; kernel_rfl
theorem lr434 : LR [[42], [97], [97, 58, 98], [97, 58, 98, 58, 42], [98, 58, 42]] := by
  intro h vs Q; kernel_rfl
theorem lr435 : LR [[42], [97], [97, 58, 98], [97, 58, 98, 58, 42], [98, 58, 42], [98, 58, 99]] := by
  intro h vs Q; kernel_rfl
theorem lr436 : LR [[42], [97], [97, 58, 98], [97, 58, 98, 58, 42], [98]] := by
  intro h vs Q; kernel_rfl
theorem lr437 : LR [[42], [97], [97, 58, 98], [97, 58, 98, 58, 42], [98], [98, 58, 99]] := by
  intro h vs Q; kernel_rfl
theorem lr438 : LR [[42], [97], [97, 58, 98], [97, 58, 98, 58, 42], [98], [98, 58, 42]] := by
  intro h vs Q; kernel_rfl
theorem lr439 : LR [[42], [97], [97, 58, 98], [97, 58, 98, 58, 42], [98], [98, 58, 42], [98, 58, 99]] := by
  intro h vs Q; kernel_rfl
theorem lr440 : LR [[42], [97], [97, 58, 98], [97, 58, 98, 58, 42], [97, 58, 98, 58, 99]] := by
  intro h vs Q; kernel_rfl
theorem lr441 : LR [[42], [97], [97, 58, 98], [97, 58, 98, 58, 42], [97, 58, 98, 58, 99], [98, 58, 99]] := by
  intro h vs Q; kernel_rfl
theorem lr442 : LR [[42], [97], [97, 58, 98], [97, 58, 98, 58, 42], [97, 58, 98, 58, 99], [98, 58, 42]] := by
  intro h vs Q; kernel_rfl
theorem lr443 : LR [[42], [97], [97, 58, 98], [97, 58, 98, 58, 42], [97, 58, 98, 58, 99], [98, 58, 42], [98, 58, 99]] := by
  intro h vs Q; kernel_rfl
theorem lr444 : LR [[42], [97], [97, 58, 98], [97, 58, 98, 58, 42], [97, 58, 98, 58, 99], [98]] := by
  intro h vs Q; kernel_rfl
theorem lr445 : LR [[42], [97], [97, 58, 98], [97, 58, 98, 58, 42], [97, 58, 98, 58, 99], [98], [98, 58, 99]] := by
  intro h vs Q; kernel_rfl
theorem lr446 : LR [[42], [97], [97, 58, 98], [97, 58, 98, 58, 42], [97, 58, 98, 58, 99], [98], [98, 58, 42]] := by
  intro h vs Q; kernel_rfl
theorem lr447 : LR [[42], [97], [97, 58, 98], [97, 58, 98, 58, 42], [97, 58, 98, 58, 99], [98], [98, 58, 42], [98, 58, 99]] := by
  intro h vs Q; kernel_rfl
theorem lr448 : LR [[42], [97], [97, 58, 42]] := by
  intro h vs Q; kernel_rfl
theorem lr449 : LR [[42], [97], [97, 58, 42], [98, 58, 99]] := by
  intro h vs Q; kernel_rfl
theorem lr450 : LR [[42], [97], [97, 58, 42], [98, 58, 42]] := by
  intro h vs Q; kernel_rfl
theorem lr451 : LR [[42], [97], [97, 58, 42], [98, 58, 42], [98, 58, 99]] := by
  intro h vs Q; kernel_rfl
theorem lr452 : LR [[42], [97], [97, 58, 42], [98]] := by
  intro h vs Q; kernel_rfl
theorem lr453 : LR [[42], [97], [97, 58, 42], [98], [98, 58, 99]] := by
  intro h vs Q; kernel_rfl
theorem lr454 : LR [[42], [97], [97, 58, 42], [98], [98, 58, 42]] := by
  intro h vs Q; kernel_rfl
theorem lr455 : LR [[42], [97], [97, 58, 42], [98], [98, 58, 42], [98, 58, 99]] := by
  intro h vs Q; kernel_rfl
theorem lr456 : LR [[42], [97], [97, 58, 42], [97, 58, 98, 58, 99]] := by
  intro h vs Q; kernel_rfl
theorem lr457 : LR [[42], [97], [97, 58, 42], [97, 58, 98, 58, 99], [98, 58, 99]] := by
  intro h vs Q; kernel_rfl
theorem lr458 : LR [[42], [97], [97, 58, 42], [97, 58, 98, 58, 99], [98, 58, 42]] := by
  intro h vs Q; kernel_rfl
theorem lr459 : LR [[42], [97], [97, 58, 42], [97, 58, 98, 58, 99], [98, 58, 42], [98, 58, 99]] := by
  intro h vs Q; kernel_rfl
theorem lr460 : LR [[42], [97], [97, 58, 42], [97, 58, 98, 58, 99], [98]] := by
  intro h vs Q; kernel_rfl
theorem lr461 : LR [[42], [97], [97, 58, 42], [97, 58, 98, 58, 99], [98], [98, 58, 99]] := by
  intro h vs Q; kernel_rfl
theorem lr462 : LR [[42], [97], [97, 58, 42], [97, 58, 98, 58, 99], [98], [98, 58, 42]] := by
  intro h vs Q; kernel_rfl
theorem lr463 : LR [[42], [97], [97, 58, 42], [97, 58, 98, 58, 99], [98], [98, 58, 42], [98, 58, 99]] := by
  intro h vs Q; kernel_rfl
theorem lr464 : LR [[42], [97], [97, 58, 42], [97, 58, 98, 58, 42]] := by
  intro h vs Q; kernel_rfl
theorem lr465 : LR [[42], [97], [97, 58, 42], [97, 58, 98, 58, 42], [98, 58, 99]] := by
  intro h vs Q; kernel_rfl
theorem lr466 : LR [[42], [97], [97, 58, 42], [97, 58, 98, 58, 42], [98, 58, 42]] := by
  intro h vs Q; kernel_rfl
theorem lr467 : LR [[42], [97], [97, 58, 42], [97, 58, 98, 58, 42], [98, 58, 42], [98, 58, 99]] := by
  intro h vs Q; kernel_rfl
theorem lr468 : LR [[42], [97], [97, 58, 42], [97, 58, 98, 58, 42], [98]] := by
  intro h vs Q; kernel_rfl
theorem lr469 : LR [[42], [97], [97, 58, 42], [97, 58, 98, 58, 42], [98], [98, 58, 99]] := by
  intro h vs Q; kernel_rfl
theorem lr470 : LR [[42], [97], [97, 58, 42], [97, 58, 98, 58, 42], [98], [98, 58, 42]] := by
  intro h vs Q; kernel_rfl
theorem lr471 : LR [[42], [97], [97, 58, 42], [97, 58, 98, 58, 42], [98], [98, 58, 42], [98, 58, 99]] := by
  intro h vs Q; kernel_rfl
theorem lr472 : LR [[42], [97], [97, 58, 42], [97, 58, 98, 58, 42], [97, 58, 98, 58, 99]] := by
  intro h vs Q; kernel_rfl
theorem lr473 : LR [[42], [97], [97, 58, 42], [97, 58, 98, 58, 42], [97, 58, 98, 58, 99], [98, 58, 99]] := by
  intro h vs Q; kernel_rfl
theorem lr474 : LR [[42], [97], [97, 58, 42], [97, 58, 98, 58, 42], [97, 58, 98, 58, 99], [98, 58, 42]] := by
  intro h vs Q; kernel_rfl
theorem lr475 : LR [[42], [97], [97, 58, 42], [97, 58, 98, 58, 42], [97, 58, 98, 58, 99], [98, 58, 42], [98, 58, 99]] := by
  intro h vs Q; kernel_rfl
theorem lr476 : LR [[42], [97], [97, 58, 42], [97, 58, 98, 58, 42], [97, 58, 98, 58, 99], [98]] := by
  intro h vs Q; kernel_rfl
theorem lr477 : LR [[42], [97], [97, 58, 42], [97, 58, 98, 58, 42], [97, 58, 98, 58, 99], [98], [98, 58, 99]] := by
  intro h vs Q; kernel_rfl
theorem lr478 : LR [[42], [97], [97, 58, 42], [97, 58, 98, 58, 42], [97, 58, 98, 58, 99], [98], [98, 58, 42]] := by
  intro h vs Q; kernel_rfl
theorem lr479 : LR [[42], [97], [97, 58, 42], [97, 58, 98, 58, 42], [97, 58, 98, 58, 99], [98], [98, 58, 42], [98, 58, 99]] := by
  intro h vs Q; kernel_rfl
theorem lr480 : LR [[42], [97], [97, 58, 42], [97, 58, 98]] := by
  intro h vs Q; kernel_rfl
theorem lr481 : LR [[42], [97], [97, 58, 42], [97, 58, 98], [98, 58, 99]] := by
  intro h vs Q; kernel_rfl
theorem lr482 : LR [[42], [97], [97, 58, 42], [97, 58, 98], [98, 58, 42]] := by
  intro h vs Q; kernel_rfl
theorem lr483 : LR [[42], [97], [97, 58, 42], [97, 58, 98], [98, 58, 42], [98, 58, 99]] := by
  intro h vs Q; kernel_rfl
theorem lr484 : LR [[42], [97], [97, 58, 42], [97, 58, 98], [98]] := by
  intro h vs Q; kernel_rfl
theorem lr485 : LR [[42], [97], [97, 58, 42], [97, 58, 98], [98], [98, 58, 99]] := by
  intro h vs Q; kernel_rfl
theorem lr486 : LR [[42], [97], [97, 58, 42], [97, 58, 98], [98], [98, 58, 42]] := by
  intro h vs Q; kernel_rfl
theorem lr487 : LR [[42], [97], [97, 58, 42], [97, 58, 98], [98], [98, 58, 42], [98, 58, 99]] := by
  intro h vs Q; kernel_rfl
theorem lr488 : LR [[42], [97], [97, 58, 42], [97, 58, 98], [97, 58, 98, 58, 99]] := by
  intro h vs Q; kernel_rfl
theorem lr489 : LR [[42], [97], [97, 58, 42], [97, 58, 98], [97, 58, 98, 58, 99], [98, 58, 99]] := by
  intro h vs Q; kernel_rfl
theorem lr490 : LR [[42], [97], [97, 58, 42], [97, 58, 98], [97, 58, 98, 58, 99], [98, 58, 42]] := by
  intro h vs Q; kernel_rfl
theorem lr491 : LR [[42], [97], [97, 58, 42], [97, 58, 98], [97, 58, 98, 58, 99], [98, 58, 42], [98, 58, 99]] := by
  intro h vs Q; kernel_rfl
theorem lr492 : LR [[42], [97], [97, 58, 42], [97, 58, 98], [97, 58, 98, 58, 99], [98]] := by
  intro h vs Q; kernel_rfl
theorem lr493 : LR [[42], [97], [97, 58, 42], [97, 58, 98], [97, 58, 98, 58, 99], [98], [98, 58, 99]] := by
  intro h vs Q; kernel_rfl
theorem lr494 : LR [[42], [97], [97, 58, 42], [97, 58, 98], [97, 58, 98, 58, 99], [98], [98, 58, 42]] := by
  intro h vs Q; kernel_rfl
theorem lr495 : LR [[42], [97], [97, 58, 42], [97, 58, 98], [97, 58, 98, 58, 99], [98], [98, 58, 42], [98, 58, 99]] := by
  intro h vs Q; kernel_rfl
theorem lr496 : LR [[42], [97], [97, 58, 42], [97, 58, 98], [97, 58, 98, 58, 42]] := by
  intro h vs Q; kernel_rfl
theorem lr497 : LR [[42], [97], [97, 58, 42], [97, 58, 98], [97, 58, 98, 58, 42], [98, 58, 99]] := by
  intro h vs Q; kernel_rfl
theorem lr498 : LR [[42], [97], [97, 58, 42], [97, 58, 98], [97, 58, 98, 58, 42], [98, 58, 42]] := by
  intro h vs Q; kernel_rfl
theorem lr499 : LR [[42], [97], [97, 58, 42], [97, 58, 98], [97, 58, 98, 58, 42], [98, 58, 42], [98, 58, 99]] := by
  intro h vs Q; kernel_rfl
theorem lr500 : LR [[42], [97], [97, 58, 42], [97, 58, 98], [97, 58, 98, 58, 42], [98]] := by
  intro h vs Q; kernel_rfl
theorem lr501 : LR [[42], [97], [97, 58, 42], [97, 58, 98], [97, 58, 98, 58, 42], [98], [98, 58, 99]] := by
  intro h vs Q; kernel_rfl
theorem lr502 : LR [[42], [97], [97, 58, 42], [97, 58, 98], [97, 58, 98, 58, 42], [98], [98, 58, 42]] := by
  intro h vs Q; kernel_rfl
theorem lr503 : LR [[42], [97], [97, 58, 42], [97, 58, 98], [97, 58, 98, 58, 42], [98], [98, 58, 42], [98, 58, 99]] := by
  intro h vs Q; kernel_rfl
theorem lr504 : LR [[42], [97], [97, 58, 42], [97, 58, 98], [97, 58, 98, 58, 42], [97, 58, 98, 58, 99]] := by
  intro h vs Q; kernel_rfl
theorem lr505 : LR [[42], [97], [97, 58, 42], [97, 58, 98], [97, 58, 98, 58, 42], [97, 58, 98, 58, 99], [98, 58, 99]] := by
  intro h vs Q; kernel_rfl
theorem lr506 : LR [[42], [97], [97, 58, 42], [97, 58, 98], [97, 58, 98, 58, 42], [97, 58, 98, 58, 99], [98, 58, 42]] := by
  intro h vs Q; kernel_rfl
theorem lr507 : LR [[42], [97], [97, 58, 42], [97, 58, 98], [97, 58, 98, 58, 42], [97, 58, 98, 58, 99], [98, 58, 42], [98, 58, 99]] := by
  intro h vs Q; kernel_rfl
theorem lr508 : LR [[42], [97], [97, 58, 42], [97, 58, 98], [97, 58, 98, 58, 42], [97, 58, 98, 58, 99], [98]] := by
  intro h vs Q; kernel_rfl
theorem lr509 : LR [[42], [97], [97, 58, 42], [97, 58, 98], [97, 58, 98, 58, 42], [97, 58, 98, 58, 99], [98], [98, 58, 99]] := by
  intro h vs Q; kernel_rfl
theorem lr510 : LR [[42], [97], [97, 58, 42], [97, 58, 98], [97, 58, 98, 58, 42], [97, 58, 98, 58, 99], [98], [98, 58, 42]] := by
  intro h vs Q; kernel_rfl
theorem lr511 : LR [[42], [97], [97, 58, 42], [97, 58, 98], [97, 58, 98, 58, 42], [97, 58, 98, 58, 99], [98], [98, 58, 42], [98, 58, 99]] := by
  intro h vs Q; kernel_rfl
end Go.Proofs.YtklednomnpghcaaGreatDoor
