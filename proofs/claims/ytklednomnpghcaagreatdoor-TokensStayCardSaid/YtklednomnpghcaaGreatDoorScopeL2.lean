/-
  Runs of 'least', each once: part 2.
-/
import Derived.Test.YtklednomnpghcaaGreatDoorScopeLD
namespace Go.Proofs.YtklednomnpghcaaGreatDoor
open Go.Ev Go.RowKit ScopeLaw

theorem lr256 : LR [[42]] := by
  intro h vs Q; kernel_rfl
theorem lr257 : LR [[42], [98, 58, 99]] := by
  intro h vs Q; kernel_rfl
theorem lr258 : LR [[42], [98, 58, 42]] := by
  intro h vs Q; kernel_rfl
theorem lr259 : LR [[42], [98, 58, 42], [98, 58, 99]] := by
  intro h vs Q; kernel_rfl
theorem lr260 : LR [[42], [98]] := by
  intro h vs Q; kernel_rfl
theorem lr261 : LR [[42], [98], [98, 58, 99]] := by
  intro h vs Q; kernel_rfl
theorem lr262 : LR [[42], [98], [98, 58, 42]] := by
  intro h vs Q; kernel_rfl
theorem lr263 : LR [[42], [98], [98, 58, 42], [98, 58, 99]] := by
  intro h vs Q; kernel_rfl
theorem lr264 : LR [[42], [97, 58, 98, 58, 99]] := by
  intro h vs Q; kernel_rfl
theorem lr265 : LR [[42], [97, 58, 98, 58, 99], [98, 58, 99]] := by
  intro h vs Q; kernel_rfl
theorem lr266 : LR [[42], [97, 58, 98, 58, 99], [98, 58, 42]] := by
  intro h vs Q; kernel_rfl
theorem lr267 : LR [[42], [97, 58, 98, 58, 99], [98, 58, 42], [98, 58, 99]] := by
  intro h vs Q; kernel_rfl
theorem lr268 : LR [[42], [97, 58, 98, 58, 99], [98]] := by
  intro h vs Q; kernel_rfl
theorem lr269 : LR [[42], [97, 58, 98, 58, 99], [98], [98, 58, 99]] := by
  intro h vs Q; kernel_rfl
theorem lr270 : LR [[42], [97, 58, 98, 58, 99], [98], [98, 58, 42]] := by
  intro h vs Q; kernel_rfl
theorem lr271 : LR [[42], [97, 58, 98, 58, 99], [98], [98, 58, 42], [98, 58, 99]] := by
  intro h vs Q; kernel_rfl
theorem lr272 : LR [[42], [97, 58, 98, 58, 42]] := by
  intro h vs Q; kernel_rfl
theorem lr273 : LR [[42], [97, 58, 98, 58, 42], [98, 58, 99]] := by
  intro h vs Q; kernel_rfl
theorem lr274 : LR [[42], [97, 58, 98, 58, 42], [98, 58, 42]] := by
  intro h vs Q; kernel_rfl
theorem lr275 : LR [[42], [97, 58, 98, 58, 42], [98, 58, 42], [98, 58, 99]] := by
  intro h vs Q; kernel_rfl
theorem lr276 : LR [[42], [97, 58, 98, 58, 42], [98]] := by
  intro h vs Q; kernel_rfl
theorem lr277 : LR [[42], [97, 58, 98, 58, 42], [98], [98, 58, 99]] := by
  intro h vs Q; kernel_rfl
theorem lr278 : LR [[42], [97, 58, 98, 58, 42], [98], [98, 58, 42]] := by
  intro h vs Q; kernel_rfl
theorem lr279 : LR [[42], [97, 58, 98, 58, 42], [98], [98, 58, 42], [98, 58, 99]] := by
  intro h vs Q; kernel_rfl
theorem lr280 : LR [[42], [97, 58, 98, 58, 42], [97, 58, 98, 58, 99]] := by
  intro h vs Q; kernel_rfl
theorem lr281 : LR [[42], [97, 58, 98, 58, 42], [97, 58, 98, 58, 99], [98, 58, 99]] := by
  intro h vs Q; kernel_rfl
theorem lr282 : LR [[42], [97, 58, 98, 58, 42], [97, 58, 98, 58, 99], [98, 58, 42]] := by
  intro h vs Q; kernel_rfl
theorem lr283 : LR [[42], [97, 58, 98, 58, 42], [97, 58, 98, 58, 99], [98, 58, 42], [98, 58, 99]] := by
  intro h vs Q; kernel_rfl
theorem lr284 : LR [[42], [97, 58, 98, 58, 42], [97, 58, 98, 58, 99], [98]] := by
  intro h vs Q; kernel_rfl
theorem lr285 : LR [[42], [97, 58, 98, 58, 42], [97, 58, 98, 58, 99], [98], [98, 58, 99]] := by
  intro h vs Q; kernel_rfl
theorem lr286 : LR [[42], [97, 58, 98, 58, 42], [97, 58, 98, 58, 99], [98], [98, 58, 42]] := by
  intro h vs Q; kernel_rfl
theorem lr287 : LR [[42], [97, 58, 98, 58, 42], [97, 58, 98, 58, 99], [98], [98, 58, 42], [98, 58, 99]] := by
  intro h vs Q; kernel_rfl
theorem lr288 : LR [[42], [97, 58, 98]] := by
  intro h vs Q; kernel_rfl
theorem lr289 : LR [[42], [97, 58, 98], [98, 58, 99]] := by
  intro h vs Q; kernel_rfl
theorem lr290 : LR [[42], [97, 58, 98], [98, 58, 42]] := by
  intro h vs Q; kernel_rfl
theorem lr291 : LR [[42], [97, 58, 98], [98, 58, 42], [98, 58, 99]] := by
  intro h vs Q; kernel_rfl
theorem lr292 : LR [[42], [97, 58, 98], [98]] := by
  intro h vs Q; kernel_rfl
theorem lr293 : LR [[42], [97, 58, 98], [98], [98, 58, 99]] := by
  intro h vs Q; kernel_rfl
theorem lr294 : LR [[42], [97, 58, 98], [98], [98, 58, 42]] := by
  intro h vs Q; kernel_rfl
theorem lr295 : LR [[42], [97, 58, 98], [98], [98, 58, 42], [98, 58, 99]] := by
  intro h vs Q; kernel_rfl
theorem lr296 : LR [[42], [97, 58, 98], [97, 58, 98, 58, 99]] := by
  intro h vs Q; kernel_rfl
theorem lr297 : LR [[42], [97, 58, 98], [97, 58, 98, 58, 99], [98, 58, 99]] := by
  intro h vs Q; kernel_rfl
theorem lr298 : LR [[42], [97, 58, 98], [97, 58, 98, 58, 99], [98, 58, 42]] := by
  intro h vs Q; kernel_rfl
theorem lr299 : LR [[42], [97, 58, 98], [97, 58, 98, 58, 99], [98, 58, 42], [98, 58, 99]] := by
  intro h vs Q; kernel_rfl
theorem lr300 : LR [[42], [97, 58, 98], [97, 58, 98, 58, 99], [98]] := by
  intro h vs Q; kernel_rfl
theorem lr301 : LR [[42], [97, 58, 98], [97, 58, 98, 58, 99], [98], [98, 58, 99]] := by
  intro h vs Q; kernel_rfl
theorem lr302 : LR [[42], [97, 58, 98], [97, 58, 98, 58, 99], [98], [98, 58, 42]] := by
  intro h vs Q; kernel_rfl
theorem lr303 : LR [[42], [97, 58, 98], [97, 58, 98, 58, 99], [98], [98, 58, 42], [98, 58, 99]] := by
  intro h vs Q; kernel_rfl
theorem lr304 : LR [[42], [97, 58, 98], [97, 58, 98, 58, 42]] := by
  intro h vs Q; kernel_rfl
theorem lr305 : LR [[42], [97, 58, 98], [97, 58, 98, 58, 42], [98, 58, 99]] := by
  intro h vs Q; kernel_rfl
theorem lr306 : LR [[42], [97, 58, 98], [97, 58, 98, 58, 42], [98, 58, 42]] := by
  intro h vs Q; kernel_rfl
theorem lr307 : LR [[42], [97, 58, 98], [97, 58, 98, 58, 42], [98, 58, 42], [98, 58, 99]] := by
  intro h vs Q; kernel_rfl
theorem lr308 : LR [[42], [97, 58, 98], [97, 58, 98, 58, 42], [98]] := by
  intro h vs Q; kernel_rfl
theorem lr309 : LR [[42], [97, 58, 98], [97, 58, 98, 58, 42], [98], [98, 58, 99]] := by
  intro h vs Q; kernel_rfl
theorem lr310 : LR [[42], [97, 58, 98], [97, 58, 98, 58, 42], [98], [98, 58, 42]] := by
  intro h vs Q; kernel_rfl
theorem lr311 : LR [[42], [97, 58, 98], [97, 58, 98, 58, 42], [98], [98, 58, 42], [98, 58, 99]] := by
  intro h vs Q; kernel_rfl
theorem lr312 : LR [[42], [97, 58, 98], [97, 58, 98, 58, 42], [97, 58, 98, 58, 99]] := by
  intro h vs Q; kernel_rfl
theorem lr313 : LR [[42], [97, 58, 98], [97, 58, 98, 58, 42], [97, 58, 98, 58, 99], [98, 58, 99]] := by
  intro h vs Q; kernel_rfl
theorem lr314 : LR [[42], [97, 58, 98], [97, 58, 98, 58, 42], [97, 58, 98, 58, 99], [98, 58, 42]] := by
  intro h vs Q; kernel_rfl
theorem lr315 : LR [[42], [97, 58, 98], [97, 58, 98, 58, 42], [97, 58, 98, 58, 99], [98, 58, 42], [98, 58, 99]] := by
  intro h vs Q; kernel_rfl
theorem lr316 : LR [[42], [97, 58, 98], [97, 58, 98, 58, 42], [97, 58, 98, 58, 99], [98]] := by
  intro h vs Q; kernel_rfl
theorem lr317 : LR [[42], [97, 58, 98], [97, 58, 98, 58, 42], [97, 58, 98, 58, 99], [98], [98, 58, 99]] := by
  intro h vs Q; kernel_rfl
theorem lr318 : LR [[42], [97, 58, 98], [97, 58, 98, 58, 42], [97, 58, 98, 58, 99], [98], [98, 58, 42]] := by
  intro h vs Q; kernel_rfl
theorem lr319 : LR [[42], [97, 58, 98], [97, 58, 98, 58, 42], [97, 58, 98, 58, 99], [98], [98, 58, 42], [98, 58, 99]] := by
  intro h vs Q; kernel_rfl
theorem lr320 : LR [[42], [97, 58, 42]] := by
  intro h vs Q; kernel_rfl
theorem lr321 : LR [[42], [97, 58, 42], [98, 58, 99]] := by
  intro h vs Q; kernel_rfl
theorem lr322 : LR [[42], [97, 58, 42], [98, 58, 42]] := by
  intro h vs Q; kernel_rfl
theorem lr323 : LR [[42], [97, 58, 42], [98, 58, 42], [98, 58, 99]] := by
  intro h vs Q; kernel_rfl
theorem lr324 : LR [[42], [97, 58, 42], [98]] := by
  intro h vs Q; kernel_rfl
theorem lr325 : LR [[42], [97, 58, 42], [98], [98, 58, 99]] := by
  intro h vs Q; kernel_rfl
theorem lr326 : LR [[42], [97, 58, 42], [98], [98, 58, 42]] := by
  intro h vs Q; kernel_rfl
theorem lr327 : LR [[42], [97, 58, 42], [98], [98, 58, 42], [98, 58, 99]] := by
  intro h vs Q; kernel_rfl
theorem lr328 : LR [[42], [97, 58, 42], [97, 58, 98, 58, 99]] := by
  intro h vs Q; kernel_rfl
theorem lr329 : LR [[42], [97, 58, 42], [97, 58, 98, 58, 99], [98, 58, 99]] := by
  intro h vs Q; kernel_rfl
theorem lr330 : LR [[42], [97, 58, 42], [97, 58, 98, 58, 99], [98, 58, 42]] := by
  intro h vs Q; kernel_rfl
theorem lr331 : LR [[42], [97, 58, 42], [97, 58, 98, 58, 99], [98, 58, 42], [98, 58, 99]] := by
  intro h vs Q; kernel_rfl
theorem lr332 : LR [[42], [97, 58, 42], [97, 58, 98, 58, 99], [98]] := by
  intro h vs Q; kernel_rfl
theorem lr333 : LR [[42], [97, 58, 42], [97, 58, 98, 58, 99], [98], [98, 58, 99]] := by
  intro h vs Q; kernel_rfl
theorem lr334 : LR [[42], [97, 58, 42], [97, 58, 98, 58, 99], [98], [98, 58, 42]] := by
  intro h vs Q; kernel_rfl
theorem lr335 : LR [[42], [97, 58, 42], [97, 58, 98, 58, 99], [98], [98, 58, 42], [98, 58, 99]] := by
  intro h vs Q; kernel_rfl
theorem lr336 : LR [[42], [97, 58, 42], [97, 58, 98, 58, 42]] := by
  intro h vs Q; kernel_rfl
theorem lr337 : LR [[42], [97, 58, 42], [97, 58, 98, 58, 42], [98, 58, 99]] := by
  intro h vs Q; kernel_rfl
theorem lr338 : LR [[42], [97, 58, 42], [97, 58, 98, 58, 42], [98, 58, 42]] := by
  intro h vs Q; kernel_rfl
theorem lr339 : LR [[42], [97, 58, 42], [97, 58, 98, 58, 42], [98, 58, 42], [98, 58, 99]] := by
  intro h vs Q; kernel_rfl
theorem lr340 : LR [[42], [97, 58, 42], [97, 58, 98, 58, 42], [98]] := by
  intro h vs Q; kernel_rfl
theorem lr341 : LR [[42], [97, 58, 42], [97, 58, 98, 58, 42], [98], [98, 58, 99]] := by
  intro h vs Q; kernel_rfl
theorem lr342 : LR [[42], [97, 58, 42], [97, 58, 98, 58, 42], [98], [98, 58, 42]] := by
  intro h vs Q; kernel_rfl
theorem lr343 : LR [[42], [97, 58, 42], [97, 58, 98, 58, 42], [98], [98, 58, 42], [98, 58, 99]] := by
  intro h vs Q; kernel_rfl
theorem lr344 : LR [[42], [97, 58, 42], [97, 58, 98, 58, 42], [97, 58, 98, 58, 99]] := by
  intro h vs Q; kernel_rfl
theorem lr345 : LR [[42], [97, 58, 42], [97, 58, 98, 58, 42], [97, 58, 98, 58, 99], [98, 58, 99]] := by
  intro h vs Q; kernel_rfl
theorem lr346 : LR [[42], [97, 58, 42], [97, 58, 98, 58, 42], [97, 58, 98, 58, 99], [98, 58, 42]] := by
  intro h vs Q; kernel_rfl
theorem lr347 : LR [[42], [97, 58, 42], [97, 58, 98, 58, 42], [97, 58, 98, 58, 99], [98, 58, 42], [98, 58, 99]] := by
  intro h vs Q; kernel_rfl
theorem lr348 : LR [[42], [97, 58, 42], [97, 58, 98, 58, 42], [97, 58, 98, 58, 99], [98]] := by
  intro h vs Q; kernel_rfl
theorem lr349 : LR [[42], [97, 58, 42], [97, 58, 98, 58, 42], [97, 58, 98, 58, 99], [98], [98, 58, 99]] := by
  intro h vs Q; kernel_rfl
theorem lr350 : LR [[42], [97, 58, 42], [97, 58, 98, 58, 42], [97, 58, 98, 58, 99], [98], [98, 58, 42]] := by
  intro h vs Q; kernel_rfl
theorem lr351 : LR [[42], [97, 58, 42], [97, 58, 98, 58, 42], [97, 58, 98, 58, 99], [98], [98, 58, 42], [98, 58, 99]] := by
  intro h vs Q; kernel_rfl
theorem lr352 : LR [[42], [97, 58, 42], [97, 58, 98]] := by
  intro h vs Q; kernel_rfl
theorem lr353 : LR [[42], [97, 58, 42], [97, 58, 98], [98, 58, 99]] := by
  intro h vs Q; kernel_rfl
theorem lr354 : LR [[42], [97, 58, 42], [97, 58, 98], [98, 58, 42]] := by
  intro h vs Q; kernel_rfl
theorem lr355 : LR [[42], [97, 58, 42], [97, 58, 98], [98, 58, 42], [98, 58, 99]] := by
  intro h vs Q; kernel_rfl
theorem lr356 : LR [[42], [97, 58, 42], [97, 58, 98], [98]] := by
  intro h vs Q; kernel_rfl
theorem lr357 : LR [[42], [97, 58, 42], [97, 58, 98], [98], [98, 58, 99]] := by
  intro h vs Q; kernel_rfl
theorem lr358 : LR [[42], [97, 58, 42], [97, 58, 98], [98], [98, 58, 42]] := by
  intro h vs Q; kernel_rfl
theorem lr359 : LR [[42], [97, 58, 42], [97, 58, 98], [98], [98, 58, 42], [98, 58, 99]] := by
  intro h vs Q; kernel_rfl
theorem lr360 : LR [[42], [97, 58, 42], [97, 58, 98], [97, 58, 98, 58, 99]] := by
  intro h vs Q; kernel_rfl
theorem lr361 : LR [[42], [97, 58, 42], [97, 58, 98], [97, 58, 98, 58, 99], [98, 58, 99]] := by
  intro h vs Q; kernel_rfl
theorem lr362 : LR [[42], [97, 58, 42], [97, 58, 98], [97, 58, 98, 58, 99], [98, 58, 42]] := by
  intro h vs Q; kernel_rfl
theorem lr363 : LR [[42], [97, 58, 42], [97, 58, 98], [97, 58, 98, 58, 99], [98, 58, 42], [98, 58, 99]] := by
  intro h vs Q; kernel_rfl
theorem lr364 : LR [[42], [97, 58, 42], [97, 58, 98], [97, 58, 98, 58, 99], [98]] := by
  intro h vs Q; kernel_rfl
theorem lr365 : LR [[42], [97, 58, 42], [97, 58, 98], [97, 58, 98, 58, 99], [98], [98, 58, 99]] := by
  intro h vs Q; kernel_rfl
theorem lr366 : LR [[42], [97, 58, 42], [97, 58, 98], [97, 58, 98, 58, 99], [98], [98, 58, 42]] := by
  intro h vs Q; kernel_rfl
theorem lr367 : LR [[42], [97, 58, 42], [97, 58, 98], [97, 58, 98, 58, 99], [98], [98, 58, 42], [98, 58, 99]] := by
  intro h vs Q; kernel_rfl
theorem lr368 : LR [[42], [97, 58, 42], [97, 58, 98], [97, 58, 98, 58, 42]] := by
  intro h vs Q; kernel_rfl
theorem lr369 : LR [[42], [97, 58, 42], [97, 58, 98], [97, 58, 98, 58, 42], [98, 58, 99]] := by
  intro h vs Q; kernel_rfl
theorem lr370 : LR [[42], [97, 58, 42], [97, 58, 98], [97, 58, 98, 58, 42], [98, 58, 42]] := by
  intro h vs Q; kernel_rfl
theorem lr371 : LR [[42], [97, 58, 42], [97, 58, 98], [97, 58, 98, 58, 42], [98, 58, 42], [98, 58, 99]] := by
  intro h vs Q; kernel_rfl
theorem lr372 : LR [[42], [97, 58, 42], [97, 58, 98], [97, 58, 98, 58, 42], [98]] := by
  intro h vs Q; kernel_rfl
theorem lr373 : LR [[42], [97, 58, 42], [97, 58, 98], [97, 58, 98, 58, 42], [98], [98, 58, 99]] := by
  intro h vs Q; kernel_rfl
theorem lr374 : LR [[42], [97, 58, 42], [97, 58, 98], [97, 58, 98, 58, 42], [98], [98, 58, 42]] := by
  intro h vs Q; kernel_rfl
theorem lr375 : LR [[42], [97, 58, 42], [97, 58, 98], [97, 58, 98, 58, 42], [98], [98, 58, 42], [98, 58, 99]] := by
  intro h vs Q; kernel_rfl
theorem lr376 : LR [[42], [97, 58, 42], [97, 58, 98], [97, 58, 98, 58, 42], [97, 58, 98, 58, 99]] := by
  intro h vs Q; kernel_rfl
theorem lr377 : LR [[42], [97, 58, 42], [97, 58, 98], [97, 58, 98, 58, 42], [97, 58, 98, 58, 99], [98, 58, 99]] := by
  intro h vs Q; kernel_rfl
theorem lr378 : LR [[42], [97, 58, 42], [97, 58, 98], [97, 58, 98, 58, 42], [97, 58, 98, 58, 99], [98, 58, 42]] := by
  intro h vs Q; kernel_rfl
theorem lr379 : LR [[42], [97, 58, 42], [97, 58, 98], [97, 58, 98, 58, 42], [97, 58, 98, 58, 99], [98, 58, 42], [98, 58, 99]] := by
  intro h vs Q; kernel_rfl
theorem lr380 : LR [[42], [97, 58, 42], [97, 58, 98], [97, 58, 98, 58, 42], [97, 58, 98, 58, 99], [98]] := by
  intro h vs Q; kernel_rfl
theorem lr381 : LR [[42], [97, 58, 42], [97, 58, 98], [97, 58, 98, 58, 42], [97, 58, 98, 58, 99], [98], [98, 58, 99]] := by
  intro h vs Q; kernel_rfl
theorem lr382 : LR [[42], [97, 58, 42], [97, 58, 98], [97, 58, 98, 58, 42], [97, 58, 98, 58, 99], [98], [98, 58, 42]] := by
  intro h vs Q; kernel_rfl
theorem lr383 : LR [[42], [97, 58, 42], [97, 58, 98], [97, 58, 98, 58, 42], [97, 58, 98, 58, 99], [98], [98, 58, 42], [98, 58, 99]] := by
  intro h vs Q; kernel_rfl
end Go.Proofs.YtklednomnpghcaaGreatDoor
