-- Written by a program of this session, after the kit's print (changed in some places; see NOTES.md). Lean checks it.
import Derived.Test.YtodhogegjkfemaaAbb
import Derived.Test.YtodhogegjkfemaaZed
import Derived.Test.YtodhogegjkfemaaPFnQueuex0
import Derived.Test.YtodhogegjkfemaaPFnQueuex1
import Derived.Test.YtodhogegjkfemaaPFnQueuex2
import Derived.Test.YtodhogegjkfemaaPFnQueuex5
import Derived.Test.YtodhogegjkfemaaPFnQueuex6
import Derived.Test.YtodhogegjkfemaaPFnQueuex7
import Derived.Test.YtodhogegjkfemaaPFnQueuex8
import Derived.Test.YtodhogegjkfemaaPFnQueuex9
import Derived.Test.YtodhogegjkfemaaPFnQueuex10
namespace Go.Proofs.Ytodhogegjkfemaa.PFnQueue
open Go.Proofs.Ytodhogegjkfemaa.Abb Go.Proofs.Ytodhogegjkfemaa.Zed Go.RowKit Go.Proofs.YtodhogegjkfemaaW.PrintWords Go.Proofs.YtodhogegjkfemaaW.PrintLast Go.Proofs.YtodhogegjkfemaaW.PrintMore
attribute [local go_sem] max2_int min2_int max_two min_two max_three min_three max_four min_four   -- for this text's walks alone
set_option linter.unusedVariables false
set_option linter.unusedSimpArgs false
attribute [local go_sem high] eqA31
mutual
def laws_FnQueue.j0 : Nat → List Int → ByteArray → Int → Bool → List ByteArray → Int → Int → Option (Bool)
 | 0, _, _, _, _, _, _, _ => none
 | k + 1, x1, x6, x7, x78, x356000, x356001, x356002 => if x78 = true then (laws_FnQueue.l0 k x1 x6 x7 (⟨#[]⟩ : ByteArray) 0 x356000 x356001 x356002) else (laws_FnQueue.j2 k x1)
def laws_FnQueue.j2 : Nat → List Int → Option (Bool)
 | 0, _ => none
 | k + 1, x1 => (spec_DrawStepClient.f k x1).bind fun bt375 => ((impl_StepClient.f k bt375.1 bt375.2.1 bt375.2.2.1 bt375.2.2.2.1 bt375.2.2.2.2).bind fun bt384 => ((spec_StepClient.f k bt375.1 bt375.2.1 bt375.2.2.1 bt375.2.2.2.1 bt375.2.2.2.2).bind fun bt396 => ((spec_DrawNewClient.f x1).bind fun t408 => ((impl_NewClient.f t408).bind fun bt409 => ((spec_NewClient.f t408).bind fun bt416 => (if (bt384.2.2.2.2.2.2.2 == bt396.2.2.2.2.2.2.2) = true then ((laws_sameClient.f k bt384.1 bt384.2.1 bt384.2.2.1 bt396.1 bt396.2.1 bt396.2.2.1).bind fun t423 => (if t423 = true then (if (bt384.2.2.2.1 == bt396.2.2.2.1 && (bt384.2.2.2.2.1 == bt396.2.2.2.2.1 && (bt384.2.2.2.2.2.1 == bt396.2.2.2.2.2.1))) = true then (if bt384.2.2.2.2.2.2.1.toList = bt396.2.2.2.2.2.2.1.toList then (if (bt409.2.2.2 == bt416.2.2.2) = true then ((laws_sameClient.f k bt409.1 bt409.2.1 bt409.2.2.1 bt416.1 bt416.2.1 bt416.2.2.1).bind fun t424 => (if t424 = true then (if bt384.2.2.2.2.2.2.2 = true then ((impl_GoodClient.f k bt384.1 bt384.2.1 bt384.2.2.1).bind fun t425 => (some t425)) else (some true)) else (some false))) else (some false)) else (some false)) else (some false)) else (some false))) else (some false)))))))
def laws_FnQueue.l0 : Nat → List Int → ByteArray → Int → ByteArray → Int → List ByteArray → Int → Int → Option (Bool)
 | 0, _, _, _, _, _, _, _, _ => none
 | k + 1, x1, x6, x7, x12, x13, x363000, x363001, x363002 => if x13 < x7 then ((impl_StepClient.f k x363000 x363001 x363002 2 (⟨#[]⟩ : ByteArray)).bind fun bt363 => (if bt363.2.2.2.2.2.2.2 = true then (if x363002 = 0 then (none) else (if bt363.2.2.2.2.1 = (Int.tmod x363001 x363002) then (if bt363.2.1 = (wrap64 (x363001 + 1)) then (if x13 < (wrap64 (x7 - 1)) then (if bt363.2.2.2.2.2.2.1.toList = x6.toList then (some false) else (laws_FnQueue.l0 k x1 x6 x7 bt363.2.2.2.2.2.2.1 (wrap64 (x13 + 1)) bt363.1 bt363.2.1 bt363.2.2.1)) else (laws_FnQueue.l0 k x1 x6 x7 bt363.2.2.2.2.2.2.1 (wrap64 (x13 + 1)) bt363.1 bt363.2.1 bt363.2.2.1)) else (some false)) else (some false))) else (some false))) else (if x12.toList = x6.toList then (laws_FnQueue.j2 k x1) else (some false))
end
def laws_FnQueue.f (k : Nat) (l0 : List Int) (l1 : List Int) : Option (Bool) := if (wrap64 ((l0.length : Int) + (l1.length : Int))) > 1048576 then (some true) else ((spec_DrawWaitFor.f k l0).bind fun bt349 => ((impl_WaitFor.f k bt349.1 bt349.2.1 bt349.2.2.1 bt349.2.2.2).bind fun bt356 => ((spec_WaitFor.f k bt349.1 bt349.2.1 bt349.2.2.1 bt349.2.2.2).bind fun bt358 => (if (bt356.2 != bt358.2) = true then (some false) else (if bt356.1 = bt358.1 then ((impl_GoodClient.f k bt349.1 bt349.2.1 bt349.2.2.1).bind fun t360 => ((spec_GoodClient.f k bt349.1 bt349.2.1 bt349.2.2.1).bind fun t361 => (if (t360 != t361) = true then (some false) else (if bt356.2 = true then (laws_FnQueue.j0 k l1 bt349.2.2.2 bt356.1 (decide ((wrap64 (bt349.2.1 + bt356.1)) ≤ 1000)) bt349.1 bt349.2.1 bt349.2.2.1) else (laws_FnQueue.j0 k l1 bt349.2.2.2 bt356.1 false bt349.1 bt349.2.1 bt349.2.2.1))))) else (some false))))))
theorem laws_FnQueue.mono_l : ∀ k, (∀ y0 y1 y2 y3 y4 y5 y6, LeO (laws_FnQueue.j0 k y0 y1 y2 y3 y4 y5 y6) (laws_FnQueue.j0 (k + 1) y0 y1 y2 y3 y4 y5 y6)) ∧ (∀ y0, LeO (laws_FnQueue.j2 k y0) (laws_FnQueue.j2 (k + 1) y0)) ∧ (∀ y0 y1 y2 y3 y4 y5 y6 y7, LeO (laws_FnQueue.l0 k y0 y1 y2 y3 y4 y5 y6 y7) (laws_FnQueue.l0 (k + 1) y0 y1 y2 y3 y4 y5 y6 y7))
 | 0 => ⟨fun _ _ _ _ _ _ _ r h => by simp [laws_FnQueue.j0] at h, fun _ r h => by simp [laws_FnQueue.j2] at h, fun _ _ _ _ _ _ _ _ r h => by simp [laws_FnQueue.l0] at h⟩
 | k + 1 => by
  obtain ⟨ih0, ih1, ih2⟩ := laws_FnQueue.mono_l k
  refine ⟨?_, ?_, ?_⟩
  ·intro y0 y1 y2 y3 y4 y5 y6
   unfold laws_FnQueue.j0
   repeat' first
   | (with_reducible exact ih0 _ _ _ _ _ _ _)
   | (with_reducible exact ih1 _)
   | (with_reducible exact ih2 _ _ _ _ _ _ _ _)
   | (with_reducible exact impl_GoodClient.mono _ _ _ _)
   | (with_reducible exact impl_StepClient.mono _ _ _ _ _ _)
   | (with_reducible exact impl_WaitFor.mono _ _ _ _ _)
   | (with_reducible exact laws_sameClient.mono _ _ _ _ _ _ _)
   | (with_reducible exact spec_DrawStepClient.mono _ _)
   | (with_reducible exact spec_DrawWaitFor.mono _ _)
   | (with_reducible exact spec_GoodClient.mono _ _ _ _)
   | (with_reducible exact spec_StepClient.mono _ _ _ _ _ _)
   | (with_reducible exact spec_WaitFor.mono _ _ _ _ _)
   | (with_reducible exact LeO.refl _)
   | (with_reducible exact LeO.none _)
   | (with_reducible refine LeO.ite ?_ ?_)
   | (with_reducible refine LeO.bind ?_ (fun _ => ?_))
   | exact ih0 _ _ _ _ _ _ _
   | exact ih1 _
   | exact ih2 _ _ _ _ _ _ _ _
   | exact impl_GoodClient.mono _ _ _ _
   | exact impl_StepClient.mono _ _ _ _ _ _
   | exact impl_WaitFor.mono _ _ _ _ _
   | exact laws_sameClient.mono _ _ _ _ _ _ _
   | exact spec_DrawStepClient.mono _ _
   | exact spec_DrawWaitFor.mono _ _
   | exact spec_GoodClient.mono _ _ _ _
   | exact spec_StepClient.mono _ _ _ _ _ _
   | exact spec_WaitFor.mono _ _ _ _ _
   | exact LeO.none _
   | refine LeO.ite ?_ ?_
   | refine LeO.bind ?_ (fun _ => ?_)
  ·intro y0
   unfold laws_FnQueue.j2
   repeat' first
   | (with_reducible exact ih0 _ _ _ _ _ _ _)
   | (with_reducible exact ih1 _)
   | (with_reducible exact ih2 _ _ _ _ _ _ _ _)
   | (with_reducible exact impl_GoodClient.mono _ _ _ _)
   | (with_reducible exact impl_StepClient.mono _ _ _ _ _ _)
   | (with_reducible exact impl_WaitFor.mono _ _ _ _ _)
   | (with_reducible exact laws_sameClient.mono _ _ _ _ _ _ _)
   | (with_reducible exact spec_DrawStepClient.mono _ _)
   | (with_reducible exact spec_DrawWaitFor.mono _ _)
   | (with_reducible exact spec_GoodClient.mono _ _ _ _)
   | (with_reducible exact spec_StepClient.mono _ _ _ _ _ _)
   | (with_reducible exact spec_WaitFor.mono _ _ _ _ _)
   | (with_reducible exact LeO.refl _)
   | (with_reducible exact LeO.none _)
   | (with_reducible refine LeO.ite ?_ ?_)
   | (with_reducible refine LeO.bind ?_ (fun _ => ?_))
   | exact ih0 _ _ _ _ _ _ _
   | exact ih1 _
   | exact ih2 _ _ _ _ _ _ _ _
   | exact impl_GoodClient.mono _ _ _ _
   | exact impl_StepClient.mono _ _ _ _ _ _
   | exact impl_WaitFor.mono _ _ _ _ _
   | exact laws_sameClient.mono _ _ _ _ _ _ _
   | exact spec_DrawStepClient.mono _ _
   | exact spec_DrawWaitFor.mono _ _
   | exact spec_GoodClient.mono _ _ _ _
   | exact spec_StepClient.mono _ _ _ _ _ _
   | exact spec_WaitFor.mono _ _ _ _ _
   | exact LeO.none _
   | refine LeO.ite ?_ ?_
   | refine LeO.bind ?_ (fun _ => ?_)
  ·intro y0 y1 y2 y3 y4 y5 y6 y7
   unfold laws_FnQueue.l0
   repeat' first
   | (with_reducible exact ih0 _ _ _ _ _ _ _)
   | (with_reducible exact ih1 _)
   | (with_reducible exact ih2 _ _ _ _ _ _ _ _)
   | (with_reducible exact impl_GoodClient.mono _ _ _ _)
   | (with_reducible exact impl_StepClient.mono _ _ _ _ _ _)
   | (with_reducible exact impl_WaitFor.mono _ _ _ _ _)
   | (with_reducible exact laws_sameClient.mono _ _ _ _ _ _ _)
   | (with_reducible exact spec_DrawStepClient.mono _ _)
   | (with_reducible exact spec_DrawWaitFor.mono _ _)
   | (with_reducible exact spec_GoodClient.mono _ _ _ _)
   | (with_reducible exact spec_StepClient.mono _ _ _ _ _ _)
   | (with_reducible exact spec_WaitFor.mono _ _ _ _ _)
   | (with_reducible exact LeO.refl _)
   | (with_reducible exact LeO.none _)
   | (with_reducible refine LeO.ite ?_ ?_)
   | (with_reducible refine LeO.bind ?_ (fun _ => ?_))
   | exact ih0 _ _ _ _ _ _ _
   | exact ih1 _
   | exact ih2 _ _ _ _ _ _ _ _
   | exact impl_GoodClient.mono _ _ _ _
   | exact impl_StepClient.mono _ _ _ _ _ _
   | exact impl_WaitFor.mono _ _ _ _ _
   | exact laws_sameClient.mono _ _ _ _ _ _ _
   | exact spec_DrawStepClient.mono _ _
   | exact spec_DrawWaitFor.mono _ _
   | exact spec_GoodClient.mono _ _ _ _
   | exact spec_StepClient.mono _ _ _ _ _ _
   | exact spec_WaitFor.mono _ _ _ _ _
   | exact LeO.none _
   | refine LeO.ite ?_ ?_
   | refine LeO.bind ?_ (fun _ => ?_)
theorem laws_FnQueue.mono : ∀ a0 a1 k, LeO (laws_FnQueue.f k a0 a1) (laws_FnQueue.f (k + 1) a0 a1) := by
 intro a0 a1 k
 obtain ⟨ih0, ih1, ih2⟩ := laws_FnQueue.mono_l k
 unfold laws_FnQueue.f
 repeat' first
   | (with_reducible exact ih0 _ _ _ _ _ _ _)
   | (with_reducible exact ih1 _)
   | (with_reducible exact ih2 _ _ _ _ _ _ _ _)
   | (with_reducible exact impl_GoodClient.mono _ _ _ _)
   | (with_reducible exact impl_StepClient.mono _ _ _ _ _ _)
   | (with_reducible exact impl_WaitFor.mono _ _ _ _ _)
   | (with_reducible exact laws_sameClient.mono _ _ _ _ _ _ _)
   | (with_reducible exact spec_DrawStepClient.mono _ _)
   | (with_reducible exact spec_DrawWaitFor.mono _ _)
   | (with_reducible exact spec_GoodClient.mono _ _ _ _)
   | (with_reducible exact spec_StepClient.mono _ _ _ _ _ _)
   | (with_reducible exact spec_WaitFor.mono _ _ _ _ _)
   | (with_reducible exact LeO.refl _)
   | (with_reducible exact LeO.none _)
   | (with_reducible refine LeO.ite ?_ ?_)
   | (with_reducible refine LeO.bind ?_ (fun _ => ?_))
   | exact ih0 _ _ _ _ _ _ _
   | exact ih1 _
   | exact ih2 _ _ _ _ _ _ _ _
   | exact impl_GoodClient.mono _ _ _ _
   | exact impl_StepClient.mono _ _ _ _ _ _
   | exact impl_WaitFor.mono _ _ _ _ _
   | exact laws_sameClient.mono _ _ _ _ _ _ _
   | exact spec_DrawStepClient.mono _ _
   | exact spec_DrawWaitFor.mono _ _
   | exact spec_GoodClient.mono _ _ _ _
   | exact spec_StepClient.mono _ _ _ _ _ _
   | exact spec_WaitFor.mono _ _ _ _ _
   | exact LeO.none _
   | refine LeO.ite ?_ ?_
   | refine LeO.bind ?_ (fun _ => ?_)
def laws_FnQueue.T6 : Bool × List (List Nat × List Nat) := (true, [([], []), ([], []), ([0, 1], [0, 1]), ([2], [2]), ([3], [3]), ([3], [3]), ([4, 5, 3], [3, 4, 5]), ([3, 6], [3, 6]), ([7, 3], [7]), ([8], [8]), ([9, 8, 8], [8, 9]), ([8], [8]), ([11, 10, 8], [8, 11]), ([10, 12, 8], [8, 10, 12]), ([8, 13], [8, 13])])
def laws_FnQueue.B6 : List Nat := [0, 0, 3, 7, 15, 15, 63, 127, 255, 511, 1023, 511, 4095, 8191, 16383]
theorem laws_FnQueue.tab6 : rtab .any (opsOf Try.f4 6) = laws_FnQueue.T6 := by kernel_rfl
theorem laws_FnQueue.bits6 : waitsOk laws_FnQueue.T6.2 laws_FnQueue.B6 = true := by kernel_rfl
def laws_FnQueue.T15 : Bool × List (List Nat × List Nat) := (true, [([], []), ([0], [0]), ([1], [1]), ([2], [2]), ([3, 2], [2, 3]), ([2], [2]), ([5, 2], [2, 5]), ([2], [2]), ([7, 2], [2, 7]), ([6, 8, 2], [2, 6, 8]), ([4, 9, 2], [2, 4, 9]), ([2, 10], [2, 10]), ([11, 2], [11]), ([12], [12]), ([13, 12], [12, 13]), ([12], [12]), ([15, 12], [12, 15]), ([16, 12], [12, 16]), ([14, 17, 12], [12, 14, 17]), ([12, 18], [12, 18]), ([19, 12], [19]), ([20], [20]), ([20], [20]), ([22, 20], [20, 22]), ([21, 23, 20], [20, 21, 23]), ([24, 20, 20], [20, 24]), ([25], [25]), ([25], [25]), ([26, 27, 25], [25, 26, 27]), ([25, 28, 20], [20, 25, 28]), ([20, 29], [20, 29])])
def laws_FnQueue.B15 : List Nat := [0, 1, 3, 7, 15, 7, 39, 7, 135, 487, 1023, 2047, 4095, 8191, 16383, 8191, 40959, 106495, 262143, 524287, 1048575, 2097151, 2097151, 6291455, 16777215, 33554431, 67108863, 67108863, 268435455, 536870911, 1073741823]
theorem laws_FnQueue.tab15 : rtab .any (opsOf Try.f4 15) = laws_FnQueue.T15 := by kernel_rfl
theorem laws_FnQueue.bits15 : waitsOk laws_FnQueue.T15.2 laws_FnQueue.B15 = true := by kernel_rfl
set_option maxHeartbeats 8000000 in
set_option maxRecDepth 100000 in
theorem laws_FnQueue.calls (k : Nat) (A0 : Option Addr) (c0 : Nat) (l0 : List Int) (A1 : Option Addr) (c1 : Nat) (l1 : List Int) (r : Bool) (w : World) (hr0 : Kd.C (Kd.int .u8) w A0 l0.length l0) (hc0 : l0.length ≤ c0) (hr1 : Kd.C (Kd.int .u8) w A1 l1.length l1) (hc1 : l1.length ≤ c1) (h : laws_FnQueue.f k l0 l1 = some r) (hr_ : Aside0 (r = true)) :
  Calls Try.prog 4 #[.slice A0 l0.length c0, .slice A1 l1.length c1] w fun e w' => e = .returned (.bool r) ∧ Below w.heap.size w w' := by
 have hu29 := Try.underlying29
 have hu35 := Try.underlying35
 have hu31 := Try.underlying31
 have HR0 := Aside0.mk hr0
 have HC0 := Aside0.mk hc0
 clear hr0 hc0
 have HR1 := Aside0.mk hr1
 have HC1 := Aside0.mk hc1
 clear hr1 hc1
 have HB := Aside0.mk (Below.refl w.heap.size w)
 have H : (if (wrap64 ((l0.length : Int) + (l1.length : Int))) > 1048576 then (some true) else ((spec_DrawWaitFor.f k l0).bind fun bt349 => ((impl_WaitFor.f k bt349.1 bt349.2.1 bt349.2.2.1 bt349.2.2.2).bind fun bt356 => ((spec_WaitFor.f k bt349.1 bt349.2.1 bt349.2.2.1 bt349.2.2.2).bind fun bt358 => (if (bt356.2 != bt358.2) = true then (some false) else (if bt356.1 = bt358.1 then ((impl_GoodClient.f k bt349.1 bt349.2.1 bt349.2.2.1).bind fun t360 => ((spec_GoodClient.f k bt349.1 bt349.2.1 bt349.2.2.1).bind fun t361 => (if (t360 != t361) = true then (some false) else (if bt356.2 = true then (laws_FnQueue.j0 k l1 bt349.2.2.2 bt356.1 (decide ((wrap64 (bt349.2.1 + bt356.1)) ≤ 1000)) bt349.1 bt349.2.1 bt349.2.2.1) else (laws_FnQueue.j0 k l1 bt349.2.2.2 bt356.1 false bt349.1 bt349.2.1 bt349.2.2.1))))) else (some false))))))) = some r := h
 clear h
 by_cases c3 : (wrap64 ((l0.length : Int) + (l1.length : Int))) > 1048576
 ·rw [if_pos c3] at H
  have c3b0 : decide (1048576 < (wrap64 ((l0.length : Int) + (l1.length : Int)))) = true := decide_eq_true c3
  clear c3
  obtain rfl := Option.some.inj H
  simp only [Option.some.injEq, Prod.mk.injEq] at H
  obtain ⟨rfl⟩ := H
  go_enter Try.func4, Try.ntmps4
  go_wp2
  go_ret
  exact ⟨by first | rfl | (simp [errW_none, errW_some] <;> rfl) | (simp [*, errW_none, errW_some] <;> rfl), by repeat (first | (with_reducible first | exact HB.out | apply bA | apply bN | apply bD) | exact HB.out)⟩
 ·rw [if_neg c3] at H
  have c3b0 : decide (1048576 < (wrap64 ((l0.length : Int) + (l1.length : Int)))) = false := decide_eq_false c3
  clear c3
  replace H := oB H
  obtain ⟨⟨t349, t352, t353, t354⟩, A40, H⟩ := H
  replace H : ((impl_WaitFor.f k t349 t352 t353 t354).bind fun bt356 => ((spec_WaitFor.f k t349 t352 t353 t354).bind fun bt358 => (if (bt356.2 != bt358.2) = true then (some false) else (if bt356.1 = bt358.1 then ((impl_GoodClient.f k t349 t352 t353).bind fun t360 => ((spec_GoodClient.f k t349 t352 t353).bind fun t361 => (if (t360 != t361) = true then (some false) else (if bt356.2 = true then (laws_FnQueue.j0 k l1 t354 bt356.1 (decide ((wrap64 (t352 + bt356.1)) ≤ 1000)) t349 t352 t353) else (laws_FnQueue.j0 k l1 t354 bt356.1 false t349 t352 t353))))) else (some false))))) = some r := H
  have A4 := Aside0.mk A40
  clear A40
  replace H := oB H
  obtain ⟨⟨t356, t357⟩, A50, H⟩ := H
  replace H : ((spec_WaitFor.f k t349 t352 t353 t354).bind fun bt358 => (if (t357 != bt358.2) = true then (some false) else (if t356 = bt358.1 then ((impl_GoodClient.f k t349 t352 t353).bind fun t360 => ((spec_GoodClient.f k t349 t352 t353).bind fun t361 => (if (t360 != t361) = true then (some false) else (if t357 = true then (laws_FnQueue.j0 k l1 t354 t356 (decide ((wrap64 (t352 + t356)) ≤ 1000)) t349 t352 t353) else (laws_FnQueue.j0 k l1 t354 t356 false t349 t352 t353))))) else (some false)))) = some r := H
  have A5 := Aside0.mk A50
  clear A50
  replace H := oB H
  obtain ⟨⟨t358, t359⟩, A60, H⟩ := H
  replace H : (if (t357 != t359) = true then (some false) else (if t356 = t358 then ((impl_GoodClient.f k t349 t352 t353).bind fun t360 => ((spec_GoodClient.f k t349 t352 t353).bind fun t361 => (if (t360 != t361) = true then (some false) else (if t357 = true then (laws_FnQueue.j0 k l1 t354 t356 (decide ((wrap64 (t352 + t356)) ≤ 1000)) t349 t352 t353) else (laws_FnQueue.j0 k l1 t354 t356 false t349 t352 t353))))) else (some false))) = some r := H
  have A6 := Aside0.mk A60
  clear A60
  by_cases c7 : (t357 != t359) = true
  ·rw [if_pos c7] at H
   have c7b0 : (t357 != t359) = true := c7
   (try (have c7b1 : decide (t357 = t359) = false := by simpa using c7))
   (try (have c7b2 : (t357 == t359) = false := by simpa using c7))
   (try (have c7b3 : ¬ (t357 = t359) := by simpa using c7))
   clear c7
   obtain rfl := Option.some.inj H
   exact absurd hr_.out (by simp)
  ·rw [if_neg c7] at H
   have c7b0 : (t357 != t359) = false := by simpa using c7
   (try (have c7b1 : decide (t357 = t359) = true := by simpa using c7))
   (try (have c7b2 : (t357 == t359) = true := by simpa using c7))
   clear c7
   by_cases c8 : t356 = t358
   ·rw [if_pos c8] at H
    have c8b0 : (t356 == t358) = true := beq_iff_eq.mpr c8
    have c8b1 : (t356 != t358) = false := bne_eq_false_iff_eq.mpr c8
    clear c8
    replace H := oB H
    obtain ⟨t360, A90, H⟩ := H
    replace H : ((spec_GoodClient.f k t349 t352 t353).bind fun t361 => (if (t360 != t361) = true then (some false) else (if t357 = true then (laws_FnQueue.j0 k l1 t354 t356 (decide ((wrap64 (t352 + t356)) ≤ 1000)) t349 t352 t353) else (laws_FnQueue.j0 k l1 t354 t356 false t349 t352 t353)))) = some r := H
    have A9 := Aside0.mk A90
    clear A90
    replace H := oB H
    obtain ⟨t361, A100, H⟩ := H
    replace H : (if (t360 != t361) = true then (some false) else (if t357 = true then (laws_FnQueue.j0 k l1 t354 t356 (decide ((wrap64 (t352 + t356)) ≤ 1000)) t349 t352 t353) else (laws_FnQueue.j0 k l1 t354 t356 false t349 t352 t353))) = some r := H
    have A10 := Aside0.mk A100
    clear A100
    by_cases c11 : (t360 != t361) = true
    ·rw [if_pos c11] at H
     have c11b0 : (t360 != t361) = true := c11
     (try (have c11b1 : decide (t360 = t361) = false := by simpa using c11))
     (try (have c11b2 : (t360 == t361) = false := by simpa using c11))
     (try (have c11b3 : ¬ (t360 = t361) := by simpa using c11))
     clear c11
     obtain rfl := Option.some.inj H
     exact absurd hr_.out (by simp)
    ·rw [if_neg c11] at H
     have c11b0 : (t360 != t361) = false := by simpa using c11
     (try (have c11b1 : decide (t360 = t361) = true := by simpa using c11))
     (try (have c11b2 : (t360 == t361) = true := by simpa using c11))
     clear c11
     have HC12 := Aside0.mk H
     clear H
     go_enter Try.func4, Try.ntmps4
     try go_wp2_with (first | ((with_reducible refine gate_callee (f := 15) rfl ?_); refine goesL_ (some 41) rfl rfl Try.func15 (by kernel_rfl) rfl #[.slice A0 l0.length c0] rfl (by (try simp only [List.map_toArray, List.map_cons, List.map_nil]); first | done | rfl | (simp only [List.length_drop, List.length_take]; rfl)) ?_; (with_reducible refine (spec_DrawWaitFor.calls k _ _ l0 t349 t352 t353 t354 _ ?side1 ?side2 A4.out).mono ?_); (case side1 => repeat (first | exact HR0.out | (with_reducible first | refine cA ?_ _ | refine cN ?_ _ | refine cD ?_))); (case side2 => exact HC0.out); rintro e w13 ⟨v350, rfl, ho0, hb⟩; refine ⟨_, rfl, ?_⟩; have n0_ := Aside0.mk (Kd.R_lower ho0 (zV HB.out)); have n1_ := Aside0.mk (zS HB.out hb); clear HB; have HO351 := n0_; have HB := n1_; clear n0_ n1_; (try clear hb); (try clear hb2); (try clear hk); (try clear hi); (try clear ho0)) | ((with_reducible refine gate_dst (N := 5) rfl ?_); refine box_event ?hg (N := 5) ?hd (cs := #[.slice none 0 0, .int .i64 0, .int .i64 0]) (t := 29) ?hr ?_; (case hd => rfl); (case hg => rfl); (case hr => first | (go_simp; done) | (go_simp; rfl)); intro gb355 hg w14 hbox hb; have n0_ := Aside0.mk (zR HO351.out hb); have n1_ := Aside0.mk (zS HB.out hb); have n2_ := Aside0.mk (hbox); have n3_ := Aside0.mk (zW hg HB.out); have n4_ := n3_; clear HO351; clear HB; have HO351 := n0_; have HB := n1_; have BK355 := n2_; have GW355 := n3_; have GE355 := n4_; clear n0_ n1_ n2_ n3_ n4_; clear hb hbox hg; obtain ⟨Ao15, co15, eo15⟩ := rS HO351.out; subst eo15; have hcz16_0 : w14.cell? ⟨gb355, 0, none⟩ = some (.slice none 0 0) := (lC BK355.out 0).trans rfl; have hcz16_1 : w14.cell? ⟨gb355, 1, none⟩ = some (.int .i64 0) := (lC BK355.out 1).trans rfl; have hcz16_2 : w14.cell? ⟨gb355, 2, none⟩ = some (.int .i64 0) := (lC BK355.out 2).trans rfl; have hfz16_0 := lF BK355.out 0; have hfz16_1 := lF BK355.out 1; have hfz16_2 := lF BK355.out 2) | ((with_reducible refine gate_callee (f := 16) rfl ?_); refine goesL_ (some 47) rfl rfl Try.func16 (by kernel_rfl) rfl #[.agg #[.slice Ao15 t349.length co15, .int .i64 t352, .int .i64 t353], .string t354] rfl (by (try simp only [List.map_toArray, List.map_cons, List.map_nil]); first | done | rfl | (simp only [List.length_drop, List.length_take]; rfl)) ?_; (with_reducible refine (impl_WaitFor.calls k _ _ t349 t352 t353 t354 t356 t357 _ ?side1 ?side2 A5.out).mono ?_); (case side1 => refine (rR (e := 9) (base := w.heap.size) (ok := fun k_ => True) (n := t349.length) (c := co15) ?_).2.2; exact (by (with_reducible repeat (first | apply rA | apply rN | apply rD)); exact (rM (Kd.R_far (p := ⟨gb355, 2, none⟩) (Kd.R_far (p := ⟨gb355, 1, none⟩) (Kd.R_far (p := ⟨gb355, 0, none⟩) (Kd.R_types HO351.out BK355.out (by decide)) (fun _ hk => hk.2) (.slice Ao15 t349.length co15)) (fun _ hk => hk.2) (.int .i64 t352)) (fun _ hk => hk.2) (.int .i64 t353)) (fun _ h_ => h_.1)))); (case side2 => exact (rR HO351.out).2.1); rintro e w17 ⟨rfl, hb⟩; refine ⟨_, rfl, ?_⟩; have n0_ := Aside0.mk (rB (by (with_reducible repeat (first | apply rA | apply rN | apply rD)); exact (rM (Kd.R_far (p := ⟨gb355, 2, none⟩) (Kd.R_far (p := ⟨gb355, 1, none⟩) (Kd.R_far (p := ⟨gb355, 0, none⟩) (Kd.R_types HO351.out BK355.out (by decide)) (fun _ hk => hk.2) (.slice Ao15 t349.length co15)) (fun _ hk => hk.2) (.int .i64 t352)) (fun _ hk => hk.2) (.int .i64 t353)) (fun _ h_ => h_.1))) hb); have n1_ := Aside0.mk (blk_below (g := gb355) (o := .cells #[.slice Ao15 t349.length co15, .int .i64 t352, .int .i64 t353] 29 (0, 0)) (by (with_reducible repeat (first | refine lN ?_ _ | refine lD ?_ | refine lA ?_ _)); refine lP (cs := #[.slice Ao15 t349.length co15, .int .i64 t352, .int .i64 0]) ?_ 2 _ rfl; (with_reducible repeat (first | refine lN ?_ _ | refine lD ?_ | refine lA ?_ _)); refine lP (cs := #[.slice Ao15 t349.length co15, .int .i64 0, .int .i64 0]) ?_ 1 _ rfl; (with_reducible repeat (first | refine lN ?_ _ | refine lD ?_ | refine lA ?_ _)); refine lP (cs := #[.slice none 0 0, .int .i64 0, .int .i64 0]) ?_ 0 _ rfl; (with_reducible repeat (first | refine lN ?_ _ | refine lD ?_ | refine lA ?_ _)); exact BK355.out) hb); have n2_ := Aside0.mk (below_step (by repeat (first | (with_reducible first | exact HB.out | apply bA | apply bN | apply bD | refine bS ?_ GE355.out) | exact HB.out)) hb); clear HO351; clear BK355; clear HB; have HO351 := n0_; have BK355 := n1_; have HB := n2_; clear n0_ n1_ n2_; (try clear hb); (try clear hb2); (try clear hk); (try clear hi); have hcz18_0 : w17.cell? ⟨gb355, 0, none⟩ = some (.slice Ao15 t349.length co15) := (lC BK355.out 0).trans rfl; have hcz18_1 : w17.cell? ⟨gb355, 1, none⟩ = some (.int .i64 t352) := (lC BK355.out 1).trans rfl; have hcz18_2 : w17.cell? ⟨gb355, 2, none⟩ = some (.int .i64 t353) := (lC BK355.out 2).trans rfl; have hfz18_0 := lF BK355.out 0; have hfz18_1 := lF BK355.out 1; have hfz18_2 := lF BK355.out 2) | ((with_reducible refine gate_callee (f := 17) rfl ?_); refine goesL_ (some 53) rfl rfl Try.func17 (by kernel_rfl) rfl #[.agg #[.slice Ao15 t349.length co15, .int .i64 t352, .int .i64 t353], .string t354] rfl (by (try simp only [List.map_toArray, List.map_cons, List.map_nil]); first | done | rfl | (simp only [List.length_drop, List.length_take]; rfl)) ?_; (with_reducible refine (spec_WaitFor.calls k _ _ t349 t352 t353 t354 t358 t359 _ ?side1 ?side2 A6.out).mono ?_); (case side1 => repeat (first | exact (rR HO351.out).2.2 | (with_reducible first | refine cA ?_ _ | refine cN ?_ _ | refine cD ?_))); (case side2 => exact (rR HO351.out).2.1); rintro e w19 ⟨rfl, hb⟩; refine ⟨_, rfl, ?_⟩; have n0_ := Aside0.mk (zR HO351.out hb); have n1_ := Aside0.mk (zB BK355.out hb); have n2_ := Aside0.mk (zS HB.out hb); clear HO351; clear BK355; clear HB; have HO351 := n0_; have BK355 := n1_; have HB := n2_; clear n0_ n1_ n2_; (try clear hb); (try clear hb2); (try clear hk); (try clear hi)))
     have n0_ := Aside0.mk (rD HO351.out)
     have n1_ := Aside0.mk (lD BK355.out)
     have n2_ := Aside0.mk (bD HB.out)
     clear HO351
     clear BK355
     clear HB
     have HO351 := n0_
     have BK355 := n1_
     have HB := n2_
     clear n0_ n1_ n2_
     refine start_ (n := 15) (S := fun w' => w'.cell? ⟨gb355, 0, none⟩ = some (.slice Ao15 t349.length co15) ∧ w'.cell? ⟨gb355, 1, none⟩ = some (.int .i64 t352) ∧ w'.cell? ⟨gb355, 2, none⟩ = some (.int .i64 t353)) (ds := []) #[false, false, false, false, false, false, false, false, false, false, false, false, false, false, false] (by kernel_rfl) rfl rfl ⟨(lC BK355.out 0).trans rfl, (lC BK355.out 1).trans rfl, (lC BK355.out 2).trans rfl⟩ (fun hHeld => ?_); refine with_tabW laws_FnQueue.tab6 laws_FnQueue.bits6 (fun HT_ HW_ => ?_)
     generalize w19.drew = w20 at HO351 BK355 HB hHeld ⊢
     refine pure_ (i := 0) (N := some 56) (v := ?_) (a' := ?_) #[true, false, false, false, false, false, false, false, false, false, false, false, false, false, false] rfl rfl (any_of HT_.out (by kernel_rfl)) (fun _ _ _ h => h) (Or.inl ⟨by rfl, ?_⟩) ?_ ?_
     rotate_left
     ·intro w'
      go_simp
      with_reducible rfl
     rotate_left
     ·simp only [Act.put, List.setIfInBounds_toArray, List.set_cons_zero, List.set_cons_succ, i64_w, i32_w]
      rfl
     refine pure_ (i := 1) (N := some 57) (v := ?_) (a' := ?_) #[true, true, false, false, false, false, false, false, false, false, false, false, false, false, false] rfl rfl (any_of HT_.out (by kernel_rfl)) (fun _ _ _ h => h) (Or.inl ⟨by rfl, ?_⟩) ?_ ?_
     rotate_left
     ·intro w'
      go_simp
      with_reducible rfl
     rotate_left
     ·simp only [Act.put, List.setIfInBounds_toArray, List.set_cons_zero, List.set_cons_succ, i64_w, i32_w]
      rfl
     refine pure_ (i := 2) (N := some 58) (v := ?_) (a' := ?_) #[true, true, true, false, false, false, false, false, false, false, false, false, false, false, false] rfl rfl (any_of HT_.out (by kernel_rfl)) (fun _ _ _ h => h) (Or.inl ⟨by rfl, ?_⟩) ?_ ?_
     rotate_left
     ·intro w'
      go_simp
      with_reducible rfl
     rotate_left
     ·simp only [Act.put, List.setIfInBounds_toArray, List.set_cons_zero, List.set_cons_succ, i64_w, i32_w]
      rfl
     refine pure_ (i := 3) (N := some 59) (v := ?_) (a' := ?_) #[true, true, true, true, false, false, false, false, false, false, false, false, false, false, false] rfl rfl (any_of HT_.out (by kernel_rfl)) (fun _ _ _ h => h) (Or.inl ⟨by rfl, ?_⟩) ?_ ?_
     rotate_left
     ·intro w'
      go_simp
      with_reducible rfl
     rotate_left
     ·simp only [Act.put, List.setIfInBounds_toArray, List.set_cons_zero, List.set_cons_succ, i64_w, i32_w]
      rfl
     refine pure_ (i := 4) (N := some 60) (v := ?_) (a' := ?_) #[true, true, true, true, true, false, false, false, false, false, false, false, false, false, false] rfl rfl (any_of HT_.out (by kernel_rfl)) (fun _ _ _ h => h) (Or.inl ⟨by rfl, ?_⟩) ?_ ?_
     rotate_left
     ·intro w'
      go_simp
      with_reducible rfl
     rotate_left
     ·simp only [Act.put, List.setIfInBounds_toArray, List.set_cons_zero, List.set_cons_succ, i64_w, i32_w]
      rfl
     refine pure_ (i := 5) (N := some 61) (v := ?_) (a' := ?_) #[true, true, true, true, true, true, false, false, false, false, false, false, false, false, false] rfl rfl (any_of HT_.out (by kernel_rfl)) (fun _ _ _ h => h) (Or.inl ⟨by rfl, ?_⟩) ?_ ?_
     rotate_left
     ·intro w'
      go_simp
      with_reducible rfl
     rotate_left
     ·simp only [Act.put, List.setIfInBounds_toArray, List.set_cons_zero, List.set_cons_succ, i64_w, i32_w]
      rfl
     refine pure_ (i := 6) (N := some 62) (v := ?_) (a' := ?_) #[true, true, true, true, true, true, true, false, false, false, false, false, false, false, false] rfl rfl (any_of HT_.out (by kernel_rfl)) (fun _ _ _ h => h) (Or.inl ⟨by rfl, ?_⟩) ?_ ?_
     rotate_left
     ·intro w'
      go_simp
      with_reducible rfl
     rotate_left
     ·simp only [Act.put, List.setIfInBounds_toArray, List.set_cons_zero, List.set_cons_succ, i64_w, i32_w]
      rfl
     refine pure_ (i := 7) (N := some 63) (v := ?_) (a' := ?_) #[true, true, true, true, true, true, true, true, false, false, false, false, false, false, false] rfl rfl (any_of HT_.out (by kernel_rfl)) (fun _ _ _ h => h) (Or.inl ⟨by rfl, ?_⟩) ?_ ?_
     rotate_left
     ·intro w'
      go_simp
      with_reducible rfl
     rotate_left
     ·simp only [Act.put, List.setIfInBounds_toArray, List.set_cons_zero, List.set_cons_succ, i64_w, i32_w]
      rfl
     refine pure_ (i := 8) (N := some 64) (v := ?_) (a' := ?_) #[true, true, true, true, true, true, true, true, true, false, false, false, false, false, false] rfl rfl (any_of HT_.out (by kernel_rfl)) (fun _ _ _ h => h) (Or.inl ⟨by rfl, ?_⟩) ?_ ?_
     rotate_left
     ·intro w'
      go_simp
      with_reducible rfl
     rotate_left
     ·simp only [Act.put, List.setIfInBounds_toArray, List.set_cons_zero, List.set_cons_succ, i64_w, i32_w]
      rfl
     refine take_ (i := 9) (N := some 65) (v := ?_) (a' := ?_) #[true, true, true, true, true, true, true, true, true, true, false, false, false, false, false] rfl rfl (take_ofW HT_.out HW_.out (by kernel_rfl)) (fun _ _ _ h => h) (Or.inl ⟨by rfl, ?_⟩) hHeld ?_ ?_
     rotate_left
     ·rintro w' ⟨s0, s1, s2⟩
      go_simp
      with_reducible rfl
     rotate_left
     ·simp only [Act.put, List.setIfInBounds_toArray, List.set_cons_zero, List.set_cons_succ, i64_w, i32_w]
      rfl
     refine take_ (i := 11) (N := some 67) (v := ?_) (a' := ?_) #[true, true, true, true, true, true, true, true, true, true, false, true, false, false, false] rfl rfl (take_ofW HT_.out HW_.out (by kernel_rfl)) (fun _ _ _ h => h) (Or.inl ⟨by rfl, ?_⟩) hHeld ?_ ?_
     rotate_left
     ·rintro w' ⟨s0, s1, s2⟩
      go_simp
      with_reducible rfl
     rotate_left
     ·simp only [Act.put, List.setIfInBounds_toArray, List.set_cons_zero, List.set_cons_succ, i64_w, i32_w]
      rfl
     refine one_ (i := 10) (N := some 66) #[true, true, true, true, true, true, true, true, true, true, true, true, false, false, false] rfl rfl (one_of HT_.out (by kernel_rfl)) (by decide) (fun K hK => ?_)
     refine goes_ Try.func18 (by kernel_rfl) rfl #[.agg #[.slice Ao15 t349.length co15, .int .i64 t352, .int .i64 t353]] (by rfl) rfl rfl (by (try simp only [List.map_toArray, List.map_cons, List.map_nil]); first | done | rfl | (simp only [List.length_drop, List.length_take]; rfl)) ?_
     with_reducible refine (impl_GoodClient.calls k _ _ t349 t352 t353 t360 _ ?side1 ?side2 A9.out).mono ?_
     (case side1 => repeat (first | exact (rR HO351.out).2.2 | (with_reducible first | refine cA ?_ _ | refine cN ?_ _ | refine cD ?_)))
     (case side2 => exact (rR HO351.out).2.1)
     rintro e w21 ⟨rfl, hb⟩
     refine ⟨_, rfl, ?_⟩
     have n0_ := Aside0.mk (zR HO351.out hb)
     have n1_ := Aside0.mk (zB BK355.out hb)
     have n2_ := Aside0.mk (below_step (by repeat (first | (with_reducible first | exact HB.out | apply bA | apply bN | apply bD | refine bS ?_ GE355.out) | exact HB.out)) hb)
     clear HO351
     clear BK355
     clear HB
     have HO351 := n0_
     have BK355 := n1_
     have HB := n2_
     clear n0_ n1_ n2_
     (try clear hb)
     (try clear hb2)
     (try clear hk)
     (try clear hi)
     refine hK.out _ _ ⟨(lC BK355.out 0).trans rfl, (lC BK355.out 1).trans rfl, (lC BK355.out 2).trans rfl⟩ (fun hHeld => ?_)
     clear hK K
     refine norm_ (a' := ?_) ?_ ?_
     rotate_left
     ·show Act.put _ (some 66) _ = _
      simp only [Act.put, List.setIfInBounds_toArray, List.set_cons_zero, List.set_cons_succ, i64_w, i32_w]
      rfl
     refine one_ (i := 12) (N := some 68) #[true, true, true, true, true, true, true, true, true, true, true, true, true, false, false] rfl rfl (one_of HT_.out (by kernel_rfl)) (by decide) (fun K hK => ?_)
     refine goes_ Try.func19 (by kernel_rfl) rfl #[.agg #[.slice Ao15 t349.length co15, .int .i64 t352, .int .i64 t353]] (by rfl) rfl rfl (by (try simp only [List.map_toArray, List.map_cons, List.map_nil]); first | done | rfl | (simp only [List.length_drop, List.length_take]; rfl)) ?_
     with_reducible refine (spec_GoodClient.calls k _ _ t349 t352 t353 t361 _ ?side1 ?side2 A10.out).mono ?_
     (case side1 => repeat (first | exact (rR HO351.out).2.2 | (with_reducible first | refine cA ?_ _ | refine cN ?_ _ | refine cD ?_)))
     (case side2 => exact (rR HO351.out).2.1)
     rintro e w22 ⟨rfl, hb⟩
     refine ⟨_, rfl, ?_⟩
     have n0_ := Aside0.mk (zR HO351.out hb)
     have n1_ := Aside0.mk (zB BK355.out hb)
     have n2_ := Aside0.mk (below_step (by repeat (first | (with_reducible first | exact HB.out | apply bA | apply bN | apply bD | refine bS ?_ GE355.out) | exact HB.out)) hb)
     clear HO351
     clear BK355
     clear HB
     have HO351 := n0_
     have BK355 := n1_
     have HB := n2_
     clear n0_ n1_ n2_
     (try clear hb)
     (try clear hb2)
     (try clear hk)
     (try clear hi)
     refine hK.out _ _ ⟨(lC BK355.out 0).trans rfl, (lC BK355.out 1).trans rfl, (lC BK355.out 2).trans rfl⟩ (fun hHeld => ?_)
     clear hK K
     refine norm_ (a' := ?_) ?_ ?_
     rotate_left
     ·show Act.put _ (some 68) _ = _
      simp only [Act.put, List.setIfInBounds_toArray, List.set_cons_zero, List.set_cons_succ, i64_w, i32_w]
      rfl
     refine pure_ (i := 13) (N := some 69) (v := ?_) (a' := ?_) #[true, true, true, true, true, true, true, true, true, true, true, true, true, true, false] rfl rfl (any_of HT_.out (by kernel_rfl)) (fun _ _ _ h => h) (Or.inl ⟨by rfl, ?_⟩) ?_ ?_
     rotate_left
     ·intro w'
      go_simp
      with_reducible rfl
     rotate_left
     ·simp only [Act.put, List.setIfInBounds_toArray, List.set_cons_zero, List.set_cons_succ, i64_w, i32_w]
      rfl
     refine pure_ (i := 14) (N := some 70) (v := ?_) (a' := ?_) #[true, true, true, true, true, true, true, true, true, true, true, true, true, true, true] rfl rfl (any_of HT_.out (by kernel_rfl)) (fun _ _ _ h => h) (Or.inl ⟨by rfl, ?_⟩) ?_ ?_
     rotate_left
     ·intro w'
      go_simp
      with_reducible rfl
     rotate_left
     ·simp only [Act.put, List.setIfInBounds_toArray, List.set_cons_zero, List.set_cons_succ, i64_w, i32_w]
      rfl
     refine done_ (done_of HT_.out (by kernel_rfl)) ?_
     go_upto_region 8 with (fail)
     go_cut [78] from 99999 (fun v78 wc => ∃ (kq : Nat) (x78_11 : Bool), v78 = .bool x78_11 ∧ Aside0 (laws_FnQueue.j0 kq l1 t354 t356 x78_11 t349 t352 t353 = some r) ∧ Aside0 (kq ≤ k) ∧ Aside0 (Kd.Q Kd.string 9 wc w.heap.size (fun _ => True) (.slice Ao15 t349.length co15) t349) ∧ Aside0 (wc.heap[gb355]? = some (.cells #[(.slice Ao15 t349.length co15), .int .i64 t352, .int .i64 t353] 29 (0, 0))) ∧ Aside0 (Below w.heap.size w wc))
     case first =>
      have H := HC12.out
      clear HC12
      by_cases c23 : t357 = true
      ·subst c23
       have H1 : (laws_FnQueue.j0 k l1 t354 t356 (decide ((wrap64 (t352 + t356)) ≤ 1000)) t349 t352 t353) = some r := by rw [if_pos rfl] at H; exact H
       clear H
       have H := H1
       clear H1
       have H' := Aside0.mk H
       clear H
       have hcz24_0 : w22.cell? ⟨gb355, 0, none⟩ = some (.slice Ao15 t349.length co15) := (lC BK355.out 0).trans rfl
       have hcz24_1 : w22.cell? ⟨gb355, 1, none⟩ = some (.int .i64 t352) := (lC BK355.out 1).trans rfl
       have hcz24_2 : w22.cell? ⟨gb355, 2, none⟩ = some (.int .i64 t353) := (lC BK355.out 2).trans rfl
       have hfz24_0 := lF BK355.out 0
       have hfz24_1 := lF BK355.out 1
       have hfz24_2 := lF BK355.out 2
       go_wp2
       go_meet
       case rel => exact ⟨_, (decide ((wrap64 (t352 + t356)) ≤ 1000)), (by first | rfl | (simp; done) | (simp [*]; done)), H', ⟨by first | omega | exact Nat.le_refl _⟩, ⟨Kd.Q_of_R (by (with_reducible repeat (first | apply rA | apply rN | apply rD)); exact HO351.out)⟩, ⟨by (with_reducible repeat (first | refine lN ?_ _ | refine lD ?_ | refine lA ?_ _)); exact BK355.out⟩, ⟨by repeat (first | (with_reducible first | exact HB.out | apply bA | apply bN | apply bD | refine bS ?_ GE355.out) | exact HB.out)⟩⟩
      ·replace c23 := fB c23
       subst c23
       have H1 : (laws_FnQueue.j0 k l1 t354 t356 false t349 t352 t353) = some r := by rw [if_neg (show ¬ (false = true) by decide)] at H; exact H
       clear H
       have H := H1
       clear H1
       have H' := Aside0.mk H
       clear H
       go_wp2
       go_meet
       case rel => exact ⟨_, (false), (by first | rfl | (simp; done) | (simp [*]; done)), H', ⟨by first | omega | exact Nat.le_refl _⟩, ⟨Kd.Q_of_R (by (with_reducible repeat (first | apply rA | apply rN | apply rD)); exact HO351.out)⟩, ⟨by (with_reducible repeat (first | refine lN ?_ _ | refine lD ?_ | refine lA ?_ _)); exact BK355.out⟩, ⟨by repeat (first | (with_reducible first | exact HB.out | apply bA | apply bN | apply bD | refine bS ?_ GE355.out) | exact HB.out)⟩⟩
     case rest =>
      clear HC12
      try clear c1
      try clear c2
      try clear p2
      try clear c3
      try clear c3b0
      try clear c4
      try clear p6
      try clear c7
      try clear c7b0
      try clear c7b1
      try clear c7b2
      try clear c8
      try clear c8b0
      try clear c8b1
      try clear c11
      try clear c11b0
      try clear c11b1
      try clear c11b2
      try clear c15
      try clear c16
      try clear c17
      try clear c18
      try clear c19
      try clear c23
      try clear hcz16_0
      try clear hcz16_1
      try clear hcz16_2
      try clear hcz18_0
      try clear hcz18_1
      try clear hcz18_2
      try clear hcz24_0
      try clear hcz24_1
      try clear hcz24_2
      try clear hfz16_0
      try clear hfz16_1
      try clear hfz16_2
      try clear hfz18_0
      try clear hfz18_1
      try clear hfz18_2
      try clear hfz24_0
      try clear hfz24_1
      try clear hfz24_2
      obtain ⟨kq, x78_11, rfl, HA, HJ11, HO_356000, BK355, HB⟩ := hcut
      cases kq with
      | zero => exact absurd HA.out (by simp [laws_FnQueue.j0])
      | succ kj11 =>
       have H := HA.out
       clear HA
       simp only [laws_FnQueue.j0] at H
       have HC25 := Aside0.mk H
       clear H
       go_upto_if 78 with (fail)
       go_cut [] from 99999 (fun wc => ∃ (kq : Nat), Aside0 (laws_FnQueue.j2 kq l1 = some r) ∧ Aside0 (kq ≤ kj11) ∧ Aside0 (Kd.Q Kd.string 9 wc w.heap.size (fun _ => True) (.slice Ao15 t349.length co15) t349) ∧ Aside0 (wc.heap[gb355]? = some (.cells #[(.slice Ao15 t349.length co15), .int .i64 t352, .int .i64 t353] 29 (0, 0))) ∧ Aside0 (Below w.heap.size w wc))
       case first =>
        have H := HC25.out
        clear HC25
        by_cases c26 : x78_11 = true
        ·subst c26
         have H1 : (laws_FnQueue.l0 kj11 l1 t354 t356 (⟨#[]⟩ : ByteArray) 0 t349 t352 t353) = some r := by rw [if_pos rfl] at H; exact H
         clear H
         have H := H1
         clear H1
         have H' := Aside0.mk H
         clear H
         have hcz27_0 : wc.cell? ⟨gb355, 0, none⟩ = some (.slice Ao15 t349.length co15) := (lC BK355.out 0).trans rfl
         have hcz27_1 : wc.cell? ⟨gb355, 1, none⟩ = some (.int .i64 t352) := (lC BK355.out 1).trans rfl
         have hcz27_2 : wc.cell? ⟨gb355, 2, none⟩ = some (.int .i64 t353) := (lC BK355.out 2).trans rfl
         have hfz27_0 := lF BK355.out 0
         have hfz27_1 := lF BK355.out 1
         have hfz27_2 := lF BK355.out 2
         go_wp2_with (first | ((with_reducible refine gate_dst (N := 11) rfl ?_); refine box_event ?hg (N := 11) ?hd (cs := #[.slice none 0 0, .int .i64 0, .int .i64 0]) (t := 29) ?hr ?_; (case hd => rfl); (case hg => rfl); (case hr => first | (go_simp; done) | (go_simp; rfl)); intro gb362 hg w28 hbox hb; have n0_ := Aside0.mk (zQ HO_356000.out hb); have n1_ := Aside0.mk (zB BK355.out hb); have n2_ := Aside0.mk (zS HB.out hb); have n3_ := Aside0.mk (hbox); have n4_ := Aside0.mk (zW hg HB.out); have n5_ := n4_; have n6_ := Aside0.mk (zL hg BK355.out); have n7_ := Aside0.mk (zG hg BK355.out); clear HO_356000; clear BK355; clear HB; have HO_356000 := n0_; have BK355 := n1_; have HB := n2_; have BK362 := n3_; have GW362 := n4_; have GE362 := n5_; have NB355_362 := n6_; have NB362_355 := n7_; clear n0_ n1_ n2_ n3_ n4_ n5_ n6_ n7_; clear hb hbox hg; have hnb29 := NB362_355.out; have hnc29 := NB355_362.out; have hcz30_0 : w28.cell? ⟨gb362, 0, none⟩ = some (.slice none 0 0) := (lC BK362.out 0).trans rfl; have hcz30_1 : w28.cell? ⟨gb362, 1, none⟩ = some (.int .i64 0) := (lC BK362.out 1).trans rfl; have hcz30_2 : w28.cell? ⟨gb362, 2, none⟩ = some (.int .i64 0) := (lC BK362.out 2).trans rfl; have hfz30_0 := lF BK362.out 0; have hfz30_1 := lF BK362.out 1; have hfz30_2 := lF BK362.out 2))
         go_loopg [12, 13] kj11 (fun kq v12 v13 w' => ∃ (x12_2 : ByteArray) (x13_2 : Int) (x363000_2 : List ByteArray) (x363001_2 : Int) (x363002_2 : Int) (u363000 : Value), v12 = .string x12_2 ∧ v13 = .int .i64 x13_2 ∧ Aside0 (laws_FnQueue.l0 kq l1 t354 t356 x12_2 x13_2 x363000_2 x363001_2 x363002_2 = some r) ∧ Aside0 (kq ≤ kj11) ∧ Aside0 (Kd.Q Kd.string 9 w' w.heap.size (fun _ => True) (.slice Ao15 t349.length co15) t349) ∧ Aside0 (Kd.Q Kd.string 9 w' w.heap.size (fun _ => True) u363000 x363000_2) ∧ Aside0 (w'.heap[gb355]? = some (.cells #[(.slice Ao15 t349.length co15), .int .i64 t352, .int .i64 t353] 29 (0, 0))) ∧ Aside0 (w'.heap[gb362]? = some (.cells #[u363000, .int .i64 x363001_2, .int .i64 x363002_2] 29 (0, 0))) ∧ Aside0 (Below w.heap.size w w'))
         case atStart => exact ⟨((⟨#[]⟩ : ByteArray)), (0), (t349), (t352), (t353), (.slice Ao15 t349.length co15), (by first | rfl | (simp; done) | (simp [*]; done)), (by first | rfl | (simp; done) | (simp [*]; done)), H', ⟨Nat.le_refl _⟩, ⟨by (with_reducible repeat (first | apply qA | apply qN | apply qD)); exact Kd.Q_mono (Kd.Q_far (p := ⟨gb362, 2, none⟩) (Kd.Q_far (p := ⟨gb362, 1, none⟩) (Kd.Q_far (p := ⟨gb362, 0, none⟩) (Kd.Q_types HO_356000.out BK362.out (by decide)) (fun _ hk => hk.2) (.slice Ao15 t349.length co15)) (fun _ hk => hk.2) (.int .i64 t352)) (fun _ hk => hk.2) (.int .i64 t353)) (fun _ hk => trivial)⟩, ⟨by (with_reducible repeat (first | apply qA | apply qN | apply qD)); exact Kd.Q_mono (Kd.Q_far (p := ⟨gb362, 2, none⟩) (Kd.Q_far (p := ⟨gb362, 1, none⟩) (Kd.Q_far (p := ⟨gb362, 0, none⟩) (Kd.Q_types HO_356000.out BK362.out (by decide)) (fun _ hk => hk.2) (.slice Ao15 t349.length co15)) (fun _ hk => hk.2) (.int .i64 t352)) (fun _ hk => hk.2) (.int .i64 t353)) (fun _ hk => trivial)⟩, ⟨by (with_reducible repeat (first | refine lN ?_ _ | refine lD ?_ | refine lA ?_ _)); refine lX ?_ NB355_362.out _; (with_reducible repeat (first | refine lN ?_ _ | refine lD ?_ | refine lA ?_ _)); refine lX ?_ NB355_362.out _; (with_reducible repeat (first | refine lN ?_ _ | refine lD ?_ | refine lA ?_ _)); refine lX ?_ NB355_362.out _; (with_reducible repeat (first | refine lN ?_ _ | refine lD ?_ | refine lA ?_ _)); exact BK355.out⟩, ⟨by (with_reducible repeat (first | refine lN ?_ _ | refine lD ?_ | refine lA ?_ _)); refine lP (cs := #[.slice Ao15 t349.length co15, .int .i64 t352, .int .i64 0]) ?_ 2 _ rfl; (with_reducible repeat (first | refine lN ?_ _ | refine lD ?_ | refine lA ?_ _)); refine lP (cs := #[.slice Ao15 t349.length co15, .int .i64 0, .int .i64 0]) ?_ 1 _ rfl; (with_reducible repeat (first | refine lN ?_ _ | refine lD ?_ | refine lA ?_ _)); refine lP (cs := #[.slice none 0 0, .int .i64 0, .int .i64 0]) ?_ 0 _ rfl; (with_reducible repeat (first | refine lN ?_ _ | refine lD ?_ | refine lA ?_ _)); exact BK362.out⟩, ⟨by repeat (first | (with_reducible first | exact HB.out | apply bA | apply bN | apply bD | refine bS ?_ GE355.out | refine bS ?_ GE362.out) | exact HB.out)⟩⟩
         case round =>
          clear H'
          try clear c1
          try clear c2
          try clear p2
          try clear c3
          try clear c3b0
          try clear c4
          try clear p6
          try clear c7
          try clear c7b0
          try clear c7b1
          try clear c7b2
          try clear c8
          try clear c8b0
          try clear c8b1
          try clear c11
          try clear c11b0
          try clear c11b1
          try clear c11b2
          try clear c15
          try clear c16
          try clear c17
          try clear c18
          try clear c19
          try clear c23
          try clear c26
          try clear c29
          try clear hcz16_0
          try clear hcz16_1
          try clear hcz16_2
          try clear hcz18_0
          try clear hcz18_1
          try clear hcz18_2
          try clear hcz24_0
          try clear hcz24_1
          try clear hcz24_2
          try clear hcz27_0
          try clear hcz27_1
          try clear hcz27_2
          try clear hcz30_0
          try clear hcz30_1
          try clear hcz30_2
          try clear hfz16_0
          try clear hfz16_1
          try clear hfz16_2
          try clear hfz18_0
          try clear hfz18_1
          try clear hfz18_2
          try clear hfz24_0
          try clear hfz24_1
          try clear hfz24_2
          try clear hfz27_0
          try clear hfz27_1
          try clear hfz27_2
          try clear hfz30_0
          try clear hfz30_1
          try clear hfz30_2
          try clear p2
          try clear p6
          obtain ⟨x12_2, x13_2, x363000_2, x363001_2, x363002_2, u363000, rfl, rfl, HA, HK2, HO_356000, HO_363000, BK355, BK362, HB⟩ := hrel
          cases gk with
          | zero => exact absurd HA.out (by simp [laws_FnQueue.l0])
          | succ k2 =>
           have H := HA.out
           clear HA
           simp only [laws_FnQueue.l0] at H
           by_cases c31 : x13_2 < t356
           ·rw [if_pos c31] at H
            have c31b0 : decide (x13_2 < t356) = true := decide_eq_true c31
            clear c31
            (first | rw [c31b0] | (simp only [i64_w, i32_w]; rw [c31b0]) | skip)
            replace H := oB H
            obtain ⟨⟨t363, t366, t367, t368, t369, t370, t371, t372⟩, A320, H⟩ := H
            replace H : (if t372 = true then (if x363002_2 = 0 then (none) else (if t369 = (Int.tmod x363001_2 x363002_2) then (if t366 = (wrap64 (x363001_2 + 1)) then (if x13_2 < (wrap64 (t356 - 1)) then (if t371.toList = t354.toList then (some false) else (laws_FnQueue.l0 k2 l1 t354 t356 t371 (wrap64 (x13_2 + 1)) t363 t366 t367)) else (laws_FnQueue.l0 k2 l1 t354 t356 t371 (wrap64 (x13_2 + 1)) t363 t366 t367)) else (some false)) else (some false))) else (some false)) = some r := H
            have A32 := Aside0.mk A320
            clear A320
            by_cases c33 : t372 = true
            ·subst c33
             have H1 : (if x363002_2 = 0 then (none) else (if t369 = (Int.tmod x363001_2 x363002_2) then (if t366 = (wrap64 (x363001_2 + 1)) then (if x13_2 < (wrap64 (t356 - 1)) then (if t371.toList = t354.toList then (some false) else (laws_FnQueue.l0 k2 l1 t354 t356 t371 (wrap64 (x13_2 + 1)) t363 t366 t367)) else (laws_FnQueue.l0 k2 l1 t354 t356 t371 (wrap64 (x13_2 + 1)) t363 t366 t367)) else (some false)) else (some false))) = some r := by rw [if_pos rfl] at H; exact H
             clear H
             have H := H1
             clear H1
             by_cases c34 : x363002_2 = 0
             ·rw [if_pos c34] at H
              exact absurd H (by simp)
             ·rw [if_neg c34] at H
              have c34b0 : (x363002_2 == 0) = false := beq_eq_false_iff_ne.mpr c34
              have c34b1 : (x363002_2 != 0) = true := bne_iff_ne.mpr c34
              by_cases c35 : t369 = (Int.tmod x363001_2 x363002_2)
              ·rw [if_pos c35] at H
               have c35b0 : (t369 == (Int.tmod x363001_2 x363002_2)) = true := beq_iff_eq.mpr c35
               have c35b1 : (t369 != (Int.tmod x363001_2 x363002_2)) = false := bne_eq_false_iff_eq.mpr c35
               clear c35
               by_cases c36 : t366 = (wrap64 (x363001_2 + 1))
               ·rw [if_pos c36] at H
                have c36b0 : (t366 == (wrap64 (x363001_2 + 1))) = true := beq_iff_eq.mpr c36
                have c36b1 : (t366 != (wrap64 (x363001_2 + 1))) = false := bne_eq_false_iff_eq.mpr c36
                clear c36
                by_cases c37 : x13_2 < (wrap64 (t356 - 1))
                ·rw [if_pos c37] at H
                 have c37b0 : decide (x13_2 < (wrap64 (t356 - 1))) = true := decide_eq_true c37
                 clear c37
                 by_cases c38 : t371.toList = t354.toList
                 ·rw [if_pos c38] at H
                  have c38b0 : (t371.toList == t354.toList) = true := beq_iff_eq.mpr c38
                  have c38b1 : (t371.toList != t354.toList) = false := bne_eq_false_iff_eq.mpr c38
                  clear c38
                  obtain rfl := Option.some.inj H
                  exact absurd hr_.out (by simp)
                 ·rw [if_neg c38] at H
                  have c38b0 : (t371.toList == t354.toList) = false := beq_eq_false_iff_ne.mpr c38
                  have c38b1 : (t371.toList != t354.toList) = true := bne_iff_ne.mpr c38
                  have H' := Aside0.mk H
                  clear H
                  have hnb39 := NB362_355.out
                  have hnc39 := NB355_362.out
                  have hcz40_0 : wr.cell? ⟨gb362, 0, none⟩ = some (u363000) := (lC BK362.out 0).trans rfl
                  have hcz40_1 : wr.cell? ⟨gb362, 1, none⟩ = some (.int .i64 x363001_2) := (lC BK362.out 1).trans rfl
                  have hcz40_2 : wr.cell? ⟨gb362, 2, none⟩ = some (.int .i64 x363002_2) := (lC BK362.out 2).trans rfl
                  have hfz40_0 := lF BK362.out 0
                  have hfz40_1 := lF BK362.out 1
                  have hfz40_2 := lF BK362.out 2
                  obtain ⟨Ao41, co41, eo41, _⟩ := Kd.Q_slice HO_363000.out
                  subst eo41
                  try go_wp2_with (first | ((with_reducible refine gate_callee (f := 10) rfl ?_); refine goesL_ (some 88) rfl rfl Try.func10 (by kernel_rfl) rfl #[.agg #[.slice Ao41 x363000_2.length co41, .int .i64 x363001_2, .int .i64 x363002_2], .agg #[.int .i64 2, .string (⟨#[]⟩ : ByteArray)]] rfl (by (try simp only [List.map_toArray, List.map_cons, List.map_nil]); first | done | rfl | (simp only [List.length_drop, List.length_take]; rfl)) ?_; (with_reducible refine (impl_StepClient.calls k2 _ _ x363000_2 x363001_2 x363002_2 2 (⟨#[]⟩ : ByteArray) t363 t366 t367 t368 t369 t370 t371 true _ ?side1 ?side2 A32.out).mono ?_); (case side1 => repeat (first | exact (Kd.Q_reads' HO_363000.out).2.2 | (with_reducible first | refine cA ?_ _ | refine cN ?_ _ | refine cD ?_))); (case side2 => exact (Kd.Q_reads' HO_363000.out).2.1); rintro e w42 ⟨v364, rfl, ho0, hb⟩; refine ⟨_, rfl, ?_⟩; have n0_ := Aside0.mk (Kd.Q_elder' (by (with_reducible repeat (first | apply qA | apply qN | apply qD)); exact HO_356000.out) (Kd.Q_base ho0) hb); have n1_ := Aside0.mk (Kd.Q_elder' (by (with_reducible repeat (first | apply qA | apply qN | apply qD)); exact HO_363000.out) (Kd.Q_base ho0) hb); have n2_ := Aside0.mk (Kd.Q_lower (Kd.Q_new' (Kd.Q_new' ho0 (Kd.Q_lt (by (with_reducible repeat (first | apply qA | apply qN | apply qD)); exact HO_356000.out))) (Kd.Q_lt (by (with_reducible repeat (first | apply qA | apply qN | apply qD)); exact HO_363000.out))) (zV HB.out)); have n3_ := Aside0.mk (zB BK355.out hb); have n4_ := Aside0.mk (zB BK362.out hb); have n5_ := Aside0.mk (zS HB.out hb); clear HO_356000; clear HO_363000; clear BK355; clear BK362; clear HB; have HO_356000 := n0_; have HO_363000 := n1_; have HO365 := n2_; have BK355 := n3_; have BK362 := n4_; have HB := n5_; clear n0_ n1_ n2_ n3_ n4_ n5_; (try clear hb); (try clear hb2); (try clear hk); (try clear hi); (try clear ho0)) | ((with_reducible refine gate_dst (N := 14) rfl ?_); refine box_event ?hg (N := 14) ?hd (cs := #[.slice none 0 0, .int .i64 0, .int .i64 0]) (t := 29) ?hr ?_; (case hd => rfl); (case hg => rfl); (case hr => first | (go_simp; done) | (go_simp; rfl)); intro gb373 hg w43 hbox hb; have n0_ := Aside0.mk (zQ HO_356000.out hb); have n1_ := Aside0.mk (zQ HO_363000.out hb); have n2_ := Aside0.mk (zQ HO365.out hb); have n3_ := Aside0.mk (zB BK355.out hb); have n4_ := Aside0.mk (zB BK362.out hb); have n5_ := Aside0.mk (zS HB.out hb); have n6_ := Aside0.mk (hbox); have n7_ := Aside0.mk (zW hg HB.out); have n8_ := n7_; have n9_ := Aside0.mk (zL hg BK355.out); have n10_ := Aside0.mk (zG hg BK355.out); have n11_ := Aside0.mk (zL hg BK362.out); have n12_ := Aside0.mk (zG hg BK362.out); clear HO_356000; clear HO_363000; clear HO365; clear BK355; clear BK362; clear HB; have HO_356000 := n0_; have HO_363000 := n1_; have HO365 := n2_; have BK355 := n3_; have BK362 := n4_; have HB := n5_; have BK373 := n6_; have GW373 := n7_; have GE373 := n8_; have NB355_373 := n9_; have NB373_355 := n10_; have NB362_373 := n11_; have NB373_362 := n12_; clear n0_ n1_ n2_ n3_ n4_ n5_ n6_ n7_ n8_ n9_ n10_ n11_ n12_; clear hb hbox hg) | ((with_reducible refine gate_dst (N := 15) rfl ?_); refine box_event ?hg (N := 15) ?hd (cs := #[.int .i64 0, .int .i64 0, .int .i64 0]) (t := 31) ?hr ?_; (case hd => rfl); (case hg => rfl); (case hr => first | (go_simp; done) | (go_simp; rfl)); intro gb374 hg w44 hbox hb; have n0_ := Aside0.mk (zQ HO_356000.out hb); have n1_ := Aside0.mk (zQ HO_363000.out hb); have n2_ := Aside0.mk (zQ HO365.out hb); have n3_ := Aside0.mk (zB BK355.out hb); have n4_ := Aside0.mk (zB BK362.out hb); have n5_ := Aside0.mk (zB BK373.out hb); have n6_ := Aside0.mk (zS HB.out hb); have n7_ := Aside0.mk (hbox); have n8_ := Aside0.mk (zW hg HB.out); have n9_ := n8_; have n10_ := Aside0.mk (zL hg BK355.out); have n11_ := Aside0.mk (zG hg BK355.out); have n12_ := Aside0.mk (zL hg BK362.out); have n13_ := Aside0.mk (zG hg BK362.out); have n14_ := Aside0.mk (zL hg BK373.out); have n15_ := Aside0.mk (zG hg BK373.out); clear HO_356000; clear HO_363000; clear HO365; clear BK355; clear BK362; clear BK373; clear HB; have HO_356000 := n0_; have HO_363000 := n1_; have HO365 := n2_; have BK355 := n3_; have BK362 := n4_; have BK373 := n5_; have HB := n6_; have BK374 := n7_; have GW374 := n8_; have GE374 := n9_; have NB355_374 := n10_; have NB374_355 := n11_; have NB362_374 := n12_; have NB374_362 := n13_; have NB373_374 := n14_; have NB374_373 := n15_; clear n0_ n1_ n2_ n3_ n4_ n5_ n6_ n7_ n8_ n9_ n10_ n11_ n12_ n13_ n14_ n15_; clear hb hbox hg; obtain ⟨Ao45, co45, eo45, _⟩ := Kd.Q_slice HO365.out; subst eo45; have hnb46 := NB373_355.out; have hnc46 := NB355_373.out; have hnb47 := NB373_362.out; have hnc47 := NB362_373.out; have hnb48 := NB373_374.out; have hnc48 := NB374_373.out; have hcz49_0 : w44.cell? ⟨gb373, 0, none⟩ = some (.slice none 0 0) := (lC BK373.out 0).trans rfl; have hcz49_1 : w44.cell? ⟨gb373, 1, none⟩ = some (.int .i64 0) := (lC BK373.out 1).trans rfl; have hcz49_2 : w44.cell? ⟨gb373, 2, none⟩ = some (.int .i64 0) := (lC BK373.out 2).trans rfl; have hfz49_0 := lF BK373.out 0; have hfz49_1 := lF BK373.out 1; have hfz49_2 := lF BK373.out 2; have hnb50 := NB374_355.out; have hnc50 := NB355_374.out; have hnb51 := NB374_362.out; have hnc51 := NB362_374.out; have hcz52_0 : w44.cell? ⟨gb374, 0, none⟩ = some (.int .i64 0) := (lC BK374.out 0).trans rfl; have hcz52_1 : w44.cell? ⟨gb374, 1, none⟩ = some (.int .i64 0) := (lC BK374.out 1).trans rfl; have hcz52_2 : w44.cell? ⟨gb374, 2, none⟩ = some (.int .i64 0) := (lC BK374.out 2).trans rfl; have hfz52_0 := lF BK374.out 0; have hfz52_1 := lF BK374.out 1; have hfz52_2 := lF BK374.out 2))
                  have n0_ : Aside0 (Kd.Q Kd.string 9 ((((((w44.setCell ⟨gb373, 0, none⟩ (.slice Ao45 t363.length co45)).setCell ⟨gb373, 1, none⟩ (.int .i64 t366)).setCell ⟨gb373, 2, none⟩ (.int .i64 t367)).setCell ⟨gb374, 0, none⟩ (.int .i64 t368)).setCell ⟨gb374, 1, none⟩ (.int .i64 t369)).setCell ⟨gb374, 2, none⟩ (.int .i64 t370)) w.heap.size (fun k_ => some k_ ≠ (.slice Ao45 t363.length co45 : Value).ownBlock) (.slice Ao15 t349.length co15) t349) := ⟨by (with_reducible repeat (first | apply qA | apply qN | apply qD)); exact Kd.Q_mono (Kd.Q_far (p := ⟨gb374, 2, none⟩) (Kd.Q_far (p := ⟨gb374, 1, none⟩) (Kd.Q_far (p := ⟨gb374, 0, none⟩) (Kd.Q_far (p := ⟨gb373, 2, none⟩) (Kd.Q_far (p := ⟨gb373, 1, none⟩) (Kd.Q_far (p := ⟨gb373, 0, none⟩) (Kd.Q_types (Kd.Q_types HO_356000.out BK373.out (by decide)) BK374.out (by decide)) (fun _ hk => hk.1.2) (.slice Ao45 t363.length co45)) (fun _ hk => hk.1.2) (.int .i64 t366)) (fun _ hk => hk.1.2) (.int .i64 t367)) (fun _ hk => hk.2) (.int .i64 t368)) (fun _ hk => hk.2) (.int .i64 t369)) (fun _ hk => hk.2) (.int .i64 t370)) (fun _ hk => hk.1.1.2)⟩
                  have n1_ : Aside0 (Kd.Q Kd.string 9 ((((((w44.setCell ⟨gb373, 0, none⟩ (.slice Ao45 t363.length co45)).setCell ⟨gb373, 1, none⟩ (.int .i64 t366)).setCell ⟨gb373, 2, none⟩ (.int .i64 t367)).setCell ⟨gb374, 0, none⟩ (.int .i64 t368)).setCell ⟨gb374, 1, none⟩ (.int .i64 t369)).setCell ⟨gb374, 2, none⟩ (.int .i64 t370)) w.heap.size (fun k_ => some k_ ≠ (.slice Ao45 t363.length co45 : Value).ownBlock) (.slice Ao41 x363000_2.length co41) x363000_2) := ⟨by (with_reducible repeat (first | apply qA | apply qN | apply qD)); exact Kd.Q_mono (Kd.Q_far (p := ⟨gb374, 2, none⟩) (Kd.Q_far (p := ⟨gb374, 1, none⟩) (Kd.Q_far (p := ⟨gb374, 0, none⟩) (Kd.Q_far (p := ⟨gb373, 2, none⟩) (Kd.Q_far (p := ⟨gb373, 1, none⟩) (Kd.Q_far (p := ⟨gb373, 0, none⟩) (Kd.Q_types (Kd.Q_types HO_363000.out BK373.out (by decide)) BK374.out (by decide)) (fun _ hk => hk.1.2) (.slice Ao45 t363.length co45)) (fun _ hk => hk.1.2) (.int .i64 t366)) (fun _ hk => hk.1.2) (.int .i64 t367)) (fun _ hk => hk.2) (.int .i64 t368)) (fun _ hk => hk.2) (.int .i64 t369)) (fun _ hk => hk.2) (.int .i64 t370)) (fun _ hk => hk.1.1.2)⟩
                  have n2_ : Aside0 (Kd.Q Kd.string 9 ((((((w44.setCell ⟨gb373, 0, none⟩ (.slice Ao45 t363.length co45)).setCell ⟨gb373, 1, none⟩ (.int .i64 t366)).setCell ⟨gb373, 2, none⟩ (.int .i64 t367)).setCell ⟨gb374, 0, none⟩ (.int .i64 t368)).setCell ⟨gb374, 1, none⟩ (.int .i64 t369)).setCell ⟨gb374, 2, none⟩ (.int .i64 t370)) w.heap.size (fun k_ => some k_ ≠ (.slice Ao15 t349.length co15 : Value).ownBlock ∧ some k_ ≠ (.slice Ao41 x363000_2.length co41 : Value).ownBlock) (.slice Ao45 t363.length co45) t363) := ⟨by (with_reducible repeat (first | apply qA | apply qN | apply qD)); exact Kd.Q_mono (Kd.Q_far (p := ⟨gb374, 2, none⟩) (Kd.Q_far (p := ⟨gb374, 1, none⟩) (Kd.Q_far (p := ⟨gb374, 0, none⟩) (Kd.Q_far (p := ⟨gb373, 2, none⟩) (Kd.Q_far (p := ⟨gb373, 1, none⟩) (Kd.Q_far (p := ⟨gb373, 0, none⟩) (Kd.Q_types (Kd.Q_types HO365.out BK373.out (by decide)) BK374.out (by decide)) (fun _ hk => hk.1.2) (.slice Ao45 t363.length co45)) (fun _ hk => hk.1.2) (.int .i64 t366)) (fun _ hk => hk.1.2) (.int .i64 t367)) (fun _ hk => hk.2) (.int .i64 t368)) (fun _ hk => hk.2) (.int .i64 t369)) (fun _ hk => hk.2) (.int .i64 t370)) (fun _ hk => ⟨hk.1.1.1.2, hk.1.1.2⟩)⟩
                  have n3_ : Aside0 (((((((w44.setCell ⟨gb373, 0, none⟩ (.slice Ao45 t363.length co45)).setCell ⟨gb373, 1, none⟩ (.int .i64 t366)).setCell ⟨gb373, 2, none⟩ (.int .i64 t367)).setCell ⟨gb374, 0, none⟩ (.int .i64 t368)).setCell ⟨gb374, 1, none⟩ (.int .i64 t369)).setCell ⟨gb374, 2, none⟩ (.int .i64 t370)).heap[gb355]? = some (.cells #[.slice Ao15 t349.length co15, .int .i64 t352, .int .i64 t353] 29 (0, 0))) := ⟨by (with_reducible repeat (first | refine lN ?_ _ | refine lD ?_ | refine lA ?_ _)); refine lX ?_ NB355_374.out _; (with_reducible repeat (first | refine lN ?_ _ | refine lD ?_ | refine lA ?_ _)); refine lX ?_ NB355_374.out _; (with_reducible repeat (first | refine lN ?_ _ | refine lD ?_ | refine lA ?_ _)); refine lX ?_ NB355_374.out _; (with_reducible repeat (first | refine lN ?_ _ | refine lD ?_ | refine lA ?_ _)); refine lX ?_ NB355_373.out _; (with_reducible repeat (first | refine lN ?_ _ | refine lD ?_ | refine lA ?_ _)); refine lX ?_ NB355_373.out _; (with_reducible repeat (first | refine lN ?_ _ | refine lD ?_ | refine lA ?_ _)); refine lX ?_ NB355_373.out _; (with_reducible repeat (first | refine lN ?_ _ | refine lD ?_ | refine lA ?_ _)); exact BK355.out⟩
                  have n4_ : Aside0 (((((((w44.setCell ⟨gb373, 0, none⟩ (.slice Ao45 t363.length co45)).setCell ⟨gb373, 1, none⟩ (.int .i64 t366)).setCell ⟨gb373, 2, none⟩ (.int .i64 t367)).setCell ⟨gb374, 0, none⟩ (.int .i64 t368)).setCell ⟨gb374, 1, none⟩ (.int .i64 t369)).setCell ⟨gb374, 2, none⟩ (.int .i64 t370)).heap[gb362]? = some (.cells #[.slice Ao41 x363000_2.length co41, .int .i64 x363001_2, .int .i64 x363002_2] 29 (0, 0))) := ⟨by (with_reducible repeat (first | refine lN ?_ _ | refine lD ?_ | refine lA ?_ _)); refine lX ?_ NB362_374.out _; (with_reducible repeat (first | refine lN ?_ _ | refine lD ?_ | refine lA ?_ _)); refine lX ?_ NB362_374.out _; (with_reducible repeat (first | refine lN ?_ _ | refine lD ?_ | refine lA ?_ _)); refine lX ?_ NB362_374.out _; (with_reducible repeat (first | refine lN ?_ _ | refine lD ?_ | refine lA ?_ _)); refine lX ?_ NB362_373.out _; (with_reducible repeat (first | refine lN ?_ _ | refine lD ?_ | refine lA ?_ _)); refine lX ?_ NB362_373.out _; (with_reducible repeat (first | refine lN ?_ _ | refine lD ?_ | refine lA ?_ _)); refine lX ?_ NB362_373.out _; (with_reducible repeat (first | refine lN ?_ _ | refine lD ?_ | refine lA ?_ _)); exact BK362.out⟩
                  have n5_ : Aside0 (((((((w44.setCell ⟨gb373, 0, none⟩ (.slice Ao45 t363.length co45)).setCell ⟨gb373, 1, none⟩ (.int .i64 t366)).setCell ⟨gb373, 2, none⟩ (.int .i64 t367)).setCell ⟨gb374, 0, none⟩ (.int .i64 t368)).setCell ⟨gb374, 1, none⟩ (.int .i64 t369)).setCell ⟨gb374, 2, none⟩ (.int .i64 t370)).heap[gb373]? = some (.cells #[.slice Ao45 t363.length co45, .int .i64 t366, .int .i64 t367] 29 (0, 0))) := ⟨by (with_reducible repeat (first | refine lN ?_ _ | refine lD ?_ | refine lA ?_ _)); refine lX ?_ NB373_374.out _; (with_reducible repeat (first | refine lN ?_ _ | refine lD ?_ | refine lA ?_ _)); refine lX ?_ NB373_374.out _; (with_reducible repeat (first | refine lN ?_ _ | refine lD ?_ | refine lA ?_ _)); refine lX ?_ NB373_374.out _; (with_reducible repeat (first | refine lN ?_ _ | refine lD ?_ | refine lA ?_ _)); refine lP (cs := #[.slice Ao45 t363.length co45, .int .i64 t366, .int .i64 0]) ?_ 2 _ rfl; (with_reducible repeat (first | refine lN ?_ _ | refine lD ?_ | refine lA ?_ _)); refine lP (cs := #[.slice Ao45 t363.length co45, .int .i64 0, .int .i64 0]) ?_ 1 _ rfl; (with_reducible repeat (first | refine lN ?_ _ | refine lD ?_ | refine lA ?_ _)); refine lP (cs := #[.slice none 0 0, .int .i64 0, .int .i64 0]) ?_ 0 _ rfl; (with_reducible repeat (first | refine lN ?_ _ | refine lD ?_ | refine lA ?_ _)); exact BK373.out⟩
                  have n6_ : Aside0 (((((((w44.setCell ⟨gb373, 0, none⟩ (.slice Ao45 t363.length co45)).setCell ⟨gb373, 1, none⟩ (.int .i64 t366)).setCell ⟨gb373, 2, none⟩ (.int .i64 t367)).setCell ⟨gb374, 0, none⟩ (.int .i64 t368)).setCell ⟨gb374, 1, none⟩ (.int .i64 t369)).setCell ⟨gb374, 2, none⟩ (.int .i64 t370)).heap[gb374]? = some (.cells #[.int .i64 t368, .int .i64 t369, .int .i64 t370] 31 (0, 0))) := ⟨by (with_reducible repeat (first | refine lN ?_ _ | refine lD ?_ | refine lA ?_ _)); refine lP (cs := #[.int .i64 t368, .int .i64 t369, .int .i64 0]) ?_ 2 _ rfl; (with_reducible repeat (first | refine lN ?_ _ | refine lD ?_ | refine lA ?_ _)); refine lP (cs := #[.int .i64 t368, .int .i64 0, .int .i64 0]) ?_ 1 _ rfl; (with_reducible repeat (first | refine lN ?_ _ | refine lD ?_ | refine lA ?_ _)); refine lP (cs := #[.int .i64 0, .int .i64 0, .int .i64 0]) ?_ 0 _ rfl; (with_reducible repeat (first | refine lN ?_ _ | refine lD ?_ | refine lA ?_ _)); refine lX ?_ NB374_373.out _; (with_reducible repeat (first | refine lN ?_ _ | refine lD ?_ | refine lA ?_ _)); refine lX ?_ NB374_373.out _; (with_reducible repeat (first | refine lN ?_ _ | refine lD ?_ | refine lA ?_ _)); refine lX ?_ NB374_373.out _; (with_reducible repeat (first | refine lN ?_ _ | refine lD ?_ | refine lA ?_ _)); exact BK374.out⟩
                  have n7_ : Aside0 (Below w.heap.size w ((((((w44.setCell ⟨gb373, 0, none⟩ (.slice Ao45 t363.length co45)).setCell ⟨gb373, 1, none⟩ (.int .i64 t366)).setCell ⟨gb373, 2, none⟩ (.int .i64 t367)).setCell ⟨gb374, 0, none⟩ (.int .i64 t368)).setCell ⟨gb374, 1, none⟩ (.int .i64 t369)).setCell ⟨gb374, 2, none⟩ (.int .i64 t370))) := ⟨by repeat (first | (with_reducible first | exact HB.out | apply bA | apply bN | apply bD | refine bS ?_ GE355.out | refine bS ?_ GE362.out | refine bS ?_ GE373.out | refine bS ?_ GE374.out) | exact HB.out)⟩
                  (try clear HO_356000)
                  (try clear HO_363000)
                  (try clear HO365)
                  (try clear BK355)
                  (try clear BK362)
                  (try clear BK373)
                  (try clear BK374)
                  (try clear HB)
                  have sd_ : ∀ (w_ : World) (n_ : Nat) (a_ : Addr) (v_ : Value), (w_.drewN n_).setCell a_ v_ = (w_.setCell a_ v_).drewN n_ := fun _ _ _ _ => rfl
                  (repeat rw [sd_])
                  clear sd_
                  generalize ((((((w44.setCell ⟨gb373, 0, none⟩ (.slice Ao45 t363.length co45)).setCell ⟨gb373, 1, none⟩ (.int .i64 t366)).setCell ⟨gb373, 2, none⟩ (.int .i64 t367)).setCell ⟨gb374, 0, none⟩ (.int .i64 t368)).setCell ⟨gb374, 1, none⟩ (.int .i64 t369)).setCell ⟨gb374, 2, none⟩ (.int .i64 t370)) = w53 at n0_ n1_ n2_ n3_ n4_ n5_ n6_ n7_ ⊢
                  have HO_356000 := n0_
                  have HO_363000 := n1_
                  have HO365 := n2_
                  have BK355 := n3_
                  have BK362 := n4_
                  have BK373 := n5_
                  have BK374 := n6_
                  have HB := n7_
                  clear n0_ n1_ n2_ n3_ n4_ n5_ n6_ n7_
                  have n0_ := Aside0.mk (qD HO_356000.out)
                  have n1_ := Aside0.mk (qD HO_363000.out)
                  have n2_ := Aside0.mk (qD HO365.out)
                  have n3_ := Aside0.mk (lD BK355.out)
                  have n4_ := Aside0.mk (lD BK362.out)
                  have n5_ := Aside0.mk (lD BK373.out)
                  have n6_ := Aside0.mk (lD BK374.out)
                  have n7_ := Aside0.mk (bD HB.out)
                  clear HO_356000
                  clear HO_363000
                  clear HO365
                  clear BK355
                  clear BK362
                  clear BK373
                  clear BK374
                  clear HB
                  have HO_356000 := n0_
                  have HO_363000 := n1_
                  have HO365 := n2_
                  have BK355 := n3_
                  have BK362 := n4_
                  have BK373 := n5_
                  have BK374 := n6_
                  have HB := n7_
                  clear n0_ n1_ n2_ n3_ n4_ n5_ n6_ n7_
                  refine start_ (n := 31) (S := fun w' => w'.cell? ⟨gb374, 0, none⟩ = some (.int .i64 t368) ∧ w'.cell? ⟨gb374, 1, none⟩ = some (.int .i64 t369) ∧ w'.cell? ⟨gb374, 2, none⟩ = some (.int .i64 t370) ∧ w'.cell? ⟨gb362, 0, none⟩ = some (.slice Ao41 x363000_2.length co41) ∧ w'.cell? ⟨gb362, 1, none⟩ = some (.int .i64 x363001_2) ∧ w'.cell? ⟨gb362, 2, none⟩ = some (.int .i64 x363002_2) ∧ w'.cell? ⟨gb373, 0, none⟩ = some (.slice Ao45 t363.length co45) ∧ w'.cell? ⟨gb373, 1, none⟩ = some (.int .i64 t366) ∧ w'.cell? ⟨gb373, 2, none⟩ = some (.int .i64 t367)) (ds := []) #[false, false, false, false, false, false, false, false, false, false, false, false, false, false, false, false, false, false, false, false, false, false, false, false, false, false, false, false, false, false, false] (by kernel_rfl) rfl rfl ⟨(lC BK374.out 0).trans rfl, (lC BK374.out 1).trans rfl, (lC BK374.out 2).trans rfl, (lC BK362.out 0).trans rfl, (lC BK362.out 1).trans rfl, (lC BK362.out 2).trans rfl, (lC BK373.out 0).trans rfl, (lC BK373.out 1).trans rfl, (lC BK373.out 2).trans rfl⟩ (fun hHeld => ?_); refine with_tabW laws_FnQueue.tab15 laws_FnQueue.bits15 (fun HT_ HW_ => ?_)
                  generalize w53.drew = w54 at HO_356000 HO_363000 HO365 BK355 BK362 BK373 BK374 HB hHeld ⊢
                  refine pure_ (i := 0) (N := some 93) (v := ?_) (a' := ?_) #[true, false, false, false, false, false, false, false, false, false, false, false, false, false, false, false, false, false, false, false, false, false, false, false, false, false, false, false, false, false, false] rfl rfl (any_of HT_.out (by kernel_rfl)) (fun _ _ _ h => h) (Or.inl ⟨by rfl, ?_⟩) ?_ ?_
                  rotate_left
                  ·intro w'
                   go_simp
                   with_reducible rfl
                  rotate_left
                  ·simp only [Act.put, List.setIfInBounds_toArray, List.set_cons_zero, List.set_cons_succ, i64_w, i32_w]
                   rfl
                  refine pure_ (i := 1) (N := some 94) (v := ?_) (a' := ?_) #[true, true, false, false, false, false, false, false, false, false, false, false, false, false, false, false, false, false, false, false, false, false, false, false, false, false, false, false, false, false, false] rfl rfl (any_of HT_.out (by kernel_rfl)) (fun _ _ _ h => h) (Or.inl ⟨by rfl, ?_⟩) ?_ ?_
                  rotate_left
                  ·intro w'
                   go_simp
                   with_reducible rfl
                  rotate_left
                  ·simp only [Act.put, List.setIfInBounds_toArray, List.set_cons_zero, List.set_cons_succ, i64_w, i32_w]
                   rfl
                  refine pure_ (i := 2) (N := some 95) (v := ?_) (a' := ?_) #[true, true, true, false, false, false, false, false, false, false, false, false, false, false, false, false, false, false, false, false, false, false, false, false, false, false, false, false, false, false, false] rfl rfl (any_of HT_.out (by kernel_rfl)) (fun _ _ _ h => h) (Or.inl ⟨by rfl, ?_⟩) ?_ ?_
                  rotate_left
                  ·intro w'
                   go_simp
                   with_reducible rfl
                  rotate_left
                  ·simp only [Act.put, List.setIfInBounds_toArray, List.set_cons_zero, List.set_cons_succ, i64_w, i32_w]
                   rfl
                  refine pure_ (i := 3) (N := some 96) (v := ?_) (a' := ?_) #[true, true, true, true, false, false, false, false, false, false, false, false, false, false, false, false, false, false, false, false, false, false, false, false, false, false, false, false, false, false, false] rfl rfl (any_of HT_.out (by kernel_rfl)) (fun _ _ _ h => h) (Or.inl ⟨by rfl, ?_⟩) ?_ ?_
                  rotate_left
                  ·intro w'
                   go_simp
                   with_reducible rfl
                  rotate_left
                  ·simp only [Act.put, List.setIfInBounds_toArray, List.set_cons_zero, List.set_cons_succ, i64_w, i32_w]
                   rfl
                  refine pure_ (i := 5) (N := some 98) (v := ?_) (a' := ?_) #[true, true, true, true, false, true, false, false, false, false, false, false, false, false, false, false, false, false, false, false, false, false, false, false, false, false, false, false, false, false, false] rfl rfl (any_of HT_.out (by kernel_rfl)) (fun _ _ _ h => h) (Or.inl ⟨by rfl, ?_⟩) ?_ ?_
                  rotate_left
                  ·intro w'
                   go_simp
                   with_reducible rfl
                  rotate_left
                  ·simp only [Act.put, List.setIfInBounds_toArray, List.set_cons_zero, List.set_cons_succ, i64_w, i32_w]
                   rfl
                  refine pure_ (i := 7) (N := some 100) (v := ?_) (a' := ?_) #[true, true, true, true, false, true, false, true, false, false, false, false, false, false, false, false, false, false, false, false, false, false, false, false, false, false, false, false, false, false, false] rfl rfl (any_of HT_.out (by kernel_rfl)) (fun _ _ _ h => h) (Or.inl ⟨by rfl, ?_⟩) ?_ ?_
                  rotate_left
                  ·intro w'
                   go_simp
                   with_reducible rfl
                  rotate_left
                  ·simp only [Act.put, List.setIfInBounds_toArray, List.set_cons_zero, List.set_cons_succ, i64_w, i32_w]
                   rfl
                  refine take_ (i := 4) (N := some 97) (v := ?_) (a' := ?_) #[true, true, true, true, true, true, false, true, false, false, false, false, false, false, false, false, false, false, false, false, false, false, false, false, false, false, false, false, false, false, false] rfl rfl (take_ofW HT_.out HW_.out (by kernel_rfl)) (fun _ _ _ h => h) (Or.inl ⟨by rfl, ?_⟩) hHeld ?_ ?_
                  rotate_left
                  ·rintro w' ⟨s0, s1, s2, s3, s4, s5, s6, s7, s8⟩
                   go_simp
                   with_reducible rfl
                  rotate_left
                  ·simp only [Act.put, List.setIfInBounds_toArray, List.set_cons_zero, List.set_cons_succ, i64_w, i32_w]
                   rfl
                  refine take_ (i := 6) (N := some 99) (v := ?_) (a' := ?_) #[true, true, true, true, true, true, true, true, false, false, false, false, false, false, false, false, false, false, false, false, false, false, false, false, false, false, false, false, false, false, false] rfl rfl (take_ofW HT_.out HW_.out (by kernel_rfl)) (fun _ _ _ h => h) (Or.inl ⟨by rfl, ?_⟩) hHeld ?_ ?_
                  rotate_left
                  ·rintro w' ⟨s0, s1, s2, s3, s4, s5, s6, s7, s8⟩
                   go_simp
                   with_reducible rfl
                  rotate_left
                  ·simp only [Act.put, List.setIfInBounds_toArray, List.set_cons_zero, List.set_cons_succ, i64_w, i32_w]
                   rfl
                  refine take_ (i := 8) (N := some 101) (v := ?_) (a' := ?_) #[true, true, true, true, true, true, true, true, true, false, false, false, false, false, false, false, false, false, false, false, false, false, false, false, false, false, false, false, false, false, false] rfl rfl (take_ofW HT_.out HW_.out (by kernel_rfl)) (fun _ _ _ h => h) (Or.inl ⟨by rfl, ?_⟩) hHeld ?_ ?_
                  rotate_left
                  ·rintro w' ⟨s0, s1, s2, s3, s4, s5, s6, s7, s8⟩
                   go_simp
                   with_reducible rfl
                  rotate_left
                  ·simp only [Act.put, List.setIfInBounds_toArray, List.set_cons_zero, List.set_cons_succ, i64_w, i32_w]
                   rfl
                  refine pure_ (i := 9) (N := some 102) (v := ?_) (a' := ?_) #[true, true, true, true, true, true, true, true, true, true, false, false, false, false, false, false, false, false, false, false, false, false, false, false, false, false, false, false, false, false, false] rfl rfl (any_of HT_.out (by kernel_rfl)) (fun _ _ _ h => h) (Or.inl ⟨by rfl, ?_⟩) ?_ ?_
                  rotate_left
                  ·intro w'
                   go_simp
                   with_reducible rfl
                  rotate_left
                  ·simp only [Act.put, List.setIfInBounds_toArray, List.set_cons_zero, List.set_cons_succ, i64_w, i32_w]
                   rfl
                  refine pure_ (i := 10) (N := some 103) (v := ?_) (a' := ?_) #[true, true, true, true, true, true, true, true, true, true, true, false, false, false, false, false, false, false, false, false, false, false, false, false, false, false, false, false, false, false, false] rfl rfl (any_of HT_.out (by kernel_rfl)) (fun _ _ _ h => h) (Or.inl ⟨by rfl, ?_⟩) ?_ ?_
                  rotate_left
                  ·intro w'
                   go_simp
                   with_reducible rfl
                  rotate_left
                  ·simp only [Act.put, List.setIfInBounds_toArray, List.set_cons_zero, List.set_cons_succ, i64_w, i32_w]
                   rfl
                  refine pure_ (i := 11) (N := some 104) (v := ?_) (a' := ?_) #[true, true, true, true, true, true, true, true, true, true, true, true, false, false, false, false, false, false, false, false, false, false, false, false, false, false, false, false, false, false, false] rfl rfl (any_of HT_.out (by kernel_rfl)) (fun _ _ _ h => h) (Or.inl ⟨by rfl, ?_⟩) ?_ ?_
                  rotate_left
                  ·intro w'
                   go_simp
                   with_reducible rfl
                  rotate_left
                  ·simp only [Act.put, List.setIfInBounds_toArray, List.set_cons_zero, List.set_cons_succ, i64_w, i32_w]
                   rfl
                  refine pure_ (i := 12) (N := some 105) (v := ?_) (a' := ?_) #[true, true, true, true, true, true, true, true, true, true, true, true, true, false, false, false, false, false, false, false, false, false, false, false, false, false, false, false, false, false, false] rfl rfl (any_of HT_.out (by kernel_rfl)) (fun _ _ _ h => h) (Or.inl ⟨by rfl, ?_⟩) ?_ ?_
                  rotate_left
                  ·intro w'
                   go_simp
                   with_reducible rfl
                  rotate_left
                  ·simp only [Act.put, List.setIfInBounds_toArray, List.set_cons_zero, List.set_cons_succ, i64_w, i32_w]
                   rfl
                  refine pure_ (i := 13) (N := some 106) (v := ?_) (a' := ?_) #[true, true, true, true, true, true, true, true, true, true, true, true, true, true, false, false, false, false, false, false, false, false, false, false, false, false, false, false, false, false, false] rfl rfl (any_of HT_.out (by kernel_rfl)) (fun _ _ _ h => h) (Or.inl ⟨by rfl, ?_⟩) ?_ ?_
                  rotate_left
                  ·intro w'
                   go_simp
                   with_reducible rfl
                  rotate_left
                  ·simp only [Act.put, List.setIfInBounds_toArray, List.set_cons_zero, List.set_cons_succ, i64_w, i32_w]
                   rfl
                  refine pure_ (i := 15) (N := some 108) (v := ?_) (a' := ?_) #[true, true, true, true, true, true, true, true, true, true, true, true, true, true, false, true, false, false, false, false, false, false, false, false, false, false, false, false, false, false, false] rfl rfl (any_of HT_.out (by kernel_rfl)) (fun _ _ _ h => h) (Or.inl ⟨by rfl, ?_⟩) ?_ ?_
                  rotate_left
                  ·intro w'
                   go_simp
                   with_reducible rfl
                  rotate_left
                  ·simp only [Act.put, List.setIfInBounds_toArray, List.set_cons_zero, List.set_cons_succ, i64_w, i32_w]
                   rfl
                  refine take_ (i := 14) (N := some 107) (v := ?_) (a' := ?_) #[true, true, true, true, true, true, true, true, true, true, true, true, true, true, true, true, false, false, false, false, false, false, false, false, false, false, false, false, false, false, false] rfl rfl (take_ofW HT_.out HW_.out (by kernel_rfl)) (fun _ _ _ h => h) (Or.inl ⟨by rfl, ?_⟩) hHeld ?_ ?_
                  rotate_left
                  ·rintro w' ⟨s0, s1, s2, s3, s4, s5, s6, s7, s8⟩
                   go_simp
                   with_reducible rfl
                  rotate_left
                  ·simp only [Act.put, List.setIfInBounds_toArray, List.set_cons_zero, List.set_cons_succ, i64_w, i32_w]
                   rfl
                  refine take_ (i := 16) (N := some 109) (v := ?_) (a' := ?_) #[true, true, true, true, true, true, true, true, true, true, true, true, true, true, true, true, true, false, false, false, false, false, false, false, false, false, false, false, false, false, false] rfl rfl (take_ofW HT_.out HW_.out (by kernel_rfl)) (fun _ _ _ h => h) (Or.inl ⟨by rfl, ?_⟩) hHeld ?_ ?_
                  rotate_left
                  ·rintro w' ⟨s0, s1, s2, s3, s4, s5, s6, s7, s8⟩
                   go_simp
                   with_reducible rfl
                  rotate_left
                  ·simp only [Act.put, List.setIfInBounds_toArray, List.set_cons_zero, List.set_cons_succ, i64_w, i32_w]
                   rfl
                  refine pure_ (i := 17) (N := some 110) (v := ?_) (a' := ?_) #[true, true, true, true, true, true, true, true, true, true, true, true, true, true, true, true, true, true, false, false, false, false, false, false, false, false, false, false, false, false, false] rfl rfl (any_of HT_.out (by kernel_rfl)) (fun _ _ _ h => h) (Or.inl ⟨by rfl, ?_⟩) ?_ ?_
                  rotate_left
                  ·intro w'
                   go_simp
                   with_reducible rfl
                  rotate_left
                  ·simp only [Act.put, List.setIfInBounds_toArray, List.set_cons_zero, List.set_cons_succ, i64_w, i32_w]
                   rfl
                  refine pure_ (i := 18) (N := some 111) (v := ?_) (a' := ?_) #[true, true, true, true, true, true, true, true, true, true, true, true, true, true, true, true, true, true, true, false, false, false, false, false, false, false, false, false, false, false, false] rfl rfl (any_of HT_.out (by kernel_rfl)) (fun _ _ _ h => h) (Or.inl ⟨by rfl, ?_⟩) ?_ ?_
                  rotate_left
                  ·intro w'
                   go_simp
                   with_reducible rfl
                  rotate_left
                  ·simp only [Act.put, List.setIfInBounds_toArray, List.set_cons_zero, List.set_cons_succ, i64_w, i32_w]
                   rfl
                  refine pure_ (i := 19) (N := some 112) (v := ?_) (a' := ?_) #[true, true, true, true, true, true, true, true, true, true, true, true, true, true, true, true, true, true, true, true, false, false, false, false, false, false, false, false, false, false, false] rfl rfl (any_of HT_.out (by kernel_rfl)) (fun _ _ _ h => h) (Or.inl ⟨by rfl, ?_⟩) ?_ ?_
                  rotate_left
                  ·intro w'
                   go_simp
                   with_reducible rfl
                  rotate_left
                  ·simp only [Act.put, List.setIfInBounds_toArray, List.set_cons_zero, List.set_cons_succ, i64_w, i32_w]
                   rfl
                  refine pure_ (i := 20) (N := some 113) (v := ?_) (a' := ?_) #[true, true, true, true, true, true, true, true, true, true, true, true, true, true, true, true, true, true, true, true, true, false, false, false, false, false, false, false, false, false, false] rfl rfl (any_of HT_.out (by kernel_rfl)) (fun _ _ _ h => h) (Or.inl ⟨by rfl, ?_⟩) ?_ ?_
                  rotate_left
                  ·intro w'
                   go_simp
                   with_reducible rfl
                  rotate_left
                  ·simp only [Act.put, List.setIfInBounds_toArray, List.set_cons_zero, List.set_cons_succ, i64_w, i32_w]
                   rfl
                  refine pure_ (i := 21) (N := some 114) (v := ?_) (a' := ?_) #[true, true, true, true, true, true, true, true, true, true, true, true, true, true, true, true, true, true, true, true, true, true, false, false, false, false, false, false, false, false, false] rfl rfl (any_of HT_.out (by kernel_rfl)) (fun _ _ _ h => h) (Or.inl ⟨by rfl, ?_⟩) ?_ ?_
                  rotate_left
                  ·intro w'
                   go_simp
                   with_reducible rfl
                  rotate_left
                  ·simp only [Act.put, List.setIfInBounds_toArray, List.set_cons_zero, List.set_cons_succ, i64_w, i32_w]
                   rfl
                  refine pure_ (i := 22) (N := some 115) (v := ?_) (a' := ?_) #[true, true, true, true, true, true, true, true, true, true, true, true, true, true, true, true, true, true, true, true, true, true, true, false, false, false, false, false, false, false, false] rfl rfl (any_of HT_.out (by kernel_rfl)) (fun _ _ _ h => h) (Or.inl ⟨by rfl, ?_⟩) ?_ ?_
                  rotate_left
                  ·intro w'
                   go_simp
                   with_reducible rfl
                  rotate_left
                  ·simp only [Act.put, List.setIfInBounds_toArray, List.set_cons_zero, List.set_cons_succ, i64_w, i32_w]
                   rfl
                  refine pure_ (i := 23) (N := some 116) (v := ?_) (a' := ?_) #[true, true, true, true, true, true, true, true, true, true, true, true, true, true, true, true, true, true, true, true, true, true, true, true, false, false, false, false, false, false, false] rfl rfl (any_of HT_.out (by kernel_rfl)) (fun _ _ _ h => h) (Or.inl ⟨by rfl, ?_⟩) ?_ ?_
                  rotate_left
                  ·intro w'
                   go_simp
                   with_reducible rfl
                  rotate_left
                  ·simp only [Act.put, List.setIfInBounds_toArray, List.set_cons_zero, List.set_cons_succ, i64_w, i32_w]
                   rfl
                  refine pure_ (i := 24) (N := some 117) (v := ?_) (a' := ?_) #[true, true, true, true, true, true, true, true, true, true, true, true, true, true, true, true, true, true, true, true, true, true, true, true, true, false, false, false, false, false, false] rfl rfl (any_of HT_.out (by kernel_rfl)) (fun _ _ _ h => h) (Or.inl ⟨by rfl, ?_⟩) ?_ ?_
                  rotate_left
                  ·intro w'
                   go_simp
                   with_reducible rfl
                  rotate_left
                  ·simp only [Act.put, List.setIfInBounds_toArray, List.set_cons_zero, List.set_cons_succ, i64_w, i32_w]
                   rfl
                  refine pure_ (i := 25) (N := some 118) (v := ?_) (a' := ?_) #[true, true, true, true, true, true, true, true, true, true, true, true, true, true, true, true, true, true, true, true, true, true, true, true, true, true, false, false, false, false, false] rfl rfl (any_of HT_.out (by kernel_rfl)) (fun _ _ _ h => h) (Or.inl ⟨by rfl, ?_⟩) ?_ ?_
                  rotate_left
                  ·intro w'
                   go_simp
                   with_reducible rfl
                  rotate_left
                  ·simp only [Act.put, List.setIfInBounds_toArray, List.set_cons_zero, List.set_cons_succ, i64_w, i32_w]
                   rfl
                  refine pure_ (i := 26) (N := some 119) (v := ?_) (a' := ?_) #[true, true, true, true, true, true, true, true, true, true, true, true, true, true, true, true, true, true, true, true, true, true, true, true, true, true, true, false, false, false, false] rfl rfl (any_of HT_.out (by kernel_rfl)) (fun _ _ _ h => h) (Or.inl ⟨by rfl, ?_⟩) ?_ ?_
                  rotate_left
                  ·intro w'
                   go_simp
                   with_reducible rfl
                  rotate_left
                  ·simp only [Act.put, List.setIfInBounds_toArray, List.set_cons_zero, List.set_cons_succ, i64_w, i32_w]
                   rfl
                  refine pure_ (i := 27) (N := some 120) (v := ?_) (a' := ?_) #[true, true, true, true, true, true, true, true, true, true, true, true, true, true, true, true, true, true, true, true, true, true, true, true, true, true, true, true, false, false, false] rfl rfl (any_of HT_.out (by kernel_rfl)) (fun _ _ _ h => h) (Or.inl ⟨by rfl, ?_⟩) ?_ ?_
                  rotate_left
                  ·intro w'
                   go_simp
                   with_reducible rfl
                  rotate_left
                  ·simp only [Act.put, List.setIfInBounds_toArray, List.set_cons_zero, List.set_cons_succ, i64_w, i32_w]
                   rfl
                  refine pure_ (i := 28) (N := some 121) (v := ?_) (a' := ?_) #[true, true, true, true, true, true, true, true, true, true, true, true, true, true, true, true, true, true, true, true, true, true, true, true, true, true, true, true, true, false, false] rfl rfl (any_of HT_.out (by kernel_rfl)) (fun _ _ _ h => h) (Or.inl ⟨by rfl, ?_⟩) ?_ ?_
                  rotate_left
                  ·intro w'
                   go_simp
                   with_reducible rfl
                  rotate_left
                  ·simp only [Act.put, List.setIfInBounds_toArray, List.set_cons_zero, List.set_cons_succ, i64_w, i32_w]
                   rfl
                  refine pure_ (i := 29) (N := some 122) (v := ?_) (a' := ?_) #[true, true, true, true, true, true, true, true, true, true, true, true, true, true, true, true, true, true, true, true, true, true, true, true, true, true, true, true, true, true, false] rfl rfl (any_of HT_.out (by kernel_rfl)) (fun _ _ _ h => h) (Or.inl ⟨by rfl, ?_⟩) ?_ ?_
                  rotate_left
                  ·intro w'
                   go_simp
                   with_reducible rfl
                  rotate_left
                  ·simp only [Act.put, List.setIfInBounds_toArray, List.set_cons_zero, List.set_cons_succ, i64_w, i32_w]
                   rfl
                  refine pure_ (i := 30) (N := some 123) (v := ?_) (a' := ?_) #[true, true, true, true, true, true, true, true, true, true, true, true, true, true, true, true, true, true, true, true, true, true, true, true, true, true, true, true, true, true, true] rfl rfl (any_of HT_.out (by kernel_rfl)) (fun _ _ _ h => h) (Or.inl ⟨by rfl, ?_⟩) ?_ ?_
                  rotate_left
                  ·intro w'
                   go_simp
                   with_reducible rfl
                  rotate_left
                  ·simp only [Act.put, List.setIfInBounds_toArray, List.set_cons_zero, List.set_cons_succ, i64_w, i32_w]
                   rfl
                  refine done_ (done_of HT_.out (by kernel_rfl)) ?_
                  have hcz55_0 : w54.cell? ⟨gb373, 0, none⟩ = some (.slice Ao45 t363.length co45) := (lC BK373.out 0).trans rfl
                  have hcz55_1 : w54.cell? ⟨gb373, 1, none⟩ = some (.int .i64 t366) := (lC BK373.out 1).trans rfl
                  have hcz55_2 : w54.cell? ⟨gb373, 2, none⟩ = some (.int .i64 t367) := (lC BK373.out 2).trans rfl
                  have hfz55_0 := lF BK373.out 0
                  have hfz55_1 := lF BK373.out 1
                  have hfz55_2 := lF BK373.out 2
                  have hcz56_0 : w54.cell? ⟨gb362, 0, none⟩ = some (.slice Ao41 x363000_2.length co41) := (lC BK362.out 0).trans rfl
                  have hcz56_1 : w54.cell? ⟨gb362, 1, none⟩ = some (.int .i64 x363001_2) := (lC BK362.out 1).trans rfl
                  have hcz56_2 : w54.cell? ⟨gb362, 2, none⟩ = some (.int .i64 x363002_2) := (lC BK362.out 2).trans rfl
                  have hfz56_0 := lF BK362.out 0
                  have hfz56_1 := lF BK362.out 1
                  have hfz56_2 := lF BK362.out 2
                  try go_wp2
                  go_roundg k2
                  case measure => have := HJ11.out; have := HK2.out; omega
                  case rel => exact ⟨(t371), (wrap64 (x13_2 + 1)), (t363), (t366), (t367), (.slice Ao45 t363.length co45), (by first | rfl | (simp; done) | (simp [*]; done)), (by first | rfl | (simp; done) | (simp [*]; done)), H', ⟨by have := HJ11.out; have := HK2.out; omega⟩, ⟨by (with_reducible repeat (first | apply qA | apply qN | apply qD)); exact Kd.Q_mono (Kd.Q_far (p := ⟨gb362, 2, none⟩) (Kd.Q_far (p := ⟨gb362, 1, none⟩) (Kd.Q_far (p := ⟨gb362, 0, none⟩) (Kd.Q_types HO_356000.out BK362.out (by decide)) (fun _ hk => hk.2) (.slice Ao45 t363.length co45)) (fun _ hk => hk.2) (.int .i64 t366)) (fun _ hk => hk.2) (.int .i64 t367)) (fun _ hk => by first | trivial | exact hk.1)⟩, ⟨by (with_reducible repeat (first | apply qA | apply qN | apply qD)); exact Kd.Q_mono (Kd.Q_far (p := ⟨gb362, 2, none⟩) (Kd.Q_far (p := ⟨gb362, 1, none⟩) (Kd.Q_far (p := ⟨gb362, 0, none⟩) (Kd.Q_types HO365.out BK362.out (by decide)) (fun _ hk => hk.2) (.slice Ao45 t363.length co45)) (fun _ hk => hk.2) (.int .i64 t366)) (fun _ hk => hk.2) (.int .i64 t367)) (fun _ hk => by first | trivial | exact hk.1.1)⟩, ⟨by (with_reducible repeat (first | refine lN ?_ _ | refine lD ?_ | refine lA ?_ _)); refine lX ?_ NB355_362.out _; (with_reducible repeat (first | refine lN ?_ _ | refine lD ?_ | refine lA ?_ _)); refine lX ?_ NB355_362.out _; (with_reducible repeat (first | refine lN ?_ _ | refine lD ?_ | refine lA ?_ _)); refine lX ?_ NB355_362.out _; (with_reducible repeat (first | refine lN ?_ _ | refine lD ?_ | refine lA ?_ _)); exact BK355.out⟩, ⟨by (with_reducible repeat (first | refine lN ?_ _ | refine lD ?_ | refine lA ?_ _)); refine lP (cs := #[.slice Ao45 t363.length co45, .int .i64 t366, .int .i64 x363002_2]) ?_ 2 _ rfl; (with_reducible repeat (first | refine lN ?_ _ | refine lD ?_ | refine lA ?_ _)); refine lP (cs := #[.slice Ao45 t363.length co45, .int .i64 x363001_2, .int .i64 x363002_2]) ?_ 1 _ rfl; (with_reducible repeat (first | refine lN ?_ _ | refine lD ?_ | refine lA ?_ _)); refine lP (cs := #[.slice Ao41 x363000_2.length co41, .int .i64 x363001_2, .int .i64 x363002_2]) ?_ 0 _ rfl; (with_reducible repeat (first | refine lN ?_ _ | refine lD ?_ | refine lA ?_ _)); exact BK362.out⟩, ⟨by repeat (first | (with_reducible first | exact HB.out | apply bA | apply bN | apply bD | refine bS ?_ GE355.out | refine bS ?_ GE362.out | refine bS ?_ GE373.out | refine bS ?_ GE374.out) | exact HB.out)⟩⟩
                ·rw [if_neg c37] at H
                 have c37b0 : decide (x13_2 < (wrap64 (t356 - 1))) = false := decide_eq_false c37
                 clear c37
                 have H' := Aside0.mk H
                 clear H
                 have hnb57 := NB362_355.out
                 have hnc57 := NB355_362.out
                 have hcz58_0 : wr.cell? ⟨gb362, 0, none⟩ = some (u363000) := (lC BK362.out 0).trans rfl
                 have hcz58_1 : wr.cell? ⟨gb362, 1, none⟩ = some (.int .i64 x363001_2) := (lC BK362.out 1).trans rfl
                 have hcz58_2 : wr.cell? ⟨gb362, 2, none⟩ = some (.int .i64 x363002_2) := (lC BK362.out 2).trans rfl
                 have hfz58_0 := lF BK362.out 0
                 have hfz58_1 := lF BK362.out 1
                 have hfz58_2 := lF BK362.out 2
                 obtain ⟨Ao59, co59, eo59, _⟩ := Kd.Q_slice HO_363000.out
                 subst eo59
                 try go_wp2_with (first | ((with_reducible refine gate_callee (f := 10) rfl ?_); refine goesL_ (some 88) rfl rfl Try.func10 (by kernel_rfl) rfl #[.agg #[.slice Ao59 x363000_2.length co59, .int .i64 x363001_2, .int .i64 x363002_2], .agg #[.int .i64 2, .string (⟨#[]⟩ : ByteArray)]] rfl (by (try simp only [List.map_toArray, List.map_cons, List.map_nil]); first | done | rfl | (simp only [List.length_drop, List.length_take]; rfl)) ?_; (with_reducible refine (impl_StepClient.calls k2 _ _ x363000_2 x363001_2 x363002_2 2 (⟨#[]⟩ : ByteArray) t363 t366 t367 t368 t369 t370 t371 true _ ?side1 ?side2 A32.out).mono ?_); (case side1 => repeat (first | exact (Kd.Q_reads' HO_363000.out).2.2 | (with_reducible first | refine cA ?_ _ | refine cN ?_ _ | refine cD ?_))); (case side2 => exact (Kd.Q_reads' HO_363000.out).2.1); rintro e w60 ⟨v364, rfl, ho0, hb⟩; refine ⟨_, rfl, ?_⟩; have n0_ := Aside0.mk (Kd.Q_elder' (by (with_reducible repeat (first | apply qA | apply qN | apply qD)); exact HO_356000.out) (Kd.Q_base ho0) hb); have n1_ := Aside0.mk (Kd.Q_elder' (by (with_reducible repeat (first | apply qA | apply qN | apply qD)); exact HO_363000.out) (Kd.Q_base ho0) hb); have n2_ := Aside0.mk (Kd.Q_lower (Kd.Q_new' (Kd.Q_new' ho0 (Kd.Q_lt (by (with_reducible repeat (first | apply qA | apply qN | apply qD)); exact HO_356000.out))) (Kd.Q_lt (by (with_reducible repeat (first | apply qA | apply qN | apply qD)); exact HO_363000.out))) (zV HB.out)); have n3_ := Aside0.mk (zB BK355.out hb); have n4_ := Aside0.mk (zB BK362.out hb); have n5_ := Aside0.mk (zS HB.out hb); clear HO_356000; clear HO_363000; clear BK355; clear BK362; clear HB; have HO_356000 := n0_; have HO_363000 := n1_; have HO365 := n2_; have BK355 := n3_; have BK362 := n4_; have HB := n5_; clear n0_ n1_ n2_ n3_ n4_ n5_; (try clear hb); (try clear hb2); (try clear hk); (try clear hi); (try clear ho0)) | ((with_reducible refine gate_dst (N := 14) rfl ?_); refine box_event ?hg (N := 14) ?hd (cs := #[.slice none 0 0, .int .i64 0, .int .i64 0]) (t := 29) ?hr ?_; (case hd => rfl); (case hg => rfl); (case hr => first | (go_simp; done) | (go_simp; rfl)); intro gb373 hg w61 hbox hb; have n0_ := Aside0.mk (zQ HO_356000.out hb); have n1_ := Aside0.mk (zQ HO_363000.out hb); have n2_ := Aside0.mk (zQ HO365.out hb); have n3_ := Aside0.mk (zB BK355.out hb); have n4_ := Aside0.mk (zB BK362.out hb); have n5_ := Aside0.mk (zS HB.out hb); have n6_ := Aside0.mk (hbox); have n7_ := Aside0.mk (zW hg HB.out); have n8_ := n7_; have n9_ := Aside0.mk (zL hg BK355.out); have n10_ := Aside0.mk (zG hg BK355.out); have n11_ := Aside0.mk (zL hg BK362.out); have n12_ := Aside0.mk (zG hg BK362.out); clear HO_356000; clear HO_363000; clear HO365; clear BK355; clear BK362; clear HB; have HO_356000 := n0_; have HO_363000 := n1_; have HO365 := n2_; have BK355 := n3_; have BK362 := n4_; have HB := n5_; have BK373 := n6_; have GW373 := n7_; have GE373 := n8_; have NB355_373 := n9_; have NB373_355 := n10_; have NB362_373 := n11_; have NB373_362 := n12_; clear n0_ n1_ n2_ n3_ n4_ n5_ n6_ n7_ n8_ n9_ n10_ n11_ n12_; clear hb hbox hg) | ((with_reducible refine gate_dst (N := 15) rfl ?_); refine box_event ?hg (N := 15) ?hd (cs := #[.int .i64 0, .int .i64 0, .int .i64 0]) (t := 31) ?hr ?_; (case hd => rfl); (case hg => rfl); (case hr => first | (go_simp; done) | (go_simp; rfl)); intro gb374 hg w62 hbox hb; have n0_ := Aside0.mk (zQ HO_356000.out hb); have n1_ := Aside0.mk (zQ HO_363000.out hb); have n2_ := Aside0.mk (zQ HO365.out hb); have n3_ := Aside0.mk (zB BK355.out hb); have n4_ := Aside0.mk (zB BK362.out hb); have n5_ := Aside0.mk (zB BK373.out hb); have n6_ := Aside0.mk (zS HB.out hb); have n7_ := Aside0.mk (hbox); have n8_ := Aside0.mk (zW hg HB.out); have n9_ := n8_; have n10_ := Aside0.mk (zL hg BK355.out); have n11_ := Aside0.mk (zG hg BK355.out); have n12_ := Aside0.mk (zL hg BK362.out); have n13_ := Aside0.mk (zG hg BK362.out); have n14_ := Aside0.mk (zL hg BK373.out); have n15_ := Aside0.mk (zG hg BK373.out); clear HO_356000; clear HO_363000; clear HO365; clear BK355; clear BK362; clear BK373; clear HB; have HO_356000 := n0_; have HO_363000 := n1_; have HO365 := n2_; have BK355 := n3_; have BK362 := n4_; have BK373 := n5_; have HB := n6_; have BK374 := n7_; have GW374 := n8_; have GE374 := n9_; have NB355_374 := n10_; have NB374_355 := n11_; have NB362_374 := n12_; have NB374_362 := n13_; have NB373_374 := n14_; have NB374_373 := n15_; clear n0_ n1_ n2_ n3_ n4_ n5_ n6_ n7_ n8_ n9_ n10_ n11_ n12_ n13_ n14_ n15_; clear hb hbox hg; obtain ⟨Ao63, co63, eo63, _⟩ := Kd.Q_slice HO365.out; subst eo63; have hnb64 := NB373_355.out; have hnc64 := NB355_373.out; have hnb65 := NB373_362.out; have hnc65 := NB362_373.out; have hnb66 := NB373_374.out; have hnc66 := NB374_373.out; have hcz67_0 : w62.cell? ⟨gb373, 0, none⟩ = some (.slice none 0 0) := (lC BK373.out 0).trans rfl; have hcz67_1 : w62.cell? ⟨gb373, 1, none⟩ = some (.int .i64 0) := (lC BK373.out 1).trans rfl; have hcz67_2 : w62.cell? ⟨gb373, 2, none⟩ = some (.int .i64 0) := (lC BK373.out 2).trans rfl; have hfz67_0 := lF BK373.out 0; have hfz67_1 := lF BK373.out 1; have hfz67_2 := lF BK373.out 2; have hnb68 := NB374_355.out; have hnc68 := NB355_374.out; have hnb69 := NB374_362.out; have hnc69 := NB362_374.out; have hcz70_0 : w62.cell? ⟨gb374, 0, none⟩ = some (.int .i64 0) := (lC BK374.out 0).trans rfl; have hcz70_1 : w62.cell? ⟨gb374, 1, none⟩ = some (.int .i64 0) := (lC BK374.out 1).trans rfl; have hcz70_2 : w62.cell? ⟨gb374, 2, none⟩ = some (.int .i64 0) := (lC BK374.out 2).trans rfl; have hfz70_0 := lF BK374.out 0; have hfz70_1 := lF BK374.out 1; have hfz70_2 := lF BK374.out 2))
                 have n0_ : Aside0 (Kd.Q Kd.string 9 ((((((w62.setCell ⟨gb373, 0, none⟩ (.slice Ao63 t363.length co63)).setCell ⟨gb373, 1, none⟩ (.int .i64 t366)).setCell ⟨gb373, 2, none⟩ (.int .i64 t367)).setCell ⟨gb374, 0, none⟩ (.int .i64 t368)).setCell ⟨gb374, 1, none⟩ (.int .i64 t369)).setCell ⟨gb374, 2, none⟩ (.int .i64 t370)) w.heap.size (fun k_ => some k_ ≠ (.slice Ao63 t363.length co63 : Value).ownBlock) (.slice Ao15 t349.length co15) t349) := ⟨by (with_reducible repeat (first | apply qA | apply qN | apply qD)); exact Kd.Q_mono (Kd.Q_far (p := ⟨gb374, 2, none⟩) (Kd.Q_far (p := ⟨gb374, 1, none⟩) (Kd.Q_far (p := ⟨gb374, 0, none⟩) (Kd.Q_far (p := ⟨gb373, 2, none⟩) (Kd.Q_far (p := ⟨gb373, 1, none⟩) (Kd.Q_far (p := ⟨gb373, 0, none⟩) (Kd.Q_types (Kd.Q_types HO_356000.out BK373.out (by decide)) BK374.out (by decide)) (fun _ hk => hk.1.2) (.slice Ao63 t363.length co63)) (fun _ hk => hk.1.2) (.int .i64 t366)) (fun _ hk => hk.1.2) (.int .i64 t367)) (fun _ hk => hk.2) (.int .i64 t368)) (fun _ hk => hk.2) (.int .i64 t369)) (fun _ hk => hk.2) (.int .i64 t370)) (fun _ hk => hk.1.1.2)⟩
                 have n1_ : Aside0 (Kd.Q Kd.string 9 ((((((w62.setCell ⟨gb373, 0, none⟩ (.slice Ao63 t363.length co63)).setCell ⟨gb373, 1, none⟩ (.int .i64 t366)).setCell ⟨gb373, 2, none⟩ (.int .i64 t367)).setCell ⟨gb374, 0, none⟩ (.int .i64 t368)).setCell ⟨gb374, 1, none⟩ (.int .i64 t369)).setCell ⟨gb374, 2, none⟩ (.int .i64 t370)) w.heap.size (fun k_ => some k_ ≠ (.slice Ao63 t363.length co63 : Value).ownBlock) (.slice Ao59 x363000_2.length co59) x363000_2) := ⟨by (with_reducible repeat (first | apply qA | apply qN | apply qD)); exact Kd.Q_mono (Kd.Q_far (p := ⟨gb374, 2, none⟩) (Kd.Q_far (p := ⟨gb374, 1, none⟩) (Kd.Q_far (p := ⟨gb374, 0, none⟩) (Kd.Q_far (p := ⟨gb373, 2, none⟩) (Kd.Q_far (p := ⟨gb373, 1, none⟩) (Kd.Q_far (p := ⟨gb373, 0, none⟩) (Kd.Q_types (Kd.Q_types HO_363000.out BK373.out (by decide)) BK374.out (by decide)) (fun _ hk => hk.1.2) (.slice Ao63 t363.length co63)) (fun _ hk => hk.1.2) (.int .i64 t366)) (fun _ hk => hk.1.2) (.int .i64 t367)) (fun _ hk => hk.2) (.int .i64 t368)) (fun _ hk => hk.2) (.int .i64 t369)) (fun _ hk => hk.2) (.int .i64 t370)) (fun _ hk => hk.1.1.2)⟩
                 have n2_ : Aside0 (Kd.Q Kd.string 9 ((((((w62.setCell ⟨gb373, 0, none⟩ (.slice Ao63 t363.length co63)).setCell ⟨gb373, 1, none⟩ (.int .i64 t366)).setCell ⟨gb373, 2, none⟩ (.int .i64 t367)).setCell ⟨gb374, 0, none⟩ (.int .i64 t368)).setCell ⟨gb374, 1, none⟩ (.int .i64 t369)).setCell ⟨gb374, 2, none⟩ (.int .i64 t370)) w.heap.size (fun k_ => some k_ ≠ (.slice Ao15 t349.length co15 : Value).ownBlock ∧ some k_ ≠ (.slice Ao59 x363000_2.length co59 : Value).ownBlock) (.slice Ao63 t363.length co63) t363) := ⟨by (with_reducible repeat (first | apply qA | apply qN | apply qD)); exact Kd.Q_mono (Kd.Q_far (p := ⟨gb374, 2, none⟩) (Kd.Q_far (p := ⟨gb374, 1, none⟩) (Kd.Q_far (p := ⟨gb374, 0, none⟩) (Kd.Q_far (p := ⟨gb373, 2, none⟩) (Kd.Q_far (p := ⟨gb373, 1, none⟩) (Kd.Q_far (p := ⟨gb373, 0, none⟩) (Kd.Q_types (Kd.Q_types HO365.out BK373.out (by decide)) BK374.out (by decide)) (fun _ hk => hk.1.2) (.slice Ao63 t363.length co63)) (fun _ hk => hk.1.2) (.int .i64 t366)) (fun _ hk => hk.1.2) (.int .i64 t367)) (fun _ hk => hk.2) (.int .i64 t368)) (fun _ hk => hk.2) (.int .i64 t369)) (fun _ hk => hk.2) (.int .i64 t370)) (fun _ hk => ⟨hk.1.1.1.2, hk.1.1.2⟩)⟩
                 have n3_ : Aside0 (((((((w62.setCell ⟨gb373, 0, none⟩ (.slice Ao63 t363.length co63)).setCell ⟨gb373, 1, none⟩ (.int .i64 t366)).setCell ⟨gb373, 2, none⟩ (.int .i64 t367)).setCell ⟨gb374, 0, none⟩ (.int .i64 t368)).setCell ⟨gb374, 1, none⟩ (.int .i64 t369)).setCell ⟨gb374, 2, none⟩ (.int .i64 t370)).heap[gb355]? = some (.cells #[.slice Ao15 t349.length co15, .int .i64 t352, .int .i64 t353] 29 (0, 0))) := ⟨by (with_reducible repeat (first | refine lN ?_ _ | refine lD ?_ | refine lA ?_ _)); refine lX ?_ NB355_374.out _; (with_reducible repeat (first | refine lN ?_ _ | refine lD ?_ | refine lA ?_ _)); refine lX ?_ NB355_374.out _; (with_reducible repeat (first | refine lN ?_ _ | refine lD ?_ | refine lA ?_ _)); refine lX ?_ NB355_374.out _; (with_reducible repeat (first | refine lN ?_ _ | refine lD ?_ | refine lA ?_ _)); refine lX ?_ NB355_373.out _; (with_reducible repeat (first | refine lN ?_ _ | refine lD ?_ | refine lA ?_ _)); refine lX ?_ NB355_373.out _; (with_reducible repeat (first | refine lN ?_ _ | refine lD ?_ | refine lA ?_ _)); refine lX ?_ NB355_373.out _; (with_reducible repeat (first | refine lN ?_ _ | refine lD ?_ | refine lA ?_ _)); exact BK355.out⟩
                 have n4_ : Aside0 (((((((w62.setCell ⟨gb373, 0, none⟩ (.slice Ao63 t363.length co63)).setCell ⟨gb373, 1, none⟩ (.int .i64 t366)).setCell ⟨gb373, 2, none⟩ (.int .i64 t367)).setCell ⟨gb374, 0, none⟩ (.int .i64 t368)).setCell ⟨gb374, 1, none⟩ (.int .i64 t369)).setCell ⟨gb374, 2, none⟩ (.int .i64 t370)).heap[gb362]? = some (.cells #[.slice Ao59 x363000_2.length co59, .int .i64 x363001_2, .int .i64 x363002_2] 29 (0, 0))) := ⟨by (with_reducible repeat (first | refine lN ?_ _ | refine lD ?_ | refine lA ?_ _)); refine lX ?_ NB362_374.out _; (with_reducible repeat (first | refine lN ?_ _ | refine lD ?_ | refine lA ?_ _)); refine lX ?_ NB362_374.out _; (with_reducible repeat (first | refine lN ?_ _ | refine lD ?_ | refine lA ?_ _)); refine lX ?_ NB362_374.out _; (with_reducible repeat (first | refine lN ?_ _ | refine lD ?_ | refine lA ?_ _)); refine lX ?_ NB362_373.out _; (with_reducible repeat (first | refine lN ?_ _ | refine lD ?_ | refine lA ?_ _)); refine lX ?_ NB362_373.out _; (with_reducible repeat (first | refine lN ?_ _ | refine lD ?_ | refine lA ?_ _)); refine lX ?_ NB362_373.out _; (with_reducible repeat (first | refine lN ?_ _ | refine lD ?_ | refine lA ?_ _)); exact BK362.out⟩
                 have n5_ : Aside0 (((((((w62.setCell ⟨gb373, 0, none⟩ (.slice Ao63 t363.length co63)).setCell ⟨gb373, 1, none⟩ (.int .i64 t366)).setCell ⟨gb373, 2, none⟩ (.int .i64 t367)).setCell ⟨gb374, 0, none⟩ (.int .i64 t368)).setCell ⟨gb374, 1, none⟩ (.int .i64 t369)).setCell ⟨gb374, 2, none⟩ (.int .i64 t370)).heap[gb373]? = some (.cells #[.slice Ao63 t363.length co63, .int .i64 t366, .int .i64 t367] 29 (0, 0))) := ⟨by (with_reducible repeat (first | refine lN ?_ _ | refine lD ?_ | refine lA ?_ _)); refine lX ?_ NB373_374.out _; (with_reducible repeat (first | refine lN ?_ _ | refine lD ?_ | refine lA ?_ _)); refine lX ?_ NB373_374.out _; (with_reducible repeat (first | refine lN ?_ _ | refine lD ?_ | refine lA ?_ _)); refine lX ?_ NB373_374.out _; (with_reducible repeat (first | refine lN ?_ _ | refine lD ?_ | refine lA ?_ _)); refine lP (cs := #[.slice Ao63 t363.length co63, .int .i64 t366, .int .i64 0]) ?_ 2 _ rfl; (with_reducible repeat (first | refine lN ?_ _ | refine lD ?_ | refine lA ?_ _)); refine lP (cs := #[.slice Ao63 t363.length co63, .int .i64 0, .int .i64 0]) ?_ 1 _ rfl; (with_reducible repeat (first | refine lN ?_ _ | refine lD ?_ | refine lA ?_ _)); refine lP (cs := #[.slice none 0 0, .int .i64 0, .int .i64 0]) ?_ 0 _ rfl; (with_reducible repeat (first | refine lN ?_ _ | refine lD ?_ | refine lA ?_ _)); exact BK373.out⟩
                 have n6_ : Aside0 (((((((w62.setCell ⟨gb373, 0, none⟩ (.slice Ao63 t363.length co63)).setCell ⟨gb373, 1, none⟩ (.int .i64 t366)).setCell ⟨gb373, 2, none⟩ (.int .i64 t367)).setCell ⟨gb374, 0, none⟩ (.int .i64 t368)).setCell ⟨gb374, 1, none⟩ (.int .i64 t369)).setCell ⟨gb374, 2, none⟩ (.int .i64 t370)).heap[gb374]? = some (.cells #[.int .i64 t368, .int .i64 t369, .int .i64 t370] 31 (0, 0))) := ⟨by (with_reducible repeat (first | refine lN ?_ _ | refine lD ?_ | refine lA ?_ _)); refine lP (cs := #[.int .i64 t368, .int .i64 t369, .int .i64 0]) ?_ 2 _ rfl; (with_reducible repeat (first | refine lN ?_ _ | refine lD ?_ | refine lA ?_ _)); refine lP (cs := #[.int .i64 t368, .int .i64 0, .int .i64 0]) ?_ 1 _ rfl; (with_reducible repeat (first | refine lN ?_ _ | refine lD ?_ | refine lA ?_ _)); refine lP (cs := #[.int .i64 0, .int .i64 0, .int .i64 0]) ?_ 0 _ rfl; (with_reducible repeat (first | refine lN ?_ _ | refine lD ?_ | refine lA ?_ _)); refine lX ?_ NB374_373.out _; (with_reducible repeat (first | refine lN ?_ _ | refine lD ?_ | refine lA ?_ _)); refine lX ?_ NB374_373.out _; (with_reducible repeat (first | refine lN ?_ _ | refine lD ?_ | refine lA ?_ _)); refine lX ?_ NB374_373.out _; (with_reducible repeat (first | refine lN ?_ _ | refine lD ?_ | refine lA ?_ _)); exact BK374.out⟩
                 have n7_ : Aside0 (Below w.heap.size w ((((((w62.setCell ⟨gb373, 0, none⟩ (.slice Ao63 t363.length co63)).setCell ⟨gb373, 1, none⟩ (.int .i64 t366)).setCell ⟨gb373, 2, none⟩ (.int .i64 t367)).setCell ⟨gb374, 0, none⟩ (.int .i64 t368)).setCell ⟨gb374, 1, none⟩ (.int .i64 t369)).setCell ⟨gb374, 2, none⟩ (.int .i64 t370))) := ⟨by repeat (first | (with_reducible first | exact HB.out | apply bA | apply bN | apply bD | refine bS ?_ GE355.out | refine bS ?_ GE362.out | refine bS ?_ GE373.out | refine bS ?_ GE374.out) | exact HB.out)⟩
                 (try clear HO_356000)
                 (try clear HO_363000)
                 (try clear HO365)
                 (try clear BK355)
                 (try clear BK362)
                 (try clear BK373)
                 (try clear BK374)
                 (try clear HB)
                 have sd_ : ∀ (w_ : World) (n_ : Nat) (a_ : Addr) (v_ : Value), (w_.drewN n_).setCell a_ v_ = (w_.setCell a_ v_).drewN n_ := fun _ _ _ _ => rfl
                 (repeat rw [sd_])
                 clear sd_
                 generalize ((((((w62.setCell ⟨gb373, 0, none⟩ (.slice Ao63 t363.length co63)).setCell ⟨gb373, 1, none⟩ (.int .i64 t366)).setCell ⟨gb373, 2, none⟩ (.int .i64 t367)).setCell ⟨gb374, 0, none⟩ (.int .i64 t368)).setCell ⟨gb374, 1, none⟩ (.int .i64 t369)).setCell ⟨gb374, 2, none⟩ (.int .i64 t370)) = w71 at n0_ n1_ n2_ n3_ n4_ n5_ n6_ n7_ ⊢
                 have HO_356000 := n0_
                 have HO_363000 := n1_
                 have HO365 := n2_
                 have BK355 := n3_
                 have BK362 := n4_
                 have BK373 := n5_
                 have BK374 := n6_
                 have HB := n7_
                 clear n0_ n1_ n2_ n3_ n4_ n5_ n6_ n7_
                 have n0_ := Aside0.mk (qD HO_356000.out)
                 have n1_ := Aside0.mk (qD HO_363000.out)
                 have n2_ := Aside0.mk (qD HO365.out)
                 have n3_ := Aside0.mk (lD BK355.out)
                 have n4_ := Aside0.mk (lD BK362.out)
                 have n5_ := Aside0.mk (lD BK373.out)
                 have n6_ := Aside0.mk (lD BK374.out)
                 have n7_ := Aside0.mk (bD HB.out)
                 clear HO_356000
                 clear HO_363000
                 clear HO365
                 clear BK355
                 clear BK362
                 clear BK373
                 clear BK374
                 clear HB
                 have HO_356000 := n0_
                 have HO_363000 := n1_
                 have HO365 := n2_
                 have BK355 := n3_
                 have BK362 := n4_
                 have BK373 := n5_
                 have BK374 := n6_
                 have HB := n7_
                 clear n0_ n1_ n2_ n3_ n4_ n5_ n6_ n7_
                 refine start_ (n := 31) (S := fun w' => w'.cell? ⟨gb374, 0, none⟩ = some (.int .i64 t368) ∧ w'.cell? ⟨gb374, 1, none⟩ = some (.int .i64 t369) ∧ w'.cell? ⟨gb374, 2, none⟩ = some (.int .i64 t370) ∧ w'.cell? ⟨gb362, 0, none⟩ = some (.slice Ao59 x363000_2.length co59) ∧ w'.cell? ⟨gb362, 1, none⟩ = some (.int .i64 x363001_2) ∧ w'.cell? ⟨gb362, 2, none⟩ = some (.int .i64 x363002_2) ∧ w'.cell? ⟨gb373, 0, none⟩ = some (.slice Ao63 t363.length co63) ∧ w'.cell? ⟨gb373, 1, none⟩ = some (.int .i64 t366) ∧ w'.cell? ⟨gb373, 2, none⟩ = some (.int .i64 t367)) (ds := []) #[false, false, false, false, false, false, false, false, false, false, false, false, false, false, false, false, false, false, false, false, false, false, false, false, false, false, false, false, false, false, false] (by kernel_rfl) rfl rfl ⟨(lC BK374.out 0).trans rfl, (lC BK374.out 1).trans rfl, (lC BK374.out 2).trans rfl, (lC BK362.out 0).trans rfl, (lC BK362.out 1).trans rfl, (lC BK362.out 2).trans rfl, (lC BK373.out 0).trans rfl, (lC BK373.out 1).trans rfl, (lC BK373.out 2).trans rfl⟩ (fun hHeld => ?_); refine with_tabW laws_FnQueue.tab15 laws_FnQueue.bits15 (fun HT_ HW_ => ?_)
                 generalize w71.drew = w72 at HO_356000 HO_363000 HO365 BK355 BK362 BK373 BK374 HB hHeld ⊢
                 refine pure_ (i := 0) (N := some 93) (v := ?_) (a' := ?_) #[true, false, false, false, false, false, false, false, false, false, false, false, false, false, false, false, false, false, false, false, false, false, false, false, false, false, false, false, false, false, false] rfl rfl (any_of HT_.out (by kernel_rfl)) (fun _ _ _ h => h) (Or.inl ⟨by rfl, ?_⟩) ?_ ?_
                 rotate_left
                 ·intro w'
                  go_simp
                  with_reducible rfl
                 rotate_left
                 ·simp only [Act.put, List.setIfInBounds_toArray, List.set_cons_zero, List.set_cons_succ, i64_w, i32_w]
                  rfl
                 refine pure_ (i := 1) (N := some 94) (v := ?_) (a' := ?_) #[true, true, false, false, false, false, false, false, false, false, false, false, false, false, false, false, false, false, false, false, false, false, false, false, false, false, false, false, false, false, false] rfl rfl (any_of HT_.out (by kernel_rfl)) (fun _ _ _ h => h) (Or.inl ⟨by rfl, ?_⟩) ?_ ?_
                 rotate_left
                 ·intro w'
                  go_simp
                  with_reducible rfl
                 rotate_left
                 ·simp only [Act.put, List.setIfInBounds_toArray, List.set_cons_zero, List.set_cons_succ, i64_w, i32_w]
                  rfl
                 refine pure_ (i := 2) (N := some 95) (v := ?_) (a' := ?_) #[true, true, true, false, false, false, false, false, false, false, false, false, false, false, false, false, false, false, false, false, false, false, false, false, false, false, false, false, false, false, false] rfl rfl (any_of HT_.out (by kernel_rfl)) (fun _ _ _ h => h) (Or.inl ⟨by rfl, ?_⟩) ?_ ?_
                 rotate_left
                 ·intro w'
                  go_simp
                  with_reducible rfl
                 rotate_left
                 ·simp only [Act.put, List.setIfInBounds_toArray, List.set_cons_zero, List.set_cons_succ, i64_w, i32_w]
                  rfl
                 refine pure_ (i := 3) (N := some 96) (v := ?_) (a' := ?_) #[true, true, true, true, false, false, false, false, false, false, false, false, false, false, false, false, false, false, false, false, false, false, false, false, false, false, false, false, false, false, false] rfl rfl (any_of HT_.out (by kernel_rfl)) (fun _ _ _ h => h) (Or.inl ⟨by rfl, ?_⟩) ?_ ?_
                 rotate_left
                 ·intro w'
                  go_simp
                  with_reducible rfl
                 rotate_left
                 ·simp only [Act.put, List.setIfInBounds_toArray, List.set_cons_zero, List.set_cons_succ, i64_w, i32_w]
                  rfl
                 refine pure_ (i := 5) (N := some 98) (v := ?_) (a' := ?_) #[true, true, true, true, false, true, false, false, false, false, false, false, false, false, false, false, false, false, false, false, false, false, false, false, false, false, false, false, false, false, false] rfl rfl (any_of HT_.out (by kernel_rfl)) (fun _ _ _ h => h) (Or.inl ⟨by rfl, ?_⟩) ?_ ?_
                 rotate_left
                 ·intro w'
                  go_simp
                  with_reducible rfl
                 rotate_left
                 ·simp only [Act.put, List.setIfInBounds_toArray, List.set_cons_zero, List.set_cons_succ, i64_w, i32_w]
                  rfl
                 refine pure_ (i := 7) (N := some 100) (v := ?_) (a' := ?_) #[true, true, true, true, false, true, false, true, false, false, false, false, false, false, false, false, false, false, false, false, false, false, false, false, false, false, false, false, false, false, false] rfl rfl (any_of HT_.out (by kernel_rfl)) (fun _ _ _ h => h) (Or.inl ⟨by rfl, ?_⟩) ?_ ?_
                 rotate_left
                 ·intro w'
                  go_simp
                  with_reducible rfl
                 rotate_left
                 ·simp only [Act.put, List.setIfInBounds_toArray, List.set_cons_zero, List.set_cons_succ, i64_w, i32_w]
                  rfl
                 refine take_ (i := 4) (N := some 97) (v := ?_) (a' := ?_) #[true, true, true, true, true, true, false, true, false, false, false, false, false, false, false, false, false, false, false, false, false, false, false, false, false, false, false, false, false, false, false] rfl rfl (take_ofW HT_.out HW_.out (by kernel_rfl)) (fun _ _ _ h => h) (Or.inl ⟨by rfl, ?_⟩) hHeld ?_ ?_
                 rotate_left
                 ·rintro w' ⟨s0, s1, s2, s3, s4, s5, s6, s7, s8⟩
                  go_simp
                  with_reducible rfl
                 rotate_left
                 ·simp only [Act.put, List.setIfInBounds_toArray, List.set_cons_zero, List.set_cons_succ, i64_w, i32_w]
                  rfl
                 refine take_ (i := 6) (N := some 99) (v := ?_) (a' := ?_) #[true, true, true, true, true, true, true, true, false, false, false, false, false, false, false, false, false, false, false, false, false, false, false, false, false, false, false, false, false, false, false] rfl rfl (take_ofW HT_.out HW_.out (by kernel_rfl)) (fun _ _ _ h => h) (Or.inl ⟨by rfl, ?_⟩) hHeld ?_ ?_
                 rotate_left
                 ·rintro w' ⟨s0, s1, s2, s3, s4, s5, s6, s7, s8⟩
                  go_simp
                  with_reducible rfl
                 rotate_left
                 ·simp only [Act.put, List.setIfInBounds_toArray, List.set_cons_zero, List.set_cons_succ, i64_w, i32_w]
                  rfl
                 refine take_ (i := 8) (N := some 101) (v := ?_) (a' := ?_) #[true, true, true, true, true, true, true, true, true, false, false, false, false, false, false, false, false, false, false, false, false, false, false, false, false, false, false, false, false, false, false] rfl rfl (take_ofW HT_.out HW_.out (by kernel_rfl)) (fun _ _ _ h => h) (Or.inl ⟨by rfl, ?_⟩) hHeld ?_ ?_
                 rotate_left
                 ·rintro w' ⟨s0, s1, s2, s3, s4, s5, s6, s7, s8⟩
                  go_simp
                  with_reducible rfl
                 rotate_left
                 ·simp only [Act.put, List.setIfInBounds_toArray, List.set_cons_zero, List.set_cons_succ, i64_w, i32_w]
                  rfl
                 refine pure_ (i := 9) (N := some 102) (v := ?_) (a' := ?_) #[true, true, true, true, true, true, true, true, true, true, false, false, false, false, false, false, false, false, false, false, false, false, false, false, false, false, false, false, false, false, false] rfl rfl (any_of HT_.out (by kernel_rfl)) (fun _ _ _ h => h) (Or.inl ⟨by rfl, ?_⟩) ?_ ?_
                 rotate_left
                 ·intro w'
                  go_simp
                  with_reducible rfl
                 rotate_left
                 ·simp only [Act.put, List.setIfInBounds_toArray, List.set_cons_zero, List.set_cons_succ, i64_w, i32_w]
                  rfl
                 refine pure_ (i := 10) (N := some 103) (v := ?_) (a' := ?_) #[true, true, true, true, true, true, true, true, true, true, true, false, false, false, false, false, false, false, false, false, false, false, false, false, false, false, false, false, false, false, false] rfl rfl (any_of HT_.out (by kernel_rfl)) (fun _ _ _ h => h) (Or.inl ⟨by rfl, ?_⟩) ?_ ?_
                 rotate_left
                 ·intro w'
                  go_simp
                  with_reducible rfl
                 rotate_left
                 ·simp only [Act.put, List.setIfInBounds_toArray, List.set_cons_zero, List.set_cons_succ, i64_w, i32_w]
                  rfl
                 refine pure_ (i := 11) (N := some 104) (v := ?_) (a' := ?_) #[true, true, true, true, true, true, true, true, true, true, true, true, false, false, false, false, false, false, false, false, false, false, false, false, false, false, false, false, false, false, false] rfl rfl (any_of HT_.out (by kernel_rfl)) (fun _ _ _ h => h) (Or.inl ⟨by rfl, ?_⟩) ?_ ?_
                 rotate_left
                 ·intro w'
                  go_simp
                  with_reducible rfl
                 rotate_left
                 ·simp only [Act.put, List.setIfInBounds_toArray, List.set_cons_zero, List.set_cons_succ, i64_w, i32_w]
                  rfl
                 refine pure_ (i := 12) (N := some 105) (v := ?_) (a' := ?_) #[true, true, true, true, true, true, true, true, true, true, true, true, true, false, false, false, false, false, false, false, false, false, false, false, false, false, false, false, false, false, false] rfl rfl (any_of HT_.out (by kernel_rfl)) (fun _ _ _ h => h) (Or.inl ⟨by rfl, ?_⟩) ?_ ?_
                 rotate_left
                 ·intro w'
                  go_simp
                  with_reducible rfl
                 rotate_left
                 ·simp only [Act.put, List.setIfInBounds_toArray, List.set_cons_zero, List.set_cons_succ, i64_w, i32_w]
                  rfl
                 refine pure_ (i := 13) (N := some 106) (v := ?_) (a' := ?_) #[true, true, true, true, true, true, true, true, true, true, true, true, true, true, false, false, false, false, false, false, false, false, false, false, false, false, false, false, false, false, false] rfl rfl (any_of HT_.out (by kernel_rfl)) (fun _ _ _ h => h) (Or.inl ⟨by rfl, ?_⟩) ?_ ?_
                 rotate_left
                 ·intro w'
                  go_simp
                  with_reducible rfl
                 rotate_left
                 ·simp only [Act.put, List.setIfInBounds_toArray, List.set_cons_zero, List.set_cons_succ, i64_w, i32_w]
                  rfl
                 refine pure_ (i := 15) (N := some 108) (v := ?_) (a' := ?_) #[true, true, true, true, true, true, true, true, true, true, true, true, true, true, false, true, false, false, false, false, false, false, false, false, false, false, false, false, false, false, false] rfl rfl (any_of HT_.out (by kernel_rfl)) (fun _ _ _ h => h) (Or.inl ⟨by rfl, ?_⟩) ?_ ?_
                 rotate_left
                 ·intro w'
                  go_simp
                  with_reducible rfl
                 rotate_left
                 ·simp only [Act.put, List.setIfInBounds_toArray, List.set_cons_zero, List.set_cons_succ, i64_w, i32_w]
                  rfl
                 refine take_ (i := 14) (N := some 107) (v := ?_) (a' := ?_) #[true, true, true, true, true, true, true, true, true, true, true, true, true, true, true, true, false, false, false, false, false, false, false, false, false, false, false, false, false, false, false] rfl rfl (take_ofW HT_.out HW_.out (by kernel_rfl)) (fun _ _ _ h => h) (Or.inl ⟨by rfl, ?_⟩) hHeld ?_ ?_
                 rotate_left
                 ·rintro w' ⟨s0, s1, s2, s3, s4, s5, s6, s7, s8⟩
                  go_simp
                  with_reducible rfl
                 rotate_left
                 ·simp only [Act.put, List.setIfInBounds_toArray, List.set_cons_zero, List.set_cons_succ, i64_w, i32_w]
                  rfl
                 refine take_ (i := 16) (N := some 109) (v := ?_) (a' := ?_) #[true, true, true, true, true, true, true, true, true, true, true, true, true, true, true, true, true, false, false, false, false, false, false, false, false, false, false, false, false, false, false] rfl rfl (take_ofW HT_.out HW_.out (by kernel_rfl)) (fun _ _ _ h => h) (Or.inl ⟨by rfl, ?_⟩) hHeld ?_ ?_
                 rotate_left
                 ·rintro w' ⟨s0, s1, s2, s3, s4, s5, s6, s7, s8⟩
                  go_simp
                  with_reducible rfl
                 rotate_left
                 ·simp only [Act.put, List.setIfInBounds_toArray, List.set_cons_zero, List.set_cons_succ, i64_w, i32_w]
                  rfl
                 refine pure_ (i := 17) (N := some 110) (v := ?_) (a' := ?_) #[true, true, true, true, true, true, true, true, true, true, true, true, true, true, true, true, true, true, false, false, false, false, false, false, false, false, false, false, false, false, false] rfl rfl (any_of HT_.out (by kernel_rfl)) (fun _ _ _ h => h) (Or.inl ⟨by rfl, ?_⟩) ?_ ?_
                 rotate_left
                 ·intro w'
                  go_simp
                  with_reducible rfl
                 rotate_left
                 ·simp only [Act.put, List.setIfInBounds_toArray, List.set_cons_zero, List.set_cons_succ, i64_w, i32_w]
                  rfl
                 refine pure_ (i := 18) (N := some 111) (v := ?_) (a' := ?_) #[true, true, true, true, true, true, true, true, true, true, true, true, true, true, true, true, true, true, true, false, false, false, false, false, false, false, false, false, false, false, false] rfl rfl (any_of HT_.out (by kernel_rfl)) (fun _ _ _ h => h) (Or.inl ⟨by rfl, ?_⟩) ?_ ?_
                 rotate_left
                 ·intro w'
                  go_simp
                  with_reducible rfl
                 rotate_left
                 ·simp only [Act.put, List.setIfInBounds_toArray, List.set_cons_zero, List.set_cons_succ, i64_w, i32_w]
                  rfl
                 refine pure_ (i := 19) (N := some 112) (v := ?_) (a' := ?_) #[true, true, true, true, true, true, true, true, true, true, true, true, true, true, true, true, true, true, true, true, false, false, false, false, false, false, false, false, false, false, false] rfl rfl (any_of HT_.out (by kernel_rfl)) (fun _ _ _ h => h) (Or.inl ⟨by rfl, ?_⟩) ?_ ?_
                 rotate_left
                 ·intro w'
                  go_simp
                  with_reducible rfl
                 rotate_left
                 ·simp only [Act.put, List.setIfInBounds_toArray, List.set_cons_zero, List.set_cons_succ, i64_w, i32_w]
                  rfl
                 refine pure_ (i := 20) (N := some 113) (v := ?_) (a' := ?_) #[true, true, true, true, true, true, true, true, true, true, true, true, true, true, true, true, true, true, true, true, true, false, false, false, false, false, false, false, false, false, false] rfl rfl (any_of HT_.out (by kernel_rfl)) (fun _ _ _ h => h) (Or.inl ⟨by rfl, ?_⟩) ?_ ?_
                 rotate_left
                 ·intro w'
                  go_simp
                  with_reducible rfl
                 rotate_left
                 ·simp only [Act.put, List.setIfInBounds_toArray, List.set_cons_zero, List.set_cons_succ, i64_w, i32_w]
                  rfl
                 refine pure_ (i := 21) (N := some 114) (v := ?_) (a' := ?_) #[true, true, true, true, true, true, true, true, true, true, true, true, true, true, true, true, true, true, true, true, true, true, false, false, false, false, false, false, false, false, false] rfl rfl (any_of HT_.out (by kernel_rfl)) (fun _ _ _ h => h) (Or.inl ⟨by rfl, ?_⟩) ?_ ?_
                 rotate_left
                 ·intro w'
                  go_simp
                  with_reducible rfl
                 rotate_left
                 ·simp only [Act.put, List.setIfInBounds_toArray, List.set_cons_zero, List.set_cons_succ, i64_w, i32_w]
                  rfl
                 refine pure_ (i := 22) (N := some 115) (v := ?_) (a' := ?_) #[true, true, true, true, true, true, true, true, true, true, true, true, true, true, true, true, true, true, true, true, true, true, true, false, false, false, false, false, false, false, false] rfl rfl (any_of HT_.out (by kernel_rfl)) (fun _ _ _ h => h) (Or.inl ⟨by rfl, ?_⟩) ?_ ?_
                 rotate_left
                 ·intro w'
                  go_simp
                  with_reducible rfl
                 rotate_left
                 ·simp only [Act.put, List.setIfInBounds_toArray, List.set_cons_zero, List.set_cons_succ, i64_w, i32_w]
                  rfl
                 refine pure_ (i := 23) (N := some 116) (v := ?_) (a' := ?_) #[true, true, true, true, true, true, true, true, true, true, true, true, true, true, true, true, true, true, true, true, true, true, true, true, false, false, false, false, false, false, false] rfl rfl (any_of HT_.out (by kernel_rfl)) (fun _ _ _ h => h) (Or.inl ⟨by rfl, ?_⟩) ?_ ?_
                 rotate_left
                 ·intro w'
                  go_simp
                  with_reducible rfl
                 rotate_left
                 ·simp only [Act.put, List.setIfInBounds_toArray, List.set_cons_zero, List.set_cons_succ, i64_w, i32_w]
                  rfl
                 refine pure_ (i := 24) (N := some 117) (v := ?_) (a' := ?_) #[true, true, true, true, true, true, true, true, true, true, true, true, true, true, true, true, true, true, true, true, true, true, true, true, true, false, false, false, false, false, false] rfl rfl (any_of HT_.out (by kernel_rfl)) (fun _ _ _ h => h) (Or.inl ⟨by rfl, ?_⟩) ?_ ?_
                 rotate_left
                 ·intro w'
                  go_simp
                  with_reducible rfl
                 rotate_left
                 ·simp only [Act.put, List.setIfInBounds_toArray, List.set_cons_zero, List.set_cons_succ, i64_w, i32_w]
                  rfl
                 refine pure_ (i := 25) (N := some 118) (v := ?_) (a' := ?_) #[true, true, true, true, true, true, true, true, true, true, true, true, true, true, true, true, true, true, true, true, true, true, true, true, true, true, false, false, false, false, false] rfl rfl (any_of HT_.out (by kernel_rfl)) (fun _ _ _ h => h) (Or.inl ⟨by rfl, ?_⟩) ?_ ?_
                 rotate_left
                 ·intro w'
                  go_simp
                  with_reducible rfl
                 rotate_left
                 ·simp only [Act.put, List.setIfInBounds_toArray, List.set_cons_zero, List.set_cons_succ, i64_w, i32_w]
                  rfl
                 refine pure_ (i := 26) (N := some 119) (v := undef) (a' := ?_) #[true, true, true, true, true, true, true, true, true, true, true, true, true, true, true, true, true, true, true, true, true, true, true, true, true, true, true, false, false, false, false] rfl rfl (any_of HT_.out (by kernel_rfl)) (fun _ _ _ h => h) (Or.inr ⟨by rfl, rfl⟩) ?_ ?_
                 rotate_left
                 ·simp only [Act.put, List.setIfInBounds_toArray, List.set_cons_zero, List.set_cons_succ, i64_w, i32_w]
                  rfl
                 refine pure_ (i := 27) (N := some 120) (v := undef) (a' := ?_) #[true, true, true, true, true, true, true, true, true, true, true, true, true, true, true, true, true, true, true, true, true, true, true, true, true, true, true, true, false, false, false] rfl rfl (any_of HT_.out (by kernel_rfl)) (fun _ _ _ h => h) (Or.inr ⟨by rfl, rfl⟩) ?_ ?_
                 rotate_left
                 ·simp only [Act.put, List.setIfInBounds_toArray, List.set_cons_zero, List.set_cons_succ, i64_w, i32_w]
                  rfl
                 refine pure_ (i := 28) (N := some 121) (v := undef) (a' := ?_) #[true, true, true, true, true, true, true, true, true, true, true, true, true, true, true, true, true, true, true, true, true, true, true, true, true, true, true, true, true, false, false] rfl rfl (any_of HT_.out (by kernel_rfl)) (fun _ _ _ h => h) (Or.inr ⟨by rfl, rfl⟩) ?_ ?_
                 rotate_left
                 ·simp only [Act.put, List.setIfInBounds_toArray, List.set_cons_zero, List.set_cons_succ, i64_w, i32_w]
                  rfl
                 refine pure_ (i := 29) (N := some 122) (v := ?_) (a' := ?_) #[true, true, true, true, true, true, true, true, true, true, true, true, true, true, true, true, true, true, true, true, true, true, true, true, true, true, true, true, true, true, false] rfl rfl (any_of HT_.out (by kernel_rfl)) (fun _ _ _ h => h) (Or.inl ⟨by rfl, ?_⟩) ?_ ?_
                 rotate_left
                 ·intro w'
                  go_simp
                  with_reducible rfl
                 rotate_left
                 ·simp only [Act.put, List.setIfInBounds_toArray, List.set_cons_zero, List.set_cons_succ, i64_w, i32_w]
                  rfl
                 refine pure_ (i := 30) (N := some 123) (v := ?_) (a' := ?_) #[true, true, true, true, true, true, true, true, true, true, true, true, true, true, true, true, true, true, true, true, true, true, true, true, true, true, true, true, true, true, true] rfl rfl (any_of HT_.out (by kernel_rfl)) (fun _ _ _ h => h) (Or.inl ⟨by rfl, ?_⟩) ?_ ?_
                 rotate_left
                 ·intro w'
                  go_simp
                  with_reducible rfl
                 rotate_left
                 ·simp only [Act.put, List.setIfInBounds_toArray, List.set_cons_zero, List.set_cons_succ, i64_w, i32_w]
                  rfl
                 refine done_ (done_of HT_.out (by kernel_rfl)) ?_
                 have hcz73_0 : w72.cell? ⟨gb373, 0, none⟩ = some (.slice Ao63 t363.length co63) := (lC BK373.out 0).trans rfl
                 have hcz73_1 : w72.cell? ⟨gb373, 1, none⟩ = some (.int .i64 t366) := (lC BK373.out 1).trans rfl
                 have hcz73_2 : w72.cell? ⟨gb373, 2, none⟩ = some (.int .i64 t367) := (lC BK373.out 2).trans rfl
                 have hfz73_0 := lF BK373.out 0
                 have hfz73_1 := lF BK373.out 1
                 have hfz73_2 := lF BK373.out 2
                 have hcz74_0 : w72.cell? ⟨gb362, 0, none⟩ = some (.slice Ao59 x363000_2.length co59) := (lC BK362.out 0).trans rfl
                 have hcz74_1 : w72.cell? ⟨gb362, 1, none⟩ = some (.int .i64 x363001_2) := (lC BK362.out 1).trans rfl
                 have hcz74_2 : w72.cell? ⟨gb362, 2, none⟩ = some (.int .i64 x363002_2) := (lC BK362.out 2).trans rfl
                 have hfz74_0 := lF BK362.out 0
                 have hfz74_1 := lF BK362.out 1
                 have hfz74_2 := lF BK362.out 2
                 try go_wp2
                 go_roundg k2
                 case measure => have := HJ11.out; have := HK2.out; omega
                 case rel => exact ⟨(t371), (wrap64 (x13_2 + 1)), (t363), (t366), (t367), (.slice Ao63 t363.length co63), (by first | rfl | (simp; done) | (simp [*]; done)), (by first | rfl | (simp; done) | (simp [*]; done)), H', ⟨by have := HJ11.out; have := HK2.out; omega⟩, ⟨by (with_reducible repeat (first | apply qA | apply qN | apply qD)); exact Kd.Q_mono (Kd.Q_far (p := ⟨gb362, 2, none⟩) (Kd.Q_far (p := ⟨gb362, 1, none⟩) (Kd.Q_far (p := ⟨gb362, 0, none⟩) (Kd.Q_types HO_356000.out BK362.out (by decide)) (fun _ hk => hk.2) (.slice Ao63 t363.length co63)) (fun _ hk => hk.2) (.int .i64 t366)) (fun _ hk => hk.2) (.int .i64 t367)) (fun _ hk => by first | trivial | exact hk.1)⟩, ⟨by (with_reducible repeat (first | apply qA | apply qN | apply qD)); exact Kd.Q_mono (Kd.Q_far (p := ⟨gb362, 2, none⟩) (Kd.Q_far (p := ⟨gb362, 1, none⟩) (Kd.Q_far (p := ⟨gb362, 0, none⟩) (Kd.Q_types HO365.out BK362.out (by decide)) (fun _ hk => hk.2) (.slice Ao63 t363.length co63)) (fun _ hk => hk.2) (.int .i64 t366)) (fun _ hk => hk.2) (.int .i64 t367)) (fun _ hk => by first | trivial | exact hk.1.1)⟩, ⟨by (with_reducible repeat (first | refine lN ?_ _ | refine lD ?_ | refine lA ?_ _)); refine lX ?_ NB355_362.out _; (with_reducible repeat (first | refine lN ?_ _ | refine lD ?_ | refine lA ?_ _)); refine lX ?_ NB355_362.out _; (with_reducible repeat (first | refine lN ?_ _ | refine lD ?_ | refine lA ?_ _)); refine lX ?_ NB355_362.out _; (with_reducible repeat (first | refine lN ?_ _ | refine lD ?_ | refine lA ?_ _)); exact BK355.out⟩, ⟨by (with_reducible repeat (first | refine lN ?_ _ | refine lD ?_ | refine lA ?_ _)); refine lP (cs := #[.slice Ao63 t363.length co63, .int .i64 t366, .int .i64 x363002_2]) ?_ 2 _ rfl; (with_reducible repeat (first | refine lN ?_ _ | refine lD ?_ | refine lA ?_ _)); refine lP (cs := #[.slice Ao63 t363.length co63, .int .i64 x363001_2, .int .i64 x363002_2]) ?_ 1 _ rfl; (with_reducible repeat (first | refine lN ?_ _ | refine lD ?_ | refine lA ?_ _)); refine lP (cs := #[.slice Ao59 x363000_2.length co59, .int .i64 x363001_2, .int .i64 x363002_2]) ?_ 0 _ rfl; (with_reducible repeat (first | refine lN ?_ _ | refine lD ?_ | refine lA ?_ _)); exact BK362.out⟩, ⟨by repeat (first | (with_reducible first | exact HB.out | apply bA | apply bN | apply bD | refine bS ?_ GE355.out | refine bS ?_ GE362.out | refine bS ?_ GE373.out | refine bS ?_ GE374.out) | exact HB.out)⟩⟩
               ·rw [if_neg c36] at H
                have c36b0 : (t366 == (wrap64 (x363001_2 + 1))) = false := beq_eq_false_iff_ne.mpr c36
                have c36b1 : (t366 != (wrap64 (x363001_2 + 1))) = true := bne_iff_ne.mpr c36
                obtain rfl := Option.some.inj H
                exact absurd hr_.out (by simp)
              ·rw [if_neg c35] at H
               have c35b0 : (t369 == (Int.tmod x363001_2 x363002_2)) = false := beq_eq_false_iff_ne.mpr c35
               have c35b1 : (t369 != (Int.tmod x363001_2 x363002_2)) = true := bne_iff_ne.mpr c35
               obtain rfl := Option.some.inj H
               exact absurd hr_.out (by simp)
            ·replace c33 := fB c33
             subst c33
             have H1 : (some false) = some r := by rw [if_neg (show ¬ (false = true) by decide)] at H; exact H
             clear H
             have H := H1
             clear H1
             obtain rfl := Option.some.inj H
             exact absurd hr_.out (by simp)
           ·rw [if_neg c31] at H
            have c31b0 : decide (x13_2 < t356) = false := decide_eq_false c31
            clear c31
            (first | rw [c31b0] | (simp only [i64_w, i32_w]; rw [c31b0]) | skip)
            by_cases c75 : x12_2.toList = t354.toList
            ·rw [if_pos c75] at H
             have c75b0 : (x12_2.toList == t354.toList) = true := beq_iff_eq.mpr c75
             have c75b1 : (x12_2.toList != t354.toList) = false := bne_eq_false_iff_eq.mpr c75
             clear c75
             have H' := Aside0.mk H
             clear H
             go_wp2
             go_meet
             case rel => exact ⟨_, H', ⟨by have := HJ11.out; have := HK2.out; first | omega | exact Nat.le_refl _⟩, ⟨by (with_reducible repeat (first | apply qA | apply qN | apply qD)); exact HO_356000.out⟩, ⟨by (with_reducible repeat (first | refine lN ?_ _ | refine lD ?_ | refine lA ?_ _)); exact BK355.out⟩, ⟨by repeat (first | (with_reducible first | exact HB.out | apply bA | apply bN | apply bD | refine bS ?_ GE355.out | refine bS ?_ GE362.out) | exact HB.out)⟩⟩
            ·rw [if_neg c75] at H
             have c75b0 : (x12_2.toList == t354.toList) = false := beq_eq_false_iff_ne.mpr c75
             have c75b1 : (x12_2.toList != t354.toList) = true := bne_iff_ne.mpr c75
             obtain rfl := Option.some.inj H
             exact absurd hr_.out (by simp)
        ·replace c26 := fB c26
         subst c26
         have H1 : (laws_FnQueue.j2 kj11 l1) = some r := by rw [if_neg (show ¬ (false = true) by decide)] at H; exact H
         clear H
         have H := H1
         clear H1
         have H' := Aside0.mk H
         clear H
         go_wp2
         go_meet
         case rel => exact ⟨_, H', ⟨by have := HJ11.out; first | omega | exact Nat.le_refl _⟩, ⟨by (with_reducible repeat (first | apply qA | apply qN | apply qD)); exact HO_356000.out⟩, ⟨by (with_reducible repeat (first | refine lN ?_ _ | refine lD ?_ | refine lA ?_ _)); exact BK355.out⟩, ⟨by repeat (first | (with_reducible first | exact HB.out | apply bA | apply bN | apply bD | refine bS ?_ GE355.out) | exact HB.out)⟩⟩
       case rest =>
        clear HC25
        try clear c1
        try clear c2
        try clear p2
        try clear c3
        try clear c5
        try clear c6
        try clear p6
        try clear c7
        try clear c10
        try clear c26
        try clear c31
        try clear c31b0
        try clear c33
        try clear c35
        try clear c35b0
        try clear c35b1
        try clear c36
        try clear c36b0
        try clear c36b1
        try clear c37
        try clear c37b0
        try clear c57
        try clear c64
        try clear p64
        try clear c65
        try clear c66
        try clear c68
        try clear c69
        try clear c75
        try clear c75b0
        try clear c75b1
        try clear hcz55_0
        try clear hcz55_1
        try clear hcz55_2
        try clear hcz56_0
        try clear hcz56_1
        try clear hcz56_2
        try clear hcz58_0
        try clear hcz58_1
        try clear hcz58_2
        try clear hcz67_0
        try clear hcz67_1
        try clear hcz67_2
        try clear hcz70_0
        try clear hcz70_1
        try clear hcz70_2
        try clear hcz73_0
        try clear hcz73_1
        try clear hcz73_2
        try clear hcz74_0
        try clear hcz74_1
        try clear hcz74_2
        try clear hfz55_0
        try clear hfz55_1
        try clear hfz55_2
        try clear hfz56_0
        try clear hfz56_1
        try clear hfz56_2
        try clear hfz58_0
        try clear hfz58_1
        try clear hfz58_2
        try clear hfz67_0
        try clear hfz67_1
        try clear hfz67_2
        try clear hfz70_0
        try clear hfz70_1
        try clear hfz70_2
        try clear hfz73_0
        try clear hfz73_1
        try clear hfz73_2
        try clear hfz74_0
        try clear hfz74_1
        try clear hfz74_2
        obtain ⟨kq, HA, HJ24, HO_356000, BK355, HB⟩ := hcut
        cases kq with
        | zero => exact absurd HA.out (by simp [laws_FnQueue.j2])
        | succ kj24 =>
         have H := HA.out
         clear HA
         simp only [laws_FnQueue.j2] at H
         replace H := oB H
         obtain ⟨⟨t375, t378, t379, t380, t381⟩, A760, H⟩ := H
         replace H : ((impl_StepClient.f kj24 t375 t378 t379 t380 t381).bind fun bt384 => ((spec_StepClient.f kj24 t375 t378 t379 t380 t381).bind fun bt396 => ((spec_DrawNewClient.f l1).bind fun t408 => ((impl_NewClient.f t408).bind fun bt409 => ((spec_NewClient.f t408).bind fun bt416 => (if (bt384.2.2.2.2.2.2.2 == bt396.2.2.2.2.2.2.2) = true then ((laws_sameClient.f kj24 bt384.1 bt384.2.1 bt384.2.2.1 bt396.1 bt396.2.1 bt396.2.2.1).bind fun t423 => (if t423 = true then (if (bt384.2.2.2.1 == bt396.2.2.2.1 && (bt384.2.2.2.2.1 == bt396.2.2.2.2.1 && (bt384.2.2.2.2.2.1 == bt396.2.2.2.2.2.1))) = true then (if bt384.2.2.2.2.2.2.1.toList = bt396.2.2.2.2.2.2.1.toList then (if (bt409.2.2.2 == bt416.2.2.2) = true then ((laws_sameClient.f kj24 bt409.1 bt409.2.1 bt409.2.2.1 bt416.1 bt416.2.1 bt416.2.2.1).bind fun t424 => (if t424 = true then (if bt384.2.2.2.2.2.2.2 = true then ((impl_GoodClient.f kj24 bt384.1 bt384.2.1 bt384.2.2.1).bind fun t425 => (some t425)) else (some true)) else (some false))) else (some false)) else (some false)) else (some false)) else (some false))) else (some false))))))) = some r := H
         have A76 := Aside0.mk A760
         clear A760
         replace H := oB H
         obtain ⟨⟨t384, t387, t388, t389, t390, t391, t392, t393⟩, A770, H⟩ := H
         replace H : ((spec_StepClient.f kj24 t375 t378 t379 t380 t381).bind fun bt396 => ((spec_DrawNewClient.f l1).bind fun t408 => ((impl_NewClient.f t408).bind fun bt409 => ((spec_NewClient.f t408).bind fun bt416 => (if (t393 == bt396.2.2.2.2.2.2.2) = true then ((laws_sameClient.f kj24 t384 t387 t388 bt396.1 bt396.2.1 bt396.2.2.1).bind fun t423 => (if t423 = true then (if (t389 == bt396.2.2.2.1 && (t390 == bt396.2.2.2.2.1 && (t391 == bt396.2.2.2.2.2.1))) = true then (if t392.toList = bt396.2.2.2.2.2.2.1.toList then (if (bt409.2.2.2 == bt416.2.2.2) = true then ((laws_sameClient.f kj24 bt409.1 bt409.2.1 bt409.2.2.1 bt416.1 bt416.2.1 bt416.2.2.1).bind fun t424 => (if t424 = true then (if t393 = true then ((impl_GoodClient.f kj24 t384 t387 t388).bind fun t425 => (some t425)) else (some true)) else (some false))) else (some false)) else (some false)) else (some false)) else (some false))) else (some false)))))) = some r := H
         have A77 := Aside0.mk A770
         clear A770
         replace H := oB H
         obtain ⟨⟨t396, t399, t400, t401, t402, t403, t404, t405⟩, A780, H⟩ := H
         replace H : ((spec_DrawNewClient.f l1).bind fun t408 => ((impl_NewClient.f t408).bind fun bt409 => ((spec_NewClient.f t408).bind fun bt416 => (if (t393 == t405) = true then ((laws_sameClient.f kj24 t384 t387 t388 t396 t399 t400).bind fun t423 => (if t423 = true then (if (t389 == t401 && (t390 == t402 && (t391 == t403))) = true then (if t392.toList = t404.toList then (if (bt409.2.2.2 == bt416.2.2.2) = true then ((laws_sameClient.f kj24 bt409.1 bt409.2.1 bt409.2.2.1 bt416.1 bt416.2.1 bt416.2.2.1).bind fun t424 => (if t424 = true then (if t393 = true then ((impl_GoodClient.f kj24 t384 t387 t388).bind fun t425 => (some t425)) else (some true)) else (some false))) else (some false)) else (some false)) else (some false)) else (some false))) else (some false))))) = some r := H
         have A78 := Aside0.mk A780
         clear A780
         replace H := oB H
         obtain ⟨t408, A790, H⟩ := H
         replace H : ((impl_NewClient.f t408).bind fun bt409 => ((spec_NewClient.f t408).bind fun bt416 => (if (t393 == t405) = true then ((laws_sameClient.f kj24 t384 t387 t388 t396 t399 t400).bind fun t423 => (if t423 = true then (if (t389 == t401 && (t390 == t402 && (t391 == t403))) = true then (if t392.toList = t404.toList then (if (bt409.2.2.2 == bt416.2.2.2) = true then ((laws_sameClient.f kj24 bt409.1 bt409.2.1 bt409.2.2.1 bt416.1 bt416.2.1 bt416.2.2.1).bind fun t424 => (if t424 = true then (if t393 = true then ((impl_GoodClient.f kj24 t384 t387 t388).bind fun t425 => (some t425)) else (some true)) else (some false))) else (some false)) else (some false)) else (some false)) else (some false))) else (some false)))) = some r := H
         have A79 := Aside0.mk A790
         clear A790
         replace H := oB H
         obtain ⟨⟨t409, t412, t413, t414⟩, A800, H⟩ := H
         replace H : ((spec_NewClient.f t408).bind fun bt416 => (if (t393 == t405) = true then ((laws_sameClient.f kj24 t384 t387 t388 t396 t399 t400).bind fun t423 => (if t423 = true then (if (t389 == t401 && (t390 == t402 && (t391 == t403))) = true then (if t392.toList = t404.toList then (if (t414 == bt416.2.2.2) = true then ((laws_sameClient.f kj24 t409 t412 t413 bt416.1 bt416.2.1 bt416.2.2.1).bind fun t424 => (if t424 = true then (if t393 = true then ((impl_GoodClient.f kj24 t384 t387 t388).bind fun t425 => (some t425)) else (some true)) else (some false))) else (some false)) else (some false)) else (some false)) else (some false))) else (some false))) = some r := H
         have A80 := Aside0.mk A800
         clear A800
         replace H := oB H
         obtain ⟨⟨t416, t419, t420, t421⟩, A810, H⟩ := H
         replace H : (if (t393 == t405) = true then ((laws_sameClient.f kj24 t384 t387 t388 t396 t399 t400).bind fun t423 => (if t423 = true then (if (t389 == t401 && (t390 == t402 && (t391 == t403))) = true then (if t392.toList = t404.toList then (if (t414 == t421) = true then ((laws_sameClient.f kj24 t409 t412 t413 t416 t419 t420).bind fun t424 => (if t424 = true then (if t393 = true then ((impl_GoodClient.f kj24 t384 t387 t388).bind fun t425 => (some t425)) else (some true)) else (some false))) else (some false)) else (some false)) else (some false)) else (some false))) else (some false)) = some r := H
         have A81 := Aside0.mk A810
         clear A810
         by_cases c82 : (t393 == t405) = true
         ·rw [if_pos c82] at H
          have c82b0 : (t393 == t405) = true := c82
          (try (have c82b1 : decide (t393 = t405) = true := by simpa using c82))
          (try (have c82b2 : (t393 == t405) = true := by simpa using c82))
          clear c82
          replace H := oB H
          obtain ⟨t423, A830, H⟩ := H
          replace H : (if t423 = true then (if (t389 == t401 && (t390 == t402 && (t391 == t403))) = true then (if t392.toList = t404.toList then (if (t414 == t421) = true then ((laws_sameClient.f kj24 t409 t412 t413 t416 t419 t420).bind fun t424 => (if t424 = true then (if t393 = true then ((impl_GoodClient.f kj24 t384 t387 t388).bind fun t425 => (some t425)) else (some true)) else (some false))) else (some false)) else (some false)) else (some false)) else (some false)) = some r := H
          have A83 := Aside0.mk A830
          clear A830
          by_cases c84 : t423 = true
          ·subst c84
           have H1 : (if (t389 == t401 && (t390 == t402 && (t391 == t403))) = true then (if t392.toList = t404.toList then (if (t414 == t421) = true then ((laws_sameClient.f kj24 t409 t412 t413 t416 t419 t420).bind fun t424 => (if t424 = true then (if t393 = true then ((impl_GoodClient.f kj24 t384 t387 t388).bind fun t425 => (some t425)) else (some true)) else (some false))) else (some false)) else (some false)) else (some false)) = some r := by rw [if_pos rfl] at H; exact H
           clear H
           have H := H1
           clear H1
           by_cases c85 : (t389 == t401 && (t390 == t402 && (t391 == t403))) = true
           ·rw [if_pos c85] at H
            have c85b0 : (t389 == t401 && (t390 == t402 && (t391 == t403))) = true := c85
            (try (have c85b1 : decide (t389 = t401 && (t390 == t402 && (t391 == t403))) = true := by simpa using c85))
            (try (have c85b2 : (t389 == t401 && (t390 == t402 && (t391 == t403))) = true := by simpa using c85))
            clear c85
            by_cases c86 : t392.toList = t404.toList
            ·rw [if_pos c86] at H
             have c86b0 : (t392.toList == t404.toList) = true := beq_iff_eq.mpr c86
             have c86b1 : (t392.toList != t404.toList) = false := bne_eq_false_iff_eq.mpr c86
             clear c86
             by_cases c87 : (t414 == t421) = true
             ·rw [if_pos c87] at H
              have c87b0 : (t414 == t421) = true := c87
              (try (have c87b1 : decide (t414 = t421) = true := by simpa using c87))
              (try (have c87b2 : (t414 == t421) = true := by simpa using c87))
              clear c87
              replace H := oB H
              obtain ⟨t424, A880, H⟩ := H
              replace H : (if t424 = true then (if t393 = true then ((impl_GoodClient.f kj24 t384 t387 t388).bind fun t425 => (some t425)) else (some true)) else (some false)) = some r := H
              have A88 := Aside0.mk A880
              clear A880
              by_cases c89 : t424 = true
              ·subst c89
               have H1 : (if t393 = true then ((impl_GoodClient.f kj24 t384 t387 t388).bind fun t425 => (some t425)) else (some true)) = some r := by rw [if_pos rfl] at H; exact H
               clear H
               have H := H1
               clear H1
               by_cases c90 : t393 = true
               case' pos =>
                subst c90
                have H1 : ((impl_GoodClient.f kj24 t384 t387 t388).bind fun t425 => (some t425)) = some r := by rw [if_pos rfl] at H; exact H
                clear H
                have H := H1
                clear H1
                replace H := oB H
                obtain ⟨t425, A910, H⟩ := H
                replace H : (some t425) = some r := H
                have A91 := Aside0.mk A910
                clear A910
                obtain rfl := Option.some.inj H
                simp only [Option.some.injEq, Prod.mk.injEq] at H
                obtain ⟨rfl⟩ := H
               case' neg =>
                replace c90 := fB c90
                subst c90
                have H1 : (some true) = some r := by rw [if_neg (show ¬ (false = true) by decide)] at H; exact H
                clear H
                have H := H1
                clear H1
                obtain rfl := Option.some.inj H
                simp only [Option.some.injEq, Prod.mk.injEq] at H
                obtain ⟨rfl⟩ := H
               all_goals
                go_wp2_with (first | ((with_reducible refine gate_callee (f := 20) rfl ?_); refine goesL_ (some 131) rfl rfl Try.func20 (by kernel_rfl) rfl #[.slice A1 l1.length c1] rfl (by (try simp only [List.map_toArray, List.map_cons, List.map_nil]); first | done | rfl | (simp only [List.length_drop, List.length_take]; rfl)) ?_; (with_reducible refine (spec_DrawStepClient.calls kj24 _ _ l1 t375 t378 t379 t380 t381 _ ?side1 ?side2 A76.out).mono ?_); (case side1 => repeat (first | exact (Kd.C_below HR1.out HB.out) | (with_reducible first | refine cA ?_ _ | refine cN ?_ _ | refine cD ?_))); (case side2 => exact HC1.out); rintro e w92 ⟨v376, rfl, ho0, hb⟩; refine ⟨_, rfl, ?_⟩; have n0_ := Aside0.mk (Kd.Q_elder' (by (with_reducible repeat (first | apply qA | apply qN | apply qD)); exact HO_356000.out) (rE ho0) hb); have n1_ := Aside0.mk (Kd.R_lower (Kd.R_new' ho0 (Kd.Q_lt (by (with_reducible repeat (first | apply qA | apply qN | apply qD)); exact HO_356000.out))) (zV HB.out)); have n2_ := Aside0.mk (zB BK355.out hb); have n3_ := Aside0.mk (zS HB.out hb); clear HO_356000; clear BK355; clear HB; have HO_356000 := n0_; have HO377 := n1_; have BK355 := n2_; have HB := n3_; clear n0_ n1_ n2_ n3_; (try clear hb); (try clear hb2); (try clear hk); (try clear hi); (try clear ho0)) | ((with_reducible refine gate_dst (N := 18) rfl ?_); refine box_event ?hg (N := 18) ?hd (cs := #[.slice none 0 0, .int .i64 0, .int .i64 0]) (t := 29) ?hr ?_; (case hd => rfl); (case hg => rfl); (case hr => first | (go_simp; done) | (go_simp; rfl)); intro gb382 hg w93 hbox hb; have n0_ := Aside0.mk (zQ HO_356000.out hb); have n1_ := Aside0.mk (zR HO377.out hb); have n2_ := Aside0.mk (zB BK355.out hb); have n3_ := Aside0.mk (zS HB.out hb); have n4_ := Aside0.mk (hbox); have n5_ := Aside0.mk (zW hg HB.out); have n6_ := n5_; have n7_ := Aside0.mk (zL hg BK355.out); have n8_ := Aside0.mk (zG hg BK355.out); clear HO_356000; clear HO377; clear BK355; clear HB; have HO_356000 := n0_; have HO377 := n1_; have BK355 := n2_; have HB := n3_; have BK382 := n4_; have GW382 := n5_; have GE382 := n6_; have NB355_382 := n7_; have NB382_355 := n8_; clear n0_ n1_ n2_ n3_ n4_ n5_ n6_ n7_ n8_; clear hb hbox hg) | ((with_reducible refine gate_dst (N := 19) rfl ?_); refine box_event ?hg (N := 19) ?hd (cs := #[.int .i64 0, .string (⟨#[]⟩ : ByteArray)]) (t := 35) ?hr ?_; (case hd => rfl); (case hg => rfl); (case hr => first | (go_simp; done) | (go_simp; rfl)); intro gb383 hg w94 hbox hb; have n0_ := Aside0.mk (zQ HO_356000.out hb); have n1_ := Aside0.mk (zR HO377.out hb); have n2_ := Aside0.mk (zB BK355.out hb); have n3_ := Aside0.mk (zB BK382.out hb); have n4_ := Aside0.mk (zS HB.out hb); have n5_ := Aside0.mk (hbox); have n6_ := Aside0.mk (zW hg HB.out); have n7_ := n6_; have n8_ := Aside0.mk (zL hg BK355.out); have n9_ := Aside0.mk (zG hg BK355.out); have n10_ := Aside0.mk (zL hg BK382.out); have n11_ := Aside0.mk (zG hg BK382.out); clear HO_356000; clear HO377; clear BK355; clear BK382; clear HB; have HO_356000 := n0_; have HO377 := n1_; have BK355 := n2_; have BK382 := n3_; have HB := n4_; have BK383 := n5_; have GW383 := n6_; have GE383 := n7_; have NB355_383 := n8_; have NB383_355 := n9_; have NB382_383 := n10_; have NB383_382 := n11_; clear n0_ n1_ n2_ n3_ n4_ n5_ n6_ n7_ n8_ n9_ n10_ n11_; clear hb hbox hg; obtain ⟨Ao95, co95, eo95⟩ := rS HO377.out; subst eo95; have hnb96 := NB382_355.out; have hnc96 := NB355_382.out; have hnb97 := NB382_383.out; have hnc97 := NB383_382.out; have hcz98_0 : w94.cell? ⟨gb382, 0, none⟩ = some (.slice none 0 0) := (lC BK382.out 0).trans rfl; have hcz98_1 : w94.cell? ⟨gb382, 1, none⟩ = some (.int .i64 0) := (lC BK382.out 1).trans rfl; have hcz98_2 : w94.cell? ⟨gb382, 2, none⟩ = some (.int .i64 0) := (lC BK382.out 2).trans rfl; have hfz98_0 := lF BK382.out 0; have hfz98_1 := lF BK382.out 1; have hfz98_2 := lF BK382.out 2; have hnb99 := NB383_355.out; have hnc99 := NB355_383.out; have hcz100_0 : w94.cell? ⟨gb383, 0, none⟩ = some (.int .i64 0) := (lC BK383.out 0).trans rfl; have hcz100_1 : w94.cell? ⟨gb383, 1, none⟩ = some (.string (⟨#[]⟩ : ByteArray)) := (lC BK383.out 1).trans rfl; have hfz100_0 := lF BK383.out 0; have hfz100_1 := lF BK383.out 1) | ((with_reducible refine gate_callee (f := 10) rfl ?_); refine goesL_ (some 137) rfl rfl Try.func10 (by kernel_rfl) rfl #[.agg #[.slice Ao95 t375.length co95, .int .i64 t378, .int .i64 t379], .agg #[.int .i64 t380, .string t381]] rfl (by (try simp only [List.map_toArray, List.map_cons, List.map_nil]); first | done | rfl | (simp only [List.length_drop, List.length_take]; rfl)) ?_; (with_reducible refine (impl_StepClient.calls kj24 _ _ t375 t378 t379 t380 t381 t384 t387 t388 t389 t390 t391 t392 _ _ ?side1 ?side2 A77.out).mono ?_); (case side1 => refine (rR (e := 9) (base := w.heap.size) (ok := fun k_ => (True ∧ some k_ ≠ (.slice Ao15 t349.length co15 : Value).ownBlock)) (n := t375.length) (c := co95) ?_).2.2; exact (by (with_reducible repeat (first | apply rA | apply rN | apply rD)); exact (rM (rM (Kd.R_far (p := ⟨gb383, 1, none⟩) (Kd.R_far (p := ⟨gb383, 0, none⟩) (Kd.R_far (p := ⟨gb382, 2, none⟩) (Kd.R_far (p := ⟨gb382, 1, none⟩) (Kd.R_far (p := ⟨gb382, 0, none⟩) (Kd.R_types (Kd.R_types HO377.out BK382.out (by decide)) BK383.out (by decide)) (fun _ hk => hk.1.2) (.slice Ao95 t375.length co95)) (fun _ hk => hk.1.2) (.int .i64 t378)) (fun _ hk => hk.1.2) (.int .i64 t379)) (fun _ hk => hk.2) (.int .i64 t380)) (fun _ hk => hk.2) (.string t381)) (fun _ h_ => h_.1)) (fun _ h_ => h_.1)))); (case side2 => exact (rR HO377.out).2.1); rintro e w101 ⟨v385, rfl, ho0, hb⟩; refine ⟨_, rfl, ?_⟩; have n0_ := Aside0.mk (Kd.Q_elder' (by (with_reducible repeat (first | apply qA | apply qN | apply qD)); exact (Kd.Q_mono (Kd.Q_mono (Kd.Q_far (p := ⟨gb383, 1, none⟩) (Kd.Q_far (p := ⟨gb383, 0, none⟩) (Kd.Q_far (p := ⟨gb382, 2, none⟩) (Kd.Q_far (p := ⟨gb382, 1, none⟩) (Kd.Q_far (p := ⟨gb382, 0, none⟩) (Kd.Q_types (Kd.Q_types HO_356000.out BK382.out (by decide)) BK383.out (by decide)) (fun _ hk => hk.1.2) (.slice Ao95 t375.length co95)) (fun _ hk => hk.1.2) (.int .i64 t378)) (fun _ hk => hk.1.2) (.int .i64 t379)) (fun _ hk => hk.2) (.int .i64 t380)) (fun _ hk => hk.2) (.string t381)) (fun _ h_ => h_.1)) (fun _ h_ => h_.1))) (Kd.Q_base ho0) hb); have n1_ := Aside0.mk (rF (by (with_reducible repeat (first | apply rA | apply rN | apply rD)); exact (rM (rM (Kd.R_far (p := ⟨gb383, 1, none⟩) (Kd.R_far (p := ⟨gb383, 0, none⟩) (Kd.R_far (p := ⟨gb382, 2, none⟩) (Kd.R_far (p := ⟨gb382, 1, none⟩) (Kd.R_far (p := ⟨gb382, 0, none⟩) (Kd.R_types (Kd.R_types HO377.out BK382.out (by decide)) BK383.out (by decide)) (fun _ hk => hk.1.2) (.slice Ao95 t375.length co95)) (fun _ hk => hk.1.2) (.int .i64 t378)) (fun _ hk => hk.1.2) (.int .i64 t379)) (fun _ hk => hk.2) (.int .i64 t380)) (fun _ hk => hk.2) (.string t381)) (fun _ h_ => h_.1)) (fun _ h_ => h_.1))) (Kd.Q_base ho0) hb); have n2_ := Aside0.mk (Kd.Q_lower (Kd.Q_new' (Kd.Q_new' ho0 (Kd.Q_lt (by (with_reducible repeat (first | apply qA | apply qN | apply qD)); exact (Kd.Q_mono (Kd.Q_mono (Kd.Q_far (p := ⟨gb383, 1, none⟩) (Kd.Q_far (p := ⟨gb383, 0, none⟩) (Kd.Q_far (p := ⟨gb382, 2, none⟩) (Kd.Q_far (p := ⟨gb382, 1, none⟩) (Kd.Q_far (p := ⟨gb382, 0, none⟩) (Kd.Q_types (Kd.Q_types HO_356000.out BK382.out (by decide)) BK383.out (by decide)) (fun _ hk => hk.1.2) (.slice Ao95 t375.length co95)) (fun _ hk => hk.1.2) (.int .i64 t378)) (fun _ hk => hk.1.2) (.int .i64 t379)) (fun _ hk => hk.2) (.int .i64 t380)) (fun _ hk => hk.2) (.string t381)) (fun _ h_ => h_.1)) (fun _ h_ => h_.1))))) (Kd.R_lt (by (with_reducible repeat (first | apply rA | apply rN | apply rD)); exact (rM (rM (Kd.R_far (p := ⟨gb383, 1, none⟩) (Kd.R_far (p := ⟨gb383, 0, none⟩) (Kd.R_far (p := ⟨gb382, 2, none⟩) (Kd.R_far (p := ⟨gb382, 1, none⟩) (Kd.R_far (p := ⟨gb382, 0, none⟩) (Kd.R_types (Kd.R_types HO377.out BK382.out (by decide)) BK383.out (by decide)) (fun _ hk => hk.1.2) (.slice Ao95 t375.length co95)) (fun _ hk => hk.1.2) (.int .i64 t378)) (fun _ hk => hk.1.2) (.int .i64 t379)) (fun _ hk => hk.2) (.int .i64 t380)) (fun _ hk => hk.2) (.string t381)) (fun _ h_ => h_.1)) (fun _ h_ => h_.1))))) (below_size (by repeat (first | (with_reducible first | exact HB.out | apply bA | apply bN | apply bD | refine bS ?_ GE355.out | refine bS ?_ GE382.out | refine bS ?_ GE383.out) | exact HB.out)))); have n3_ := Aside0.mk (blk_below (g := gb355) (o := .cells #[.slice Ao15 t349.length co15, .int .i64 t352, .int .i64 t353] 29 (0, 0)) (by (with_reducible repeat (first | refine lN ?_ _ | refine lD ?_ | refine lA ?_ _)); refine lX ?_ NB355_383.out _; (with_reducible repeat (first | refine lN ?_ _ | refine lD ?_ | refine lA ?_ _)); refine lX ?_ NB355_383.out _; (with_reducible repeat (first | refine lN ?_ _ | refine lD ?_ | refine lA ?_ _)); refine lX ?_ NB355_382.out _; (with_reducible repeat (first | refine lN ?_ _ | refine lD ?_ | refine lA ?_ _)); refine lX ?_ NB355_382.out _; (with_reducible repeat (first | refine lN ?_ _ | refine lD ?_ | refine lA ?_ _)); refine lX ?_ NB355_382.out _; (with_reducible repeat (first | refine lN ?_ _ | refine lD ?_ | refine lA ?_ _)); exact BK355.out) hb); have n4_ := Aside0.mk (blk_below (g := gb382) (o := .cells #[.slice Ao95 t375.length co95, .int .i64 t378, .int .i64 t379] 29 (0, 0)) (by (with_reducible repeat (first | refine lN ?_ _ | refine lD ?_ | refine lA ?_ _)); refine lX ?_ NB382_383.out _; (with_reducible repeat (first | refine lN ?_ _ | refine lD ?_ | refine lA ?_ _)); refine lX ?_ NB382_383.out _; (with_reducible repeat (first | refine lN ?_ _ | refine lD ?_ | refine lA ?_ _)); refine lP (cs := #[.slice Ao95 t375.length co95, .int .i64 t378, .int .i64 0]) ?_ 2 _ rfl; (with_reducible repeat (first | refine lN ?_ _ | refine lD ?_ | refine lA ?_ _)); refine lP (cs := #[.slice Ao95 t375.length co95, .int .i64 0, .int .i64 0]) ?_ 1 _ rfl; (with_reducible repeat (first | refine lN ?_ _ | refine lD ?_ | refine lA ?_ _)); refine lP (cs := #[.slice none 0 0, .int .i64 0, .int .i64 0]) ?_ 0 _ rfl; (with_reducible repeat (first | refine lN ?_ _ | refine lD ?_ | refine lA ?_ _)); exact BK382.out) hb); have n5_ := Aside0.mk (blk_below (g := gb383) (o := .cells #[.int .i64 t380, .string t381] 35 (0, 0)) (by (with_reducible repeat (first | refine lN ?_ _ | refine lD ?_ | refine lA ?_ _)); refine lP (cs := #[.int .i64 t380, .string (⟨#[]⟩ : ByteArray)]) ?_ 1 _ rfl; (with_reducible repeat (first | refine lN ?_ _ | refine lD ?_ | refine lA ?_ _)); refine lP (cs := #[.int .i64 0, .string (⟨#[]⟩ : ByteArray)]) ?_ 0 _ rfl; (with_reducible repeat (first | refine lN ?_ _ | refine lD ?_ | refine lA ?_ _)); refine lX ?_ NB383_382.out _; (with_reducible repeat (first | refine lN ?_ _ | refine lD ?_ | refine lA ?_ _)); refine lX ?_ NB383_382.out _; (with_reducible repeat (first | refine lN ?_ _ | refine lD ?_ | refine lA ?_ _)); refine lX ?_ NB383_382.out _; (with_reducible repeat (first | refine lN ?_ _ | refine lD ?_ | refine lA ?_ _)); exact BK383.out) hb); have n6_ := Aside0.mk (below_step (by repeat (first | (with_reducible first | exact HB.out | apply bA | apply bN | apply bD | refine bS ?_ GE355.out | refine bS ?_ GE382.out | refine bS ?_ GE383.out) | exact HB.out)) hb); clear HO_356000; clear HO377; clear BK355; clear BK382; clear BK383; clear HB; have HO_356000 := n0_; have HO377 := n1_; have HO386 := n2_; have BK355 := n3_; have BK382 := n4_; have BK383 := n5_; have HB := n6_; clear n0_ n1_ n2_ n3_ n4_ n5_ n6_; (try clear hb); (try clear hb2); (try clear hk); (try clear hi); (try clear ho0)) | ((with_reducible refine gate_dst (N := 20) rfl ?_); refine box_event ?hg (N := 20) ?hd (cs := #[.slice none 0 0, .int .i64 0, .int .i64 0]) (t := 29) ?hr ?_; (case hd => rfl); (case hg => rfl); (case hr => first | (go_simp; done) | (go_simp; rfl)); intro gb394 hg w102 hbox hb; have n0_ := Aside0.mk (zQ HO_356000.out hb); have n1_ := Aside0.mk (zR HO377.out hb); have n2_ := Aside0.mk (zQ HO386.out hb); have n3_ := Aside0.mk (zB BK355.out hb); have n4_ := Aside0.mk (zB BK382.out hb); have n5_ := Aside0.mk (zB BK383.out hb); have n6_ := Aside0.mk (zS HB.out hb); have n7_ := Aside0.mk (hbox); have n8_ := Aside0.mk (zW hg HB.out); have n9_ := n8_; have n10_ := Aside0.mk (zL hg BK355.out); have n11_ := Aside0.mk (zG hg BK355.out); have n12_ := Aside0.mk (zL hg BK382.out); have n13_ := Aside0.mk (zG hg BK382.out); have n14_ := Aside0.mk (zL hg BK383.out); have n15_ := Aside0.mk (zG hg BK383.out); clear HO_356000; clear HO377; clear HO386; clear BK355; clear BK382; clear BK383; clear HB; have HO_356000 := n0_; have HO377 := n1_; have HO386 := n2_; have BK355 := n3_; have BK382 := n4_; have BK383 := n5_; have HB := n6_; have BK394 := n7_; have GW394 := n8_; have GE394 := n9_; have NB355_394 := n10_; have NB394_355 := n11_; have NB382_394 := n12_; have NB394_382 := n13_; have NB383_394 := n14_; have NB394_383 := n15_; clear n0_ n1_ n2_ n3_ n4_ n5_ n6_ n7_ n8_ n9_ n10_ n11_ n12_ n13_ n14_ n15_; clear hb hbox hg) | ((with_reducible refine gate_dst (N := 21) rfl ?_); refine box_event ?hg (N := 21) ?hd (cs := #[.int .i64 0, .int .i64 0, .int .i64 0]) (t := 31) ?hr ?_; (case hd => rfl); (case hg => rfl); (case hr => first | (go_simp; done) | (go_simp; rfl)); intro gb395 hg w103 hbox hb; have n0_ := Aside0.mk (zQ HO_356000.out hb); have n1_ := Aside0.mk (zR HO377.out hb); have n2_ := Aside0.mk (zQ HO386.out hb); have n3_ := Aside0.mk (zB BK355.out hb); have n4_ := Aside0.mk (zB BK382.out hb); have n5_ := Aside0.mk (zB BK383.out hb); have n6_ := Aside0.mk (zB BK394.out hb); have n7_ := Aside0.mk (zS HB.out hb); have n8_ := Aside0.mk (hbox); have n9_ := Aside0.mk (zW hg HB.out); have n10_ := n9_; have n11_ := Aside0.mk (zL hg BK355.out); have n12_ := Aside0.mk (zG hg BK355.out); have n13_ := Aside0.mk (zL hg BK382.out); have n14_ := Aside0.mk (zG hg BK382.out); have n15_ := Aside0.mk (zL hg BK383.out); have n16_ := Aside0.mk (zG hg BK383.out); have n17_ := Aside0.mk (zL hg BK394.out); have n18_ := Aside0.mk (zG hg BK394.out); clear HO_356000; clear HO377; clear HO386; clear BK355; clear BK382; clear BK383; clear BK394; clear HB; have HO_356000 := n0_; have HO377 := n1_; have HO386 := n2_; have BK355 := n3_; have BK382 := n4_; have BK383 := n5_; have BK394 := n6_; have HB := n7_; have BK395 := n8_; have GW395 := n9_; have GE395 := n10_; have NB355_395 := n11_; have NB395_355 := n12_; have NB382_395 := n13_; have NB395_382 := n14_; have NB383_395 := n15_; have NB395_383 := n16_; have NB394_395 := n17_; have NB395_394 := n18_; clear n0_ n1_ n2_ n3_ n4_ n5_ n6_ n7_ n8_ n9_ n10_ n11_ n12_ n13_ n14_ n15_ n16_ n17_ n18_; clear hb hbox hg; obtain ⟨Ao104, co104, eo104, _⟩ := Kd.Q_slice HO386.out; subst eo104; have hnb105 := NB394_355.out; have hnc105 := NB355_394.out; have hnb106 := NB394_382.out; have hnc106 := NB382_394.out; have hnb107 := NB394_383.out; have hnc107 := NB383_394.out; have hnb108 := NB394_395.out; have hnc108 := NB395_394.out; have hcz109_0 : w103.cell? ⟨gb394, 0, none⟩ = some (.slice none 0 0) := (lC BK394.out 0).trans rfl; have hcz109_1 : w103.cell? ⟨gb394, 1, none⟩ = some (.int .i64 0) := (lC BK394.out 1).trans rfl; have hcz109_2 : w103.cell? ⟨gb394, 2, none⟩ = some (.int .i64 0) := (lC BK394.out 2).trans rfl; have hfz109_0 := lF BK394.out 0; have hfz109_1 := lF BK394.out 1; have hfz109_2 := lF BK394.out 2; have hnb110 := NB395_355.out; have hnc110 := NB355_395.out; have hnb111 := NB395_382.out; have hnc111 := NB382_395.out; have hnb112 := NB395_383.out; have hnc112 := NB383_395.out; have hcz113_0 : w103.cell? ⟨gb395, 0, none⟩ = some (.int .i64 0) := (lC BK395.out 0).trans rfl; have hcz113_1 : w103.cell? ⟨gb395, 1, none⟩ = some (.int .i64 0) := (lC BK395.out 1).trans rfl; have hcz113_2 : w103.cell? ⟨gb395, 2, none⟩ = some (.int .i64 0) := (lC BK395.out 2).trans rfl; have hfz113_0 := lF BK395.out 0; have hfz113_1 := lF BK395.out 1; have hfz113_2 := lF BK395.out 2; have hcz114_0 : w103.cell? ⟨gb382, 0, none⟩ = some (.slice Ao95 t375.length co95) := (lC BK382.out 0).trans rfl; have hcz114_1 : w103.cell? ⟨gb382, 1, none⟩ = some (.int .i64 t378) := (lC BK382.out 1).trans rfl; have hcz114_2 : w103.cell? ⟨gb382, 2, none⟩ = some (.int .i64 t379) := (lC BK382.out 2).trans rfl; have hfz114_0 := lF BK382.out 0; have hfz114_1 := lF BK382.out 1; have hfz114_2 := lF BK382.out 2; have hcz115_0 : w103.cell? ⟨gb383, 0, none⟩ = some (.int .i64 t380) := (lC BK383.out 0).trans rfl; have hcz115_1 : w103.cell? ⟨gb383, 1, none⟩ = some (.string t381) := (lC BK383.out 1).trans rfl; have hfz115_0 := lF BK383.out 0; have hfz115_1 := lF BK383.out 1) | ((with_reducible refine gate_callee (f := 7) rfl ?_); refine goesL_ (some 145) rfl rfl Try.func7 (by kernel_rfl) rfl #[.agg #[.slice Ao95 t375.length co95, .int .i64 t378, .int .i64 t379], .agg #[.int .i64 t380, .string t381]] rfl (by (try simp only [List.map_toArray, List.map_cons, List.map_nil]); first | done | rfl | (simp only [List.length_drop, List.length_take]; rfl)) ?_; (with_reducible refine (spec_StepClient.calls kj24 _ _ t375 t378 t379 t380 t381 t396 t399 t400 t401 t402 t403 t404 t405 _ ?side1 ?side2 A78.out).mono ?_); (case side1 => refine (rR (e := 9) (base := w.heap.size) (ok := fun k_ => ((True ∧ some k_ ≠ (.slice Ao15 t349.length co15 : Value).ownBlock) ∧ some k_ ≠ (.slice Ao104 t384.length co104 : Value).ownBlock)) (n := t375.length) (c := co95) ?_).2.2; exact (by (with_reducible repeat (first | apply rA | apply rN | apply rD)); exact (rM (rM (Kd.R_far (p := ⟨gb395, 2, none⟩) (Kd.R_far (p := ⟨gb395, 1, none⟩) (Kd.R_far (p := ⟨gb395, 0, none⟩) (Kd.R_far (p := ⟨gb394, 2, none⟩) (Kd.R_far (p := ⟨gb394, 1, none⟩) (Kd.R_far (p := ⟨gb394, 0, none⟩) (Kd.R_types (Kd.R_types HO377.out BK394.out (by decide)) BK395.out (by decide)) (fun _ hk => hk.1.2) (.slice Ao104 t384.length co104)) (fun _ hk => hk.1.2) (.int .i64 t387)) (fun _ hk => hk.1.2) (.int .i64 t388)) (fun _ hk => hk.2) (.int .i64 t389)) (fun _ hk => hk.2) (.int .i64 t390)) (fun _ hk => hk.2) (.int .i64 t391)) (fun _ h_ => h_.1)) (fun _ h_ => h_.1)))); (case side2 => exact (rR HO377.out).2.1); rintro e w116 ⟨v397, rfl, ho0, hb⟩; refine ⟨_, rfl, ?_⟩; have n0_ := Aside0.mk (Kd.Q_elder' (by (with_reducible repeat (first | apply qA | apply qN | apply qD)); exact (Kd.Q_mono (Kd.Q_mono (Kd.Q_far (p := ⟨gb395, 2, none⟩) (Kd.Q_far (p := ⟨gb395, 1, none⟩) (Kd.Q_far (p := ⟨gb395, 0, none⟩) (Kd.Q_far (p := ⟨gb394, 2, none⟩) (Kd.Q_far (p := ⟨gb394, 1, none⟩) (Kd.Q_far (p := ⟨gb394, 0, none⟩) (Kd.Q_types (Kd.Q_types HO_356000.out BK394.out (by decide)) BK395.out (by decide)) (fun _ hk => hk.1.2) (.slice Ao104 t384.length co104)) (fun _ hk => hk.1.2) (.int .i64 t387)) (fun _ hk => hk.1.2) (.int .i64 t388)) (fun _ hk => hk.2) (.int .i64 t389)) (fun _ hk => hk.2) (.int .i64 t390)) (fun _ hk => hk.2) (.int .i64 t391)) (fun _ h_ => h_.1)) (fun _ h_ => h_.1))) (rE ho0) hb); have n1_ := Aside0.mk (rF (by (with_reducible repeat (first | apply rA | apply rN | apply rD)); exact (rM (rM (Kd.R_far (p := ⟨gb395, 2, none⟩) (Kd.R_far (p := ⟨gb395, 1, none⟩) (Kd.R_far (p := ⟨gb395, 0, none⟩) (Kd.R_far (p := ⟨gb394, 2, none⟩) (Kd.R_far (p := ⟨gb394, 1, none⟩) (Kd.R_far (p := ⟨gb394, 0, none⟩) (Kd.R_types (Kd.R_types HO377.out BK394.out (by decide)) BK395.out (by decide)) (fun _ hk => hk.1.2) (.slice Ao104 t384.length co104)) (fun _ hk => hk.1.2) (.int .i64 t387)) (fun _ hk => hk.1.2) (.int .i64 t388)) (fun _ hk => hk.2) (.int .i64 t389)) (fun _ hk => hk.2) (.int .i64 t390)) (fun _ hk => hk.2) (.int .i64 t391)) (fun _ h_ => h_.1)) (fun _ h_ => h_.1))) (rE ho0) hb); have n2_ := Aside0.mk (Kd.Q_elder' (by (with_reducible repeat (first | apply qA | apply qN | apply qD)); exact (Kd.Q_mono (Kd.Q_mono (Kd.Q_far (p := ⟨gb395, 2, none⟩) (Kd.Q_far (p := ⟨gb395, 1, none⟩) (Kd.Q_far (p := ⟨gb395, 0, none⟩) (Kd.Q_far (p := ⟨gb394, 2, none⟩) (Kd.Q_far (p := ⟨gb394, 1, none⟩) (Kd.Q_far (p := ⟨gb394, 0, none⟩) (Kd.Q_types (Kd.Q_types HO386.out BK394.out (by decide)) BK395.out (by decide)) (fun _ hk => hk.1.2) (.slice Ao104 t384.length co104)) (fun _ hk => hk.1.2) (.int .i64 t387)) (fun _ hk => hk.1.2) (.int .i64 t388)) (fun _ hk => hk.2) (.int .i64 t389)) (fun _ hk => hk.2) (.int .i64 t390)) (fun _ hk => hk.2) (.int .i64 t391)) (fun _ h_ => h_.1)) (fun _ h_ => h_.1))) (rE ho0) hb); have n3_ := Aside0.mk (Kd.R_lower (Kd.R_new' (Kd.R_new' (Kd.R_new' ho0 (Kd.Q_lt (by (with_reducible repeat (first | apply qA | apply qN | apply qD)); exact (Kd.Q_mono (Kd.Q_mono (Kd.Q_far (p := ⟨gb395, 2, none⟩) (Kd.Q_far (p := ⟨gb395, 1, none⟩) (Kd.Q_far (p := ⟨gb395, 0, none⟩) (Kd.Q_far (p := ⟨gb394, 2, none⟩) (Kd.Q_far (p := ⟨gb394, 1, none⟩) (Kd.Q_far (p := ⟨gb394, 0, none⟩) (Kd.Q_types (Kd.Q_types HO_356000.out BK394.out (by decide)) BK395.out (by decide)) (fun _ hk => hk.1.2) (.slice Ao104 t384.length co104)) (fun _ hk => hk.1.2) (.int .i64 t387)) (fun _ hk => hk.1.2) (.int .i64 t388)) (fun _ hk => hk.2) (.int .i64 t389)) (fun _ hk => hk.2) (.int .i64 t390)) (fun _ hk => hk.2) (.int .i64 t391)) (fun _ h_ => h_.1)) (fun _ h_ => h_.1))))) (Kd.R_lt (by (with_reducible repeat (first | apply rA | apply rN | apply rD)); exact (rM (rM (Kd.R_far (p := ⟨gb395, 2, none⟩) (Kd.R_far (p := ⟨gb395, 1, none⟩) (Kd.R_far (p := ⟨gb395, 0, none⟩) (Kd.R_far (p := ⟨gb394, 2, none⟩) (Kd.R_far (p := ⟨gb394, 1, none⟩) (Kd.R_far (p := ⟨gb394, 0, none⟩) (Kd.R_types (Kd.R_types HO377.out BK394.out (by decide)) BK395.out (by decide)) (fun _ hk => hk.1.2) (.slice Ao104 t384.length co104)) (fun _ hk => hk.1.2) (.int .i64 t387)) (fun _ hk => hk.1.2) (.int .i64 t388)) (fun _ hk => hk.2) (.int .i64 t389)) (fun _ hk => hk.2) (.int .i64 t390)) (fun _ hk => hk.2) (.int .i64 t391)) (fun _ h_ => h_.1)) (fun _ h_ => h_.1))))) (Kd.Q_lt (by (with_reducible repeat (first | apply qA | apply qN | apply qD)); exact (Kd.Q_mono (Kd.Q_mono (Kd.Q_far (p := ⟨gb395, 2, none⟩) (Kd.Q_far (p := ⟨gb395, 1, none⟩) (Kd.Q_far (p := ⟨gb395, 0, none⟩) (Kd.Q_far (p := ⟨gb394, 2, none⟩) (Kd.Q_far (p := ⟨gb394, 1, none⟩) (Kd.Q_far (p := ⟨gb394, 0, none⟩) (Kd.Q_types (Kd.Q_types HO386.out BK394.out (by decide)) BK395.out (by decide)) (fun _ hk => hk.1.2) (.slice Ao104 t384.length co104)) (fun _ hk => hk.1.2) (.int .i64 t387)) (fun _ hk => hk.1.2) (.int .i64 t388)) (fun _ hk => hk.2) (.int .i64 t389)) (fun _ hk => hk.2) (.int .i64 t390)) (fun _ hk => hk.2) (.int .i64 t391)) (fun _ h_ => h_.1)) (fun _ h_ => h_.1))))) (below_size (by repeat (first | (with_reducible first | exact HB.out | apply bA | apply bN | apply bD | refine bS ?_ GE355.out | refine bS ?_ GE382.out | refine bS ?_ GE383.out | refine bS ?_ GE394.out | refine bS ?_ GE395.out) | exact HB.out)))); have n4_ := Aside0.mk (blk_below (g := gb355) (o := .cells #[.slice Ao15 t349.length co15, .int .i64 t352, .int .i64 t353] 29 (0, 0)) (by (with_reducible repeat (first | refine lN ?_ _ | refine lD ?_ | refine lA ?_ _)); refine lX ?_ NB355_395.out _; (with_reducible repeat (first | refine lN ?_ _ | refine lD ?_ | refine lA ?_ _)); refine lX ?_ NB355_395.out _; (with_reducible repeat (first | refine lN ?_ _ | refine lD ?_ | refine lA ?_ _)); refine lX ?_ NB355_395.out _; (with_reducible repeat (first | refine lN ?_ _ | refine lD ?_ | refine lA ?_ _)); refine lX ?_ NB355_394.out _; (with_reducible repeat (first | refine lN ?_ _ | refine lD ?_ | refine lA ?_ _)); refine lX ?_ NB355_394.out _; (with_reducible repeat (first | refine lN ?_ _ | refine lD ?_ | refine lA ?_ _)); refine lX ?_ NB355_394.out _; (with_reducible repeat (first | refine lN ?_ _ | refine lD ?_ | refine lA ?_ _)); exact BK355.out) hb); have n5_ := Aside0.mk (blk_below (g := gb382) (o := .cells #[.slice Ao95 t375.length co95, .int .i64 t378, .int .i64 t379] 29 (0, 0)) (by (with_reducible repeat (first | refine lN ?_ _ | refine lD ?_ | refine lA ?_ _)); refine lX ?_ NB382_395.out _; (with_reducible repeat (first | refine lN ?_ _ | refine lD ?_ | refine lA ?_ _)); refine lX ?_ NB382_395.out _; (with_reducible repeat (first | refine lN ?_ _ | refine lD ?_ | refine lA ?_ _)); refine lX ?_ NB382_395.out _; (with_reducible repeat (first | refine lN ?_ _ | refine lD ?_ | refine lA ?_ _)); refine lX ?_ NB382_394.out _; (with_reducible repeat (first | refine lN ?_ _ | refine lD ?_ | refine lA ?_ _)); refine lX ?_ NB382_394.out _; (with_reducible repeat (first | refine lN ?_ _ | refine lD ?_ | refine lA ?_ _)); refine lX ?_ NB382_394.out _; (with_reducible repeat (first | refine lN ?_ _ | refine lD ?_ | refine lA ?_ _)); exact BK382.out) hb); have n6_ := Aside0.mk (blk_below (g := gb383) (o := .cells #[.int .i64 t380, .string t381] 35 (0, 0)) (by (with_reducible repeat (first | refine lN ?_ _ | refine lD ?_ | refine lA ?_ _)); refine lX ?_ NB383_395.out _; (with_reducible repeat (first | refine lN ?_ _ | refine lD ?_ | refine lA ?_ _)); refine lX ?_ NB383_395.out _; (with_reducible repeat (first | refine lN ?_ _ | refine lD ?_ | refine lA ?_ _)); refine lX ?_ NB383_395.out _; (with_reducible repeat (first | refine lN ?_ _ | refine lD ?_ | refine lA ?_ _)); refine lX ?_ NB383_394.out _; (with_reducible repeat (first | refine lN ?_ _ | refine lD ?_ | refine lA ?_ _)); refine lX ?_ NB383_394.out _; (with_reducible repeat (first | refine lN ?_ _ | refine lD ?_ | refine lA ?_ _)); refine lX ?_ NB383_394.out _; (with_reducible repeat (first | refine lN ?_ _ | refine lD ?_ | refine lA ?_ _)); exact BK383.out) hb); have n7_ := Aside0.mk (blk_below (g := gb394) (o := .cells #[.slice Ao104 t384.length co104, .int .i64 t387, .int .i64 t388] 29 (0, 0)) (by (with_reducible repeat (first | refine lN ?_ _ | refine lD ?_ | refine lA ?_ _)); refine lX ?_ NB394_395.out _; (with_reducible repeat (first | refine lN ?_ _ | refine lD ?_ | refine lA ?_ _)); refine lX ?_ NB394_395.out _; (with_reducible repeat (first | refine lN ?_ _ | refine lD ?_ | refine lA ?_ _)); refine lX ?_ NB394_395.out _; (with_reducible repeat (first | refine lN ?_ _ | refine lD ?_ | refine lA ?_ _)); refine lP (cs := #[.slice Ao104 t384.length co104, .int .i64 t387, .int .i64 0]) ?_ 2 _ rfl; (with_reducible repeat (first | refine lN ?_ _ | refine lD ?_ | refine lA ?_ _)); refine lP (cs := #[.slice Ao104 t384.length co104, .int .i64 0, .int .i64 0]) ?_ 1 _ rfl; (with_reducible repeat (first | refine lN ?_ _ | refine lD ?_ | refine lA ?_ _)); refine lP (cs := #[.slice none 0 0, .int .i64 0, .int .i64 0]) ?_ 0 _ rfl; (with_reducible repeat (first | refine lN ?_ _ | refine lD ?_ | refine lA ?_ _)); exact BK394.out) hb); have n8_ := Aside0.mk (blk_below (g := gb395) (o := .cells #[.int .i64 t389, .int .i64 t390, .int .i64 t391] 31 (0, 0)) (by (with_reducible repeat (first | refine lN ?_ _ | refine lD ?_ | refine lA ?_ _)); refine lP (cs := #[.int .i64 t389, .int .i64 t390, .int .i64 0]) ?_ 2 _ rfl; (with_reducible repeat (first | refine lN ?_ _ | refine lD ?_ | refine lA ?_ _)); refine lP (cs := #[.int .i64 t389, .int .i64 0, .int .i64 0]) ?_ 1 _ rfl; (with_reducible repeat (first | refine lN ?_ _ | refine lD ?_ | refine lA ?_ _)); refine lP (cs := #[.int .i64 0, .int .i64 0, .int .i64 0]) ?_ 0 _ rfl; (with_reducible repeat (first | refine lN ?_ _ | refine lD ?_ | refine lA ?_ _)); refine lX ?_ NB395_394.out _; (with_reducible repeat (first | refine lN ?_ _ | refine lD ?_ | refine lA ?_ _)); refine lX ?_ NB395_394.out _; (with_reducible repeat (first | refine lN ?_ _ | refine lD ?_ | refine lA ?_ _)); refine lX ?_ NB395_394.out _; (with_reducible repeat (first | refine lN ?_ _ | refine lD ?_ | refine lA ?_ _)); exact BK395.out) hb); have n9_ := Aside0.mk (below_step (by repeat (first | (with_reducible first | exact HB.out | apply bA | apply bN | apply bD | refine bS ?_ GE355.out | refine bS ?_ GE382.out | refine bS ?_ GE383.out | refine bS ?_ GE394.out | refine bS ?_ GE395.out) | exact HB.out)) hb); clear HO_356000; clear HO377; clear HO386; clear BK355; clear BK382; clear BK383; clear BK394; clear BK395; clear HB; have HO_356000 := n0_; have HO377 := n1_; have HO386 := n2_; have HO398 := n3_; have BK355 := n4_; have BK382 := n5_; have BK383 := n6_; have BK394 := n7_; have BK395 := n8_; have HB := n9_; clear n0_ n1_ n2_ n3_ n4_ n5_ n6_ n7_ n8_ n9_; (try clear hb); (try clear hb2); (try clear hk); (try clear hi); (try clear ho0)) | ((with_reducible refine gate_dst (N := 24) rfl ?_); refine box_event ?hg (N := 24) ?hd (cs := #[.slice none 0 0, .int .i64 0, .int .i64 0]) (t := 29) ?hr ?_; (case hd => rfl); (case hg => rfl); (case hr => first | (go_simp; done) | (go_simp; rfl)); intro gb406 hg w117 hbox hb; have n0_ := Aside0.mk (zQ HO_356000.out hb); have n1_ := Aside0.mk (zR HO377.out hb); have n2_ := Aside0.mk (zQ HO386.out hb); have n3_ := Aside0.mk (zR HO398.out hb); have n4_ := Aside0.mk (zB BK355.out hb); have n5_ := Aside0.mk (zB BK382.out hb); have n6_ := Aside0.mk (zB BK383.out hb); have n7_ := Aside0.mk (zB BK394.out hb); have n8_ := Aside0.mk (zB BK395.out hb); have n9_ := Aside0.mk (zS HB.out hb); have n10_ := Aside0.mk (hbox); have n11_ := Aside0.mk (zW hg HB.out); have n12_ := n11_; have n13_ := Aside0.mk (zL hg BK355.out); have n14_ := Aside0.mk (zG hg BK355.out); have n15_ := Aside0.mk (zL hg BK382.out); have n16_ := Aside0.mk (zG hg BK382.out); have n17_ := Aside0.mk (zL hg BK383.out); have n18_ := Aside0.mk (zG hg BK383.out); have n19_ := Aside0.mk (zL hg BK394.out); have n20_ := Aside0.mk (zG hg BK394.out); have n21_ := Aside0.mk (zL hg BK395.out); have n22_ := Aside0.mk (zG hg BK395.out); clear HO_356000; clear HO377; clear HO386; clear HO398; clear BK355; clear BK382; clear BK383; clear BK394; clear BK395; clear HB; have HO_356000 := n0_; have HO377 := n1_; have HO386 := n2_; have HO398 := n3_; have BK355 := n4_; have BK382 := n5_; have BK383 := n6_; have BK394 := n7_; have BK395 := n8_; have HB := n9_; have BK406 := n10_; have GW406 := n11_; have GE406 := n12_; have NB355_406 := n13_; have NB406_355 := n14_; have NB382_406 := n15_; have NB406_382 := n16_; have NB383_406 := n17_; have NB406_383 := n18_; have NB394_406 := n19_; have NB406_394 := n20_; have NB395_406 := n21_; have NB406_395 := n22_; clear n0_ n1_ n2_ n3_ n4_ n5_ n6_ n7_ n8_ n9_ n10_ n11_ n12_ n13_ n14_ n15_ n16_ n17_ n18_ n19_ n20_ n21_ n22_; clear hb hbox hg) | ((with_reducible refine gate_dst (N := 25) rfl ?_); refine box_event ?hg (N := 25) ?hd (cs := #[.int .i64 0, .int .i64 0, .int .i64 0]) (t := 31) ?hr ?_; (case hd => rfl); (case hg => rfl); (case hr => first | (go_simp; done) | (go_simp; rfl)); intro gb407 hg w118 hbox hb; have n0_ := Aside0.mk (zQ HO_356000.out hb); have n1_ := Aside0.mk (zR HO377.out hb); have n2_ := Aside0.mk (zQ HO386.out hb); have n3_ := Aside0.mk (zR HO398.out hb); have n4_ := Aside0.mk (zB BK355.out hb); have n5_ := Aside0.mk (zB BK382.out hb); have n6_ := Aside0.mk (zB BK383.out hb); have n7_ := Aside0.mk (zB BK394.out hb); have n8_ := Aside0.mk (zB BK395.out hb); have n9_ := Aside0.mk (zB BK406.out hb); have n10_ := Aside0.mk (zS HB.out hb); have n11_ := Aside0.mk (hbox); have n12_ := Aside0.mk (zW hg HB.out); have n13_ := n12_; have n14_ := Aside0.mk (zL hg BK355.out); have n15_ := Aside0.mk (zG hg BK355.out); have n16_ := Aside0.mk (zL hg BK382.out); have n17_ := Aside0.mk (zG hg BK382.out); have n18_ := Aside0.mk (zL hg BK383.out); have n19_ := Aside0.mk (zG hg BK383.out); have n20_ := Aside0.mk (zL hg BK394.out); have n21_ := Aside0.mk (zG hg BK394.out); have n22_ := Aside0.mk (zL hg BK395.out); have n23_ := Aside0.mk (zG hg BK395.out); have n24_ := Aside0.mk (zL hg BK406.out); have n25_ := Aside0.mk (zG hg BK406.out); clear HO_356000; clear HO377; clear HO386; clear HO398; clear BK355; clear BK382; clear BK383; clear BK394; clear BK395; clear BK406; clear HB; have HO_356000 := n0_; have HO377 := n1_; have HO386 := n2_; have HO398 := n3_; have BK355 := n4_; have BK382 := n5_; have BK383 := n6_; have BK394 := n7_; have BK395 := n8_; have BK406 := n9_; have HB := n10_; have BK407 := n11_; have GW407 := n12_; have GE407 := n13_; have NB355_407 := n14_; have NB407_355 := n15_; have NB382_407 := n16_; have NB407_382 := n17_; have NB383_407 := n18_; have NB407_383 := n19_; have NB394_407 := n20_; have NB407_394 := n21_; have NB395_407 := n22_; have NB407_395 := n23_; have NB406_407 := n24_; have NB407_406 := n25_; clear n0_ n1_ n2_ n3_ n4_ n5_ n6_ n7_ n8_ n9_ n10_ n11_ n12_ n13_ n14_ n15_ n16_ n17_ n18_ n19_ n20_ n21_ n22_ n23_ n24_ n25_; clear hb hbox hg; obtain ⟨Ao119, co119, eo119⟩ := rS HO398.out; subst eo119; have hnb120 := NB406_355.out; have hnc120 := NB355_406.out; have hnb121 := NB406_382.out; have hnc121 := NB382_406.out; have hnb122 := NB406_383.out; have hnc122 := NB383_406.out; have hnb123 := NB406_394.out; have hnc123 := NB394_406.out; have hnb124 := NB406_395.out; have hnc124 := NB395_406.out; have hnb125 := NB406_407.out; have hnc125 := NB407_406.out; have hcz126_0 : w118.cell? ⟨gb406, 0, none⟩ = some (.slice none 0 0) := (lC BK406.out 0).trans rfl; have hcz126_1 : w118.cell? ⟨gb406, 1, none⟩ = some (.int .i64 0) := (lC BK406.out 1).trans rfl; have hcz126_2 : w118.cell? ⟨gb406, 2, none⟩ = some (.int .i64 0) := (lC BK406.out 2).trans rfl; have hfz126_0 := lF BK406.out 0; have hfz126_1 := lF BK406.out 1; have hfz126_2 := lF BK406.out 2; have hnb127 := NB407_355.out; have hnc127 := NB355_407.out; have hnb128 := NB407_382.out; have hnc128 := NB382_407.out; have hnb129 := NB407_383.out; have hnc129 := NB383_407.out; have hnb130 := NB407_394.out; have hnc130 := NB394_407.out; have hnb131 := NB407_395.out; have hnc131 := NB395_407.out; have hcz132_0 : w118.cell? ⟨gb407, 0, none⟩ = some (.int .i64 0) := (lC BK407.out 0).trans rfl; have hcz132_1 : w118.cell? ⟨gb407, 1, none⟩ = some (.int .i64 0) := (lC BK407.out 1).trans rfl; have hcz132_2 : w118.cell? ⟨gb407, 2, none⟩ = some (.int .i64 0) := (lC BK407.out 2).trans rfl; have hfz132_0 := lF BK407.out 0; have hfz132_1 := lF BK407.out 1; have hfz132_2 := lF BK407.out 2) | ((with_reducible refine gate_callee (f := 21) rfl ?_); refine goesL_ (some 151) rfl rfl Try.func21 (by kernel_rfl) rfl #[.slice A1 l1.length c1] rfl (by (try simp only [List.map_toArray, List.map_cons, List.map_nil]); first | done | rfl | (simp only [List.length_drop, List.length_take]; rfl)) ?_; (with_reducible refine (spec_DrawNewClient.calls _ _ l1 t408 _ ?side1 ?side2 A79.out).mono ?_); (case side1 => exact Kd.C_below HR1.out (by repeat (first | (with_reducible first | exact HB.out | apply bA | apply bN | apply bD | refine bS ?_ GE355.out | refine bS ?_ GE382.out | refine bS ?_ GE383.out | refine bS ?_ GE394.out | refine bS ?_ GE395.out | refine bS ?_ GE406.out | refine bS ?_ GE407.out) | exact HB.out))); (case side2 => exact HC1.out); rintro e w133 ⟨rfl, hb⟩; refine ⟨_, rfl, ?_⟩; have n0_ := Aside0.mk (Kd.Q_below (by (with_reducible repeat (first | apply qA | apply qN | apply qD)); exact (Kd.Q_mono (Kd.Q_mono (Kd.Q_far (p := ⟨gb407, 2, none⟩) (Kd.Q_far (p := ⟨gb407, 1, none⟩) (Kd.Q_far (p := ⟨gb407, 0, none⟩) (Kd.Q_far (p := ⟨gb406, 2, none⟩) (Kd.Q_far (p := ⟨gb406, 1, none⟩) (Kd.Q_far (p := ⟨gb406, 0, none⟩) (Kd.Q_types (Kd.Q_types HO_356000.out BK406.out (by decide)) BK407.out (by decide)) (fun _ hk => hk.1.2) (.slice Ao119 t396.length co119)) (fun _ hk => hk.1.2) (.int .i64 t399)) (fun _ hk => hk.1.2) (.int .i64 t400)) (fun _ hk => hk.2) (.int .i64 t401)) (fun _ hk => hk.2) (.int .i64 t402)) (fun _ hk => hk.2) (.int .i64 t403)) (fun _ h_ => h_.1)) (fun _ h_ => h_.1))) hb); have n1_ := Aside0.mk (rB (by (with_reducible repeat (first | apply rA | apply rN | apply rD)); exact (rM (rM (Kd.R_far (p := ⟨gb407, 2, none⟩) (Kd.R_far (p := ⟨gb407, 1, none⟩) (Kd.R_far (p := ⟨gb407, 0, none⟩) (Kd.R_far (p := ⟨gb406, 2, none⟩) (Kd.R_far (p := ⟨gb406, 1, none⟩) (Kd.R_far (p := ⟨gb406, 0, none⟩) (Kd.R_types (Kd.R_types HO377.out BK406.out (by decide)) BK407.out (by decide)) (fun _ hk => hk.1.2) (.slice Ao119 t396.length co119)) (fun _ hk => hk.1.2) (.int .i64 t399)) (fun _ hk => hk.1.2) (.int .i64 t400)) (fun _ hk => hk.2) (.int .i64 t401)) (fun _ hk => hk.2) (.int .i64 t402)) (fun _ hk => hk.2) (.int .i64 t403)) (fun _ h_ => h_.1)) (fun _ h_ => h_.1))) hb); have n2_ := Aside0.mk (Kd.Q_below (by (with_reducible repeat (first | apply qA | apply qN | apply qD)); exact (Kd.Q_mono (Kd.Q_mono (Kd.Q_far (p := ⟨gb407, 2, none⟩) (Kd.Q_far (p := ⟨gb407, 1, none⟩) (Kd.Q_far (p := ⟨gb407, 0, none⟩) (Kd.Q_far (p := ⟨gb406, 2, none⟩) (Kd.Q_far (p := ⟨gb406, 1, none⟩) (Kd.Q_far (p := ⟨gb406, 0, none⟩) (Kd.Q_types (Kd.Q_types HO386.out BK406.out (by decide)) BK407.out (by decide)) (fun _ hk => hk.1.2) (.slice Ao119 t396.length co119)) (fun _ hk => hk.1.2) (.int .i64 t399)) (fun _ hk => hk.1.2) (.int .i64 t400)) (fun _ hk => hk.2) (.int .i64 t401)) (fun _ hk => hk.2) (.int .i64 t402)) (fun _ hk => hk.2) (.int .i64 t403)) (fun _ h_ => h_.1)) (fun _ h_ => h_.1))) hb); have n3_ := Aside0.mk (rB (by (with_reducible repeat (first | apply rA | apply rN | apply rD)); exact (rM (rM (Kd.R_far (p := ⟨gb407, 2, none⟩) (Kd.R_far (p := ⟨gb407, 1, none⟩) (Kd.R_far (p := ⟨gb407, 0, none⟩) (Kd.R_far (p := ⟨gb406, 2, none⟩) (Kd.R_far (p := ⟨gb406, 1, none⟩) (Kd.R_far (p := ⟨gb406, 0, none⟩) (Kd.R_types (Kd.R_types HO398.out BK406.out (by decide)) BK407.out (by decide)) (fun _ hk => hk.1.2) (.slice Ao119 t396.length co119)) (fun _ hk => hk.1.2) (.int .i64 t399)) (fun _ hk => hk.1.2) (.int .i64 t400)) (fun _ hk => hk.2) (.int .i64 t401)) (fun _ hk => hk.2) (.int .i64 t402)) (fun _ hk => hk.2) (.int .i64 t403)) (fun _ h_ => h_.1)) (fun _ h_ => h_.1))) hb); have n4_ := Aside0.mk (blk_below (g := gb355) (o := .cells #[.slice Ao15 t349.length co15, .int .i64 t352, .int .i64 t353] 29 (0, 0)) (by (with_reducible repeat (first | refine lN ?_ _ | refine lD ?_ | refine lA ?_ _)); refine lX ?_ NB355_407.out _; (with_reducible repeat (first | refine lN ?_ _ | refine lD ?_ | refine lA ?_ _)); refine lX ?_ NB355_407.out _; (with_reducible repeat (first | refine lN ?_ _ | refine lD ?_ | refine lA ?_ _)); refine lX ?_ NB355_407.out _; (with_reducible repeat (first | refine lN ?_ _ | refine lD ?_ | refine lA ?_ _)); refine lX ?_ NB355_406.out _; (with_reducible repeat (first | refine lN ?_ _ | refine lD ?_ | refine lA ?_ _)); refine lX ?_ NB355_406.out _; (with_reducible repeat (first | refine lN ?_ _ | refine lD ?_ | refine lA ?_ _)); refine lX ?_ NB355_406.out _; (with_reducible repeat (first | refine lN ?_ _ | refine lD ?_ | refine lA ?_ _)); exact BK355.out) hb); have n5_ := Aside0.mk (blk_below (g := gb382) (o := .cells #[.slice Ao95 t375.length co95, .int .i64 t378, .int .i64 t379] 29 (0, 0)) (by (with_reducible repeat (first | refine lN ?_ _ | refine lD ?_ | refine lA ?_ _)); refine lX ?_ NB382_407.out _; (with_reducible repeat (first | refine lN ?_ _ | refine lD ?_ | refine lA ?_ _)); refine lX ?_ NB382_407.out _; (with_reducible repeat (first | refine lN ?_ _ | refine lD ?_ | refine lA ?_ _)); refine lX ?_ NB382_407.out _; (with_reducible repeat (first | refine lN ?_ _ | refine lD ?_ | refine lA ?_ _)); refine lX ?_ NB382_406.out _; (with_reducible repeat (first | refine lN ?_ _ | refine lD ?_ | refine lA ?_ _)); refine lX ?_ NB382_406.out _; (with_reducible repeat (first | refine lN ?_ _ | refine lD ?_ | refine lA ?_ _)); refine lX ?_ NB382_406.out _; (with_reducible repeat (first | refine lN ?_ _ | refine lD ?_ | refine lA ?_ _)); exact BK382.out) hb); have n6_ := Aside0.mk (blk_below (g := gb383) (o := .cells #[.int .i64 t380, .string t381] 35 (0, 0)) (by (with_reducible repeat (first | refine lN ?_ _ | refine lD ?_ | refine lA ?_ _)); refine lX ?_ NB383_407.out _; (with_reducible repeat (first | refine lN ?_ _ | refine lD ?_ | refine lA ?_ _)); refine lX ?_ NB383_407.out _; (with_reducible repeat (first | refine lN ?_ _ | refine lD ?_ | refine lA ?_ _)); refine lX ?_ NB383_407.out _; (with_reducible repeat (first | refine lN ?_ _ | refine lD ?_ | refine lA ?_ _)); refine lX ?_ NB383_406.out _; (with_reducible repeat (first | refine lN ?_ _ | refine lD ?_ | refine lA ?_ _)); refine lX ?_ NB383_406.out _; (with_reducible repeat (first | refine lN ?_ _ | refine lD ?_ | refine lA ?_ _)); refine lX ?_ NB383_406.out _; (with_reducible repeat (first | refine lN ?_ _ | refine lD ?_ | refine lA ?_ _)); exact BK383.out) hb); have n7_ := Aside0.mk (blk_below (g := gb394) (o := .cells #[.slice Ao104 t384.length co104, .int .i64 t387, .int .i64 t388] 29 (0, 0)) (by (with_reducible repeat (first | refine lN ?_ _ | refine lD ?_ | refine lA ?_ _)); refine lX ?_ NB394_407.out _; (with_reducible repeat (first | refine lN ?_ _ | refine lD ?_ | refine lA ?_ _)); refine lX ?_ NB394_407.out _; (with_reducible repeat (first | refine lN ?_ _ | refine lD ?_ | refine lA ?_ _)); refine lX ?_ NB394_407.out _; (with_reducible repeat (first | refine lN ?_ _ | refine lD ?_ | refine lA ?_ _)); refine lX ?_ NB394_406.out _; (with_reducible repeat (first | refine lN ?_ _ | refine lD ?_ | refine lA ?_ _)); refine lX ?_ NB394_406.out _; (with_reducible repeat (first | refine lN ?_ _ | refine lD ?_ | refine lA ?_ _)); refine lX ?_ NB394_406.out _; (with_reducible repeat (first | refine lN ?_ _ | refine lD ?_ | refine lA ?_ _)); exact BK394.out) hb); have n8_ := Aside0.mk (blk_below (g := gb395) (o := .cells #[.int .i64 t389, .int .i64 t390, .int .i64 t391] 31 (0, 0)) (by (with_reducible repeat (first | refine lN ?_ _ | refine lD ?_ | refine lA ?_ _)); refine lX ?_ NB395_407.out _; (with_reducible repeat (first | refine lN ?_ _ | refine lD ?_ | refine lA ?_ _)); refine lX ?_ NB395_407.out _; (with_reducible repeat (first | refine lN ?_ _ | refine lD ?_ | refine lA ?_ _)); refine lX ?_ NB395_407.out _; (with_reducible repeat (first | refine lN ?_ _ | refine lD ?_ | refine lA ?_ _)); refine lX ?_ NB395_406.out _; (with_reducible repeat (first | refine lN ?_ _ | refine lD ?_ | refine lA ?_ _)); refine lX ?_ NB395_406.out _; (with_reducible repeat (first | refine lN ?_ _ | refine lD ?_ | refine lA ?_ _)); refine lX ?_ NB395_406.out _; (with_reducible repeat (first | refine lN ?_ _ | refine lD ?_ | refine lA ?_ _)); exact BK395.out) hb); have n9_ := Aside0.mk (blk_below (g := gb406) (o := .cells #[.slice Ao119 t396.length co119, .int .i64 t399, .int .i64 t400] 29 (0, 0)) (by (with_reducible repeat (first | refine lN ?_ _ | refine lD ?_ | refine lA ?_ _)); refine lX ?_ NB406_407.out _; (with_reducible repeat (first | refine lN ?_ _ | refine lD ?_ | refine lA ?_ _)); refine lX ?_ NB406_407.out _; (with_reducible repeat (first | refine lN ?_ _ | refine lD ?_ | refine lA ?_ _)); refine lX ?_ NB406_407.out _; (with_reducible repeat (first | refine lN ?_ _ | refine lD ?_ | refine lA ?_ _)); refine lP (cs := #[.slice Ao119 t396.length co119, .int .i64 t399, .int .i64 0]) ?_ 2 _ rfl; (with_reducible repeat (first | refine lN ?_ _ | refine lD ?_ | refine lA ?_ _)); refine lP (cs := #[.slice Ao119 t396.length co119, .int .i64 0, .int .i64 0]) ?_ 1 _ rfl; (with_reducible repeat (first | refine lN ?_ _ | refine lD ?_ | refine lA ?_ _)); refine lP (cs := #[.slice none 0 0, .int .i64 0, .int .i64 0]) ?_ 0 _ rfl; (with_reducible repeat (first | refine lN ?_ _ | refine lD ?_ | refine lA ?_ _)); exact BK406.out) hb); have n10_ := Aside0.mk (blk_below (g := gb407) (o := .cells #[.int .i64 t401, .int .i64 t402, .int .i64 t403] 31 (0, 0)) (by (with_reducible repeat (first | refine lN ?_ _ | refine lD ?_ | refine lA ?_ _)); refine lP (cs := #[.int .i64 t401, .int .i64 t402, .int .i64 0]) ?_ 2 _ rfl; (with_reducible repeat (first | refine lN ?_ _ | refine lD ?_ | refine lA ?_ _)); refine lP (cs := #[.int .i64 t401, .int .i64 0, .int .i64 0]) ?_ 1 _ rfl; (with_reducible repeat (first | refine lN ?_ _ | refine lD ?_ | refine lA ?_ _)); refine lP (cs := #[.int .i64 0, .int .i64 0, .int .i64 0]) ?_ 0 _ rfl; (with_reducible repeat (first | refine lN ?_ _ | refine lD ?_ | refine lA ?_ _)); refine lX ?_ NB407_406.out _; (with_reducible repeat (first | refine lN ?_ _ | refine lD ?_ | refine lA ?_ _)); refine lX ?_ NB407_406.out _; (with_reducible repeat (first | refine lN ?_ _ | refine lD ?_ | refine lA ?_ _)); refine lX ?_ NB407_406.out _; (with_reducible repeat (first | refine lN ?_ _ | refine lD ?_ | refine lA ?_ _)); exact BK407.out) hb); have n11_ := Aside0.mk (below_step (by repeat (first | (with_reducible first | exact HB.out | apply bA | apply bN | apply bD | refine bS ?_ GE355.out | refine bS ?_ GE382.out | refine bS ?_ GE383.out | refine bS ?_ GE394.out | refine bS ?_ GE395.out | refine bS ?_ GE406.out | refine bS ?_ GE407.out) | exact HB.out)) hb); clear HO_356000; clear HO377; clear HO386; clear HO398; clear BK355; clear BK382; clear BK383; clear BK394; clear BK395; clear BK406; clear BK407; clear HB; have HO_356000 := n0_; have HO377 := n1_; have HO386 := n2_; have HO398 := n3_; have BK355 := n4_; have BK382 := n5_; have BK383 := n6_; have BK394 := n7_; have BK395 := n8_; have BK406 := n9_; have BK407 := n10_; have HB := n11_; clear n0_ n1_ n2_ n3_ n4_ n5_ n6_ n7_ n8_ n9_ n10_ n11_; (try clear hb); (try clear hb2); (try clear hk); (try clear hi)) | ((with_reducible refine gate_callee (f := 22) rfl ?_); refine goesL_ (some 154) rfl rfl Try.func22 (by kernel_rfl) rfl #[.int .i64 t408] rfl (by (try simp only [List.map_toArray, List.map_cons, List.map_nil]); first | done | rfl | (simp only [List.length_drop, List.length_take]; rfl)) ?_; (with_reducible refine (impl_NewClient.calls t408 t409 t412 t413 t414 _ A80.out).mono ?_); rintro e w134 ⟨v410, rfl, ho0, hb⟩; refine ⟨_, rfl, ?_⟩; have n0_ := Aside0.mk (Kd.Q_elder' (by (with_reducible repeat (first | apply qA | apply qN | apply qD)); exact HO_356000.out) (rE ho0) hb); have n1_ := Aside0.mk (rF (by (with_reducible repeat (first | apply rA | apply rN | apply rD)); exact HO377.out) (rE ho0) hb); have n2_ := Aside0.mk (Kd.Q_elder' (by (with_reducible repeat (first | apply qA | apply qN | apply qD)); exact HO386.out) (rE ho0) hb); have n3_ := Aside0.mk (rF (by (with_reducible repeat (first | apply rA | apply rN | apply rD)); exact HO398.out) (rE ho0) hb); have n4_ := Aside0.mk (Kd.R_lower (Kd.R_new' (Kd.R_new' (Kd.R_new' (Kd.R_new' ho0 (Kd.Q_lt (by (with_reducible repeat (first | apply qA | apply qN | apply qD)); exact HO_356000.out))) (Kd.R_lt (by (with_reducible repeat (first | apply rA | apply rN | apply rD)); exact HO377.out))) (Kd.Q_lt (by (with_reducible repeat (first | apply qA | apply qN | apply qD)); exact HO386.out))) (Kd.R_lt (by (with_reducible repeat (first | apply rA | apply rN | apply rD)); exact HO398.out))) (zV HB.out)); have n5_ := Aside0.mk (zB BK355.out hb); have n6_ := Aside0.mk (zB BK382.out hb); have n7_ := Aside0.mk (zB BK383.out hb); have n8_ := Aside0.mk (zB BK394.out hb); have n9_ := Aside0.mk (zB BK395.out hb); have n10_ := Aside0.mk (zB BK406.out hb); have n11_ := Aside0.mk (zB BK407.out hb); have n12_ := Aside0.mk (zS HB.out hb); clear HO_356000; clear HO377; clear HO386; clear HO398; clear BK355; clear BK382; clear BK383; clear BK394; clear BK395; clear BK406; clear BK407; clear HB; have HO_356000 := n0_; have HO377 := n1_; have HO386 := n2_; have HO398 := n3_; have HO411 := n4_; have BK355 := n5_; have BK382 := n6_; have BK383 := n7_; have BK394 := n8_; have BK395 := n9_; have BK406 := n10_; have BK407 := n11_; have HB := n12_; clear n0_ n1_ n2_ n3_ n4_ n5_ n6_ n7_ n8_ n9_ n10_ n11_ n12_; (try clear hb); (try clear hb2); (try clear hk); (try clear hi); (try clear ho0)) | ((with_reducible refine gate_dst (N := 29) rfl ?_); refine box_event ?hg (N := 29) ?hd (cs := #[.slice none 0 0, .int .i64 0, .int .i64 0]) (t := 29) ?hr ?_; (case hd => rfl); (case hg => rfl); (case hr => first | (go_simp; done) | (go_simp; rfl)); intro gb415 hg w135 hbox hb; have n0_ := Aside0.mk (zQ HO_356000.out hb); have n1_ := Aside0.mk (zR HO377.out hb); have n2_ := Aside0.mk (zQ HO386.out hb); have n3_ := Aside0.mk (zR HO398.out hb); have n4_ := Aside0.mk (zR HO411.out hb); have n5_ := Aside0.mk (zB BK355.out hb); have n6_ := Aside0.mk (zB BK382.out hb); have n7_ := Aside0.mk (zB BK383.out hb); have n8_ := Aside0.mk (zB BK394.out hb); have n9_ := Aside0.mk (zB BK395.out hb); have n10_ := Aside0.mk (zB BK406.out hb); have n11_ := Aside0.mk (zB BK407.out hb); have n12_ := Aside0.mk (zS HB.out hb); have n13_ := Aside0.mk (hbox); have n14_ := Aside0.mk (zW hg HB.out); have n15_ := n14_; have n16_ := Aside0.mk (zL hg BK355.out); have n17_ := Aside0.mk (zG hg BK355.out); have n18_ := Aside0.mk (zL hg BK382.out); have n19_ := Aside0.mk (zG hg BK382.out); have n20_ := Aside0.mk (zL hg BK383.out); have n21_ := Aside0.mk (zG hg BK383.out); have n22_ := Aside0.mk (zL hg BK394.out); have n23_ := Aside0.mk (zG hg BK394.out); have n24_ := Aside0.mk (zL hg BK395.out); have n25_ := Aside0.mk (zG hg BK395.out); have n26_ := Aside0.mk (zL hg BK406.out); have n27_ := Aside0.mk (zG hg BK406.out); have n28_ := Aside0.mk (zL hg BK407.out); have n29_ := Aside0.mk (zG hg BK407.out); clear HO_356000; clear HO377; clear HO386; clear HO398; clear HO411; clear BK355; clear BK382; clear BK383; clear BK394; clear BK395; clear BK406; clear BK407; clear HB; have HO_356000 := n0_; have HO377 := n1_; have HO386 := n2_; have HO398 := n3_; have HO411 := n4_; have BK355 := n5_; have BK382 := n6_; have BK383 := n7_; have BK394 := n8_; have BK395 := n9_; have BK406 := n10_; have BK407 := n11_; have HB := n12_; have BK415 := n13_; have GW415 := n14_; have GE415 := n15_; have NB355_415 := n16_; have NB415_355 := n17_; have NB382_415 := n18_; have NB415_382 := n19_; have NB383_415 := n20_; have NB415_383 := n21_; have NB394_415 := n22_; have NB415_394 := n23_; have NB395_415 := n24_; have NB415_395 := n25_; have NB406_415 := n26_; have NB415_406 := n27_; have NB407_415 := n28_; have NB415_407 := n29_; clear n0_ n1_ n2_ n3_ n4_ n5_ n6_ n7_ n8_ n9_ n10_ n11_ n12_ n13_ n14_ n15_ n16_ n17_ n18_ n19_ n20_ n21_ n22_ n23_ n24_ n25_ n26_ n27_ n28_ n29_; clear hb hbox hg; obtain ⟨Ao136, co136, eo136⟩ := rS HO411.out; subst eo136; have hnb137 := NB415_355.out; have hnc137 := NB355_415.out; have hnb138 := NB415_382.out; have hnc138 := NB382_415.out; have hnb139 := NB415_383.out; have hnc139 := NB383_415.out; have hnb140 := NB415_394.out; have hnc140 := NB394_415.out; have hnb141 := NB415_395.out; have hnc141 := NB395_415.out; have hnb142 := NB415_406.out; have hnc142 := NB406_415.out; have hnb143 := NB415_407.out; have hnc143 := NB407_415.out; have hcz144_0 : w135.cell? ⟨gb415, 0, none⟩ = some (.slice none 0 0) := (lC BK415.out 0).trans rfl; have hcz144_1 : w135.cell? ⟨gb415, 1, none⟩ = some (.int .i64 0) := (lC BK415.out 1).trans rfl; have hcz144_2 : w135.cell? ⟨gb415, 2, none⟩ = some (.int .i64 0) := (lC BK415.out 2).trans rfl; have hfz144_0 := lF BK415.out 0; have hfz144_1 := lF BK415.out 1; have hfz144_2 := lF BK415.out 2) | ((with_reducible refine gate_callee (f := 23) rfl ?_); refine goesL_ (some 159) rfl rfl Try.func23 (by kernel_rfl) rfl #[.int .i64 t408] rfl (by (try simp only [List.map_toArray, List.map_cons, List.map_nil]); first | done | rfl | (simp only [List.length_drop, List.length_take]; rfl)) ?_; (with_reducible refine (spec_NewClient.calls t408 t416 t419 t420 t421 _ A81.out).mono ?_); rintro e w145 ⟨v417, rfl, ho0, hb⟩; refine ⟨_, rfl, ?_⟩; have n0_ := Aside0.mk (Kd.Q_elder' (by (with_reducible repeat (first | apply qA | apply qN | apply qD)); exact (Kd.Q_mono (Kd.Q_far (p := ⟨gb415, 2, none⟩) (Kd.Q_far (p := ⟨gb415, 1, none⟩) (Kd.Q_far (p := ⟨gb415, 0, none⟩) (Kd.Q_types HO_356000.out BK415.out (by decide)) (fun _ hk => hk.2) (.slice Ao136 t409.length co136)) (fun _ hk => hk.2) (.int .i64 t412)) (fun _ hk => hk.2) (.int .i64 t413)) (fun _ h_ => h_.1))) (rE ho0) hb); have n1_ := Aside0.mk (rF (by (with_reducible repeat (first | apply rA | apply rN | apply rD)); exact (rM (Kd.R_far (p := ⟨gb415, 2, none⟩) (Kd.R_far (p := ⟨gb415, 1, none⟩) (Kd.R_far (p := ⟨gb415, 0, none⟩) (Kd.R_types HO377.out BK415.out (by decide)) (fun _ hk => hk.2) (.slice Ao136 t409.length co136)) (fun _ hk => hk.2) (.int .i64 t412)) (fun _ hk => hk.2) (.int .i64 t413)) (fun _ h_ => h_.1))) (rE ho0) hb); have n2_ := Aside0.mk (Kd.Q_elder' (by (with_reducible repeat (first | apply qA | apply qN | apply qD)); exact (Kd.Q_mono (Kd.Q_far (p := ⟨gb415, 2, none⟩) (Kd.Q_far (p := ⟨gb415, 1, none⟩) (Kd.Q_far (p := ⟨gb415, 0, none⟩) (Kd.Q_types HO386.out BK415.out (by decide)) (fun _ hk => hk.2) (.slice Ao136 t409.length co136)) (fun _ hk => hk.2) (.int .i64 t412)) (fun _ hk => hk.2) (.int .i64 t413)) (fun _ h_ => h_.1))) (rE ho0) hb); have n3_ := Aside0.mk (rF (by (with_reducible repeat (first | apply rA | apply rN | apply rD)); exact (rM (Kd.R_far (p := ⟨gb415, 2, none⟩) (Kd.R_far (p := ⟨gb415, 1, none⟩) (Kd.R_far (p := ⟨gb415, 0, none⟩) (Kd.R_types HO398.out BK415.out (by decide)) (fun _ hk => hk.2) (.slice Ao136 t409.length co136)) (fun _ hk => hk.2) (.int .i64 t412)) (fun _ hk => hk.2) (.int .i64 t413)) (fun _ h_ => h_.1))) (rE ho0) hb); have n4_ := Aside0.mk (rF (by (with_reducible repeat (first | apply rA | apply rN | apply rD)); exact (rM (Kd.R_far (p := ⟨gb415, 2, none⟩) (Kd.R_far (p := ⟨gb415, 1, none⟩) (Kd.R_far (p := ⟨gb415, 0, none⟩) (Kd.R_types HO411.out BK415.out (by decide)) (fun _ hk => hk.2) (.slice Ao136 t409.length co136)) (fun _ hk => hk.2) (.int .i64 t412)) (fun _ hk => hk.2) (.int .i64 t413)) (fun _ h_ => h_.1))) (rE ho0) hb); have n5_ := Aside0.mk (Kd.R_lower (Kd.R_new' (Kd.R_new' (Kd.R_new' (Kd.R_new' (Kd.R_new' ho0 (Kd.Q_lt (by (with_reducible repeat (first | apply qA | apply qN | apply qD)); exact (Kd.Q_mono (Kd.Q_far (p := ⟨gb415, 2, none⟩) (Kd.Q_far (p := ⟨gb415, 1, none⟩) (Kd.Q_far (p := ⟨gb415, 0, none⟩) (Kd.Q_types HO_356000.out BK415.out (by decide)) (fun _ hk => hk.2) (.slice Ao136 t409.length co136)) (fun _ hk => hk.2) (.int .i64 t412)) (fun _ hk => hk.2) (.int .i64 t413)) (fun _ h_ => h_.1))))) (Kd.R_lt (by (with_reducible repeat (first | apply rA | apply rN | apply rD)); exact (rM (Kd.R_far (p := ⟨gb415, 2, none⟩) (Kd.R_far (p := ⟨gb415, 1, none⟩) (Kd.R_far (p := ⟨gb415, 0, none⟩) (Kd.R_types HO377.out BK415.out (by decide)) (fun _ hk => hk.2) (.slice Ao136 t409.length co136)) (fun _ hk => hk.2) (.int .i64 t412)) (fun _ hk => hk.2) (.int .i64 t413)) (fun _ h_ => h_.1))))) (Kd.Q_lt (by (with_reducible repeat (first | apply qA | apply qN | apply qD)); exact (Kd.Q_mono (Kd.Q_far (p := ⟨gb415, 2, none⟩) (Kd.Q_far (p := ⟨gb415, 1, none⟩) (Kd.Q_far (p := ⟨gb415, 0, none⟩) (Kd.Q_types HO386.out BK415.out (by decide)) (fun _ hk => hk.2) (.slice Ao136 t409.length co136)) (fun _ hk => hk.2) (.int .i64 t412)) (fun _ hk => hk.2) (.int .i64 t413)) (fun _ h_ => h_.1))))) (Kd.R_lt (by (with_reducible repeat (first | apply rA | apply rN | apply rD)); exact (rM (Kd.R_far (p := ⟨gb415, 2, none⟩) (Kd.R_far (p := ⟨gb415, 1, none⟩) (Kd.R_far (p := ⟨gb415, 0, none⟩) (Kd.R_types HO398.out BK415.out (by decide)) (fun _ hk => hk.2) (.slice Ao136 t409.length co136)) (fun _ hk => hk.2) (.int .i64 t412)) (fun _ hk => hk.2) (.int .i64 t413)) (fun _ h_ => h_.1))))) (Kd.R_lt (by (with_reducible repeat (first | apply rA | apply rN | apply rD)); exact (rM (Kd.R_far (p := ⟨gb415, 2, none⟩) (Kd.R_far (p := ⟨gb415, 1, none⟩) (Kd.R_far (p := ⟨gb415, 0, none⟩) (Kd.R_types HO411.out BK415.out (by decide)) (fun _ hk => hk.2) (.slice Ao136 t409.length co136)) (fun _ hk => hk.2) (.int .i64 t412)) (fun _ hk => hk.2) (.int .i64 t413)) (fun _ h_ => h_.1))))) (below_size (by repeat (first | (with_reducible first | exact HB.out | apply bA | apply bN | apply bD | refine bS ?_ GE355.out | refine bS ?_ GE382.out | refine bS ?_ GE383.out | refine bS ?_ GE394.out | refine bS ?_ GE395.out | refine bS ?_ GE406.out | refine bS ?_ GE407.out | refine bS ?_ GE415.out) | exact HB.out)))); have n6_ := Aside0.mk (blk_below (g := gb355) (o := .cells #[.slice Ao15 t349.length co15, .int .i64 t352, .int .i64 t353] 29 (0, 0)) (by (with_reducible repeat (first | refine lN ?_ _ | refine lD ?_ | refine lA ?_ _)); refine lX ?_ NB355_415.out _; (with_reducible repeat (first | refine lN ?_ _ | refine lD ?_ | refine lA ?_ _)); refine lX ?_ NB355_415.out _; (with_reducible repeat (first | refine lN ?_ _ | refine lD ?_ | refine lA ?_ _)); refine lX ?_ NB355_415.out _; (with_reducible repeat (first | refine lN ?_ _ | refine lD ?_ | refine lA ?_ _)); exact BK355.out) hb); have n7_ := Aside0.mk (blk_below (g := gb382) (o := .cells #[.slice Ao95 t375.length co95, .int .i64 t378, .int .i64 t379] 29 (0, 0)) (by (with_reducible repeat (first | refine lN ?_ _ | refine lD ?_ | refine lA ?_ _)); refine lX ?_ NB382_415.out _; (with_reducible repeat (first | refine lN ?_ _ | refine lD ?_ | refine lA ?_ _)); refine lX ?_ NB382_415.out _; (with_reducible repeat (first | refine lN ?_ _ | refine lD ?_ | refine lA ?_ _)); refine lX ?_ NB382_415.out _; (with_reducible repeat (first | refine lN ?_ _ | refine lD ?_ | refine lA ?_ _)); exact BK382.out) hb); have n8_ := Aside0.mk (blk_below (g := gb383) (o := .cells #[.int .i64 t380, .string t381] 35 (0, 0)) (by (with_reducible repeat (first | refine lN ?_ _ | refine lD ?_ | refine lA ?_ _)); refine lX ?_ NB383_415.out _; (with_reducible repeat (first | refine lN ?_ _ | refine lD ?_ | refine lA ?_ _)); refine lX ?_ NB383_415.out _; (with_reducible repeat (first | refine lN ?_ _ | refine lD ?_ | refine lA ?_ _)); refine lX ?_ NB383_415.out _; (with_reducible repeat (first | refine lN ?_ _ | refine lD ?_ | refine lA ?_ _)); exact BK383.out) hb); have n9_ := Aside0.mk (blk_below (g := gb394) (o := .cells #[.slice Ao104 t384.length co104, .int .i64 t387, .int .i64 t388] 29 (0, 0)) (by (with_reducible repeat (first | refine lN ?_ _ | refine lD ?_ | refine lA ?_ _)); refine lX ?_ NB394_415.out _; (with_reducible repeat (first | refine lN ?_ _ | refine lD ?_ | refine lA ?_ _)); refine lX ?_ NB394_415.out _; (with_reducible repeat (first | refine lN ?_ _ | refine lD ?_ | refine lA ?_ _)); refine lX ?_ NB394_415.out _; (with_reducible repeat (first | refine lN ?_ _ | refine lD ?_ | refine lA ?_ _)); exact BK394.out) hb); have n10_ := Aside0.mk (blk_below (g := gb395) (o := .cells #[.int .i64 t389, .int .i64 t390, .int .i64 t391] 31 (0, 0)) (by (with_reducible repeat (first | refine lN ?_ _ | refine lD ?_ | refine lA ?_ _)); refine lX ?_ NB395_415.out _; (with_reducible repeat (first | refine lN ?_ _ | refine lD ?_ | refine lA ?_ _)); refine lX ?_ NB395_415.out _; (with_reducible repeat (first | refine lN ?_ _ | refine lD ?_ | refine lA ?_ _)); refine lX ?_ NB395_415.out _; (with_reducible repeat (first | refine lN ?_ _ | refine lD ?_ | refine lA ?_ _)); exact BK395.out) hb); have n11_ := Aside0.mk (blk_below (g := gb406) (o := .cells #[.slice Ao119 t396.length co119, .int .i64 t399, .int .i64 t400] 29 (0, 0)) (by (with_reducible repeat (first | refine lN ?_ _ | refine lD ?_ | refine lA ?_ _)); refine lX ?_ NB406_415.out _; (with_reducible repeat (first | refine lN ?_ _ | refine lD ?_ | refine lA ?_ _)); refine lX ?_ NB406_415.out _; (with_reducible repeat (first | refine lN ?_ _ | refine lD ?_ | refine lA ?_ _)); refine lX ?_ NB406_415.out _; (with_reducible repeat (first | refine lN ?_ _ | refine lD ?_ | refine lA ?_ _)); exact BK406.out) hb); have n12_ := Aside0.mk (blk_below (g := gb407) (o := .cells #[.int .i64 t401, .int .i64 t402, .int .i64 t403] 31 (0, 0)) (by (with_reducible repeat (first | refine lN ?_ _ | refine lD ?_ | refine lA ?_ _)); refine lX ?_ NB407_415.out _; (with_reducible repeat (first | refine lN ?_ _ | refine lD ?_ | refine lA ?_ _)); refine lX ?_ NB407_415.out _; (with_reducible repeat (first | refine lN ?_ _ | refine lD ?_ | refine lA ?_ _)); refine lX ?_ NB407_415.out _; (with_reducible repeat (first | refine lN ?_ _ | refine lD ?_ | refine lA ?_ _)); exact BK407.out) hb); have n13_ := Aside0.mk (blk_below (g := gb415) (o := .cells #[.slice Ao136 t409.length co136, .int .i64 t412, .int .i64 t413] 29 (0, 0)) (by (with_reducible repeat (first | refine lN ?_ _ | refine lD ?_ | refine lA ?_ _)); refine lP (cs := #[.slice Ao136 t409.length co136, .int .i64 t412, .int .i64 0]) ?_ 2 _ rfl; (with_reducible repeat (first | refine lN ?_ _ | refine lD ?_ | refine lA ?_ _)); refine lP (cs := #[.slice Ao136 t409.length co136, .int .i64 0, .int .i64 0]) ?_ 1 _ rfl; (with_reducible repeat (first | refine lN ?_ _ | refine lD ?_ | refine lA ?_ _)); refine lP (cs := #[.slice none 0 0, .int .i64 0, .int .i64 0]) ?_ 0 _ rfl; (with_reducible repeat (first | refine lN ?_ _ | refine lD ?_ | refine lA ?_ _)); exact BK415.out) hb); have n14_ := Aside0.mk (below_step (by repeat (first | (with_reducible first | exact HB.out | apply bA | apply bN | apply bD | refine bS ?_ GE355.out | refine bS ?_ GE382.out | refine bS ?_ GE383.out | refine bS ?_ GE394.out | refine bS ?_ GE395.out | refine bS ?_ GE406.out | refine bS ?_ GE407.out | refine bS ?_ GE415.out) | exact HB.out)) hb); clear HO_356000; clear HO377; clear HO386; clear HO398; clear HO411; clear BK355; clear BK382; clear BK383; clear BK394; clear BK395; clear BK406; clear BK407; clear BK415; clear HB; have HO_356000 := n0_; have HO377 := n1_; have HO386 := n2_; have HO398 := n3_; have HO411 := n4_; have HO418 := n5_; have BK355 := n6_; have BK382 := n7_; have BK383 := n8_; have BK394 := n9_; have BK395 := n10_; have BK406 := n11_; have BK407 := n12_; have BK415 := n13_; have HB := n14_; clear n0_ n1_ n2_ n3_ n4_ n5_ n6_ n7_ n8_ n9_ n10_ n11_ n12_ n13_ n14_; (try clear hb); (try clear hb2); (try clear hk); (try clear hi); (try clear ho0)) | ((with_reducible refine gate_dst (N := 31) rfl ?_); refine box_event ?hg (N := 31) ?hd (cs := #[.slice none 0 0, .int .i64 0, .int .i64 0]) (t := 29) ?hr ?_; (case hd => rfl); (case hg => rfl); (case hr => first | (go_simp; done) | (go_simp; rfl)); intro gb422 hg w146 hbox hb; have n0_ := Aside0.mk (zQ HO_356000.out hb); have n1_ := Aside0.mk (zR HO377.out hb); have n2_ := Aside0.mk (zQ HO386.out hb); have n3_ := Aside0.mk (zR HO398.out hb); have n4_ := Aside0.mk (zR HO411.out hb); have n5_ := Aside0.mk (zR HO418.out hb); have n6_ := Aside0.mk (zB BK355.out hb); have n7_ := Aside0.mk (zB BK382.out hb); have n8_ := Aside0.mk (zB BK383.out hb); have n9_ := Aside0.mk (zB BK394.out hb); have n10_ := Aside0.mk (zB BK395.out hb); have n11_ := Aside0.mk (zB BK406.out hb); have n12_ := Aside0.mk (zB BK407.out hb); have n13_ := Aside0.mk (zB BK415.out hb); have n14_ := Aside0.mk (below_step (by repeat (first | (with_reducible first | exact HB.out | apply bA | apply bN | apply bD | refine bS ?_ GE355.out | refine bS ?_ GE382.out | refine bS ?_ GE383.out | refine bS ?_ GE394.out | refine bS ?_ GE395.out | refine bS ?_ GE406.out | refine bS ?_ GE407.out | refine bS ?_ GE415.out) | exact HB.out)) hb); have n15_ := Aside0.mk (hbox); have n16_ := Aside0.mk ((by rw [hg]; exact (below_size (by repeat (first | (with_reducible first | exact HB.out | apply bA | apply bN | apply bD | refine bS ?_ GE355.out | refine bS ?_ GE382.out | refine bS ?_ GE383.out | refine bS ?_ GE394.out | refine bS ?_ GE395.out | refine bS ?_ GE406.out | refine bS ?_ GE407.out | refine bS ?_ GE415.out) | exact HB.out))) : w.heap.size ≤ gb422)); have n17_ := n16_; have n18_ := Aside0.mk (zL hg BK355.out); have n19_ := Aside0.mk (zG hg BK355.out); have n20_ := Aside0.mk (zL hg BK382.out); have n21_ := Aside0.mk (zG hg BK382.out); have n22_ := Aside0.mk (zL hg BK383.out); have n23_ := Aside0.mk (zG hg BK383.out); have n24_ := Aside0.mk (zL hg BK394.out); have n25_ := Aside0.mk (zG hg BK394.out); have n26_ := Aside0.mk (zL hg BK395.out); have n27_ := Aside0.mk (zG hg BK395.out); have n28_ := Aside0.mk (zL hg BK406.out); have n29_ := Aside0.mk (zG hg BK406.out); have n30_ := Aside0.mk (zL hg BK407.out); have n31_ := Aside0.mk (zG hg BK407.out); have n32_ := Aside0.mk (zL hg BK415.out); have n33_ := Aside0.mk (zG hg BK415.out); clear HO_356000; clear HO377; clear HO386; clear HO398; clear HO411; clear HO418; clear BK355; clear BK382; clear BK383; clear BK394; clear BK395; clear BK406; clear BK407; clear BK415; clear HB; have HO_356000 := n0_; have HO377 := n1_; have HO386 := n2_; have HO398 := n3_; have HO411 := n4_; have HO418 := n5_; have BK355 := n6_; have BK382 := n7_; have BK383 := n8_; have BK394 := n9_; have BK395 := n10_; have BK406 := n11_; have BK407 := n12_; have BK415 := n13_; have HB := n14_; have BK422 := n15_; have GW422 := n16_; have GE422 := n17_; have NB355_422 := n18_; have NB422_355 := n19_; have NB382_422 := n20_; have NB422_382 := n21_; have NB383_422 := n22_; have NB422_383 := n23_; have NB394_422 := n24_; have NB422_394 := n25_; have NB395_422 := n26_; have NB422_395 := n27_; have NB406_422 := n28_; have NB422_406 := n29_; have NB407_422 := n30_; have NB422_407 := n31_; have NB415_422 := n32_; have NB422_415 := n33_; clear n0_ n1_ n2_ n3_ n4_ n5_ n6_ n7_ n8_ n9_ n10_ n11_ n12_ n13_ n14_ n15_ n16_ n17_ n18_ n19_ n20_ n21_ n22_ n23_ n24_ n25_ n26_ n27_ n28_ n29_ n30_ n31_ n32_ n33_; clear hb hbox hg; obtain ⟨Ao147, co147, eo147⟩ := rS HO418.out; subst eo147; have hnb148 := NB422_355.out; have hnc148 := NB355_422.out; have hnb149 := NB422_382.out; have hnc149 := NB382_422.out; have hnb150 := NB422_383.out; have hnc150 := NB383_422.out; have hnb151 := NB422_394.out; have hnc151 := NB394_422.out; have hnb152 := NB422_395.out; have hnc152 := NB395_422.out; have hnb153 := NB422_406.out; have hnc153 := NB406_422.out; have hnb154 := NB422_407.out; have hnc154 := NB407_422.out; have hnb155 := NB422_415.out; have hnc155 := NB415_422.out; have hcz156_0 : w146.cell? ⟨gb422, 0, none⟩ = some (.slice none 0 0) := (lC BK422.out 0).trans rfl; have hcz156_1 : w146.cell? ⟨gb422, 1, none⟩ = some (.int .i64 0) := (lC BK422.out 1).trans rfl; have hcz156_2 : w146.cell? ⟨gb422, 2, none⟩ = some (.int .i64 0) := (lC BK422.out 2).trans rfl; have hfz156_0 := lF BK422.out 0; have hfz156_1 := lF BK422.out 1; have hfz156_2 := lF BK422.out 2; have hcz157_0 : w146.cell? ⟨gb394, 0, none⟩ = some (.slice Ao104 t384.length co104) := (lC BK394.out 0).trans rfl; have hcz157_1 : w146.cell? ⟨gb394, 1, none⟩ = some (.int .i64 t387) := (lC BK394.out 1).trans rfl; have hcz157_2 : w146.cell? ⟨gb394, 2, none⟩ = some (.int .i64 t388) := (lC BK394.out 2).trans rfl; have hfz157_0 := lF BK394.out 0; have hfz157_1 := lF BK394.out 1; have hfz157_2 := lF BK394.out 2; have hcz158_0 : w146.cell? ⟨gb406, 0, none⟩ = some (.slice Ao119 t396.length co119) := (lC BK406.out 0).trans rfl; have hcz158_1 : w146.cell? ⟨gb406, 1, none⟩ = some (.int .i64 t399) := (lC BK406.out 1).trans rfl; have hcz158_2 : w146.cell? ⟨gb406, 2, none⟩ = some (.int .i64 t400) := (lC BK406.out 2).trans rfl; have hfz158_0 := lF BK406.out 0; have hfz158_1 := lF BK406.out 1; have hfz158_2 := lF BK406.out 2) | (go_at_call 24; (with_reducible refine (laws_sameClient.calls kj24 _ _ t384 t387 t388 _ _ t396 t399 t400 true _ ?side1 ?side2 ?side3 ?side4 A83.out).mono ?_); (case side1 => refine (Kd.Q_reads' (e := 9) (base := w.heap.size) (ok := fun k_ => (((((True ∧ some k_ ≠ (.slice Ao15 t349.length co15 : Value).ownBlock) ∧ some k_ ≠ (.slice Ao95 t375.length co95 : Value).ownBlock) ∧ some k_ ≠ (.slice Ao119 t396.length co119 : Value).ownBlock) ∧ some k_ ≠ (.slice Ao136 t409.length co136 : Value).ownBlock) ∧ some k_ ≠ (.slice Ao147 t416.length co147 : Value).ownBlock)) (n := t384.length) (c := co104) ?_).2.2; exact (by (with_reducible repeat (first | apply qA | apply qN | apply qD)); exact (Kd.Q_mono (Kd.Q_far (p := ⟨gb422, 2, none⟩) (Kd.Q_far (p := ⟨gb422, 1, none⟩) (Kd.Q_far (p := ⟨gb422, 0, none⟩) (Kd.Q_types HO386.out BK422.out (by decide)) (fun _ hk => hk.2) (.slice Ao147 t416.length co147)) (fun _ hk => hk.2) (.int .i64 t419)) (fun _ hk => hk.2) (.int .i64 t420)) (fun _ h_ => h_.1)))); (case side2 => exact (Kd.Q_reads' HO386.out).2.1); (case side3 => refine (rR (e := 9) (base := w.heap.size) (ok := fun k_ => (((((True ∧ some k_ ≠ (.slice Ao15 t349.length co15 : Value).ownBlock) ∧ some k_ ≠ (.slice Ao95 t375.length co95 : Value).ownBlock) ∧ some k_ ≠ (.slice Ao104 t384.length co104 : Value).ownBlock) ∧ some k_ ≠ (.slice Ao136 t409.length co136 : Value).ownBlock) ∧ some k_ ≠ (.slice Ao147 t416.length co147 : Value).ownBlock)) (n := t396.length) (c := co119) ?_).2.2; exact (by (with_reducible repeat (first | apply rA | apply rN | apply rD)); exact (rM (Kd.R_far (p := ⟨gb422, 2, none⟩) (Kd.R_far (p := ⟨gb422, 1, none⟩) (Kd.R_far (p := ⟨gb422, 0, none⟩) (Kd.R_types HO398.out BK422.out (by decide)) (fun _ hk => hk.2) (.slice Ao147 t416.length co147)) (fun _ hk => hk.2) (.int .i64 t419)) (fun _ hk => hk.2) (.int .i64 t420)) (fun _ h_ => h_.1)))); (case side4 => exact (rR HO398.out).2.1); rintro e w159 ⟨rfl, hb⟩; have n0_ := Aside0.mk (Kd.Q_below (by (with_reducible repeat (first | apply qA | apply qN | apply qD)); exact (Kd.Q_mono (Kd.Q_far (p := ⟨gb422, 2, none⟩) (Kd.Q_far (p := ⟨gb422, 1, none⟩) (Kd.Q_far (p := ⟨gb422, 0, none⟩) (Kd.Q_types HO_356000.out BK422.out (by decide)) (fun _ hk => hk.2) (.slice Ao147 t416.length co147)) (fun _ hk => hk.2) (.int .i64 t419)) (fun _ hk => hk.2) (.int .i64 t420)) (fun _ h_ => h_.1))) hb); have n1_ := Aside0.mk (rB (by (with_reducible repeat (first | apply rA | apply rN | apply rD)); exact (rM (Kd.R_far (p := ⟨gb422, 2, none⟩) (Kd.R_far (p := ⟨gb422, 1, none⟩) (Kd.R_far (p := ⟨gb422, 0, none⟩) (Kd.R_types HO377.out BK422.out (by decide)) (fun _ hk => hk.2) (.slice Ao147 t416.length co147)) (fun _ hk => hk.2) (.int .i64 t419)) (fun _ hk => hk.2) (.int .i64 t420)) (fun _ h_ => h_.1))) hb); have n2_ := Aside0.mk (Kd.Q_below (by (with_reducible repeat (first | apply qA | apply qN | apply qD)); exact (Kd.Q_mono (Kd.Q_far (p := ⟨gb422, 2, none⟩) (Kd.Q_far (p := ⟨gb422, 1, none⟩) (Kd.Q_far (p := ⟨gb422, 0, none⟩) (Kd.Q_types HO386.out BK422.out (by decide)) (fun _ hk => hk.2) (.slice Ao147 t416.length co147)) (fun _ hk => hk.2) (.int .i64 t419)) (fun _ hk => hk.2) (.int .i64 t420)) (fun _ h_ => h_.1))) hb); have n3_ := Aside0.mk (rB (by (with_reducible repeat (first | apply rA | apply rN | apply rD)); exact (rM (Kd.R_far (p := ⟨gb422, 2, none⟩) (Kd.R_far (p := ⟨gb422, 1, none⟩) (Kd.R_far (p := ⟨gb422, 0, none⟩) (Kd.R_types HO398.out BK422.out (by decide)) (fun _ hk => hk.2) (.slice Ao147 t416.length co147)) (fun _ hk => hk.2) (.int .i64 t419)) (fun _ hk => hk.2) (.int .i64 t420)) (fun _ h_ => h_.1))) hb); have n4_ := Aside0.mk (rB (by (with_reducible repeat (first | apply rA | apply rN | apply rD)); exact (rM (Kd.R_far (p := ⟨gb422, 2, none⟩) (Kd.R_far (p := ⟨gb422, 1, none⟩) (Kd.R_far (p := ⟨gb422, 0, none⟩) (Kd.R_types HO411.out BK422.out (by decide)) (fun _ hk => hk.2) (.slice Ao147 t416.length co147)) (fun _ hk => hk.2) (.int .i64 t419)) (fun _ hk => hk.2) (.int .i64 t420)) (fun _ h_ => h_.1))) hb); have n5_ := Aside0.mk (rB (by (with_reducible repeat (first | apply rA | apply rN | apply rD)); exact (rM (Kd.R_far (p := ⟨gb422, 2, none⟩) (Kd.R_far (p := ⟨gb422, 1, none⟩) (Kd.R_far (p := ⟨gb422, 0, none⟩) (Kd.R_types HO418.out BK422.out (by decide)) (fun _ hk => hk.2) (.slice Ao147 t416.length co147)) (fun _ hk => hk.2) (.int .i64 t419)) (fun _ hk => hk.2) (.int .i64 t420)) (fun _ h_ => h_.1))) hb); have n6_ := Aside0.mk (blk_below (g := gb355) (o := .cells #[.slice Ao15 t349.length co15, .int .i64 t352, .int .i64 t353] 29 (0, 0)) (by (with_reducible repeat (first | refine lN ?_ _ | refine lD ?_ | refine lA ?_ _)); refine lX ?_ NB355_422.out _; (with_reducible repeat (first | refine lN ?_ _ | refine lD ?_ | refine lA ?_ _)); refine lX ?_ NB355_422.out _; (with_reducible repeat (first | refine lN ?_ _ | refine lD ?_ | refine lA ?_ _)); refine lX ?_ NB355_422.out _; (with_reducible repeat (first | refine lN ?_ _ | refine lD ?_ | refine lA ?_ _)); exact BK355.out) hb); have n7_ := Aside0.mk (blk_below (g := gb382) (o := .cells #[.slice Ao95 t375.length co95, .int .i64 t378, .int .i64 t379] 29 (0, 0)) (by (with_reducible repeat (first | refine lN ?_ _ | refine lD ?_ | refine lA ?_ _)); refine lX ?_ NB382_422.out _; (with_reducible repeat (first | refine lN ?_ _ | refine lD ?_ | refine lA ?_ _)); refine lX ?_ NB382_422.out _; (with_reducible repeat (first | refine lN ?_ _ | refine lD ?_ | refine lA ?_ _)); refine lX ?_ NB382_422.out _; (with_reducible repeat (first | refine lN ?_ _ | refine lD ?_ | refine lA ?_ _)); exact BK382.out) hb); have n8_ := Aside0.mk (blk_below (g := gb383) (o := .cells #[.int .i64 t380, .string t381] 35 (0, 0)) (by (with_reducible repeat (first | refine lN ?_ _ | refine lD ?_ | refine lA ?_ _)); refine lX ?_ NB383_422.out _; (with_reducible repeat (first | refine lN ?_ _ | refine lD ?_ | refine lA ?_ _)); refine lX ?_ NB383_422.out _; (with_reducible repeat (first | refine lN ?_ _ | refine lD ?_ | refine lA ?_ _)); refine lX ?_ NB383_422.out _; (with_reducible repeat (first | refine lN ?_ _ | refine lD ?_ | refine lA ?_ _)); exact BK383.out) hb); have n9_ := Aside0.mk (blk_below (g := gb394) (o := .cells #[.slice Ao104 t384.length co104, .int .i64 t387, .int .i64 t388] 29 (0, 0)) (by (with_reducible repeat (first | refine lN ?_ _ | refine lD ?_ | refine lA ?_ _)); refine lX ?_ NB394_422.out _; (with_reducible repeat (first | refine lN ?_ _ | refine lD ?_ | refine lA ?_ _)); refine lX ?_ NB394_422.out _; (with_reducible repeat (first | refine lN ?_ _ | refine lD ?_ | refine lA ?_ _)); refine lX ?_ NB394_422.out _; (with_reducible repeat (first | refine lN ?_ _ | refine lD ?_ | refine lA ?_ _)); exact BK394.out) hb); have n10_ := Aside0.mk (blk_below (g := gb395) (o := .cells #[.int .i64 t389, .int .i64 t390, .int .i64 t391] 31 (0, 0)) (by (with_reducible repeat (first | refine lN ?_ _ | refine lD ?_ | refine lA ?_ _)); refine lX ?_ NB395_422.out _; (with_reducible repeat (first | refine lN ?_ _ | refine lD ?_ | refine lA ?_ _)); refine lX ?_ NB395_422.out _; (with_reducible repeat (first | refine lN ?_ _ | refine lD ?_ | refine lA ?_ _)); refine lX ?_ NB395_422.out _; (with_reducible repeat (first | refine lN ?_ _ | refine lD ?_ | refine lA ?_ _)); exact BK395.out) hb); have n11_ := Aside0.mk (blk_below (g := gb406) (o := .cells #[.slice Ao119 t396.length co119, .int .i64 t399, .int .i64 t400] 29 (0, 0)) (by (with_reducible repeat (first | refine lN ?_ _ | refine lD ?_ | refine lA ?_ _)); refine lX ?_ NB406_422.out _; (with_reducible repeat (first | refine lN ?_ _ | refine lD ?_ | refine lA ?_ _)); refine lX ?_ NB406_422.out _; (with_reducible repeat (first | refine lN ?_ _ | refine lD ?_ | refine lA ?_ _)); refine lX ?_ NB406_422.out _; (with_reducible repeat (first | refine lN ?_ _ | refine lD ?_ | refine lA ?_ _)); exact BK406.out) hb); have n12_ := Aside0.mk (blk_below (g := gb407) (o := .cells #[.int .i64 t401, .int .i64 t402, .int .i64 t403] 31 (0, 0)) (by (with_reducible repeat (first | refine lN ?_ _ | refine lD ?_ | refine lA ?_ _)); refine lX ?_ NB407_422.out _; (with_reducible repeat (first | refine lN ?_ _ | refine lD ?_ | refine lA ?_ _)); refine lX ?_ NB407_422.out _; (with_reducible repeat (first | refine lN ?_ _ | refine lD ?_ | refine lA ?_ _)); refine lX ?_ NB407_422.out _; (with_reducible repeat (first | refine lN ?_ _ | refine lD ?_ | refine lA ?_ _)); exact BK407.out) hb); have n13_ := Aside0.mk (blk_below (g := gb415) (o := .cells #[.slice Ao136 t409.length co136, .int .i64 t412, .int .i64 t413] 29 (0, 0)) (by (with_reducible repeat (first | refine lN ?_ _ | refine lD ?_ | refine lA ?_ _)); refine lX ?_ NB415_422.out _; (with_reducible repeat (first | refine lN ?_ _ | refine lD ?_ | refine lA ?_ _)); refine lX ?_ NB415_422.out _; (with_reducible repeat (first | refine lN ?_ _ | refine lD ?_ | refine lA ?_ _)); refine lX ?_ NB415_422.out _; (with_reducible repeat (first | refine lN ?_ _ | refine lD ?_ | refine lA ?_ _)); exact BK415.out) hb); have n14_ := Aside0.mk (blk_below (g := gb422) (o := .cells #[.slice Ao147 t416.length co147, .int .i64 t419, .int .i64 t420] 29 (0, 0)) (by (with_reducible repeat (first | refine lN ?_ _ | refine lD ?_ | refine lA ?_ _)); refine lP (cs := #[.slice Ao147 t416.length co147, .int .i64 t419, .int .i64 0]) ?_ 2 _ rfl; (with_reducible repeat (first | refine lN ?_ _ | refine lD ?_ | refine lA ?_ _)); refine lP (cs := #[.slice Ao147 t416.length co147, .int .i64 0, .int .i64 0]) ?_ 1 _ rfl; (with_reducible repeat (first | refine lN ?_ _ | refine lD ?_ | refine lA ?_ _)); refine lP (cs := #[.slice none 0 0, .int .i64 0, .int .i64 0]) ?_ 0 _ rfl; (with_reducible repeat (first | refine lN ?_ _ | refine lD ?_ | refine lA ?_ _)); exact BK422.out) hb); have n15_ := Aside0.mk (below_step (by repeat (first | (with_reducible first | exact HB.out | apply bA | apply bN | apply bD | refine bS ?_ GE355.out | refine bS ?_ GE382.out | refine bS ?_ GE383.out | refine bS ?_ GE394.out | refine bS ?_ GE395.out | refine bS ?_ GE406.out | refine bS ?_ GE407.out | refine bS ?_ GE415.out | refine bS ?_ GE422.out) | exact HB.out)) hb); clear HO_356000; clear HO377; clear HO386; clear HO398; clear HO411; clear HO418; clear BK355; clear BK382; clear BK383; clear BK394; clear BK395; clear BK406; clear BK407; clear BK415; clear BK422; clear HB; have HO_356000 := n0_; have HO377 := n1_; have HO386 := n2_; have HO398 := n3_; have HO411 := n4_; have HO418 := n5_; have BK355 := n6_; have BK382 := n7_; have BK383 := n8_; have BK394 := n9_; have BK395 := n10_; have BK406 := n11_; have BK407 := n12_; have BK415 := n13_; have BK422 := n14_; have HB := n15_; clear n0_ n1_ n2_ n3_ n4_ n5_ n6_ n7_ n8_ n9_ n10_ n11_ n12_ n13_ n14_ n15_; (try clear hb); (try clear hb2); (try clear hk); (try clear hi); have hcz160_0 : w159.cell? ⟨gb395, 0, none⟩ = some (.int .i64 t389) := (lC BK395.out 0).trans rfl; have hcz160_1 : w159.cell? ⟨gb395, 1, none⟩ = some (.int .i64 t390) := (lC BK395.out 1).trans rfl; have hcz160_2 : w159.cell? ⟨gb395, 2, none⟩ = some (.int .i64 t391) := (lC BK395.out 2).trans rfl; have hfz160_0 := lF BK395.out 0; have hfz160_1 := lF BK395.out 1; have hfz160_2 := lF BK395.out 2; have hcz161_0 : w159.cell? ⟨gb407, 0, none⟩ = some (.int .i64 t401) := (lC BK407.out 0).trans rfl; have hcz161_1 : w159.cell? ⟨gb407, 1, none⟩ = some (.int .i64 t402) := (lC BK407.out 1).trans rfl; have hcz161_2 : w159.cell? ⟨gb407, 2, none⟩ = some (.int .i64 t403) := (lC BK407.out 2).trans rfl; have hfz161_0 := lF BK407.out 0; have hfz161_1 := lF BK407.out 1; have hfz161_2 := lF BK407.out 2; have hcz162_0 : w159.cell? ⟨gb415, 0, none⟩ = some (.slice Ao136 t409.length co136) := (lC BK415.out 0).trans rfl; have hcz162_1 : w159.cell? ⟨gb415, 1, none⟩ = some (.int .i64 t412) := (lC BK415.out 1).trans rfl; have hcz162_2 : w159.cell? ⟨gb415, 2, none⟩ = some (.int .i64 t413) := (lC BK415.out 2).trans rfl; have hfz162_0 := lF BK415.out 0; have hfz162_1 := lF BK415.out 1; have hfz162_2 := lF BK415.out 2; have hcz163_0 : w159.cell? ⟨gb422, 0, none⟩ = some (.slice Ao147 t416.length co147) := (lC BK422.out 0).trans rfl; have hcz163_1 : w159.cell? ⟨gb422, 1, none⟩ = some (.int .i64 t419) := (lC BK422.out 1).trans rfl; have hcz163_2 : w159.cell? ⟨gb422, 2, none⟩ = some (.int .i64 t420) := (lC BK422.out 2).trans rfl; have hfz163_0 := lF BK422.out 0; have hfz163_1 := lF BK422.out 1; have hfz163_2 := lF BK422.out 2) | (go_at_call 24; (with_reducible refine (laws_sameClient.calls kj24 _ _ t409 t412 t413 _ _ t416 t419 t420 true _ ?side1 ?side2 ?side3 ?side4 A88.out).mono ?_); (case side1 => repeat (first | exact (rR HO411.out).2.2 | (with_reducible first | refine cA ?_ _ | refine cN ?_ _ | refine cD ?_))); (case side2 => exact (rR HO411.out).2.1); (case side3 => repeat (first | exact (rR HO418.out).2.2 | (with_reducible first | refine cA ?_ _ | refine cN ?_ _ | refine cD ?_))); (case side4 => exact (rR HO418.out).2.1); rintro e w164 ⟨rfl, hb⟩; have n0_ := Aside0.mk (zQ HO_356000.out hb); have n1_ := Aside0.mk (zR HO377.out hb); have n2_ := Aside0.mk (zQ HO386.out hb); have n3_ := Aside0.mk (zR HO398.out hb); have n4_ := Aside0.mk (zR HO411.out hb); have n5_ := Aside0.mk (zR HO418.out hb); have n6_ := Aside0.mk (zB BK355.out hb); have n7_ := Aside0.mk (zB BK382.out hb); have n8_ := Aside0.mk (zB BK383.out hb); have n9_ := Aside0.mk (zB BK394.out hb); have n10_ := Aside0.mk (zB BK395.out hb); have n11_ := Aside0.mk (zB BK406.out hb); have n12_ := Aside0.mk (zB BK407.out hb); have n13_ := Aside0.mk (zB BK415.out hb); have n14_ := Aside0.mk (zB BK422.out hb); have n15_ := Aside0.mk (below_step (by repeat (first | (with_reducible first | exact HB.out | apply bA | apply bN | apply bD | refine bS ?_ GE355.out | refine bS ?_ GE382.out | refine bS ?_ GE383.out | refine bS ?_ GE394.out | refine bS ?_ GE395.out | refine bS ?_ GE406.out | refine bS ?_ GE407.out | refine bS ?_ GE415.out | refine bS ?_ GE422.out) | exact HB.out)) hb); clear HO_356000; clear HO377; clear HO386; clear HO398; clear HO411; clear HO418; clear BK355; clear BK382; clear BK383; clear BK394; clear BK395; clear BK406; clear BK407; clear BK415; clear BK422; clear HB; have HO_356000 := n0_; have HO377 := n1_; have HO386 := n2_; have HO398 := n3_; have HO411 := n4_; have HO418 := n5_; have BK355 := n6_; have BK382 := n7_; have BK383 := n8_; have BK394 := n9_; have BK395 := n10_; have BK406 := n11_; have BK407 := n12_; have BK415 := n13_; have BK422 := n14_; have HB := n15_; clear n0_ n1_ n2_ n3_ n4_ n5_ n6_ n7_ n8_ n9_ n10_ n11_ n12_ n13_ n14_ n15_; (try clear hb); (try clear hb2); (try clear hk); (try clear hi); have hcz165_0 : w164.cell? ⟨gb394, 0, none⟩ = some (.slice Ao104 t384.length co104) := (lC BK394.out 0).trans rfl; have hcz165_1 : w164.cell? ⟨gb394, 1, none⟩ = some (.int .i64 t387) := (lC BK394.out 1).trans rfl; have hcz165_2 : w164.cell? ⟨gb394, 2, none⟩ = some (.int .i64 t388) := (lC BK394.out 2).trans rfl; have hfz165_0 := lF BK394.out 0; have hfz165_1 := lF BK394.out 1; have hfz165_2 := lF BK394.out 2) | (go_at_call 18; (with_reducible refine (impl_GoodClient.calls kj24 _ _ t384 t387 t388 t425 _ ?side1 ?side2 A91.out).mono ?_); (case side1 => repeat (first | exact (Kd.Q_reads' HO386.out).2.2 | (with_reducible first | refine cA ?_ _ | refine cN ?_ _ | refine cD ?_))); (case side2 => exact (Kd.Q_reads' HO386.out).2.1); rintro e w166 ⟨rfl, hb⟩; have n0_ := Aside0.mk (zQ HO_356000.out hb); have n1_ := Aside0.mk (zR HO377.out hb); have n2_ := Aside0.mk (zQ HO386.out hb); have n3_ := Aside0.mk (zR HO398.out hb); have n4_ := Aside0.mk (zR HO411.out hb); have n5_ := Aside0.mk (zR HO418.out hb); have n6_ := Aside0.mk (zB BK355.out hb); have n7_ := Aside0.mk (zB BK382.out hb); have n8_ := Aside0.mk (zB BK383.out hb); have n9_ := Aside0.mk (zB BK394.out hb); have n10_ := Aside0.mk (zB BK395.out hb); have n11_ := Aside0.mk (zB BK406.out hb); have n12_ := Aside0.mk (zB BK407.out hb); have n13_ := Aside0.mk (zB BK415.out hb); have n14_ := Aside0.mk (zB BK422.out hb); have n15_ := Aside0.mk (below_step (by repeat (first | (with_reducible first | exact HB.out | apply bA | apply bN | apply bD | refine bS ?_ GE355.out | refine bS ?_ GE382.out | refine bS ?_ GE383.out | refine bS ?_ GE394.out | refine bS ?_ GE395.out | refine bS ?_ GE406.out | refine bS ?_ GE407.out | refine bS ?_ GE415.out | refine bS ?_ GE422.out) | exact HB.out)) hb); clear HO_356000; clear HO377; clear HO386; clear HO398; clear HO411; clear HO418; clear BK355; clear BK382; clear BK383; clear BK394; clear BK395; clear BK406; clear BK407; clear BK415; clear BK422; clear HB; have HO_356000 := n0_; have HO377 := n1_; have HO386 := n2_; have HO398 := n3_; have HO411 := n4_; have HO418 := n5_; have BK355 := n6_; have BK382 := n7_; have BK383 := n8_; have BK394 := n9_; have BK395 := n10_; have BK406 := n11_; have BK407 := n12_; have BK415 := n13_; have BK422 := n14_; have HB := n15_; clear n0_ n1_ n2_ n3_ n4_ n5_ n6_ n7_ n8_ n9_ n10_ n11_ n12_ n13_ n14_ n15_; (try clear hb); (try clear hb2); (try clear hk); (try clear hi)))
                go_ret
                exact ⟨by first | rfl | (simp [errW_none, errW_some] <;> rfl) | (simp [*, errW_none, errW_some] <;> rfl), by repeat (first | (with_reducible first | exact HB.out | apply bA | apply bN | apply bD | refine bS ?_ GE355.out | refine bS ?_ GE382.out | refine bS ?_ GE383.out | refine bS ?_ GE394.out | refine bS ?_ GE395.out | refine bS ?_ GE406.out | refine bS ?_ GE407.out | refine bS ?_ GE415.out | refine bS ?_ GE422.out) | exact HB.out)⟩
              ·replace c89 := fB c89
               subst c89
               have H1 : (some false) = some r := by rw [if_neg (show ¬ (false = true) by decide)] at H; exact H
               clear H
               have H := H1
               clear H1
               obtain rfl := Option.some.inj H
               exact absurd hr_.out (by simp)
             ·rw [if_neg c87] at H
              have c87b0 : (t414 == t421) = false := by simpa using c87
              (try (have c87b1 : decide (t414 = t421) = false := by simpa using c87))
              (try (have c87b2 : (t414 == t421) = false := by simpa using c87))
              (try (have c87b3 : ¬ (t414 = t421) := by simpa using c87))
              clear c87
              obtain rfl := Option.some.inj H
              exact absurd hr_.out (by simp)
            ·rw [if_neg c86] at H
             have c86b0 : (t392.toList == t404.toList) = false := beq_eq_false_iff_ne.mpr c86
             have c86b1 : (t392.toList != t404.toList) = true := bne_iff_ne.mpr c86
             obtain rfl := Option.some.inj H
             exact absurd hr_.out (by simp)
           ·rw [if_neg c85] at H
            have c85b0 : (t389 == t401 && (t390 == t402 && (t391 == t403))) = false := by simpa using c85
            (try (have c85b1 : decide (t389 = t401 && (t390 == t402 && (t391 == t403))) = false := by simpa using c85))
            (try (have c85b2 : (t389 == t401 && (t390 == t402 && (t391 == t403))) = false := by simpa using c85))
            (try (have c85b3 : ¬ (t389 = t401 && (t390 == t402 && (t391 == t403))) := by simpa using c85))
            clear c85
            obtain rfl := Option.some.inj H
            exact absurd hr_.out (by simp)
          ·replace c84 := fB c84
           subst c84
           have H1 : (some false) = some r := by rw [if_neg (show ¬ (false = true) by decide)] at H; exact H
           clear H
           have H := H1
           clear H1
           obtain rfl := Option.some.inj H
           exact absurd hr_.out (by simp)
         ·rw [if_neg c82] at H
          have c82b0 : (t393 == t405) = false := by simpa using c82
          (try (have c82b1 : decide (t393 = t405) = false := by simpa using c82))
          (try (have c82b2 : (t393 == t405) = false := by simpa using c82))
          (try (have c82b3 : ¬ (t393 = t405) := by simpa using c82))
          clear c82
          obtain rfl := Option.some.inj H
          exact absurd hr_.out (by simp)
   ·rw [if_neg c8] at H
    have c8b0 : (t356 == t358) = false := beq_eq_false_iff_ne.mpr c8
    have c8b1 : (t356 != t358) = true := bne_iff_ne.mpr c8
    obtain rfl := Option.some.inj H
    exact absurd hr_.out (by simp)
def laws_FnQueue.Pure : Prop := ∀ (l0 : List Int) (l1 : List Int), l0.length ≤ maxLen → l0.length * 1 ≤ 140737488351232 → (∀ x ∈ l0, (Lit.int .u8 x).wf = true) → l1.length ≤ maxLen → l1.length * 1 ≤ 140737488351232 → (∀ x ∈ l1, (Lit.int .u8 x).wf = true) → ∃ k, laws_FnQueue.f k l0 l1 = some true
theorem laws_FnQueue.walk (P : laws_FnQueue.Pure) (a0 : Option Addr) (len0 cap0 : Nat) (z0 : List Int) (a1 : Option Addr) (len1 cap1 : Nat) (z1 : List Int) (w : World) (w0 : (a0 = none ∧ len0 = 0 ∧ cap0 = 0 ∧ z0 = []) ∨ ∃ x, a0 = some x ∧ len0 ≤ cap0 ∧ cap0 ≤ maxLen ∧ z0.length = cap0 ∧ (∀ i, i < z0.length → w.cell? (x.add i) = some (.int .u8 (z0.getD i 0))) ∧ ∀ n ∈ z0, (Lit.int .u8 n).wf = true) (y0 : len0 * 1 ≤ 140737488351232) (w1 : (a1 = none ∧ len1 = 0 ∧ cap1 = 0 ∧ z1 = []) ∨ ∃ x, a1 = some x ∧ len1 ≤ cap1 ∧ cap1 ≤ maxLen ∧ z1.length = cap1 ∧ (∀ i, i < z1.length → w.cell? (x.add i) = some (.int .u8 (z1.getD i 0))) ∧ ∀ n ∈ z1, (Lit.int .u8 n).wf = true) (y1 : len1 * 1 ≤ 140737488351232) :
  Calls Try.prog 4 #[.slice a0 len0 cap0, .slice a1 len1 cap1] w fun e w' => e = .returned (.bool true) ∧ Below w.heap.size w w' := by
 obtain ⟨l0, rfl, hr0, hm0, hw0, hc0⟩ := ReadsInt.ofRowC w0
 obtain ⟨l1, rfl, hr1, hm1, hw1, hc1⟩ := ReadsInt.ofRowC w1
 obtain ⟨k, h⟩ := P l0 l1 hm0 y0 hw0 hm1 y1 hw1
 refine (laws_FnQueue.calls k _ _ l0 _ _ l1 true w (Kd.C_of_reads (d := (0 : Int)) (h1 := fun _ => rfl) hr0) hc0 (Kd.C_of_reads (d := (0 : Int)) (h1 := fun _ => rfl) hr1) hc1 h ⟨rfl⟩).mono ?_
 rintro e w' ⟨rfl, hd⟩
 exact ⟨rfl, hd⟩
end Go.Proofs.Ytodhogegjkfemaa.PFnQueue
