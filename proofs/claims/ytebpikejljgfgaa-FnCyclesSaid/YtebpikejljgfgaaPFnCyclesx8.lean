-- Written by a program of this session, after the kit's print (changed in some places; see NOTES.md). Lean checks it.
import Derived.Test.YtebpikejljgfgaaAbb
import Derived.Test.YtebpikejljgfgaaPFnCyclesx0
import Derived.Test.YtebpikejljgfgaaPFnCyclesx1
import Derived.Test.YtebpikejljgfgaaPFnCyclesx2
import Derived.Test.YtebpikejljgfgaaPFnCyclesx3
import Derived.Test.YtebpikejljgfgaaPFnCyclesx4
import Derived.Test.YtebpikejljgfgaaPFnCyclesx5
import Derived.Test.YtebpikejljgfgaaPFnCyclesx6
import Derived.Test.YtebpikejljgfgaaPFnCyclesx7
namespace Go.Proofs.Ytebpikejljgfgaa.PFnCycles
open Go.Proofs.Ytebpikejljgfgaa.Abb Go.RowKit Go.Proofs.YtebpikejljgfgaaW.PrintWords Go.Proofs.YtebpikejljgfgaaW.PrintLast Go.Proofs.YtebpikejljgfgaaW.PrintMore
attribute [local go_sem] max2_int min2_int max_two min_two max_three min_three max_four min_four   -- for this text's walks alone
set_option linter.unusedVariables false
set_option linter.unusedSimpArgs false

/-! ### laws_FnCycles: function 4 -/
mutual
def laws_FnCycles.j0 : Nat → List Int → List Int → List Int → List Int → Bool → Bool → Option (Bool)
 | 0, _, _, _, _, _, _ => none
 | k + 1, x1, x5, x6, x7, x8, x89 => if x89 = true then (some false) else (if x8 = true then ((impl_BackOrder.f k x5).bind fun bt370 => ((impl_ThenOrder.f k x5 bt370.1).bind fun bt374 => ((impl_SignOf.f k x5).bind fun bt378 => ((impl_SignOf.f k x6).bind fun bt380 => ((impl_SignOf.f k x7).bind fun bt382 => ((impl_LengthOf.f k x5).bind fun bt384 => (if bt370.2 = true then (if bt374.2 = true then (if bt378.2 = true then (if bt380.2 = true then (if bt382.2 = true then (if bt382.1 = (wrap64 (bt378.1 * bt380.1)) then (if bt384.2 = true then (laws_FnCycles.j1 k x1 x5 bt374.1 bt384.1 (decide (bt384.1 < 1))) else (laws_FnCycles.j1 k x1 x5 bt374.1 bt384.1 true)) else (laws_FnCycles.j1 k x1 x5 bt374.1 bt384.1 true)) else (laws_FnCycles.j1 k x1 x5 bt374.1 bt384.1 true)) else (laws_FnCycles.j1 k x1 x5 bt374.1 bt384.1 true)) else (laws_FnCycles.j1 k x1 x5 bt374.1 bt384.1 true)) else (laws_FnCycles.j1 k x1 x5 bt374.1 bt384.1 true)) else (laws_FnCycles.j1 k x1 x5 bt374.1 bt384.1 true)))))))) else (laws_FnCycles.j4 k x1))
def laws_FnCycles.j4 : Nat → List Int → Option (Bool)
 | 0, _ => none
 | k + 1, x1 => (spec_DrawCyclesOf.f k x1).bind fun t398 => ((impl_CyclesOf.f k t398).bind fun bt401 => ((spec_CyclesOf.f k t398).bind fun bt405 => ((impl_SignOf.f k t398).bind fun bt409 => ((spec_SignOf.f k t398).bind fun bt411 => ((impl_LengthOf.f k t398).bind fun bt413 => ((spec_LengthOf.f k t398).bind fun bt415 => (if (bt401.2 != bt405.2) = true then (laws_FnCycles.j5 k x1 bt401.1 bt405.1 true) else (if (bt401.1.length : Int) = (bt405.1.length : Int) then (if (bt409.2 != bt411.2) = true then (laws_FnCycles.j5 k x1 bt401.1 bt405.1 true) else (if bt409.1 = bt411.1 then (if (bt413.2 != bt415.2) = true then (laws_FnCycles.j5 k x1 bt401.1 bt405.1 true) else (if bt413.1 = bt415.1 then ((impl_IsOrder.f k t398).bind fun t417 => (laws_FnCycles.j5 k x1 bt401.1 bt405.1 (t417 != bt401.2))) else (laws_FnCycles.j5 k x1 bt401.1 bt405.1 true))) else (laws_FnCycles.j5 k x1 bt401.1 bt405.1 true))) else (laws_FnCycles.j5 k x1 bt401.1 bt405.1 true)))))))))
def laws_FnCycles.j5 : Nat → List Int → List (List Int) → List (List Int) → Bool → Option (Bool)
 | 0, _, _, _, _ => none
 | k + 1, x1, x30, x32, x259 => if x259 = true then (some false) else (laws_FnCycles.l2 k x1 x30 x32 (x30.length : Int) 0)
def laws_FnCycles.l2 : Nat → List Int → List (List Int) → List (List Int) → Int → Int → Option (Bool)
 | 0, _, _, _, _, _ => none
 | k + 1, x1, x30, x32, x261, x262 => if x262 < x261 then (if 0 ≤ x262 then (if x262 < (x30.length : Int) then (if x262 < (x32.length : Int) then ((laws_sameInts.f k (rd_L3 x30 x262) (rd_L3 x32 x262)).bind fun t420 => (if t420 = true then (laws_FnCycles.l2 k x1 x30 x32 x261 (wrap64 (x262 + 1))) else (some false))) else (none)) else (none)) else (none)) else ((spec_DrawBackOrder.f k x1).bind fun t421 => ((impl_BackOrder.f k t421).bind fun bt424 => ((spec_BackOrder.f k t421).bind fun bt428 => ((spec_DrawApplyOrder.f k x1).bind fun bt432 => ((impl_ApplyOrder.f k bt432.1 bt432.2).bind fun bt438 => ((spec_ApplyOrder.f k bt432.1 bt432.2).bind fun bt442 => (if (bt424.2 != bt428.2) = true then (laws_FnCycles.j7 k bt432.1 bt432.2 bt438.1 bt438.2 true) else ((laws_sameInts.f k bt424.1 bt428.1).bind fun t446 => (if t446 = true then (if (bt438.2 != bt442.2) = true then (laws_FnCycles.j7 k bt432.1 bt432.2 bt438.1 bt438.2 true) else ((laws_sameTexts.f k bt438.1 bt442.1).bind fun t447 => (laws_FnCycles.j7 k bt432.1 bt432.2 bt438.1 bt438.2 (!t447)))) else (laws_FnCycles.j7 k bt432.1 bt432.2 bt438.1 bt438.2 true))))))))))
def laws_FnCycles.j7 : Nat → List Int → List ByteArray → List ByteArray → Bool → Bool → Option (Bool)
 | 0, _, _, _, _, _ => none
 | k + 1, x48, x49, x50, x51, x324 => if x324 = true then (some false) else (if x51 = true then ((impl_BackOrder.f k x48).bind fun bt448 => ((impl_ApplyOrder.f k bt448.1 x50).bind fun bt452 => (if bt448.2 = true then (if bt452.2 = true then ((laws_sameTexts.f k bt452.1 x49).bind fun t456 => (some t456)) else (some false)) else (some false)))) else (some true))
def laws_FnCycles.j1 : Nat → List Int → List Int → List Int → Int → Bool → Option (Bool)
 | 0, _, _, _, _, _ => none
 | k + 1, x1, x5, x13, x21, x154 => if x154 = true then (some false) else ((some (([] : List Int) : List Int)).bind fun y386 => (if y386.length + x13.length < 17592186044416 then (laws_FnCycles.l0 k x1 x5 x13 x21 (y386 ++ x13) 1) else (none)))
def laws_FnCycles.l0 : Nat → List Int → List Int → List Int → Int → List Int → Int → Option (Bool)
 | 0, _, _, _, _, _, _ => none
 | k + 1, x1, x5, x13, x21, x23, x24 => if x24 ≤ x21 then ((impl_ThenOrder.f k x23 x5).bind fun bt392 => (if bt392.2 = true then ((laws_sameInts.f k bt392.1 x13).bind fun t396 => (if (t396 != (x24 == x21)) = true then (some false) else (laws_FnCycles.l0 k x1 x5 x13 x21 bt392.1 (wrap64 (x24 + 1))))) else (some false))) else (laws_FnCycles.l1 k x1 x13 (x13.length : Int) 0)
def laws_FnCycles.l1 : Nat → List Int → List Int → Int → Int → Option (Bool)
 | 0, _, _, _, _ => none
 | k + 1, x1, x181, x182, x183 => if x183 < x182 then (if 0 ≤ x183 then (if x183 < (x181.length : Int) then (if x183 = (rd x181 x183) then (laws_FnCycles.l1 k x1 x181 x182 (wrap64 (x183 + 1))) else (some false)) else (none)) else (none)) else (laws_FnCycles.j4 k x1)
end
def laws_FnCycles.f (k : Nat) (l0 : List Int) (l1 : List Int) : Option (Bool) := if (wrap64 ((l0.length : Int) + (l1.length : Int))) > 1048576 then (some true) else ((spec_DrawThenOrder.f k l0).bind fun bt355 => ((impl_ThenOrder.f k bt355.1 bt355.2).bind fun bt361 => ((spec_ThenOrder.f k bt355.1 bt355.2).bind fun bt365 => (if (bt361.2 != bt365.2) = true then (laws_FnCycles.j0 k l1 bt355.1 bt355.2 bt361.1 bt361.2 true) else ((laws_sameInts.f k bt361.1 bt365.1).bind fun t369 => (laws_FnCycles.j0 k l1 bt355.1 bt355.2 bt361.1 bt361.2 (!t369)))))))
theorem laws_FnCycles.mono_l : ∀ k, (∀ y0 y1 y2 y3 y4 y5, LeO (laws_FnCycles.j0 k y0 y1 y2 y3 y4 y5) (laws_FnCycles.j0 (k + 1) y0 y1 y2 y3 y4 y5)) ∧ (∀ y0, LeO (laws_FnCycles.j4 k y0) (laws_FnCycles.j4 (k + 1) y0)) ∧ (∀ y0 y1 y2 y3, LeO (laws_FnCycles.j5 k y0 y1 y2 y3) (laws_FnCycles.j5 (k + 1) y0 y1 y2 y3)) ∧ (∀ y0 y1 y2 y3 y4, LeO (laws_FnCycles.l2 k y0 y1 y2 y3 y4) (laws_FnCycles.l2 (k + 1) y0 y1 y2 y3 y4)) ∧ (∀ y0 y1 y2 y3 y4, LeO (laws_FnCycles.j7 k y0 y1 y2 y3 y4) (laws_FnCycles.j7 (k + 1) y0 y1 y2 y3 y4)) ∧ (∀ y0 y1 y2 y3 y4, LeO (laws_FnCycles.j1 k y0 y1 y2 y3 y4) (laws_FnCycles.j1 (k + 1) y0 y1 y2 y3 y4)) ∧ (∀ y0 y1 y2 y3 y4 y5, LeO (laws_FnCycles.l0 k y0 y1 y2 y3 y4 y5) (laws_FnCycles.l0 (k + 1) y0 y1 y2 y3 y4 y5)) ∧ (∀ y0 y1 y2 y3, LeO (laws_FnCycles.l1 k y0 y1 y2 y3) (laws_FnCycles.l1 (k + 1) y0 y1 y2 y3))
 | 0 => ⟨fun _ _ _ _ _ _ r h => by simp [laws_FnCycles.j0] at h, fun _ r h => by simp [laws_FnCycles.j4] at h, fun _ _ _ _ r h => by simp [laws_FnCycles.j5] at h, fun _ _ _ _ _ r h => by simp [laws_FnCycles.l2] at h, fun _ _ _ _ _ r h => by simp [laws_FnCycles.j7] at h, fun _ _ _ _ _ r h => by simp [laws_FnCycles.j1] at h, fun _ _ _ _ _ _ r h => by simp [laws_FnCycles.l0] at h, fun _ _ _ _ r h => by simp [laws_FnCycles.l1] at h⟩
 | k + 1 => by
  obtain ⟨ih0, ih1, ih2, ih3, ih4, ih5, ih6, ih7⟩ := laws_FnCycles.mono_l k
  refine ⟨?_, ?_, ?_, ?_, ?_, ?_, ?_, ?_⟩
  ·intro y0 y1 y2 y3 y4 y5
   unfold laws_FnCycles.j0
   repeat' first
   | (with_reducible exact ih0 _ _ _ _ _ _)
   | (with_reducible exact ih1 _)
   | (with_reducible exact ih2 _ _ _ _)
   | (with_reducible exact ih3 _ _ _ _ _)
   | (with_reducible exact ih4 _ _ _ _ _)
   | (with_reducible exact ih5 _ _ _ _ _)
   | (with_reducible exact ih6 _ _ _ _ _ _)
   | (with_reducible exact ih7 _ _ _ _)
   | (with_reducible exact impl_ApplyOrder.mono _ _ _)
   | (with_reducible exact impl_BackOrder.mono _ _)
   | (with_reducible exact impl_CyclesOf.mono _ _)
   | (with_reducible exact impl_IsOrder.mono _ _)
   | (with_reducible exact impl_LengthOf.mono _ _)
   | (with_reducible exact impl_SignOf.mono _ _)
   | (with_reducible exact impl_ThenOrder.mono _ _ _)
   | (with_reducible exact laws_sameInts.mono _ _ _)
   | (with_reducible exact laws_sameTexts.mono _ _ _)
   | (with_reducible exact spec_ApplyOrder.mono _ _ _)
   | (with_reducible exact spec_BackOrder.mono _ _)
   | (with_reducible exact spec_CyclesOf.mono _ _)
   | (with_reducible exact spec_DrawApplyOrder.mono _ _)
   | (with_reducible exact spec_DrawBackOrder.mono _ _)
   | (with_reducible exact spec_DrawCyclesOf.mono _ _)
   | (with_reducible exact spec_DrawThenOrder.mono _ _)
   | (with_reducible exact spec_LengthOf.mono _ _)
   | (with_reducible exact spec_SignOf.mono _ _)
   | (with_reducible exact spec_ThenOrder.mono _ _ _)
   | (with_reducible exact LeO.refl _)
   | (with_reducible exact LeO.none _)
   | (with_reducible refine LeO.ite ?_ ?_)
   | (with_reducible refine LeO.bind ?_ (fun _ => ?_))
   | exact ih0 _ _ _ _ _ _
   | exact ih1 _
   | exact ih2 _ _ _ _
   | exact ih3 _ _ _ _ _
   | exact ih4 _ _ _ _ _
   | exact ih5 _ _ _ _ _
   | exact ih6 _ _ _ _ _ _
   | exact ih7 _ _ _ _
   | exact impl_ApplyOrder.mono _ _ _
   | exact impl_BackOrder.mono _ _
   | exact impl_CyclesOf.mono _ _
   | exact impl_IsOrder.mono _ _
   | exact impl_LengthOf.mono _ _
   | exact impl_SignOf.mono _ _
   | exact impl_ThenOrder.mono _ _ _
   | exact laws_sameInts.mono _ _ _
   | exact laws_sameTexts.mono _ _ _
   | exact spec_ApplyOrder.mono _ _ _
   | exact spec_BackOrder.mono _ _
   | exact spec_CyclesOf.mono _ _
   | exact spec_DrawApplyOrder.mono _ _
   | exact spec_DrawBackOrder.mono _ _
   | exact spec_DrawCyclesOf.mono _ _
   | exact spec_DrawThenOrder.mono _ _
   | exact spec_LengthOf.mono _ _
   | exact spec_SignOf.mono _ _
   | exact spec_ThenOrder.mono _ _ _
   | exact LeO.none _
   | refine LeO.ite ?_ ?_
   | refine LeO.bind ?_ (fun _ => ?_)
  ·intro y0
   unfold laws_FnCycles.j4
   repeat' first
   | (with_reducible exact ih0 _ _ _ _ _ _)
   | (with_reducible exact ih1 _)
   | (with_reducible exact ih2 _ _ _ _)
   | (with_reducible exact ih3 _ _ _ _ _)
   | (with_reducible exact ih4 _ _ _ _ _)
   | (with_reducible exact ih5 _ _ _ _ _)
   | (with_reducible exact ih6 _ _ _ _ _ _)
   | (with_reducible exact ih7 _ _ _ _)
   | (with_reducible exact impl_ApplyOrder.mono _ _ _)
   | (with_reducible exact impl_BackOrder.mono _ _)
   | (with_reducible exact impl_CyclesOf.mono _ _)
   | (with_reducible exact impl_IsOrder.mono _ _)
   | (with_reducible exact impl_LengthOf.mono _ _)
   | (with_reducible exact impl_SignOf.mono _ _)
   | (with_reducible exact impl_ThenOrder.mono _ _ _)
   | (with_reducible exact laws_sameInts.mono _ _ _)
   | (with_reducible exact laws_sameTexts.mono _ _ _)
   | (with_reducible exact spec_ApplyOrder.mono _ _ _)
   | (with_reducible exact spec_BackOrder.mono _ _)
   | (with_reducible exact spec_CyclesOf.mono _ _)
   | (with_reducible exact spec_DrawApplyOrder.mono _ _)
   | (with_reducible exact spec_DrawBackOrder.mono _ _)
   | (with_reducible exact spec_DrawCyclesOf.mono _ _)
   | (with_reducible exact spec_DrawThenOrder.mono _ _)
   | (with_reducible exact spec_LengthOf.mono _ _)
   | (with_reducible exact spec_SignOf.mono _ _)
   | (with_reducible exact spec_ThenOrder.mono _ _ _)
   | (with_reducible exact LeO.refl _)
   | (with_reducible exact LeO.none _)
   | (with_reducible refine LeO.ite ?_ ?_)
   | (with_reducible refine LeO.bind ?_ (fun _ => ?_))
   | exact ih0 _ _ _ _ _ _
   | exact ih1 _
   | exact ih2 _ _ _ _
   | exact ih3 _ _ _ _ _
   | exact ih4 _ _ _ _ _
   | exact ih5 _ _ _ _ _
   | exact ih6 _ _ _ _ _ _
   | exact ih7 _ _ _ _
   | exact impl_ApplyOrder.mono _ _ _
   | exact impl_BackOrder.mono _ _
   | exact impl_CyclesOf.mono _ _
   | exact impl_IsOrder.mono _ _
   | exact impl_LengthOf.mono _ _
   | exact impl_SignOf.mono _ _
   | exact impl_ThenOrder.mono _ _ _
   | exact laws_sameInts.mono _ _ _
   | exact laws_sameTexts.mono _ _ _
   | exact spec_ApplyOrder.mono _ _ _
   | exact spec_BackOrder.mono _ _
   | exact spec_CyclesOf.mono _ _
   | exact spec_DrawApplyOrder.mono _ _
   | exact spec_DrawBackOrder.mono _ _
   | exact spec_DrawCyclesOf.mono _ _
   | exact spec_DrawThenOrder.mono _ _
   | exact spec_LengthOf.mono _ _
   | exact spec_SignOf.mono _ _
   | exact spec_ThenOrder.mono _ _ _
   | exact LeO.none _
   | refine LeO.ite ?_ ?_
   | refine LeO.bind ?_ (fun _ => ?_)
  ·intro y0 y1 y2 y3
   unfold laws_FnCycles.j5
   repeat' first
   | (with_reducible exact ih0 _ _ _ _ _ _)
   | (with_reducible exact ih1 _)
   | (with_reducible exact ih2 _ _ _ _)
   | (with_reducible exact ih3 _ _ _ _ _)
   | (with_reducible exact ih4 _ _ _ _ _)
   | (with_reducible exact ih5 _ _ _ _ _)
   | (with_reducible exact ih6 _ _ _ _ _ _)
   | (with_reducible exact ih7 _ _ _ _)
   | (with_reducible exact impl_ApplyOrder.mono _ _ _)
   | (with_reducible exact impl_BackOrder.mono _ _)
   | (with_reducible exact impl_CyclesOf.mono _ _)
   | (with_reducible exact impl_IsOrder.mono _ _)
   | (with_reducible exact impl_LengthOf.mono _ _)
   | (with_reducible exact impl_SignOf.mono _ _)
   | (with_reducible exact impl_ThenOrder.mono _ _ _)
   | (with_reducible exact laws_sameInts.mono _ _ _)
   | (with_reducible exact laws_sameTexts.mono _ _ _)
   | (with_reducible exact spec_ApplyOrder.mono _ _ _)
   | (with_reducible exact spec_BackOrder.mono _ _)
   | (with_reducible exact spec_CyclesOf.mono _ _)
   | (with_reducible exact spec_DrawApplyOrder.mono _ _)
   | (with_reducible exact spec_DrawBackOrder.mono _ _)
   | (with_reducible exact spec_DrawCyclesOf.mono _ _)
   | (with_reducible exact spec_DrawThenOrder.mono _ _)
   | (with_reducible exact spec_LengthOf.mono _ _)
   | (with_reducible exact spec_SignOf.mono _ _)
   | (with_reducible exact spec_ThenOrder.mono _ _ _)
   | (with_reducible exact LeO.refl _)
   | (with_reducible exact LeO.none _)
   | (with_reducible refine LeO.ite ?_ ?_)
   | (with_reducible refine LeO.bind ?_ (fun _ => ?_))
   | exact ih0 _ _ _ _ _ _
   | exact ih1 _
   | exact ih2 _ _ _ _
   | exact ih3 _ _ _ _ _
   | exact ih4 _ _ _ _ _
   | exact ih5 _ _ _ _ _
   | exact ih6 _ _ _ _ _ _
   | exact ih7 _ _ _ _
   | exact impl_ApplyOrder.mono _ _ _
   | exact impl_BackOrder.mono _ _
   | exact impl_CyclesOf.mono _ _
   | exact impl_IsOrder.mono _ _
   | exact impl_LengthOf.mono _ _
   | exact impl_SignOf.mono _ _
   | exact impl_ThenOrder.mono _ _ _
   | exact laws_sameInts.mono _ _ _
   | exact laws_sameTexts.mono _ _ _
   | exact spec_ApplyOrder.mono _ _ _
   | exact spec_BackOrder.mono _ _
   | exact spec_CyclesOf.mono _ _
   | exact spec_DrawApplyOrder.mono _ _
   | exact spec_DrawBackOrder.mono _ _
   | exact spec_DrawCyclesOf.mono _ _
   | exact spec_DrawThenOrder.mono _ _
   | exact spec_LengthOf.mono _ _
   | exact spec_SignOf.mono _ _
   | exact spec_ThenOrder.mono _ _ _
   | exact LeO.none _
   | refine LeO.ite ?_ ?_
   | refine LeO.bind ?_ (fun _ => ?_)
  ·intro y0 y1 y2 y3 y4
   unfold laws_FnCycles.l2
   repeat' first
   | (with_reducible exact ih0 _ _ _ _ _ _)
   | (with_reducible exact ih1 _)
   | (with_reducible exact ih2 _ _ _ _)
   | (with_reducible exact ih3 _ _ _ _ _)
   | (with_reducible exact ih4 _ _ _ _ _)
   | (with_reducible exact ih5 _ _ _ _ _)
   | (with_reducible exact ih6 _ _ _ _ _ _)
   | (with_reducible exact ih7 _ _ _ _)
   | (with_reducible exact impl_ApplyOrder.mono _ _ _)
   | (with_reducible exact impl_BackOrder.mono _ _)
   | (with_reducible exact impl_CyclesOf.mono _ _)
   | (with_reducible exact impl_IsOrder.mono _ _)
   | (with_reducible exact impl_LengthOf.mono _ _)
   | (with_reducible exact impl_SignOf.mono _ _)
   | (with_reducible exact impl_ThenOrder.mono _ _ _)
   | (with_reducible exact laws_sameInts.mono _ _ _)
   | (with_reducible exact laws_sameTexts.mono _ _ _)
   | (with_reducible exact spec_ApplyOrder.mono _ _ _)
   | (with_reducible exact spec_BackOrder.mono _ _)
   | (with_reducible exact spec_CyclesOf.mono _ _)
   | (with_reducible exact spec_DrawApplyOrder.mono _ _)
   | (with_reducible exact spec_DrawBackOrder.mono _ _)
   | (with_reducible exact spec_DrawCyclesOf.mono _ _)
   | (with_reducible exact spec_DrawThenOrder.mono _ _)
   | (with_reducible exact spec_LengthOf.mono _ _)
   | (with_reducible exact spec_SignOf.mono _ _)
   | (with_reducible exact spec_ThenOrder.mono _ _ _)
   | (with_reducible exact LeO.refl _)
   | (with_reducible exact LeO.none _)
   | (with_reducible refine LeO.ite ?_ ?_)
   | (with_reducible refine LeO.bind ?_ (fun _ => ?_))
   | exact ih0 _ _ _ _ _ _
   | exact ih1 _
   | exact ih2 _ _ _ _
   | exact ih3 _ _ _ _ _
   | exact ih4 _ _ _ _ _
   | exact ih5 _ _ _ _ _
   | exact ih6 _ _ _ _ _ _
   | exact ih7 _ _ _ _
   | exact impl_ApplyOrder.mono _ _ _
   | exact impl_BackOrder.mono _ _
   | exact impl_CyclesOf.mono _ _
   | exact impl_IsOrder.mono _ _
   | exact impl_LengthOf.mono _ _
   | exact impl_SignOf.mono _ _
   | exact impl_ThenOrder.mono _ _ _
   | exact laws_sameInts.mono _ _ _
   | exact laws_sameTexts.mono _ _ _
   | exact spec_ApplyOrder.mono _ _ _
   | exact spec_BackOrder.mono _ _
   | exact spec_CyclesOf.mono _ _
   | exact spec_DrawApplyOrder.mono _ _
   | exact spec_DrawBackOrder.mono _ _
   | exact spec_DrawCyclesOf.mono _ _
   | exact spec_DrawThenOrder.mono _ _
   | exact spec_LengthOf.mono _ _
   | exact spec_SignOf.mono _ _
   | exact spec_ThenOrder.mono _ _ _
   | exact LeO.none _
   | refine LeO.ite ?_ ?_
   | refine LeO.bind ?_ (fun _ => ?_)
  ·intro y0 y1 y2 y3 y4
   unfold laws_FnCycles.j7
   repeat' first
   | (with_reducible exact ih0 _ _ _ _ _ _)
   | (with_reducible exact ih1 _)
   | (with_reducible exact ih2 _ _ _ _)
   | (with_reducible exact ih3 _ _ _ _ _)
   | (with_reducible exact ih4 _ _ _ _ _)
   | (with_reducible exact ih5 _ _ _ _ _)
   | (with_reducible exact ih6 _ _ _ _ _ _)
   | (with_reducible exact ih7 _ _ _ _)
   | (with_reducible exact impl_ApplyOrder.mono _ _ _)
   | (with_reducible exact impl_BackOrder.mono _ _)
   | (with_reducible exact impl_CyclesOf.mono _ _)
   | (with_reducible exact impl_IsOrder.mono _ _)
   | (with_reducible exact impl_LengthOf.mono _ _)
   | (with_reducible exact impl_SignOf.mono _ _)
   | (with_reducible exact impl_ThenOrder.mono _ _ _)
   | (with_reducible exact laws_sameInts.mono _ _ _)
   | (with_reducible exact laws_sameTexts.mono _ _ _)
   | (with_reducible exact spec_ApplyOrder.mono _ _ _)
   | (with_reducible exact spec_BackOrder.mono _ _)
   | (with_reducible exact spec_CyclesOf.mono _ _)
   | (with_reducible exact spec_DrawApplyOrder.mono _ _)
   | (with_reducible exact spec_DrawBackOrder.mono _ _)
   | (with_reducible exact spec_DrawCyclesOf.mono _ _)
   | (with_reducible exact spec_DrawThenOrder.mono _ _)
   | (with_reducible exact spec_LengthOf.mono _ _)
   | (with_reducible exact spec_SignOf.mono _ _)
   | (with_reducible exact spec_ThenOrder.mono _ _ _)
   | (with_reducible exact LeO.refl _)
   | (with_reducible exact LeO.none _)
   | (with_reducible refine LeO.ite ?_ ?_)
   | (with_reducible refine LeO.bind ?_ (fun _ => ?_))
   | exact ih0 _ _ _ _ _ _
   | exact ih1 _
   | exact ih2 _ _ _ _
   | exact ih3 _ _ _ _ _
   | exact ih4 _ _ _ _ _
   | exact ih5 _ _ _ _ _
   | exact ih6 _ _ _ _ _ _
   | exact ih7 _ _ _ _
   | exact impl_ApplyOrder.mono _ _ _
   | exact impl_BackOrder.mono _ _
   | exact impl_CyclesOf.mono _ _
   | exact impl_IsOrder.mono _ _
   | exact impl_LengthOf.mono _ _
   | exact impl_SignOf.mono _ _
   | exact impl_ThenOrder.mono _ _ _
   | exact laws_sameInts.mono _ _ _
   | exact laws_sameTexts.mono _ _ _
   | exact spec_ApplyOrder.mono _ _ _
   | exact spec_BackOrder.mono _ _
   | exact spec_CyclesOf.mono _ _
   | exact spec_DrawApplyOrder.mono _ _
   | exact spec_DrawBackOrder.mono _ _
   | exact spec_DrawCyclesOf.mono _ _
   | exact spec_DrawThenOrder.mono _ _
   | exact spec_LengthOf.mono _ _
   | exact spec_SignOf.mono _ _
   | exact spec_ThenOrder.mono _ _ _
   | exact LeO.none _
   | refine LeO.ite ?_ ?_
   | refine LeO.bind ?_ (fun _ => ?_)
  ·intro y0 y1 y2 y3 y4
   unfold laws_FnCycles.j1
   repeat' first
   | (with_reducible exact ih0 _ _ _ _ _ _)
   | (with_reducible exact ih1 _)
   | (with_reducible exact ih2 _ _ _ _)
   | (with_reducible exact ih3 _ _ _ _ _)
   | (with_reducible exact ih4 _ _ _ _ _)
   | (with_reducible exact ih5 _ _ _ _ _)
   | (with_reducible exact ih6 _ _ _ _ _ _)
   | (with_reducible exact ih7 _ _ _ _)
   | (with_reducible exact impl_ApplyOrder.mono _ _ _)
   | (with_reducible exact impl_BackOrder.mono _ _)
   | (with_reducible exact impl_CyclesOf.mono _ _)
   | (with_reducible exact impl_IsOrder.mono _ _)
   | (with_reducible exact impl_LengthOf.mono _ _)
   | (with_reducible exact impl_SignOf.mono _ _)
   | (with_reducible exact impl_ThenOrder.mono _ _ _)
   | (with_reducible exact laws_sameInts.mono _ _ _)
   | (with_reducible exact laws_sameTexts.mono _ _ _)
   | (with_reducible exact spec_ApplyOrder.mono _ _ _)
   | (with_reducible exact spec_BackOrder.mono _ _)
   | (with_reducible exact spec_CyclesOf.mono _ _)
   | (with_reducible exact spec_DrawApplyOrder.mono _ _)
   | (with_reducible exact spec_DrawBackOrder.mono _ _)
   | (with_reducible exact spec_DrawCyclesOf.mono _ _)
   | (with_reducible exact spec_DrawThenOrder.mono _ _)
   | (with_reducible exact spec_LengthOf.mono _ _)
   | (with_reducible exact spec_SignOf.mono _ _)
   | (with_reducible exact spec_ThenOrder.mono _ _ _)
   | (with_reducible exact LeO.refl _)
   | (with_reducible exact LeO.none _)
   | (with_reducible refine LeO.ite ?_ ?_)
   | (with_reducible refine LeO.bind ?_ (fun _ => ?_))
   | exact ih0 _ _ _ _ _ _
   | exact ih1 _
   | exact ih2 _ _ _ _
   | exact ih3 _ _ _ _ _
   | exact ih4 _ _ _ _ _
   | exact ih5 _ _ _ _ _
   | exact ih6 _ _ _ _ _ _
   | exact ih7 _ _ _ _
   | exact impl_ApplyOrder.mono _ _ _
   | exact impl_BackOrder.mono _ _
   | exact impl_CyclesOf.mono _ _
   | exact impl_IsOrder.mono _ _
   | exact impl_LengthOf.mono _ _
   | exact impl_SignOf.mono _ _
   | exact impl_ThenOrder.mono _ _ _
   | exact laws_sameInts.mono _ _ _
   | exact laws_sameTexts.mono _ _ _
   | exact spec_ApplyOrder.mono _ _ _
   | exact spec_BackOrder.mono _ _
   | exact spec_CyclesOf.mono _ _
   | exact spec_DrawApplyOrder.mono _ _
   | exact spec_DrawBackOrder.mono _ _
   | exact spec_DrawCyclesOf.mono _ _
   | exact spec_DrawThenOrder.mono _ _
   | exact spec_LengthOf.mono _ _
   | exact spec_SignOf.mono _ _
   | exact spec_ThenOrder.mono _ _ _
   | exact LeO.none _
   | refine LeO.ite ?_ ?_
   | refine LeO.bind ?_ (fun _ => ?_)
  ·intro y0 y1 y2 y3 y4 y5
   unfold laws_FnCycles.l0
   repeat' first
   | (with_reducible exact ih0 _ _ _ _ _ _)
   | (with_reducible exact ih1 _)
   | (with_reducible exact ih2 _ _ _ _)
   | (with_reducible exact ih3 _ _ _ _ _)
   | (with_reducible exact ih4 _ _ _ _ _)
   | (with_reducible exact ih5 _ _ _ _ _)
   | (with_reducible exact ih6 _ _ _ _ _ _)
   | (with_reducible exact ih7 _ _ _ _)
   | (with_reducible exact impl_ApplyOrder.mono _ _ _)
   | (with_reducible exact impl_BackOrder.mono _ _)
   | (with_reducible exact impl_CyclesOf.mono _ _)
   | (with_reducible exact impl_IsOrder.mono _ _)
   | (with_reducible exact impl_LengthOf.mono _ _)
   | (with_reducible exact impl_SignOf.mono _ _)
   | (with_reducible exact impl_ThenOrder.mono _ _ _)
   | (with_reducible exact laws_sameInts.mono _ _ _)
   | (with_reducible exact laws_sameTexts.mono _ _ _)
   | (with_reducible exact spec_ApplyOrder.mono _ _ _)
   | (with_reducible exact spec_BackOrder.mono _ _)
   | (with_reducible exact spec_CyclesOf.mono _ _)
   | (with_reducible exact spec_DrawApplyOrder.mono _ _)
   | (with_reducible exact spec_DrawBackOrder.mono _ _)
   | (with_reducible exact spec_DrawCyclesOf.mono _ _)
   | (with_reducible exact spec_DrawThenOrder.mono _ _)
   | (with_reducible exact spec_LengthOf.mono _ _)
   | (with_reducible exact spec_SignOf.mono _ _)
   | (with_reducible exact spec_ThenOrder.mono _ _ _)
   | (with_reducible exact LeO.refl _)
   | (with_reducible exact LeO.none _)
   | (with_reducible refine LeO.ite ?_ ?_)
   | (with_reducible refine LeO.bind ?_ (fun _ => ?_))
   | exact ih0 _ _ _ _ _ _
   | exact ih1 _
   | exact ih2 _ _ _ _
   | exact ih3 _ _ _ _ _
   | exact ih4 _ _ _ _ _
   | exact ih5 _ _ _ _ _
   | exact ih6 _ _ _ _ _ _
   | exact ih7 _ _ _ _
   | exact impl_ApplyOrder.mono _ _ _
   | exact impl_BackOrder.mono _ _
   | exact impl_CyclesOf.mono _ _
   | exact impl_IsOrder.mono _ _
   | exact impl_LengthOf.mono _ _
   | exact impl_SignOf.mono _ _
   | exact impl_ThenOrder.mono _ _ _
   | exact laws_sameInts.mono _ _ _
   | exact laws_sameTexts.mono _ _ _
   | exact spec_ApplyOrder.mono _ _ _
   | exact spec_BackOrder.mono _ _
   | exact spec_CyclesOf.mono _ _
   | exact spec_DrawApplyOrder.mono _ _
   | exact spec_DrawBackOrder.mono _ _
   | exact spec_DrawCyclesOf.mono _ _
   | exact spec_DrawThenOrder.mono _ _
   | exact spec_LengthOf.mono _ _
   | exact spec_SignOf.mono _ _
   | exact spec_ThenOrder.mono _ _ _
   | exact LeO.none _
   | refine LeO.ite ?_ ?_
   | refine LeO.bind ?_ (fun _ => ?_)
  ·intro y0 y1 y2 y3
   unfold laws_FnCycles.l1
   repeat' first
   | (with_reducible exact ih0 _ _ _ _ _ _)
   | (with_reducible exact ih1 _)
   | (with_reducible exact ih2 _ _ _ _)
   | (with_reducible exact ih3 _ _ _ _ _)
   | (with_reducible exact ih4 _ _ _ _ _)
   | (with_reducible exact ih5 _ _ _ _ _)
   | (with_reducible exact ih6 _ _ _ _ _ _)
   | (with_reducible exact ih7 _ _ _ _)
   | (with_reducible exact impl_ApplyOrder.mono _ _ _)
   | (with_reducible exact impl_BackOrder.mono _ _)
   | (with_reducible exact impl_CyclesOf.mono _ _)
   | (with_reducible exact impl_IsOrder.mono _ _)
   | (with_reducible exact impl_LengthOf.mono _ _)
   | (with_reducible exact impl_SignOf.mono _ _)
   | (with_reducible exact impl_ThenOrder.mono _ _ _)
   | (with_reducible exact laws_sameInts.mono _ _ _)
   | (with_reducible exact laws_sameTexts.mono _ _ _)
   | (with_reducible exact spec_ApplyOrder.mono _ _ _)
   | (with_reducible exact spec_BackOrder.mono _ _)
   | (with_reducible exact spec_CyclesOf.mono _ _)
   | (with_reducible exact spec_DrawApplyOrder.mono _ _)
   | (with_reducible exact spec_DrawBackOrder.mono _ _)
   | (with_reducible exact spec_DrawCyclesOf.mono _ _)
   | (with_reducible exact spec_DrawThenOrder.mono _ _)
   | (with_reducible exact spec_LengthOf.mono _ _)
   | (with_reducible exact spec_SignOf.mono _ _)
   | (with_reducible exact spec_ThenOrder.mono _ _ _)
   | (with_reducible exact LeO.refl _)
   | (with_reducible exact LeO.none _)
   | (with_reducible refine LeO.ite ?_ ?_)
   | (with_reducible refine LeO.bind ?_ (fun _ => ?_))
   | exact ih0 _ _ _ _ _ _
   | exact ih1 _
   | exact ih2 _ _ _ _
   | exact ih3 _ _ _ _ _
   | exact ih4 _ _ _ _ _
   | exact ih5 _ _ _ _ _
   | exact ih6 _ _ _ _ _ _
   | exact ih7 _ _ _ _
   | exact impl_ApplyOrder.mono _ _ _
   | exact impl_BackOrder.mono _ _
   | exact impl_CyclesOf.mono _ _
   | exact impl_IsOrder.mono _ _
   | exact impl_LengthOf.mono _ _
   | exact impl_SignOf.mono _ _
   | exact impl_ThenOrder.mono _ _ _
   | exact laws_sameInts.mono _ _ _
   | exact laws_sameTexts.mono _ _ _
   | exact spec_ApplyOrder.mono _ _ _
   | exact spec_BackOrder.mono _ _
   | exact spec_CyclesOf.mono _ _
   | exact spec_DrawApplyOrder.mono _ _
   | exact spec_DrawBackOrder.mono _ _
   | exact spec_DrawCyclesOf.mono _ _
   | exact spec_DrawThenOrder.mono _ _
   | exact spec_LengthOf.mono _ _
   | exact spec_SignOf.mono _ _
   | exact spec_ThenOrder.mono _ _ _
   | exact LeO.none _
   | refine LeO.ite ?_ ?_
   | refine LeO.bind ?_ (fun _ => ?_)
theorem laws_FnCycles.mono : ∀ a0 a1 k, LeO (laws_FnCycles.f k a0 a1) (laws_FnCycles.f (k + 1) a0 a1) := by
 intro a0 a1 k
 obtain ⟨ih0, ih1, ih2, ih3, ih4, ih5, ih6, ih7⟩ := laws_FnCycles.mono_l k
 unfold laws_FnCycles.f
 repeat' first
   | (with_reducible exact ih0 _ _ _ _ _ _)
   | (with_reducible exact ih1 _)
   | (with_reducible exact ih2 _ _ _ _)
   | (with_reducible exact ih3 _ _ _ _ _)
   | (with_reducible exact ih4 _ _ _ _ _)
   | (with_reducible exact ih5 _ _ _ _ _)
   | (with_reducible exact ih6 _ _ _ _ _ _)
   | (with_reducible exact ih7 _ _ _ _)
   | (with_reducible exact impl_ApplyOrder.mono _ _ _)
   | (with_reducible exact impl_BackOrder.mono _ _)
   | (with_reducible exact impl_CyclesOf.mono _ _)
   | (with_reducible exact impl_IsOrder.mono _ _)
   | (with_reducible exact impl_LengthOf.mono _ _)
   | (with_reducible exact impl_SignOf.mono _ _)
   | (with_reducible exact impl_ThenOrder.mono _ _ _)
   | (with_reducible exact laws_sameInts.mono _ _ _)
   | (with_reducible exact laws_sameTexts.mono _ _ _)
   | (with_reducible exact spec_ApplyOrder.mono _ _ _)
   | (with_reducible exact spec_BackOrder.mono _ _)
   | (with_reducible exact spec_CyclesOf.mono _ _)
   | (with_reducible exact spec_DrawApplyOrder.mono _ _)
   | (with_reducible exact spec_DrawBackOrder.mono _ _)
   | (with_reducible exact spec_DrawCyclesOf.mono _ _)
   | (with_reducible exact spec_DrawThenOrder.mono _ _)
   | (with_reducible exact spec_LengthOf.mono _ _)
   | (with_reducible exact spec_SignOf.mono _ _)
   | (with_reducible exact spec_ThenOrder.mono _ _ _)
   | (with_reducible exact LeO.refl _)
   | (with_reducible exact LeO.none _)
   | (with_reducible refine LeO.ite ?_ ?_)
   | (with_reducible refine LeO.bind ?_ (fun _ => ?_))
   | exact ih0 _ _ _ _ _ _
   | exact ih1 _
   | exact ih2 _ _ _ _
   | exact ih3 _ _ _ _ _
   | exact ih4 _ _ _ _ _
   | exact ih5 _ _ _ _ _
   | exact ih6 _ _ _ _ _ _
   | exact ih7 _ _ _ _
   | exact impl_ApplyOrder.mono _ _ _
   | exact impl_BackOrder.mono _ _
   | exact impl_CyclesOf.mono _ _
   | exact impl_IsOrder.mono _ _
   | exact impl_LengthOf.mono _ _
   | exact impl_SignOf.mono _ _
   | exact impl_ThenOrder.mono _ _ _
   | exact laws_sameInts.mono _ _ _
   | exact laws_sameTexts.mono _ _ _
   | exact spec_ApplyOrder.mono _ _ _
   | exact spec_BackOrder.mono _ _
   | exact spec_CyclesOf.mono _ _
   | exact spec_DrawApplyOrder.mono _ _
   | exact spec_DrawBackOrder.mono _ _
   | exact spec_DrawCyclesOf.mono _ _
   | exact spec_DrawThenOrder.mono _ _
   | exact spec_LengthOf.mono _ _
   | exact spec_SignOf.mono _ _
   | exact spec_ThenOrder.mono _ _ _
   | exact LeO.none _
   | refine LeO.ite ?_ ?_
   | refine LeO.bind ?_ (fun _ => ?_)
set_option maxHeartbeats 8000000 in
set_option maxRecDepth 100000 in
theorem laws_FnCycles.calls (k : Nat) (A0 : Option Addr) (c0 : Nat) (l0 : List Int) (A1 : Option Addr) (c1 : Nat) (l1 : List Int) (r : Bool) (w : World) (hr0 : Kd.C (Kd.int .u8) w A0 l0.length l0) (hc0 : l0.length ≤ c0) (hr1 : Kd.C (Kd.int .u8) w A1 l1.length l1) (hc1 : l1.length ≤ c1) (h : laws_FnCycles.f k l0 l1 = some r) (hr_ : Aside0 (r = true)) :
  Calls Try.prog 4 #[.slice A0 l0.length c0, .slice A1 l1.length c1] w fun e w' => e = .returned (.bool r) ∧ Below w.heap.size w w' := by
 have HR0 := Aside0.mk hr0
 have HC0 := Aside0.mk hc0
 clear hr0 hc0
 have HR1 := Aside0.mk hr1
 have HC1 := Aside0.mk hc1
 clear hr1 hc1
 have HB := Aside0.mk (Below.refl w.heap.size w)
 have H : (if (wrap64 ((l0.length : Int) + (l1.length : Int))) > 1048576 then (some true) else ((spec_DrawThenOrder.f k l0).bind fun bt355 => ((impl_ThenOrder.f k bt355.1 bt355.2).bind fun bt361 => ((spec_ThenOrder.f k bt355.1 bt355.2).bind fun bt365 => (if (bt361.2 != bt365.2) = true then (laws_FnCycles.j0 k l1 bt355.1 bt355.2 bt361.1 bt361.2 true) else ((laws_sameInts.f k bt361.1 bt365.1).bind fun t369 => (laws_FnCycles.j0 k l1 bt355.1 bt355.2 bt361.1 bt361.2 (!t369)))))))) = some r := h
 clear h
 by_cases c3 : (wrap64 ((l0.length : Int) + (l1.length : Int))) > 1048576
 ·rw [if_pos c3] at H
  have c3b0 : decide (1048576 < (wrap64 ((l0.length : Int) + (l1.length : Int)))) = true := decide_eq_true c3
  clear c3
  obtain rfl := Option.some.inj H
  simp only [Option.some.injEq, Prod.mk.injEq] at H
  obtain ⟨rfl⟩ := H
  go_enter Try.func4, Try.ntmps4
  go_wp2
  repeat (go_quiet (fail); try go_wp2)
  go_ret
  exact ⟨by first | rfl | (simp [errW_none, errW_some] <;> rfl) | (simp [*, errW_none, errW_some] <;> rfl), by repeat (first | (with_reducible first | exact HB.out | apply bA | apply bN | apply bD) | exact HB.out)⟩
 ·rw [if_neg c3] at H
  have c3b0 : decide (1048576 < (wrap64 ((l0.length : Int) + (l1.length : Int)))) = false := decide_eq_false c3
  clear c3
  replace H := oB H
  obtain ⟨⟨t355, t356⟩, A40, H⟩ := H
  replace H : ((impl_ThenOrder.f k t355 t356).bind fun bt361 => ((spec_ThenOrder.f k t355 t356).bind fun bt365 => (if (bt361.2 != bt365.2) = true then (laws_FnCycles.j0 k l1 t355 t356 bt361.1 bt361.2 true) else ((laws_sameInts.f k bt361.1 bt365.1).bind fun t369 => (laws_FnCycles.j0 k l1 t355 t356 bt361.1 bt361.2 (!t369)))))) = some r := H
  have A4 := Aside0.mk A40
  clear A40
  replace H := oB H
  obtain ⟨⟨t361, t362⟩, A50, H⟩ := H
  replace H : ((spec_ThenOrder.f k t355 t356).bind fun bt365 => (if (t362 != bt365.2) = true then (laws_FnCycles.j0 k l1 t355 t356 t361 t362 true) else ((laws_sameInts.f k t361 bt365.1).bind fun t369 => (laws_FnCycles.j0 k l1 t355 t356 t361 t362 (!t369))))) = some r := H
  have A5 := Aside0.mk A50
  clear A50
  replace H := oB H
  obtain ⟨⟨t365, t366⟩, A60, H⟩ := H
  replace H : (if (t362 != t366) = true then (laws_FnCycles.j0 k l1 t355 t356 t361 t362 true) else ((laws_sameInts.f k t361 t365).bind fun t369 => (laws_FnCycles.j0 k l1 t355 t356 t361 t362 (!t369)))) = some r := H
  have A6 := Aside0.mk A60
  clear A60
  have HC7 := Aside0.mk H
  clear H
  go_enter Try.func4, Try.ntmps4
  go_upto_region 6 with (first | (go_at_call 21; (with_reducible refine (spec_DrawThenOrder.calls k _ _ l0 t355 t356 _ ?side1 ?side2 A4.out).mono ?_); (case side1 => repeat (first | exact HR0.out | (with_reducible first | refine cA ?_ _ | refine cN ?_ _ | refine cD ?_))); (case side2 => exact HC0.out); rintro e w8 ⟨v357, v359, rfl, ho0, ho1, hb⟩; have n0_ := Aside0.mk (Kd.R_lower ho0 (below_size (by repeat (first | (with_reducible first | exact HB.out | apply bA | apply bN | apply bD) | exact HB.out)))); have n1_ := Aside0.mk (Kd.R_lower ho1 (below_size (by repeat (first | (with_reducible first | exact HB.out | apply bA | apply bN | apply bD) | exact HB.out)))); have n2_ := Aside0.mk (below_step (by repeat (first | (with_reducible first | exact HB.out | apply bA | apply bN | apply bD) | exact HB.out)) hb); clear HB; have HO358 := n0_; have HO360 := n1_; have HB := n2_; clear n0_ n1_ n2_; (try clear hb); (try clear hb2); (try clear hk); (try clear hi); (try clear ho0); (try clear ho1); obtain ⟨Ao9, co9, eo9⟩ := rS HO358.out; subst eo9; obtain ⟨Ao10, co10, eo10⟩ := rS HO360.out; subst eo10) | (go_at_call 22; (with_reducible refine (impl_ThenOrder.calls k _ _ t355 _ _ t356 t361 t362 _ ?side1 ?side2 ?side3 ?side4 A5.out).mono ?_); (case side1 => repeat (first | exact (rR HO358.out).2.2 | (with_reducible first | refine cA ?_ _ | refine cN ?_ _ | refine cD ?_))); (case side2 => exact (rR HO358.out).2.1); (case side3 => repeat (first | exact (rR HO360.out).2.2 | (with_reducible first | refine cA ?_ _ | refine cN ?_ _ | refine cD ?_))); (case side4 => exact (rR HO360.out).2.1); rintro e w11 ⟨v363, rfl, ho0, hb⟩; have n0_ := Aside0.mk (rF (by (with_reducible repeat (first | apply rA | apply rN | apply rD)); exact HO358.out) (rE ho0) hb); have n1_ := Aside0.mk (rF (by (with_reducible repeat (first | apply rA | apply rN | apply rD)); exact HO360.out) (rE ho0) hb); have n2_ := Aside0.mk (Kd.R_lower (Kd.R_new' (Kd.R_new' ho0 (Kd.R_lt (by (with_reducible repeat (first | apply rA | apply rN | apply rD)); exact HO358.out))) (Kd.R_lt (by (with_reducible repeat (first | apply rA | apply rN | apply rD)); exact HO360.out))) (below_size (by repeat (first | (with_reducible first | exact HB.out | apply bA | apply bN | apply bD) | exact HB.out)))); have n3_ := Aside0.mk (below_step (by repeat (first | (with_reducible first | exact HB.out | apply bA | apply bN | apply bD) | exact HB.out)) hb); clear HO358; clear HO360; clear HB; have HO358 := n0_; have HO360 := n1_; have HO364 := n2_; have HB := n3_; clear n0_ n1_ n2_ n3_; (try clear hb); (try clear hb2); (try clear hk); (try clear hi); (try clear ho0)) | (go_at_call 23; (with_reducible refine (spec_ThenOrder.calls k _ _ t355 _ _ t356 t365 t366 _ ?side1 ?side2 ?side3 ?side4 A6.out).mono ?_); (case side1 => repeat (first | exact (rR HO358.out).2.2 | (with_reducible first | refine cA ?_ _ | refine cN ?_ _ | refine cD ?_))); (case side2 => exact (rR HO358.out).2.1); (case side3 => repeat (first | exact (rR HO360.out).2.2 | (with_reducible first | refine cA ?_ _ | refine cN ?_ _ | refine cD ?_))); (case side4 => exact (rR HO360.out).2.1); rintro e w12 ⟨v367, rfl, ho0, hb⟩; have n0_ := Aside0.mk (rF (by (with_reducible repeat (first | apply rA | apply rN | apply rD)); exact HO358.out) (rE ho0) hb); have n1_ := Aside0.mk (rF (by (with_reducible repeat (first | apply rA | apply rN | apply rD)); exact HO360.out) (rE ho0) hb); have n2_ := Aside0.mk (rF (by (with_reducible repeat (first | apply rA | apply rN | apply rD)); exact HO364.out) (rE ho0) hb); have n3_ := Aside0.mk (Kd.R_lower (Kd.R_new' (Kd.R_new' (Kd.R_new' ho0 (Kd.R_lt (by (with_reducible repeat (first | apply rA | apply rN | apply rD)); exact HO358.out))) (Kd.R_lt (by (with_reducible repeat (first | apply rA | apply rN | apply rD)); exact HO360.out))) (Kd.R_lt (by (with_reducible repeat (first | apply rA | apply rN | apply rD)); exact HO364.out))) (below_size (by repeat (first | (with_reducible first | exact HB.out | apply bA | apply bN | apply bD) | exact HB.out)))); have n4_ := Aside0.mk (below_step (by repeat (first | (with_reducible first | exact HB.out | apply bA | apply bN | apply bD) | exact HB.out)) hb); clear HO358; clear HO360; clear HO364; clear HB; have HO358 := n0_; have HO360 := n1_; have HO364 := n2_; have HO368 := n3_; have HB := n4_; clear n0_ n1_ n2_ n3_ n4_; (try clear hb); (try clear hb2); (try clear hk); (try clear hi); (try clear ho0)))
  repeat (go_quiet (first | (go_at_call 21; (with_reducible refine (spec_DrawThenOrder.calls k _ _ l0 t355 t356 _ ?side1 ?side2 A4.out).mono ?_); (case side1 => repeat (first | exact HR0.out | (with_reducible first | refine cA ?_ _ | refine cN ?_ _ | refine cD ?_))); (case side2 => exact HC0.out); rintro e w8 ⟨v357, v359, rfl, ho0, ho1, hb⟩; have n0_ := Aside0.mk (Kd.R_lower ho0 (below_size (by repeat (first | (with_reducible first | exact HB.out | apply bA | apply bN | apply bD) | exact HB.out)))); have n1_ := Aside0.mk (Kd.R_lower ho1 (below_size (by repeat (first | (with_reducible first | exact HB.out | apply bA | apply bN | apply bD) | exact HB.out)))); have n2_ := Aside0.mk (below_step (by repeat (first | (with_reducible first | exact HB.out | apply bA | apply bN | apply bD) | exact HB.out)) hb); clear HB; have HO358 := n0_; have HO360 := n1_; have HB := n2_; clear n0_ n1_ n2_; (try clear hb); (try clear hb2); (try clear hk); (try clear hi); (try clear ho0); (try clear ho1); obtain ⟨Ao9, co9, eo9⟩ := rS HO358.out; subst eo9; obtain ⟨Ao10, co10, eo10⟩ := rS HO360.out; subst eo10) | (go_at_call 22; (with_reducible refine (impl_ThenOrder.calls k _ _ t355 _ _ t356 t361 t362 _ ?side1 ?side2 ?side3 ?side4 A5.out).mono ?_); (case side1 => repeat (first | exact (rR HO358.out).2.2 | (with_reducible first | refine cA ?_ _ | refine cN ?_ _ | refine cD ?_))); (case side2 => exact (rR HO358.out).2.1); (case side3 => repeat (first | exact (rR HO360.out).2.2 | (with_reducible first | refine cA ?_ _ | refine cN ?_ _ | refine cD ?_))); (case side4 => exact (rR HO360.out).2.1); rintro e w11 ⟨v363, rfl, ho0, hb⟩; have n0_ := Aside0.mk (rF (by (with_reducible repeat (first | apply rA | apply rN | apply rD)); exact HO358.out) (rE ho0) hb); have n1_ := Aside0.mk (rF (by (with_reducible repeat (first | apply rA | apply rN | apply rD)); exact HO360.out) (rE ho0) hb); have n2_ := Aside0.mk (Kd.R_lower (Kd.R_new' (Kd.R_new' ho0 (Kd.R_lt (by (with_reducible repeat (first | apply rA | apply rN | apply rD)); exact HO358.out))) (Kd.R_lt (by (with_reducible repeat (first | apply rA | apply rN | apply rD)); exact HO360.out))) (below_size (by repeat (first | (with_reducible first | exact HB.out | apply bA | apply bN | apply bD) | exact HB.out)))); have n3_ := Aside0.mk (below_step (by repeat (first | (with_reducible first | exact HB.out | apply bA | apply bN | apply bD) | exact HB.out)) hb); clear HO358; clear HO360; clear HB; have HO358 := n0_; have HO360 := n1_; have HO364 := n2_; have HB := n3_; clear n0_ n1_ n2_ n3_; (try clear hb); (try clear hb2); (try clear hk); (try clear hi); (try clear ho0)) | (go_at_call 23; (with_reducible refine (spec_ThenOrder.calls k _ _ t355 _ _ t356 t365 t366 _ ?side1 ?side2 ?side3 ?side4 A6.out).mono ?_); (case side1 => repeat (first | exact (rR HO358.out).2.2 | (with_reducible first | refine cA ?_ _ | refine cN ?_ _ | refine cD ?_))); (case side2 => exact (rR HO358.out).2.1); (case side3 => repeat (first | exact (rR HO360.out).2.2 | (with_reducible first | refine cA ?_ _ | refine cN ?_ _ | refine cD ?_))); (case side4 => exact (rR HO360.out).2.1); rintro e w12 ⟨v367, rfl, ho0, hb⟩; have n0_ := Aside0.mk (rF (by (with_reducible repeat (first | apply rA | apply rN | apply rD)); exact HO358.out) (rE ho0) hb); have n1_ := Aside0.mk (rF (by (with_reducible repeat (first | apply rA | apply rN | apply rD)); exact HO360.out) (rE ho0) hb); have n2_ := Aside0.mk (rF (by (with_reducible repeat (first | apply rA | apply rN | apply rD)); exact HO364.out) (rE ho0) hb); have n3_ := Aside0.mk (Kd.R_lower (Kd.R_new' (Kd.R_new' (Kd.R_new' ho0 (Kd.R_lt (by (with_reducible repeat (first | apply rA | apply rN | apply rD)); exact HO358.out))) (Kd.R_lt (by (with_reducible repeat (first | apply rA | apply rN | apply rD)); exact HO360.out))) (Kd.R_lt (by (with_reducible repeat (first | apply rA | apply rN | apply rD)); exact HO364.out))) (below_size (by repeat (first | (with_reducible first | exact HB.out | apply bA | apply bN | apply bD) | exact HB.out)))); have n4_ := Aside0.mk (below_step (by repeat (first | (with_reducible first | exact HB.out | apply bA | apply bN | apply bD) | exact HB.out)) hb); clear HO358; clear HO360; clear HO364; clear HB; have HO358 := n0_; have HO360 := n1_; have HO364 := n2_; have HO368 := n3_; have HB := n4_; clear n0_ n1_ n2_ n3_ n4_; (try clear hb); (try clear hb2); (try clear hk); (try clear hi); (try clear ho0))); go_upto_region 6 with (first | (go_at_call 21; (with_reducible refine (spec_DrawThenOrder.calls k _ _ l0 t355 t356 _ ?side1 ?side2 A4.out).mono ?_); (case side1 => repeat (first | exact HR0.out | (with_reducible first | refine cA ?_ _ | refine cN ?_ _ | refine cD ?_))); (case side2 => exact HC0.out); rintro e w8 ⟨v357, v359, rfl, ho0, ho1, hb⟩; have n0_ := Aside0.mk (Kd.R_lower ho0 (below_size (by repeat (first | (with_reducible first | exact HB.out | apply bA | apply bN | apply bD) | exact HB.out)))); have n1_ := Aside0.mk (Kd.R_lower ho1 (below_size (by repeat (first | (with_reducible first | exact HB.out | apply bA | apply bN | apply bD) | exact HB.out)))); have n2_ := Aside0.mk (below_step (by repeat (first | (with_reducible first | exact HB.out | apply bA | apply bN | apply bD) | exact HB.out)) hb); clear HB; have HO358 := n0_; have HO360 := n1_; have HB := n2_; clear n0_ n1_ n2_; (try clear hb); (try clear hb2); (try clear hk); (try clear hi); (try clear ho0); (try clear ho1); obtain ⟨Ao9, co9, eo9⟩ := rS HO358.out; subst eo9; obtain ⟨Ao10, co10, eo10⟩ := rS HO360.out; subst eo10) | (go_at_call 22; (with_reducible refine (impl_ThenOrder.calls k _ _ t355 _ _ t356 t361 t362 _ ?side1 ?side2 ?side3 ?side4 A5.out).mono ?_); (case side1 => repeat (first | exact (rR HO358.out).2.2 | (with_reducible first | refine cA ?_ _ | refine cN ?_ _ | refine cD ?_))); (case side2 => exact (rR HO358.out).2.1); (case side3 => repeat (first | exact (rR HO360.out).2.2 | (with_reducible first | refine cA ?_ _ | refine cN ?_ _ | refine cD ?_))); (case side4 => exact (rR HO360.out).2.1); rintro e w11 ⟨v363, rfl, ho0, hb⟩; have n0_ := Aside0.mk (rF (by (with_reducible repeat (first | apply rA | apply rN | apply rD)); exact HO358.out) (rE ho0) hb); have n1_ := Aside0.mk (rF (by (with_reducible repeat (first | apply rA | apply rN | apply rD)); exact HO360.out) (rE ho0) hb); have n2_ := Aside0.mk (Kd.R_lower (Kd.R_new' (Kd.R_new' ho0 (Kd.R_lt (by (with_reducible repeat (first | apply rA | apply rN | apply rD)); exact HO358.out))) (Kd.R_lt (by (with_reducible repeat (first | apply rA | apply rN | apply rD)); exact HO360.out))) (below_size (by repeat (first | (with_reducible first | exact HB.out | apply bA | apply bN | apply bD) | exact HB.out)))); have n3_ := Aside0.mk (below_step (by repeat (first | (with_reducible first | exact HB.out | apply bA | apply bN | apply bD) | exact HB.out)) hb); clear HO358; clear HO360; clear HB; have HO358 := n0_; have HO360 := n1_; have HO364 := n2_; have HB := n3_; clear n0_ n1_ n2_ n3_; (try clear hb); (try clear hb2); (try clear hk); (try clear hi); (try clear ho0)) | (go_at_call 23; (with_reducible refine (spec_ThenOrder.calls k _ _ t355 _ _ t356 t365 t366 _ ?side1 ?side2 ?side3 ?side4 A6.out).mono ?_); (case side1 => repeat (first | exact (rR HO358.out).2.2 | (with_reducible first | refine cA ?_ _ | refine cN ?_ _ | refine cD ?_))); (case side2 => exact (rR HO358.out).2.1); (case side3 => repeat (first | exact (rR HO360.out).2.2 | (with_reducible first | refine cA ?_ _ | refine cN ?_ _ | refine cD ?_))); (case side4 => exact (rR HO360.out).2.1); rintro e w12 ⟨v367, rfl, ho0, hb⟩; have n0_ := Aside0.mk (rF (by (with_reducible repeat (first | apply rA | apply rN | apply rD)); exact HO358.out) (rE ho0) hb); have n1_ := Aside0.mk (rF (by (with_reducible repeat (first | apply rA | apply rN | apply rD)); exact HO360.out) (rE ho0) hb); have n2_ := Aside0.mk (rF (by (with_reducible repeat (first | apply rA | apply rN | apply rD)); exact HO364.out) (rE ho0) hb); have n3_ := Aside0.mk (Kd.R_lower (Kd.R_new' (Kd.R_new' (Kd.R_new' ho0 (Kd.R_lt (by (with_reducible repeat (first | apply rA | apply rN | apply rD)); exact HO358.out))) (Kd.R_lt (by (with_reducible repeat (first | apply rA | apply rN | apply rD)); exact HO360.out))) (Kd.R_lt (by (with_reducible repeat (first | apply rA | apply rN | apply rD)); exact HO364.out))) (below_size (by repeat (first | (with_reducible first | exact HB.out | apply bA | apply bN | apply bD) | exact HB.out)))); have n4_ := Aside0.mk (below_step (by repeat (first | (with_reducible first | exact HB.out | apply bA | apply bN | apply bD) | exact HB.out)) hb); clear HO358; clear HO360; clear HO364; clear HB; have HO358 := n0_; have HO360 := n1_; have HO364 := n2_; have HO368 := n3_; have HB := n4_; clear n0_ n1_ n2_ n3_ n4_; (try clear hb); (try clear hb2); (try clear hk); (try clear hi); (try clear ho0))))
  (try simp only [Act.put, List.setIfInBounds_toArray, List.set_cons_zero, List.set_cons_succ])
  go_cut [89] from 99999 (fun v89 wc => ∃ (kq : Nat) (x89_6 : Bool), v89 = .bool x89_6 ∧ Aside0 (laws_FnCycles.j0 kq l1 t355 t356 t361 t362 x89_6 = some r) ∧ Aside0 (kq ≤ k) ∧ Aside0 (Kd.R (Kd.int .i64) 3 wc w.heap.size (fun k_ => some k_ ≠ ((.slice Ao10 t356.length co10) : Value).ownBlock ∧ some k_ ≠ (v363 : Value).ownBlock) (.slice Ao9 t355.length co9) t355) ∧ Aside0 (Kd.R (Kd.int .i64) 3 wc w.heap.size (fun k_ => some k_ ≠ ((.slice Ao9 t355.length co9) : Value).ownBlock ∧ some k_ ≠ (v363 : Value).ownBlock) (.slice Ao10 t356.length co10) t356) ∧ Aside0 (Kd.R (Kd.int .i64) 3 wc w.heap.size (fun k_ => some k_ ≠ ((.slice Ao9 t355.length co9) : Value).ownBlock ∧ some k_ ≠ ((.slice Ao10 t356.length co10) : Value).ownBlock) v363 t361) ∧ Aside0 (Below w.heap.size w wc))
  case first =>
   have H := HC7.out
   clear HC7
   by_cases c13 : (t362 != t366) = true
   ·rw [if_pos c13] at H
    have c13b0 : (t362 != t366) = true := c13
    (try (have c13b1 : decide (t362 = t366) = false := by simpa using c13))
    (try (have c13b2 : (t362 == t366) = false := by simpa using c13))
    (try (have c13b3 : ¬ (t362 = t366) := by simpa using c13))
    clear c13
    (first | rw [c13b0] | (simp only [i64_w, i32_w]; rw [c13b0]) | skip)
    have H' := Aside0.mk H
    clear H
    go_wp2
    repeat (go_quiet (fail); try go_wp2)
    go_meet
    case rel => exact ⟨_, (true), (by first | rfl | (simp; done) | (simp [*]; done)), H', ⟨by first | omega | exact Nat.le_refl _⟩, ⟨by (with_reducible repeat (first | apply rA | apply rN | apply rD)); exact rM HO358.out (fun _ hk => ⟨hk.1.1, hk.1.2⟩)⟩, ⟨by (with_reducible repeat (first | apply rA | apply rN | apply rD)); exact rM HO360.out (fun _ hk => ⟨hk.1.1, hk.1.2⟩)⟩, ⟨by (with_reducible repeat (first | apply rA | apply rN | apply rD)); exact rM HO364.out (fun _ hk => ⟨hk.1.1.2, hk.1.2⟩)⟩, ⟨by repeat (first | (with_reducible first | exact HB.out | apply bA | apply bN | apply bD) | exact HB.out)⟩⟩
   ·rw [if_neg c13] at H
    have c13b0 : (t362 != t366) = false := by simpa using c13
    (try (have c13b1 : decide (t362 = t366) = true := by simpa using c13))
    (try (have c13b2 : (t362 == t366) = true := by simpa using c13))
    clear c13
    (first | rw [c13b0] | (simp only [i64_w, i32_w]; rw [c13b0]) | skip)
    replace H := oB H
    obtain ⟨t369, A140, H⟩ := H
    replace H : (laws_FnCycles.j0 k l1 t355 t356 t361 t362 (!t369)) = some r := H
    have A14 := Aside0.mk A140
    clear A140
    have H' := Aside0.mk H
    clear H
    obtain ⟨Ao15, co15, eo15⟩ := rS HO364.out
    subst eo15
    obtain ⟨Ao16, co16, eo16⟩ := rS HO368.out
    subst eo16
    go_wp2_with (first | (go_at_call 10; (with_reducible refine (laws_sameInts.calls k _ _ t361 _ _ t365 t369 _ ?side1 ?side2 ?side3 ?side4 A14.out).mono ?_); (case side1 => repeat (first | exact (rR HO364.out).2.2 | (with_reducible first | refine cA ?_ _ | refine cN ?_ _ | refine cD ?_))); (case side2 => exact (rR HO364.out).2.1); (case side3 => repeat (first | exact (rR HO368.out).2.2 | (with_reducible first | refine cA ?_ _ | refine cN ?_ _ | refine cD ?_))); (case side4 => exact (rR HO368.out).2.1); rintro e w' ⟨rfl, ⟨nd, rfl⟩⟩; (try first | exact ⟨rfl, _, wN _ _ _⟩ | exact ⟨rfl, _, wM _ _ _ _⟩)))
    repeat (go_quiet (first | (go_at_call 10; (with_reducible refine (laws_sameInts.calls k _ _ t361 _ _ t365 t369 _ ?side1 ?side2 ?side3 ?side4 A14.out).mono ?_); (case side1 => repeat (first | exact (rR HO364.out).2.2 | (with_reducible first | refine cA ?_ _ | refine cN ?_ _ | refine cD ?_))); (case side2 => exact (rR HO364.out).2.1); (case side3 => repeat (first | exact (rR HO368.out).2.2 | (with_reducible first | refine cA ?_ _ | refine cN ?_ _ | refine cD ?_))); (case side4 => exact (rR HO368.out).2.1); rintro e w' ⟨rfl, ⟨nd, rfl⟩⟩; (try first | exact ⟨rfl, _, wN _ _ _⟩ | exact ⟨rfl, _, wM _ _ _ _⟩))); try go_wp2_with (first | (go_at_call 10; (with_reducible refine (laws_sameInts.calls k _ _ t361 _ _ t365 t369 _ ?side1 ?side2 ?side3 ?side4 A14.out).mono ?_); (case side1 => repeat (first | exact (rR HO364.out).2.2 | (with_reducible first | refine cA ?_ _ | refine cN ?_ _ | refine cD ?_))); (case side2 => exact (rR HO364.out).2.1); (case side3 => repeat (first | exact (rR HO368.out).2.2 | (with_reducible first | refine cA ?_ _ | refine cN ?_ _ | refine cD ?_))); (case side4 => exact (rR HO368.out).2.1); rintro e w' ⟨rfl, ⟨nd, rfl⟩⟩; (try first | exact ⟨rfl, _, wN _ _ _⟩ | exact ⟨rfl, _, wM _ _ _ _⟩))))
    go_meet
    case rel => exact ⟨_, (!t369), (by first | rfl | (simp; done) | (simp [*]; done)), H', ⟨by first | omega | exact Nat.le_refl _⟩, ⟨by (with_reducible repeat (first | apply rA | apply rN | apply rD)); exact rM HO358.out (fun _ hk => ⟨hk.1.1, hk.1.2⟩)⟩, ⟨by (with_reducible repeat (first | apply rA | apply rN | apply rD)); exact rM HO360.out (fun _ hk => ⟨hk.1.1, hk.1.2⟩)⟩, ⟨by (with_reducible repeat (first | apply rA | apply rN | apply rD)); exact rM HO364.out (fun _ hk => ⟨hk.1.1.2, hk.1.2⟩)⟩, ⟨by repeat (first | (with_reducible first | exact HB.out | apply bA | apply bN | apply bD) | exact HB.out)⟩⟩
  case rest =>
   clear HC7
   try clear c1
   try clear p2
   try clear c3
   try clear c3b0
   try clear c4
   try clear p6
   try clear c13
   try clear c13b0
   try clear c13b1
   try clear c13b2
   obtain ⟨kq, x89_6, rfl, HA, HJ6, HO_5, HO_6, HO_7, HB⟩ := hcut
   cases kq with
   | zero => exact absurd HA.out (by simp [laws_FnCycles.j0])
   | succ kj6 =>
    have H := HA.out
    clear HA
    simp only [laws_FnCycles.j0] at H
    by_cases c17 : x89_6 = true
    ·subst c17
     have H1 : (some false) = some r := by rw [if_pos rfl] at H; exact H
     clear H
     have H := H1
     clear H1
     obtain rfl := Option.some.inj H
     exact absurd hr_.out (by simp)
    ·replace c17 := fB c17
     subst c17
     have H1 : (if t362 = true then ((impl_BackOrder.f kj6 t355).bind fun bt370 => ((impl_ThenOrder.f kj6 t355 bt370.1).bind fun bt374 => ((impl_SignOf.f kj6 t355).bind fun bt378 => ((impl_SignOf.f kj6 t356).bind fun bt380 => ((impl_SignOf.f kj6 t361).bind fun bt382 => ((impl_LengthOf.f kj6 t355).bind fun bt384 => (if bt370.2 = true then (if bt374.2 = true then (if bt378.2 = true then (if bt380.2 = true then (if bt382.2 = true then (if bt382.1 = (wrap64 (bt378.1 * bt380.1)) then (if bt384.2 = true then (laws_FnCycles.j1 kj6 l1 t355 bt374.1 bt384.1 (decide (bt384.1 < 1))) else (laws_FnCycles.j1 kj6 l1 t355 bt374.1 bt384.1 true)) else (laws_FnCycles.j1 kj6 l1 t355 bt374.1 bt384.1 true)) else (laws_FnCycles.j1 kj6 l1 t355 bt374.1 bt384.1 true)) else (laws_FnCycles.j1 kj6 l1 t355 bt374.1 bt384.1 true)) else (laws_FnCycles.j1 kj6 l1 t355 bt374.1 bt384.1 true)) else (laws_FnCycles.j1 kj6 l1 t355 bt374.1 bt384.1 true)) else (laws_FnCycles.j1 kj6 l1 t355 bt374.1 bt384.1 true)))))))) else (laws_FnCycles.j4 kj6 l1)) = some r := by rw [if_neg (show ¬ (false = true) by decide)] at H; exact H
     clear H
     have H := H1
     clear H1
     have HC18 := Aside0.mk H
     clear H
     go_upto_if 90 with (fail)
     repeat (go_quiet (fail); go_upto_if 90 with (fail))
     go_cut [] from 99999 (fun wc => ∃ (kq : Nat), Aside0 (laws_FnCycles.j4 kq l1 = some r) ∧ Aside0 (kq ≤ kj6) ∧ Aside0 (Below w.heap.size w wc))
     case first =>
      have H := HC18.out
      clear HC18
      by_cases c19 : t362 = true
      ·subst c19
       have H1 : ((impl_BackOrder.f kj6 t355).bind fun bt370 => ((impl_ThenOrder.f kj6 t355 bt370.1).bind fun bt374 => ((impl_SignOf.f kj6 t355).bind fun bt378 => ((impl_SignOf.f kj6 t356).bind fun bt380 => ((impl_SignOf.f kj6 t361).bind fun bt382 => ((impl_LengthOf.f kj6 t355).bind fun bt384 => (if bt370.2 = true then (if bt374.2 = true then (if bt378.2 = true then (if bt380.2 = true then (if bt382.2 = true then (if bt382.1 = (wrap64 (bt378.1 * bt380.1)) then (if bt384.2 = true then (laws_FnCycles.j1 kj6 l1 t355 bt374.1 bt384.1 (decide (bt384.1 < 1))) else (laws_FnCycles.j1 kj6 l1 t355 bt374.1 bt384.1 true)) else (laws_FnCycles.j1 kj6 l1 t355 bt374.1 bt384.1 true)) else (laws_FnCycles.j1 kj6 l1 t355 bt374.1 bt384.1 true)) else (laws_FnCycles.j1 kj6 l1 t355 bt374.1 bt384.1 true)) else (laws_FnCycles.j1 kj6 l1 t355 bt374.1 bt384.1 true)) else (laws_FnCycles.j1 kj6 l1 t355 bt374.1 bt384.1 true)) else (laws_FnCycles.j1 kj6 l1 t355 bt374.1 bt384.1 true)))))))) = some r := by rw [if_pos rfl] at H; exact H
       clear H
       have H := H1
       clear H1
       replace H := oB H
       obtain ⟨⟨t370, t371⟩, A200, H⟩ := H
       replace H : ((impl_ThenOrder.f kj6 t355 t370).bind fun bt374 => ((impl_SignOf.f kj6 t355).bind fun bt378 => ((impl_SignOf.f kj6 t356).bind fun bt380 => ((impl_SignOf.f kj6 t361).bind fun bt382 => ((impl_LengthOf.f kj6 t355).bind fun bt384 => (if t371 = true then (if bt374.2 = true then (if bt378.2 = true then (if bt380.2 = true then (if bt382.2 = true then (if bt382.1 = (wrap64 (bt378.1 * bt380.1)) then (if bt384.2 = true then (laws_FnCycles.j1 kj6 l1 t355 bt374.1 bt384.1 (decide (bt384.1 < 1))) else (laws_FnCycles.j1 kj6 l1 t355 bt374.1 bt384.1 true)) else (laws_FnCycles.j1 kj6 l1 t355 bt374.1 bt384.1 true)) else (laws_FnCycles.j1 kj6 l1 t355 bt374.1 bt384.1 true)) else (laws_FnCycles.j1 kj6 l1 t355 bt374.1 bt384.1 true)) else (laws_FnCycles.j1 kj6 l1 t355 bt374.1 bt384.1 true)) else (laws_FnCycles.j1 kj6 l1 t355 bt374.1 bt384.1 true)) else (laws_FnCycles.j1 kj6 l1 t355 bt374.1 bt384.1 true))))))) = some r := H
       have A20 := Aside0.mk A200
       clear A200
       replace H := oB H
       obtain ⟨⟨t374, t375⟩, A210, H⟩ := H
       replace H : ((impl_SignOf.f kj6 t355).bind fun bt378 => ((impl_SignOf.f kj6 t356).bind fun bt380 => ((impl_SignOf.f kj6 t361).bind fun bt382 => ((impl_LengthOf.f kj6 t355).bind fun bt384 => (if t371 = true then (if t375 = true then (if bt378.2 = true then (if bt380.2 = true then (if bt382.2 = true then (if bt382.1 = (wrap64 (bt378.1 * bt380.1)) then (if bt384.2 = true then (laws_FnCycles.j1 kj6 l1 t355 t374 bt384.1 (decide (bt384.1 < 1))) else (laws_FnCycles.j1 kj6 l1 t355 t374 bt384.1 true)) else (laws_FnCycles.j1 kj6 l1 t355 t374 bt384.1 true)) else (laws_FnCycles.j1 kj6 l1 t355 t374 bt384.1 true)) else (laws_FnCycles.j1 kj6 l1 t355 t374 bt384.1 true)) else (laws_FnCycles.j1 kj6 l1 t355 t374 bt384.1 true)) else (laws_FnCycles.j1 kj6 l1 t355 t374 bt384.1 true)) else (laws_FnCycles.j1 kj6 l1 t355 t374 bt384.1 true)))))) = some r := H
       have A21 := Aside0.mk A210
       clear A210
       replace H := oB H
       obtain ⟨⟨t378, t379⟩, A220, H⟩ := H
       replace H : ((impl_SignOf.f kj6 t356).bind fun bt380 => ((impl_SignOf.f kj6 t361).bind fun bt382 => ((impl_LengthOf.f kj6 t355).bind fun bt384 => (if t371 = true then (if t375 = true then (if t379 = true then (if bt380.2 = true then (if bt382.2 = true then (if bt382.1 = (wrap64 (t378 * bt380.1)) then (if bt384.2 = true then (laws_FnCycles.j1 kj6 l1 t355 t374 bt384.1 (decide (bt384.1 < 1))) else (laws_FnCycles.j1 kj6 l1 t355 t374 bt384.1 true)) else (laws_FnCycles.j1 kj6 l1 t355 t374 bt384.1 true)) else (laws_FnCycles.j1 kj6 l1 t355 t374 bt384.1 true)) else (laws_FnCycles.j1 kj6 l1 t355 t374 bt384.1 true)) else (laws_FnCycles.j1 kj6 l1 t355 t374 bt384.1 true)) else (laws_FnCycles.j1 kj6 l1 t355 t374 bt384.1 true)) else (laws_FnCycles.j1 kj6 l1 t355 t374 bt384.1 true))))) = some r := H
       have A22 := Aside0.mk A220
       clear A220
       replace H := oB H
       obtain ⟨⟨t380, t381⟩, A230, H⟩ := H
       replace H : ((impl_SignOf.f kj6 t361).bind fun bt382 => ((impl_LengthOf.f kj6 t355).bind fun bt384 => (if t371 = true then (if t375 = true then (if t379 = true then (if t381 = true then (if bt382.2 = true then (if bt382.1 = (wrap64 (t378 * t380)) then (if bt384.2 = true then (laws_FnCycles.j1 kj6 l1 t355 t374 bt384.1 (decide (bt384.1 < 1))) else (laws_FnCycles.j1 kj6 l1 t355 t374 bt384.1 true)) else (laws_FnCycles.j1 kj6 l1 t355 t374 bt384.1 true)) else (laws_FnCycles.j1 kj6 l1 t355 t374 bt384.1 true)) else (laws_FnCycles.j1 kj6 l1 t355 t374 bt384.1 true)) else (laws_FnCycles.j1 kj6 l1 t355 t374 bt384.1 true)) else (laws_FnCycles.j1 kj6 l1 t355 t374 bt384.1 true)) else (laws_FnCycles.j1 kj6 l1 t355 t374 bt384.1 true)))) = some r := H
       have A23 := Aside0.mk A230
       clear A230
       replace H := oB H
       obtain ⟨⟨t382, t383⟩, A240, H⟩ := H
       replace H : ((impl_LengthOf.f kj6 t355).bind fun bt384 => (if t371 = true then (if t375 = true then (if t379 = true then (if t381 = true then (if t383 = true then (if t382 = (wrap64 (t378 * t380)) then (if bt384.2 = true then (laws_FnCycles.j1 kj6 l1 t355 t374 bt384.1 (decide (bt384.1 < 1))) else (laws_FnCycles.j1 kj6 l1 t355 t374 bt384.1 true)) else (laws_FnCycles.j1 kj6 l1 t355 t374 bt384.1 true)) else (laws_FnCycles.j1 kj6 l1 t355 t374 bt384.1 true)) else (laws_FnCycles.j1 kj6 l1 t355 t374 bt384.1 true)) else (laws_FnCycles.j1 kj6 l1 t355 t374 bt384.1 true)) else (laws_FnCycles.j1 kj6 l1 t355 t374 bt384.1 true)) else (laws_FnCycles.j1 kj6 l1 t355 t374 bt384.1 true))) = some r := H
       have A24 := Aside0.mk A240
       clear A240
       replace H := oB H
       obtain ⟨⟨t384, t385⟩, A250, H⟩ := H
       replace H : (if t371 = true then (if t375 = true then (if t379 = true then (if t381 = true then (if t383 = true then (if t382 = (wrap64 (t378 * t380)) then (if t385 = true then (laws_FnCycles.j1 kj6 l1 t355 t374 t384 (decide (t384 < 1))) else (laws_FnCycles.j1 kj6 l1 t355 t374 t384 true)) else (laws_FnCycles.j1 kj6 l1 t355 t374 t384 true)) else (laws_FnCycles.j1 kj6 l1 t355 t374 t384 true)) else (laws_FnCycles.j1 kj6 l1 t355 t374 t384 true)) else (laws_FnCycles.j1 kj6 l1 t355 t374 t384 true)) else (laws_FnCycles.j1 kj6 l1 t355 t374 t384 true)) else (laws_FnCycles.j1 kj6 l1 t355 t374 t384 true)) = some r := H
       have A25 := Aside0.mk A250
       clear A250
       have HC26 := Aside0.mk H
       clear H
       go_upto_region 15 with (first | (go_at_call 24; (with_reducible refine (impl_BackOrder.calls kj6 _ _ t355 t370 t371 _ ?side1 ?side2 A20.out).mono ?_); (case side1 => repeat (first | exact (rR HO_5.out).2.2 | (with_reducible first | refine cA ?_ _ | refine cN ?_ _ | refine cD ?_))); (case side2 => exact (rR HO_5.out).2.1); rintro e w27 ⟨v372, rfl, ho0, hb⟩; have n0_ := Aside0.mk (rF (by (with_reducible repeat (first | apply rA | apply rN | apply rD)); exact HO_5.out) (rE ho0) hb); have n1_ := Aside0.mk (rF (by (with_reducible repeat (first | apply rA | apply rN | apply rD)); exact HO_6.out) (rE ho0) hb); have n2_ := Aside0.mk (rF (by (with_reducible repeat (first | apply rA | apply rN | apply rD)); exact HO_7.out) (rE ho0) hb); have n3_ := Aside0.mk (Kd.R_lower (Kd.R_new' (Kd.R_new' (Kd.R_new' ho0 (Kd.R_lt (by (with_reducible repeat (first | apply rA | apply rN | apply rD)); exact HO_5.out))) (Kd.R_lt (by (with_reducible repeat (first | apply rA | apply rN | apply rD)); exact HO_6.out))) (Kd.R_lt (by (with_reducible repeat (first | apply rA | apply rN | apply rD)); exact HO_7.out))) (below_size (by repeat (first | (with_reducible first | exact HB.out | apply bA | apply bN | apply bD) | exact HB.out)))); have n4_ := Aside0.mk (below_step (by repeat (first | (with_reducible first | exact HB.out | apply bA | apply bN | apply bD) | exact HB.out)) hb); clear HO_5; clear HO_6; clear HO_7; clear HB; have HO_5 := n0_; have HO_6 := n1_; have HO_7 := n2_; have HO373 := n3_; have HB := n4_; clear n0_ n1_ n2_ n3_ n4_; (try clear hb); (try clear hb2); (try clear hk); (try clear hi); (try clear ho0); obtain ⟨Ao28, co28, eo28⟩ := rS HO373.out; subst eo28) | (go_at_call 22; (with_reducible refine (impl_ThenOrder.calls kj6 _ _ t355 _ _ t370 t374 t375 _ ?side1 ?side2 ?side3 ?side4 A21.out).mono ?_); (case side1 => repeat (first | exact (rR HO_5.out).2.2 | (with_reducible first | refine cA ?_ _ | refine cN ?_ _ | refine cD ?_))); (case side2 => exact (rR HO_5.out).2.1); (case side3 => repeat (first | exact (rR HO373.out).2.2 | (with_reducible first | refine cA ?_ _ | refine cN ?_ _ | refine cD ?_))); (case side4 => exact (rR HO373.out).2.1); rintro e w29 ⟨v376, rfl, ho0, hb⟩; have n0_ := Aside0.mk (rF (by (with_reducible repeat (first | apply rA | apply rN | apply rD)); exact HO_5.out) (rE ho0) hb); have n1_ := Aside0.mk (rF (by (with_reducible repeat (first | apply rA | apply rN | apply rD)); exact HO_6.out) (rE ho0) hb); have n2_ := Aside0.mk (rF (by (with_reducible repeat (first | apply rA | apply rN | apply rD)); exact HO_7.out) (rE ho0) hb); have n3_ := Aside0.mk (rF (by (with_reducible repeat (first | apply rA | apply rN | apply rD)); exact HO373.out) (rE ho0) hb); have n4_ := Aside0.mk (Kd.R_lower (Kd.R_new' (Kd.R_new' (Kd.R_new' (Kd.R_new' ho0 (Kd.R_lt (by (with_reducible repeat (first | apply rA | apply rN | apply rD)); exact HO_5.out))) (Kd.R_lt (by (with_reducible repeat (first | apply rA | apply rN | apply rD)); exact HO_6.out))) (Kd.R_lt (by (with_reducible repeat (first | apply rA | apply rN | apply rD)); exact HO_7.out))) (Kd.R_lt (by (with_reducible repeat (first | apply rA | apply rN | apply rD)); exact HO373.out))) (below_size (by repeat (first | (with_reducible first | exact HB.out | apply bA | apply bN | apply bD) | exact HB.out)))); have n5_ := Aside0.mk (below_step (by repeat (first | (with_reducible first | exact HB.out | apply bA | apply bN | apply bD) | exact HB.out)) hb); clear HO_5; clear HO_6; clear HO_7; clear HO373; clear HB; have HO_5 := n0_; have HO_6 := n1_; have HO_7 := n2_; have HO373 := n3_; have HO377 := n4_; have HB := n5_; clear n0_ n1_ n2_ n3_ n4_ n5_; (try clear hb); (try clear hb2); (try clear hk); (try clear hi); (try clear ho0)) | (go_at_call 25; (with_reducible refine (impl_SignOf.calls kj6 _ _ t355 t378 t379 _ ?side1 ?side2 A22.out).mono ?_); (case side1 => repeat (first | exact (rR HO_5.out).2.2 | (with_reducible first | refine cA ?_ _ | refine cN ?_ _ | refine cD ?_))); (case side2 => exact (rR HO_5.out).2.1); rintro e w30 ⟨rfl, hb⟩; have n0_ := Aside0.mk (rB (by (with_reducible repeat (first | apply rA | apply rN | apply rD)); exact HO_5.out) hb); have n1_ := Aside0.mk (rB (by (with_reducible repeat (first | apply rA | apply rN | apply rD)); exact HO_6.out) hb); have n2_ := Aside0.mk (rB (by (with_reducible repeat (first | apply rA | apply rN | apply rD)); exact HO_7.out) hb); have n3_ := Aside0.mk (rB (by (with_reducible repeat (first | apply rA | apply rN | apply rD)); exact HO373.out) hb); have n4_ := Aside0.mk (rB (by (with_reducible repeat (first | apply rA | apply rN | apply rD)); exact HO377.out) hb); have n5_ := Aside0.mk (below_step (by repeat (first | (with_reducible first | exact HB.out | apply bA | apply bN | apply bD) | exact HB.out)) hb); clear HO_5; clear HO_6; clear HO_7; clear HO373; clear HO377; clear HB; have HO_5 := n0_; have HO_6 := n1_; have HO_7 := n2_; have HO373 := n3_; have HO377 := n4_; have HB := n5_; clear n0_ n1_ n2_ n3_ n4_ n5_; (try clear hb); (try clear hb2); (try clear hk); (try clear hi)) | (go_at_call 25; (with_reducible refine (impl_SignOf.calls kj6 _ _ t356 t380 t381 _ ?side1 ?side2 A23.out).mono ?_); (case side1 => repeat (first | exact (rR HO_6.out).2.2 | (with_reducible first | refine cA ?_ _ | refine cN ?_ _ | refine cD ?_))); (case side2 => exact (rR HO_6.out).2.1); rintro e w31 ⟨rfl, hb⟩; have n0_ := Aside0.mk (rB (by (with_reducible repeat (first | apply rA | apply rN | apply rD)); exact HO_5.out) hb); have n1_ := Aside0.mk (rB (by (with_reducible repeat (first | apply rA | apply rN | apply rD)); exact HO_6.out) hb); have n2_ := Aside0.mk (rB (by (with_reducible repeat (first | apply rA | apply rN | apply rD)); exact HO_7.out) hb); have n3_ := Aside0.mk (rB (by (with_reducible repeat (first | apply rA | apply rN | apply rD)); exact HO373.out) hb); have n4_ := Aside0.mk (rB (by (with_reducible repeat (first | apply rA | apply rN | apply rD)); exact HO377.out) hb); have n5_ := Aside0.mk (below_step (by repeat (first | (with_reducible first | exact HB.out | apply bA | apply bN | apply bD) | exact HB.out)) hb); clear HO_5; clear HO_6; clear HO_7; clear HO373; clear HO377; clear HB; have HO_5 := n0_; have HO_6 := n1_; have HO_7 := n2_; have HO373 := n3_; have HO377 := n4_; have HB := n5_; clear n0_ n1_ n2_ n3_ n4_ n5_; (try clear hb); (try clear hb2); (try clear hk); (try clear hi); obtain ⟨Ao32, co32, eo32⟩ := rS HO_7.out; subst eo32) | (go_at_call 25; (with_reducible refine (impl_SignOf.calls kj6 _ _ t361 t382 t383 _ ?side1 ?side2 A24.out).mono ?_); (case side1 => repeat (first | exact (rR HO_7.out).2.2 | (with_reducible first | refine cA ?_ _ | refine cN ?_ _ | refine cD ?_))); (case side2 => exact (rR HO_7.out).2.1); rintro e w33 ⟨rfl, hb⟩; have n0_ := Aside0.mk (rB (by (with_reducible repeat (first | apply rA | apply rN | apply rD)); exact HO_5.out) hb); have n1_ := Aside0.mk (rB (by (with_reducible repeat (first | apply rA | apply rN | apply rD)); exact HO_6.out) hb); have n2_ := Aside0.mk (rB (by (with_reducible repeat (first | apply rA | apply rN | apply rD)); exact HO_7.out) hb); have n3_ := Aside0.mk (rB (by (with_reducible repeat (first | apply rA | apply rN | apply rD)); exact HO373.out) hb); have n4_ := Aside0.mk (rB (by (with_reducible repeat (first | apply rA | apply rN | apply rD)); exact HO377.out) hb); have n5_ := Aside0.mk (below_step (by repeat (first | (with_reducible first | exact HB.out | apply bA | apply bN | apply bD) | exact HB.out)) hb); clear HO_5; clear HO_6; clear HO_7; clear HO373; clear HO377; clear HB; have HO_5 := n0_; have HO_6 := n1_; have HO_7 := n2_; have HO373 := n3_; have HO377 := n4_; have HB := n5_; clear n0_ n1_ n2_ n3_ n4_ n5_; (try clear hb); (try clear hb2); (try clear hk); (try clear hi)) | (go_at_call 26; (with_reducible refine (impl_LengthOf.calls kj6 _ _ t355 t384 t385 _ ?side1 ?side2 A25.out).mono ?_); (case side1 => repeat (first | exact (rR HO_5.out).2.2 | (with_reducible first | refine cA ?_ _ | refine cN ?_ _ | refine cD ?_))); (case side2 => exact (rR HO_5.out).2.1); rintro e w34 ⟨rfl, hb⟩; have n0_ := Aside0.mk (rB (by (with_reducible repeat (first | apply rA | apply rN | apply rD)); exact HO_5.out) hb); have n1_ := Aside0.mk (rB (by (with_reducible repeat (first | apply rA | apply rN | apply rD)); exact HO_6.out) hb); have n2_ := Aside0.mk (rB (by (with_reducible repeat (first | apply rA | apply rN | apply rD)); exact HO_7.out) hb); have n3_ := Aside0.mk (rB (by (with_reducible repeat (first | apply rA | apply rN | apply rD)); exact HO373.out) hb); have n4_ := Aside0.mk (rB (by (with_reducible repeat (first | apply rA | apply rN | apply rD)); exact HO377.out) hb); have n5_ := Aside0.mk (below_step (by repeat (first | (with_reducible first | exact HB.out | apply bA | apply bN | apply bD) | exact HB.out)) hb); clear HO_5; clear HO_6; clear HO_7; clear HO373; clear HO377; clear HB; have HO_5 := n0_; have HO_6 := n1_; have HO_7 := n2_; have HO373 := n3_; have HO377 := n4_; have HB := n5_; clear n0_ n1_ n2_ n3_ n4_ n5_; (try clear hb); (try clear hb2); (try clear hk); (try clear hi)))
       repeat (go_quiet (first | (go_at_call 24; (with_reducible refine (impl_BackOrder.calls kj6 _ _ t355 t370 t371 _ ?side1 ?side2 A20.out).mono ?_); (case side1 => repeat (first | exact (rR HO_5.out).2.2 | (with_reducible first | refine cA ?_ _ | refine cN ?_ _ | refine cD ?_))); (case side2 => exact (rR HO_5.out).2.1); rintro e w27 ⟨v372, rfl, ho0, hb⟩; have n0_ := Aside0.mk (rF (by (with_reducible repeat (first | apply rA | apply rN | apply rD)); exact HO_5.out) (rE ho0) hb); have n1_ := Aside0.mk (rF (by (with_reducible repeat (first | apply rA | apply rN | apply rD)); exact HO_6.out) (rE ho0) hb); have n2_ := Aside0.mk (rF (by (with_reducible repeat (first | apply rA | apply rN | apply rD)); exact HO_7.out) (rE ho0) hb); have n3_ := Aside0.mk (Kd.R_lower (Kd.R_new' (Kd.R_new' (Kd.R_new' ho0 (Kd.R_lt (by (with_reducible repeat (first | apply rA | apply rN | apply rD)); exact HO_5.out))) (Kd.R_lt (by (with_reducible repeat (first | apply rA | apply rN | apply rD)); exact HO_6.out))) (Kd.R_lt (by (with_reducible repeat (first | apply rA | apply rN | apply rD)); exact HO_7.out))) (below_size (by repeat (first | (with_reducible first | exact HB.out | apply bA | apply bN | apply bD) | exact HB.out)))); have n4_ := Aside0.mk (below_step (by repeat (first | (with_reducible first | exact HB.out | apply bA | apply bN | apply bD) | exact HB.out)) hb); clear HO_5; clear HO_6; clear HO_7; clear HB; have HO_5 := n0_; have HO_6 := n1_; have HO_7 := n2_; have HO373 := n3_; have HB := n4_; clear n0_ n1_ n2_ n3_ n4_; (try clear hb); (try clear hb2); (try clear hk); (try clear hi); (try clear ho0); obtain ⟨Ao28, co28, eo28⟩ := rS HO373.out; subst eo28) | (go_at_call 22; (with_reducible refine (impl_ThenOrder.calls kj6 _ _ t355 _ _ t370 t374 t375 _ ?side1 ?side2 ?side3 ?side4 A21.out).mono ?_); (case side1 => repeat (first | exact (rR HO_5.out).2.2 | (with_reducible first | refine cA ?_ _ | refine cN ?_ _ | refine cD ?_))); (case side2 => exact (rR HO_5.out).2.1); (case side3 => repeat (first | exact (rR HO373.out).2.2 | (with_reducible first | refine cA ?_ _ | refine cN ?_ _ | refine cD ?_))); (case side4 => exact (rR HO373.out).2.1); rintro e w29 ⟨v376, rfl, ho0, hb⟩; have n0_ := Aside0.mk (rF (by (with_reducible repeat (first | apply rA | apply rN | apply rD)); exact HO_5.out) (rE ho0) hb); have n1_ := Aside0.mk (rF (by (with_reducible repeat (first | apply rA | apply rN | apply rD)); exact HO_6.out) (rE ho0) hb); have n2_ := Aside0.mk (rF (by (with_reducible repeat (first | apply rA | apply rN | apply rD)); exact HO_7.out) (rE ho0) hb); have n3_ := Aside0.mk (rF (by (with_reducible repeat (first | apply rA | apply rN | apply rD)); exact HO373.out) (rE ho0) hb); have n4_ := Aside0.mk (Kd.R_lower (Kd.R_new' (Kd.R_new' (Kd.R_new' (Kd.R_new' ho0 (Kd.R_lt (by (with_reducible repeat (first | apply rA | apply rN | apply rD)); exact HO_5.out))) (Kd.R_lt (by (with_reducible repeat (first | apply rA | apply rN | apply rD)); exact HO_6.out))) (Kd.R_lt (by (with_reducible repeat (first | apply rA | apply rN | apply rD)); exact HO_7.out))) (Kd.R_lt (by (with_reducible repeat (first | apply rA | apply rN | apply rD)); exact HO373.out))) (below_size (by repeat (first | (with_reducible first | exact HB.out | apply bA | apply bN | apply bD) | exact HB.out)))); have n5_ := Aside0.mk (below_step (by repeat (first | (with_reducible first | exact HB.out | apply bA | apply bN | apply bD) | exact HB.out)) hb); clear HO_5; clear HO_6; clear HO_7; clear HO373; clear HB; have HO_5 := n0_; have HO_6 := n1_; have HO_7 := n2_; have HO373 := n3_; have HO377 := n4_; have HB := n5_; clear n0_ n1_ n2_ n3_ n4_ n5_; (try clear hb); (try clear hb2); (try clear hk); (try clear hi); (try clear ho0)) | (go_at_call 25; (with_reducible refine (impl_SignOf.calls kj6 _ _ t355 t378 t379 _ ?side1 ?side2 A22.out).mono ?_); (case side1 => repeat (first | exact (rR HO_5.out).2.2 | (with_reducible first | refine cA ?_ _ | refine cN ?_ _ | refine cD ?_))); (case side2 => exact (rR HO_5.out).2.1); rintro e w30 ⟨rfl, hb⟩; have n0_ := Aside0.mk (rB (by (with_reducible repeat (first | apply rA | apply rN | apply rD)); exact HO_5.out) hb); have n1_ := Aside0.mk (rB (by (with_reducible repeat (first | apply rA | apply rN | apply rD)); exact HO_6.out) hb); have n2_ := Aside0.mk (rB (by (with_reducible repeat (first | apply rA | apply rN | apply rD)); exact HO_7.out) hb); have n3_ := Aside0.mk (rB (by (with_reducible repeat (first | apply rA | apply rN | apply rD)); exact HO373.out) hb); have n4_ := Aside0.mk (rB (by (with_reducible repeat (first | apply rA | apply rN | apply rD)); exact HO377.out) hb); have n5_ := Aside0.mk (below_step (by repeat (first | (with_reducible first | exact HB.out | apply bA | apply bN | apply bD) | exact HB.out)) hb); clear HO_5; clear HO_6; clear HO_7; clear HO373; clear HO377; clear HB; have HO_5 := n0_; have HO_6 := n1_; have HO_7 := n2_; have HO373 := n3_; have HO377 := n4_; have HB := n5_; clear n0_ n1_ n2_ n3_ n4_ n5_; (try clear hb); (try clear hb2); (try clear hk); (try clear hi)) | (go_at_call 25; (with_reducible refine (impl_SignOf.calls kj6 _ _ t356 t380 t381 _ ?side1 ?side2 A23.out).mono ?_); (case side1 => repeat (first | exact (rR HO_6.out).2.2 | (with_reducible first | refine cA ?_ _ | refine cN ?_ _ | refine cD ?_))); (case side2 => exact (rR HO_6.out).2.1); rintro e w31 ⟨rfl, hb⟩; have n0_ := Aside0.mk (rB (by (with_reducible repeat (first | apply rA | apply rN | apply rD)); exact HO_5.out) hb); have n1_ := Aside0.mk (rB (by (with_reducible repeat (first | apply rA | apply rN | apply rD)); exact HO_6.out) hb); have n2_ := Aside0.mk (rB (by (with_reducible repeat (first | apply rA | apply rN | apply rD)); exact HO_7.out) hb); have n3_ := Aside0.mk (rB (by (with_reducible repeat (first | apply rA | apply rN | apply rD)); exact HO373.out) hb); have n4_ := Aside0.mk (rB (by (with_reducible repeat (first | apply rA | apply rN | apply rD)); exact HO377.out) hb); have n5_ := Aside0.mk (below_step (by repeat (first | (with_reducible first | exact HB.out | apply bA | apply bN | apply bD) | exact HB.out)) hb); clear HO_5; clear HO_6; clear HO_7; clear HO373; clear HO377; clear HB; have HO_5 := n0_; have HO_6 := n1_; have HO_7 := n2_; have HO373 := n3_; have HO377 := n4_; have HB := n5_; clear n0_ n1_ n2_ n3_ n4_ n5_; (try clear hb); (try clear hb2); (try clear hk); (try clear hi); obtain ⟨Ao32, co32, eo32⟩ := rS HO_7.out; subst eo32) | (go_at_call 25; (with_reducible refine (impl_SignOf.calls kj6 _ _ t361 t382 t383 _ ?side1 ?side2 A24.out).mono ?_); (case side1 => repeat (first | exact (rR HO_7.out).2.2 | (with_reducible first | refine cA ?_ _ | refine cN ?_ _ | refine cD ?_))); (case side2 => exact (rR HO_7.out).2.1); rintro e w33 ⟨rfl, hb⟩; have n0_ := Aside0.mk (rB (by (with_reducible repeat (first | apply rA | apply rN | apply rD)); exact HO_5.out) hb); have n1_ := Aside0.mk (rB (by (with_reducible repeat (first | apply rA | apply rN | apply rD)); exact HO_6.out) hb); have n2_ := Aside0.mk (rB (by (with_reducible repeat (first | apply rA | apply rN | apply rD)); exact HO_7.out) hb); have n3_ := Aside0.mk (rB (by (with_reducible repeat (first | apply rA | apply rN | apply rD)); exact HO373.out) hb); have n4_ := Aside0.mk (rB (by (with_reducible repeat (first | apply rA | apply rN | apply rD)); exact HO377.out) hb); have n5_ := Aside0.mk (below_step (by repeat (first | (with_reducible first | exact HB.out | apply bA | apply bN | apply bD) | exact HB.out)) hb); clear HO_5; clear HO_6; clear HO_7; clear HO373; clear HO377; clear HB; have HO_5 := n0_; have HO_6 := n1_; have HO_7 := n2_; have HO373 := n3_; have HO377 := n4_; have HB := n5_; clear n0_ n1_ n2_ n3_ n4_ n5_; (try clear hb); (try clear hb2); (try clear hk); (try clear hi)) | (go_at_call 26; (with_reducible refine (impl_LengthOf.calls kj6 _ _ t355 t384 t385 _ ?side1 ?side2 A25.out).mono ?_); (case side1 => repeat (first | exact (rR HO_5.out).2.2 | (with_reducible first | refine cA ?_ _ | refine cN ?_ _ | refine cD ?_))); (case side2 => exact (rR HO_5.out).2.1); rintro e w34 ⟨rfl, hb⟩; have n0_ := Aside0.mk (rB (by (with_reducible repeat (first | apply rA | apply rN | apply rD)); exact HO_5.out) hb); have n1_ := Aside0.mk (rB (by (with_reducible repeat (first | apply rA | apply rN | apply rD)); exact HO_6.out) hb); have n2_ := Aside0.mk (rB (by (with_reducible repeat (first | apply rA | apply rN | apply rD)); exact HO_7.out) hb); have n3_ := Aside0.mk (rB (by (with_reducible repeat (first | apply rA | apply rN | apply rD)); exact HO373.out) hb); have n4_ := Aside0.mk (rB (by (with_reducible repeat (first | apply rA | apply rN | apply rD)); exact HO377.out) hb); have n5_ := Aside0.mk (below_step (by repeat (first | (with_reducible first | exact HB.out | apply bA | apply bN | apply bD) | exact HB.out)) hb); clear HO_5; clear HO_6; clear HO_7; clear HO373; clear HO377; clear HB; have HO_5 := n0_; have HO_6 := n1_; have HO_7 := n2_; have HO373 := n3_; have HO377 := n4_; have HB := n5_; clear n0_ n1_ n2_ n3_ n4_ n5_; (try clear hb); (try clear hb2); (try clear hk); (try clear hi))); go_upto_region 15 with (first | (go_at_call 24; (with_reducible refine (impl_BackOrder.calls kj6 _ _ t355 t370 t371 _ ?side1 ?side2 A20.out).mono ?_); (case side1 => repeat (first | exact (rR HO_5.out).2.2 | (with_reducible first | refine cA ?_ _ | refine cN ?_ _ | refine cD ?_))); (case side2 => exact (rR HO_5.out).2.1); rintro e w27 ⟨v372, rfl, ho0, hb⟩; have n0_ := Aside0.mk (rF (by (with_reducible repeat (first | apply rA | apply rN | apply rD)); exact HO_5.out) (rE ho0) hb); have n1_ := Aside0.mk (rF (by (with_reducible repeat (first | apply rA | apply rN | apply rD)); exact HO_6.out) (rE ho0) hb); have n2_ := Aside0.mk (rF (by (with_reducible repeat (first | apply rA | apply rN | apply rD)); exact HO_7.out) (rE ho0) hb); have n3_ := Aside0.mk (Kd.R_lower (Kd.R_new' (Kd.R_new' (Kd.R_new' ho0 (Kd.R_lt (by (with_reducible repeat (first | apply rA | apply rN | apply rD)); exact HO_5.out))) (Kd.R_lt (by (with_reducible repeat (first | apply rA | apply rN | apply rD)); exact HO_6.out))) (Kd.R_lt (by (with_reducible repeat (first | apply rA | apply rN | apply rD)); exact HO_7.out))) (below_size (by repeat (first | (with_reducible first | exact HB.out | apply bA | apply bN | apply bD) | exact HB.out)))); have n4_ := Aside0.mk (below_step (by repeat (first | (with_reducible first | exact HB.out | apply bA | apply bN | apply bD) | exact HB.out)) hb); clear HO_5; clear HO_6; clear HO_7; clear HB; have HO_5 := n0_; have HO_6 := n1_; have HO_7 := n2_; have HO373 := n3_; have HB := n4_; clear n0_ n1_ n2_ n3_ n4_; (try clear hb); (try clear hb2); (try clear hk); (try clear hi); (try clear ho0); obtain ⟨Ao28, co28, eo28⟩ := rS HO373.out; subst eo28) | (go_at_call 22; (with_reducible refine (impl_ThenOrder.calls kj6 _ _ t355 _ _ t370 t374 t375 _ ?side1 ?side2 ?side3 ?side4 A21.out).mono ?_); (case side1 => repeat (first | exact (rR HO_5.out).2.2 | (with_reducible first | refine cA ?_ _ | refine cN ?_ _ | refine cD ?_))); (case side2 => exact (rR HO_5.out).2.1); (case side3 => repeat (first | exact (rR HO373.out).2.2 | (with_reducible first | refine cA ?_ _ | refine cN ?_ _ | refine cD ?_))); (case side4 => exact (rR HO373.out).2.1); rintro e w29 ⟨v376, rfl, ho0, hb⟩; have n0_ := Aside0.mk (rF (by (with_reducible repeat (first | apply rA | apply rN | apply rD)); exact HO_5.out) (rE ho0) hb); have n1_ := Aside0.mk (rF (by (with_reducible repeat (first | apply rA | apply rN | apply rD)); exact HO_6.out) (rE ho0) hb); have n2_ := Aside0.mk (rF (by (with_reducible repeat (first | apply rA | apply rN | apply rD)); exact HO_7.out) (rE ho0) hb); have n3_ := Aside0.mk (rF (by (with_reducible repeat (first | apply rA | apply rN | apply rD)); exact HO373.out) (rE ho0) hb); have n4_ := Aside0.mk (Kd.R_lower (Kd.R_new' (Kd.R_new' (Kd.R_new' (Kd.R_new' ho0 (Kd.R_lt (by (with_reducible repeat (first | apply rA | apply rN | apply rD)); exact HO_5.out))) (Kd.R_lt (by (with_reducible repeat (first | apply rA | apply rN | apply rD)); exact HO_6.out))) (Kd.R_lt (by (with_reducible repeat (first | apply rA | apply rN | apply rD)); exact HO_7.out))) (Kd.R_lt (by (with_reducible repeat (first | apply rA | apply rN | apply rD)); exact HO373.out))) (below_size (by repeat (first | (with_reducible first | exact HB.out | apply bA | apply bN | apply bD) | exact HB.out)))); have n5_ := Aside0.mk (below_step (by repeat (first | (with_reducible first | exact HB.out | apply bA | apply bN | apply bD) | exact HB.out)) hb); clear HO_5; clear HO_6; clear HO_7; clear HO373; clear HB; have HO_5 := n0_; have HO_6 := n1_; have HO_7 := n2_; have HO373 := n3_; have HO377 := n4_; have HB := n5_; clear n0_ n1_ n2_ n3_ n4_ n5_; (try clear hb); (try clear hb2); (try clear hk); (try clear hi); (try clear ho0)) | (go_at_call 25; (with_reducible refine (impl_SignOf.calls kj6 _ _ t355 t378 t379 _ ?side1 ?side2 A22.out).mono ?_); (case side1 => repeat (first | exact (rR HO_5.out).2.2 | (with_reducible first | refine cA ?_ _ | refine cN ?_ _ | refine cD ?_))); (case side2 => exact (rR HO_5.out).2.1); rintro e w30 ⟨rfl, hb⟩; have n0_ := Aside0.mk (rB (by (with_reducible repeat (first | apply rA | apply rN | apply rD)); exact HO_5.out) hb); have n1_ := Aside0.mk (rB (by (with_reducible repeat (first | apply rA | apply rN | apply rD)); exact HO_6.out) hb); have n2_ := Aside0.mk (rB (by (with_reducible repeat (first | apply rA | apply rN | apply rD)); exact HO_7.out) hb); have n3_ := Aside0.mk (rB (by (with_reducible repeat (first | apply rA | apply rN | apply rD)); exact HO373.out) hb); have n4_ := Aside0.mk (rB (by (with_reducible repeat (first | apply rA | apply rN | apply rD)); exact HO377.out) hb); have n5_ := Aside0.mk (below_step (by repeat (first | (with_reducible first | exact HB.out | apply bA | apply bN | apply bD) | exact HB.out)) hb); clear HO_5; clear HO_6; clear HO_7; clear HO373; clear HO377; clear HB; have HO_5 := n0_; have HO_6 := n1_; have HO_7 := n2_; have HO373 := n3_; have HO377 := n4_; have HB := n5_; clear n0_ n1_ n2_ n3_ n4_ n5_; (try clear hb); (try clear hb2); (try clear hk); (try clear hi)) | (go_at_call 25; (with_reducible refine (impl_SignOf.calls kj6 _ _ t356 t380 t381 _ ?side1 ?side2 A23.out).mono ?_); (case side1 => repeat (first | exact (rR HO_6.out).2.2 | (with_reducible first | refine cA ?_ _ | refine cN ?_ _ | refine cD ?_))); (case side2 => exact (rR HO_6.out).2.1); rintro e w31 ⟨rfl, hb⟩; have n0_ := Aside0.mk (rB (by (with_reducible repeat (first | apply rA | apply rN | apply rD)); exact HO_5.out) hb); have n1_ := Aside0.mk (rB (by (with_reducible repeat (first | apply rA | apply rN | apply rD)); exact HO_6.out) hb); have n2_ := Aside0.mk (rB (by (with_reducible repeat (first | apply rA | apply rN | apply rD)); exact HO_7.out) hb); have n3_ := Aside0.mk (rB (by (with_reducible repeat (first | apply rA | apply rN | apply rD)); exact HO373.out) hb); have n4_ := Aside0.mk (rB (by (with_reducible repeat (first | apply rA | apply rN | apply rD)); exact HO377.out) hb); have n5_ := Aside0.mk (below_step (by repeat (first | (with_reducible first | exact HB.out | apply bA | apply bN | apply bD) | exact HB.out)) hb); clear HO_5; clear HO_6; clear HO_7; clear HO373; clear HO377; clear HB; have HO_5 := n0_; have HO_6 := n1_; have HO_7 := n2_; have HO373 := n3_; have HO377 := n4_; have HB := n5_; clear n0_ n1_ n2_ n3_ n4_ n5_; (try clear hb); (try clear hb2); (try clear hk); (try clear hi); obtain ⟨Ao32, co32, eo32⟩ := rS HO_7.out; subst eo32) | (go_at_call 25; (with_reducible refine (impl_SignOf.calls kj6 _ _ t361 t382 t383 _ ?side1 ?side2 A24.out).mono ?_); (case side1 => repeat (first | exact (rR HO_7.out).2.2 | (with_reducible first | refine cA ?_ _ | refine cN ?_ _ | refine cD ?_))); (case side2 => exact (rR HO_7.out).2.1); rintro e w33 ⟨rfl, hb⟩; have n0_ := Aside0.mk (rB (by (with_reducible repeat (first | apply rA | apply rN | apply rD)); exact HO_5.out) hb); have n1_ := Aside0.mk (rB (by (with_reducible repeat (first | apply rA | apply rN | apply rD)); exact HO_6.out) hb); have n2_ := Aside0.mk (rB (by (with_reducible repeat (first | apply rA | apply rN | apply rD)); exact HO_7.out) hb); have n3_ := Aside0.mk (rB (by (with_reducible repeat (first | apply rA | apply rN | apply rD)); exact HO373.out) hb); have n4_ := Aside0.mk (rB (by (with_reducible repeat (first | apply rA | apply rN | apply rD)); exact HO377.out) hb); have n5_ := Aside0.mk (below_step (by repeat (first | (with_reducible first | exact HB.out | apply bA | apply bN | apply bD) | exact HB.out)) hb); clear HO_5; clear HO_6; clear HO_7; clear HO373; clear HO377; clear HB; have HO_5 := n0_; have HO_6 := n1_; have HO_7 := n2_; have HO373 := n3_; have HO377 := n4_; have HB := n5_; clear n0_ n1_ n2_ n3_ n4_ n5_; (try clear hb); (try clear hb2); (try clear hk); (try clear hi)) | (go_at_call 26; (with_reducible refine (impl_LengthOf.calls kj6 _ _ t355 t384 t385 _ ?side1 ?side2 A25.out).mono ?_); (case side1 => repeat (first | exact (rR HO_5.out).2.2 | (with_reducible first | refine cA ?_ _ | refine cN ?_ _ | refine cD ?_))); (case side2 => exact (rR HO_5.out).2.1); rintro e w34 ⟨rfl, hb⟩; have n0_ := Aside0.mk (rB (by (with_reducible repeat (first | apply rA | apply rN | apply rD)); exact HO_5.out) hb); have n1_ := Aside0.mk (rB (by (with_reducible repeat (first | apply rA | apply rN | apply rD)); exact HO_6.out) hb); have n2_ := Aside0.mk (rB (by (with_reducible repeat (first | apply rA | apply rN | apply rD)); exact HO_7.out) hb); have n3_ := Aside0.mk (rB (by (with_reducible repeat (first | apply rA | apply rN | apply rD)); exact HO373.out) hb); have n4_ := Aside0.mk (rB (by (with_reducible repeat (first | apply rA | apply rN | apply rD)); exact HO377.out) hb); have n5_ := Aside0.mk (below_step (by repeat (first | (with_reducible first | exact HB.out | apply bA | apply bN | apply bD) | exact HB.out)) hb); clear HO_5; clear HO_6; clear HO_7; clear HO373; clear HO377; clear HB; have HO_5 := n0_; have HO_6 := n1_; have HO_7 := n2_; have HO373 := n3_; have HO377 := n4_; have HB := n5_; clear n0_ n1_ n2_ n3_ n4_ n5_; (try clear hb); (try clear hb2); (try clear hk); (try clear hi))))
       (try simp only [Act.put, List.setIfInBounds_toArray, List.set_cons_zero, List.set_cons_succ])
       go_cut [154] from 99999 (fun v154 wc => ∃ (kq : Nat) (x154_25 : Bool), v154 = .bool x154_25 ∧ Aside0 (laws_FnCycles.j1 kq l1 t355 t374 t384 x154_25 = some r) ∧ Aside0 (kq ≤ kj6) ∧ Aside0 (Kd.R (Kd.int .i64) 3 wc w.heap.size (fun k_ => some k_ ≠ (v376 : Value).ownBlock) (.slice Ao9 t355.length co9) t355) ∧ Aside0 (Kd.R (Kd.int .i64) 3 wc w.heap.size (fun k_ => some k_ ≠ ((.slice Ao9 t355.length co9) : Value).ownBlock) v376 t374) ∧ Aside0 (Below w.heap.size w wc))
       case first =>
        have H := HC26.out
        clear HC26
        by_cases c35 : t371 = true
        ·subst c35
         have H1 : (if t375 = true then (if t379 = true then (if t381 = true then (if t383 = true then (if t382 = (wrap64 (t378 * t380)) then (if t385 = true then (laws_FnCycles.j1 kj6 l1 t355 t374 t384 (decide (t384 < 1))) else (laws_FnCycles.j1 kj6 l1 t355 t374 t384 true)) else (laws_FnCycles.j1 kj6 l1 t355 t374 t384 true)) else (laws_FnCycles.j1 kj6 l1 t355 t374 t384 true)) else (laws_FnCycles.j1 kj6 l1 t355 t374 t384 true)) else (laws_FnCycles.j1 kj6 l1 t355 t374 t384 true)) else (laws_FnCycles.j1 kj6 l1 t355 t374 t384 true)) = some r := by rw [if_pos rfl] at H; exact H
         clear H
         have H := H1
         clear H1
         by_cases c36 : t375 = true
         ·subst c36
          have H1 : (if t379 = true then (if t381 = true then (if t383 = true then (if t382 = (wrap64 (t378 * t380)) then (if t385 = true then (laws_FnCycles.j1 kj6 l1 t355 t374 t384 (decide (t384 < 1))) else (laws_FnCycles.j1 kj6 l1 t355 t374 t384 true)) else (laws_FnCycles.j1 kj6 l1 t355 t374 t384 true)) else (laws_FnCycles.j1 kj6 l1 t355 t374 t384 true)) else (laws_FnCycles.j1 kj6 l1 t355 t374 t384 true)) else (laws_FnCycles.j1 kj6 l1 t355 t374 t384 true)) = some r := by rw [if_pos rfl] at H; exact H
          clear H
          have H := H1
          clear H1
          by_cases c37 : t379 = true
          ·subst c37
           have H1 : (if t381 = true then (if t383 = true then (if t382 = (wrap64 (t378 * t380)) then (if t385 = true then (laws_FnCycles.j1 kj6 l1 t355 t374 t384 (decide (t384 < 1))) else (laws_FnCycles.j1 kj6 l1 t355 t374 t384 true)) else (laws_FnCycles.j1 kj6 l1 t355 t374 t384 true)) else (laws_FnCycles.j1 kj6 l1 t355 t374 t384 true)) else (laws_FnCycles.j1 kj6 l1 t355 t374 t384 true)) = some r := by rw [if_pos rfl] at H; exact H
           clear H
           have H := H1
           clear H1
           by_cases c38 : t381 = true
           ·subst c38
            have H1 : (if t383 = true then (if t382 = (wrap64 (t378 * t380)) then (if t385 = true then (laws_FnCycles.j1 kj6 l1 t355 t374 t384 (decide (t384 < 1))) else (laws_FnCycles.j1 kj6 l1 t355 t374 t384 true)) else (laws_FnCycles.j1 kj6 l1 t355 t374 t384 true)) else (laws_FnCycles.j1 kj6 l1 t355 t374 t384 true)) = some r := by rw [if_pos rfl] at H; exact H
            clear H
            have H := H1
            clear H1
            by_cases c39 : t383 = true
            ·subst c39
             have H1 : (if t382 = (wrap64 (t378 * t380)) then (if t385 = true then (laws_FnCycles.j1 kj6 l1 t355 t374 t384 (decide (t384 < 1))) else (laws_FnCycles.j1 kj6 l1 t355 t374 t384 true)) else (laws_FnCycles.j1 kj6 l1 t355 t374 t384 true)) = some r := by rw [if_pos rfl] at H; exact H
             clear H
             have H := H1
             clear H1
             by_cases c40 : t382 = (wrap64 (t378 * t380))
             ·rw [if_pos c40] at H
              have c40b0 : (t382 == (wrap64 (t378 * t380))) = true := beq_iff_eq.mpr c40
              have c40b1 : (t382 != (wrap64 (t378 * t380))) = false := bne_eq_false_iff_eq.mpr c40
              clear c40
              (first | rw [c40b0] | (simp only [i64_w, i32_w]; rw [c40b0]) | skip)
              by_cases c41 : t385 = true
              ·subst c41
               have H1 : (laws_FnCycles.j1 kj6 l1 t355 t374 t384 (decide (t384 < 1))) = some r := by rw [if_pos rfl] at H; exact H
               clear H
               have H := H1
               clear H1
               have H' := Aside0.mk H
               clear H
               go_wp2
               repeat (go_quiet (fail); try go_wp2)
               go_meet
               case rel => exact ⟨_, (decide (t384 < 1)), (by first | rfl | (simp; done) | (simp [*]; done)), H', ⟨by have := HJ6.out; first | omega | exact Nat.le_refl _⟩, ⟨by (with_reducible repeat (first | apply rA | apply rN | apply rD)); exact rM HO_5.out (fun _ hk => hk.2)⟩, ⟨by (with_reducible repeat (first | apply rA | apply rN | apply rD)); exact rM HO377.out (fun _ hk => hk.1.1.1.2)⟩, ⟨by repeat (first | (with_reducible first | exact HB.out | apply bA | apply bN | apply bD) | exact HB.out)⟩⟩
              ·replace c41 := fB c41
               subst c41
               have H1 : (laws_FnCycles.j1 kj6 l1 t355 t374 t384 true) = some r := by rw [if_neg (show ¬ (false = true) by decide)] at H; exact H
               clear H
               have H := H1
               clear H1
               have H' := Aside0.mk H
               clear H
               go_wp2
               repeat (go_quiet (fail); try go_wp2)
               go_meet
               case rel => exact ⟨_, (true), (by first | rfl | (simp; done) | (simp [*]; done)), H', ⟨by have := HJ6.out; first | omega | exact Nat.le_refl _⟩, ⟨by (with_reducible repeat (first | apply rA | apply rN | apply rD)); exact rM HO_5.out (fun _ hk => hk.2)⟩, ⟨by (with_reducible repeat (first | apply rA | apply rN | apply rD)); exact rM HO377.out (fun _ hk => hk.1.1.1.2)⟩, ⟨by repeat (first | (with_reducible first | exact HB.out | apply bA | apply bN | apply bD) | exact HB.out)⟩⟩
             ·rw [if_neg c40] at H
              have c40b0 : (t382 == (wrap64 (t378 * t380))) = false := beq_eq_false_iff_ne.mpr c40
              have c40b1 : (t382 != (wrap64 (t378 * t380))) = true := bne_iff_ne.mpr c40
              (first | rw [c40b0] | (simp only [i64_w, i32_w]; rw [c40b0]) | skip)
              have H' := Aside0.mk H
              clear H
              go_wp2
              repeat (go_quiet (fail); try go_wp2)
              go_meet
              case rel => exact ⟨_, (true), (by first | rfl | (simp; done) | (simp [*]; done)), H', ⟨by have := HJ6.out; first | omega | exact Nat.le_refl _⟩, ⟨by (with_reducible repeat (first | apply rA | apply rN | apply rD)); exact rM HO_5.out (fun _ hk => hk.2)⟩, ⟨by (with_reducible repeat (first | apply rA | apply rN | apply rD)); exact rM HO377.out (fun _ hk => hk.1.1.1.2)⟩, ⟨by repeat (first | (with_reducible first | exact HB.out | apply bA | apply bN | apply bD) | exact HB.out)⟩⟩
            ·replace c39 := fB c39
             subst c39
             have H1 : (laws_FnCycles.j1 kj6 l1 t355 t374 t384 true) = some r := by rw [if_neg (show ¬ (false = true) by decide)] at H; exact H
             clear H
             have H := H1
             clear H1
             have H' := Aside0.mk H
             clear H
             go_wp2
             repeat (go_quiet (fail); try go_wp2)
             go_meet
             case rel => exact ⟨_, (true), (by first | rfl | (simp; done) | (simp [*]; done)), H', ⟨by have := HJ6.out; first | omega | exact Nat.le_refl _⟩, ⟨by (with_reducible repeat (first | apply rA | apply rN | apply rD)); exact rM HO_5.out (fun _ hk => hk.2)⟩, ⟨by (with_reducible repeat (first | apply rA | apply rN | apply rD)); exact rM HO377.out (fun _ hk => hk.1.1.1.2)⟩, ⟨by repeat (first | (with_reducible first | exact HB.out | apply bA | apply bN | apply bD) | exact HB.out)⟩⟩
           ·replace c38 := fB c38
            subst c38
            have H1 : (laws_FnCycles.j1 kj6 l1 t355 t374 t384 true) = some r := by rw [if_neg (show ¬ (false = true) by decide)] at H; exact H
            clear H
            have H := H1
            clear H1
            have H' := Aside0.mk H
            clear H
            go_wp2
            repeat (go_quiet (fail); try go_wp2)
            go_meet
            case rel => exact ⟨_, (true), (by first | rfl | (simp; done) | (simp [*]; done)), H', ⟨by have := HJ6.out; first | omega | exact Nat.le_refl _⟩, ⟨by (with_reducible repeat (first | apply rA | apply rN | apply rD)); exact rM HO_5.out (fun _ hk => hk.2)⟩, ⟨by (with_reducible repeat (first | apply rA | apply rN | apply rD)); exact rM HO377.out (fun _ hk => hk.1.1.1.2)⟩, ⟨by repeat (first | (with_reducible first | exact HB.out | apply bA | apply bN | apply bD) | exact HB.out)⟩⟩
          ·replace c37 := fB c37
           subst c37
           have H1 : (laws_FnCycles.j1 kj6 l1 t355 t374 t384 true) = some r := by rw [if_neg (show ¬ (false = true) by decide)] at H; exact H
           clear H
           have H := H1
           clear H1
           have H' := Aside0.mk H
           clear H
           go_wp2
           repeat (go_quiet (fail); try go_wp2)
           go_meet
           case rel => exact ⟨_, (true), (by first | rfl | (simp; done) | (simp [*]; done)), H', ⟨by have := HJ6.out; first | omega | exact Nat.le_refl _⟩, ⟨by (with_reducible repeat (first | apply rA | apply rN | apply rD)); exact rM HO_5.out (fun _ hk => hk.2)⟩, ⟨by (with_reducible repeat (first | apply rA | apply rN | apply rD)); exact rM HO377.out (fun _ hk => hk.1.1.1.2)⟩, ⟨by repeat (first | (with_reducible first | exact HB.out | apply bA | apply bN | apply bD) | exact HB.out)⟩⟩
         ·replace c36 := fB c36
          subst c36
          have H1 : (laws_FnCycles.j1 kj6 l1 t355 t374 t384 true) = some r := by rw [if_neg (show ¬ (false = true) by decide)] at H; exact H
          clear H
          have H := H1
          clear H1
          have H' := Aside0.mk H
          clear H
          go_wp2
          repeat (go_quiet (fail); try go_wp2)
          go_meet
          case rel => exact ⟨_, (true), (by first | rfl | (simp; done) | (simp [*]; done)), H', ⟨by have := HJ6.out; first | omega | exact Nat.le_refl _⟩, ⟨by (with_reducible repeat (first | apply rA | apply rN | apply rD)); exact rM HO_5.out (fun _ hk => hk.2)⟩, ⟨by (with_reducible repeat (first | apply rA | apply rN | apply rD)); exact rM HO377.out (fun _ hk => hk.1.1.1.2)⟩, ⟨by repeat (first | (with_reducible first | exact HB.out | apply bA | apply bN | apply bD) | exact HB.out)⟩⟩
        ·replace c35 := fB c35
         subst c35
         have H1 : (laws_FnCycles.j1 kj6 l1 t355 t374 t384 true) = some r := by rw [if_neg (show ¬ (false = true) by decide)] at H; exact H
         clear H
         have H := H1
         clear H1
         have H' := Aside0.mk H
         clear H
         go_wp2
         repeat (go_quiet (fail); try go_wp2)
         go_meet
         case rel => exact ⟨_, (true), (by first | rfl | (simp; done) | (simp [*]; done)), H', ⟨by have := HJ6.out; first | omega | exact Nat.le_refl _⟩, ⟨by (with_reducible repeat (first | apply rA | apply rN | apply rD)); exact rM HO_5.out (fun _ hk => hk.2)⟩, ⟨by (with_reducible repeat (first | apply rA | apply rN | apply rD)); exact rM HO377.out (fun _ hk => hk.1.1.1.2)⟩, ⟨by repeat (first | (with_reducible first | exact HB.out | apply bA | apply bN | apply bD) | exact HB.out)⟩⟩
       case rest =>
        clear HC26
        try clear c1
        try clear p2
        try clear c3
        try clear c3b0
        try clear c4
        try clear p6
        try clear c13
        try clear c13b0
        try clear c13b1
        try clear c13b2
        try clear c17
        try clear c19
        try clear c35
        try clear c36
        try clear c37
        try clear c38
        try clear c39
        try clear c40
        try clear c40b0
        try clear c40b1
        try clear c41
        try clear p2
        try clear p6
        obtain ⟨kq, x154_25, rfl, HA, HJ25, HO_5, HO_13, HB⟩ := hcut
        cases kq with
        | zero => exact absurd HA.out (by simp [laws_FnCycles.j1])
        | succ kj25 =>
         have H := HA.out
         clear HA
         simp only [laws_FnCycles.j1] at H
         by_cases c42 : x154_25 = true
         ·subst c42
          have H1 : (some false) = some r := by rw [if_pos rfl] at H; exact H
          clear H
          have H := H1
          clear H1
          obtain rfl := Option.some.inj H
          exact absurd hr_.out (by simp)
         ·replace c42 := fB c42
          subst c42
          have H1 : ((some (([] : List Int) : List Int)).bind fun y386 => (if y386.length + t374.length < 17592186044416 then (laws_FnCycles.l0 kj25 l1 t355 t374 t384 (y386 ++ t374) 1) else (none))) = some r := by rw [if_neg (show ¬ (false = true) by decide)] at H; exact H
          clear H
          have H := H1
          clear H1
          obtain ⟨y386, hy386⟩ : ∃ y_ : List Int, y_ = (([] : List Int)) := ⟨_, rfl⟩
          replace H : (if y386.length + t374.length < 17592186044416 then (laws_FnCycles.l0 kj25 l1 t355 t374 t384 (y386 ++ t374) 1) else (none)) = some r := by first | (rw [hy386]; with_reducible exact H) | (have H2_ := (Option.bind_some _ _).symm.trans H; rw [hy386]; with_reducible exact H2_) | (have H2_ := (Option.bind_some _ _).symm.trans H; with_reducible exact H2_) | with_reducible exact H | (rw [hy386]; exact H) | exact H
          have Ny386 := Aside0.mk hy386
          clear hy386
          by_cases c43 : y386.length + t374.length < 17592186044416
          ·rw [if_pos c43] at H
           have LMc43 := Aside0.mk c43
           clear c43
           obtain ⟨y389, hy389⟩ : ∃ y_ : List Int, y_ = (y386 ++ t374) := ⟨_, rfl⟩
           replace H : (laws_FnCycles.l0 kj25 l1 t355 t374 t384 y389 1) = some r := by first | (rw [hy389]; with_reducible exact H) | (have H2_ := (Option.bind_some _ _).symm.trans H; rw [hy389]; with_reducible exact H2_) | (have H2_ := (Option.bind_some _ _).symm.trans H; with_reducible exact H2_) | with_reducible exact H | (rw [hy389]; exact H) | exact H
           have Ny389 := Aside0.mk hy389
           clear hy389
           have H' := Aside0.mk H
           clear H
           go_wp2_with (first | ((with_reducible refine gate_dst (N := 155) rfl ?_); (try (refine gate_guard (by rfl) ?_; dsimp only)); refine Kd.R_lit (Kd.int .i64) _ 3 ?hg (N := 155) ?hd (xs := ([] : List Int)) (inner := []) (ok := fun _ => True) (okp := fun _ => True) ?hr ?hp (fun _ hk => hk) trivial (Below.refl _ _) (Nat.le_refl _) (by simp) ?_; (case hd => rfl); (case hg => rfl); (case hr => first | (go_simp; done) | (go_simp; rfl)); (case hp => exact (Reps.none _ _)); intro v387 w44 ho45 hb hg_ hnew_; clear hg_ hnew_; (first | rw [← Ny386.out] at ho45 | (simp only [Int.reduceToNat] at ho45; rw [← Ny386.out] at ho45)); have n0_ := Aside0.mk (rF (by (with_reducible repeat (first | apply rA | apply rN | apply rD)); exact HO_5.out) (rE ho45) hb); have n1_ := Aside0.mk (rF (by (with_reducible repeat (first | apply rA | apply rN | apply rD)); exact HO_13.out) (rE ho45) hb); have n2_ := Aside0.mk (Kd.R_lower (Kd.R_new' (Kd.R_new' ho45 (Kd.R_lt (by (with_reducible repeat (first | apply rA | apply rN | apply rD)); exact HO_5.out))) (Kd.R_lt (by (with_reducible repeat (first | apply rA | apply rN | apply rD)); exact HO_13.out))) (below_size (by repeat (first | (with_reducible first | exact HB.out | apply bA | apply bN | apply bD) | exact HB.out)))); have n3_ := Aside0.mk (below_step (by repeat (first | (with_reducible first | exact HB.out | apply bA | apply bN | apply bD) | exact HB.out)) hb); clear HO_5; clear HO_13; clear HB; have HO_5 := n0_; have HO_13 := n1_; have HO388 := n2_; have HB := n3_; clear n0_ n1_ n2_ n3_; clear hb ho45; obtain ⟨Ao47, co47, eo47⟩ := rS HO_13.out; subst eo47) | ((with_reducible refine gate_builtin (b := .append) (xs := #[.tmp 155, .tmp 156]) rfl ?_); (try (refine gate_guard (by rfl) ?_; dsimp only)); at_builtin; refine Kd.R_append_rows (Kd.int .i64) (w0 := w) w.heap.size rfl (.tmp 155) (.tmp 156) 25 3 (.int .i64 0) 8 rfl Try.underlying25 info3 rfl (by decide) (by omega) v387 y386 t374 _ _ _ (fun k_ => some k_ ≠ (.slice Ao9 t355.length co9 : Value).ownBlock ∧ some k_ ≠ (.slice Ao47 t374.length co47 : Value).ownBlock) (fun _ => False) rfl rfl ?aO ?aR (fun _ _ h => h) (fun _ h => h.elim) ?aF ?aB ?aS ?aL ?_; (case aR => repeat (first | exact (rR HO_13.out).2.2 | (with_reducible first | refine cA ?_ _ | refine cN ?_ _ | refine cD ?_))); (case aB => exact (by repeat (first | (with_reducible first | exact HB.out | apply bA | apply bN | apply bD) | exact HB.out))); (case aF => exact (fun k_ hk => ⟨Kd.fresh' (Kd.R_lt (by (with_reducible repeat (first | apply rA | apply rN | apply rD)); exact HO_5.out)) k_ hk, Kd.fresh' (Kd.R_lt (by (with_reducible repeat (first | apply rA | apply rN | apply rD)); exact HO_13.out)) k_ hk⟩)); (case aO => exact (by (with_reducible repeat (first | apply rA | apply rN | apply rD)); exact rM HO388.out (fun _ hk => ⟨hk.1.2, hk.2⟩))); (case aS => exact (below_size (by repeat (first | (with_reducible first | exact HB.out | apply bA | apply bN | apply bD) | exact HB.out)))); (case aL => have := LMc43.out; omega); intro v390 w46 ho hb hg hat; rw [← Ny389.out] at ho; have n0_ := Aside0.mk (Kd.R_after (ok := (fun k_ => some k_ ≠ (.slice Ao47 t374.length co47 : Value).ownBlock)) (by (with_reducible repeat (first | apply rA | apply rN | apply rD)); exact HO_5.out) hg hat); have n1_ := Aside0.mk (Kd.R_after (ok := (fun k_ => some k_ ≠ (.slice Ao9 t355.length co9 : Value).ownBlock)) (by (with_reducible repeat (first | apply rA | apply rN | apply rD)); exact HO_13.out) hg hat); have n2_ := Aside0.mk (hb); have n3_ := Aside0.mk (ho); clear HO_5; clear HO_13; clear HB; clear HO388; have HO_5 := n0_; have HO_13 := n1_; have HB := n2_; have HO391 := n3_; clear n0_ n1_ n2_ n3_; clear ho hb hg hat))
           repeat (go_quiet (first | ((with_reducible refine gate_dst (N := 155) rfl ?_); (try (refine gate_guard (by rfl) ?_; dsimp only)); refine Kd.R_lit (Kd.int .i64) _ 3 ?hg (N := 155) ?hd (xs := ([] : List Int)) (inner := []) (ok := fun _ => True) (okp := fun _ => True) ?hr ?hp (fun _ hk => hk) trivial (Below.refl _ _) (Nat.le_refl _) (by simp) ?_; (case hd => rfl); (case hg => rfl); (case hr => first | (go_simp; done) | (go_simp; rfl)); (case hp => exact (Reps.none _ _)); intro v387 w44 ho45 hb hg_ hnew_; clear hg_ hnew_; (first | rw [← Ny386.out] at ho45 | (simp only [Int.reduceToNat] at ho45; rw [← Ny386.out] at ho45)); have n0_ := Aside0.mk (rF (by (with_reducible repeat (first | apply rA | apply rN | apply rD)); exact HO_5.out) (rE ho45) hb); have n1_ := Aside0.mk (rF (by (with_reducible repeat (first | apply rA | apply rN | apply rD)); exact HO_13.out) (rE ho45) hb); have n2_ := Aside0.mk (Kd.R_lower (Kd.R_new' (Kd.R_new' ho45 (Kd.R_lt (by (with_reducible repeat (first | apply rA | apply rN | apply rD)); exact HO_5.out))) (Kd.R_lt (by (with_reducible repeat (first | apply rA | apply rN | apply rD)); exact HO_13.out))) (below_size (by repeat (first | (with_reducible first | exact HB.out | apply bA | apply bN | apply bD) | exact HB.out)))); have n3_ := Aside0.mk (below_step (by repeat (first | (with_reducible first | exact HB.out | apply bA | apply bN | apply bD) | exact HB.out)) hb); clear HO_5; clear HO_13; clear HB; have HO_5 := n0_; have HO_13 := n1_; have HO388 := n2_; have HB := n3_; clear n0_ n1_ n2_ n3_; clear hb ho45; obtain ⟨Ao47, co47, eo47⟩ := rS HO_13.out; subst eo47) | ((with_reducible refine gate_builtin (b := .append) (xs := #[.tmp 155, .tmp 156]) rfl ?_); (try (refine gate_guard (by rfl) ?_; dsimp only)); at_builtin; refine Kd.R_append_rows (Kd.int .i64) (w0 := w) w.heap.size rfl (.tmp 155) (.tmp 156) 25 3 (.int .i64 0) 8 rfl Try.underlying25 info3 rfl (by decide) (by omega) v387 y386 t374 _ _ _ (fun k_ => some k_ ≠ (.slice Ao9 t355.length co9 : Value).ownBlock ∧ some k_ ≠ (.slice Ao47 t374.length co47 : Value).ownBlock) (fun _ => False) rfl rfl ?aO ?aR (fun _ _ h => h) (fun _ h => h.elim) ?aF ?aB ?aS ?aL ?_; (case aR => repeat (first | exact (rR HO_13.out).2.2 | (with_reducible first | refine cA ?_ _ | refine cN ?_ _ | refine cD ?_))); (case aB => exact (by repeat (first | (with_reducible first | exact HB.out | apply bA | apply bN | apply bD) | exact HB.out))); (case aF => exact (fun k_ hk => ⟨Kd.fresh' (Kd.R_lt (by (with_reducible repeat (first | apply rA | apply rN | apply rD)); exact HO_5.out)) k_ hk, Kd.fresh' (Kd.R_lt (by (with_reducible repeat (first | apply rA | apply rN | apply rD)); exact HO_13.out)) k_ hk⟩)); (case aO => exact (by (with_reducible repeat (first | apply rA | apply rN | apply rD)); exact rM HO388.out (fun _ hk => ⟨hk.1.2, hk.2⟩))); (case aS => exact (below_size (by repeat (first | (with_reducible first | exact HB.out | apply bA | apply bN | apply bD) | exact HB.out)))); (case aL => have := LMc43.out; omega); intro v390 w46 ho hb hg hat; rw [← Ny389.out] at ho; have n0_ := Aside0.mk (Kd.R_after (ok := (fun k_ => some k_ ≠ (.slice Ao47 t374.length co47 : Value).ownBlock)) (by (with_reducible repeat (first | apply rA | apply rN | apply rD)); exact HO_5.out) hg hat); have n1_ := Aside0.mk (Kd.R_after (ok := (fun k_ => some k_ ≠ (.slice Ao9 t355.length co9 : Value).ownBlock)) (by (with_reducible repeat (first | apply rA | apply rN | apply rD)); exact HO_13.out) hg hat); have n2_ := Aside0.mk (hb); have n3_ := Aside0.mk (ho); clear HO_5; clear HO_13; clear HB; clear HO388; have HO_5 := n0_; have HO_13 := n1_; have HB := n2_; have HO391 := n3_; clear n0_ n1_ n2_ n3_; clear ho hb hg hat)); try go_wp2_with (first | ((with_reducible refine gate_dst (N := 155) rfl ?_); (try (refine gate_guard (by rfl) ?_; dsimp only)); refine Kd.R_lit (Kd.int .i64) _ 3 ?hg (N := 155) ?hd (xs := ([] : List Int)) (inner := []) (ok := fun _ => True) (okp := fun _ => True) ?hr ?hp (fun _ hk => hk) trivial (Below.refl _ _) (Nat.le_refl _) (by simp) ?_; (case hd => rfl); (case hg => rfl); (case hr => first | (go_simp; done) | (go_simp; rfl)); (case hp => exact (Reps.none _ _)); intro v387 w44 ho45 hb hg_ hnew_; clear hg_ hnew_; (first | rw [← Ny386.out] at ho45 | (simp only [Int.reduceToNat] at ho45; rw [← Ny386.out] at ho45)); have n0_ := Aside0.mk (rF (by (with_reducible repeat (first | apply rA | apply rN | apply rD)); exact HO_5.out) (rE ho45) hb); have n1_ := Aside0.mk (rF (by (with_reducible repeat (first | apply rA | apply rN | apply rD)); exact HO_13.out) (rE ho45) hb); have n2_ := Aside0.mk (Kd.R_lower (Kd.R_new' (Kd.R_new' ho45 (Kd.R_lt (by (with_reducible repeat (first | apply rA | apply rN | apply rD)); exact HO_5.out))) (Kd.R_lt (by (with_reducible repeat (first | apply rA | apply rN | apply rD)); exact HO_13.out))) (below_size (by repeat (first | (with_reducible first | exact HB.out | apply bA | apply bN | apply bD) | exact HB.out)))); have n3_ := Aside0.mk (below_step (by repeat (first | (with_reducible first | exact HB.out | apply bA | apply bN | apply bD) | exact HB.out)) hb); clear HO_5; clear HO_13; clear HB; have HO_5 := n0_; have HO_13 := n1_; have HO388 := n2_; have HB := n3_; clear n0_ n1_ n2_ n3_; clear hb ho45; obtain ⟨Ao47, co47, eo47⟩ := rS HO_13.out; subst eo47) | ((with_reducible refine gate_builtin (b := .append) (xs := #[.tmp 155, .tmp 156]) rfl ?_); (try (refine gate_guard (by rfl) ?_; dsimp only)); at_builtin; refine Kd.R_append_rows (Kd.int .i64) (w0 := w) w.heap.size rfl (.tmp 155) (.tmp 156) 25 3 (.int .i64 0) 8 rfl Try.underlying25 info3 rfl (by decide) (by omega) v387 y386 t374 _ _ _ (fun k_ => some k_ ≠ (.slice Ao9 t355.length co9 : Value).ownBlock ∧ some k_ ≠ (.slice Ao47 t374.length co47 : Value).ownBlock) (fun _ => False) rfl rfl ?aO ?aR (fun _ _ h => h) (fun _ h => h.elim) ?aF ?aB ?aS ?aL ?_; (case aR => repeat (first | exact (rR HO_13.out).2.2 | (with_reducible first | refine cA ?_ _ | refine cN ?_ _ | refine cD ?_))); (case aB => exact (by repeat (first | (with_reducible first | exact HB.out | apply bA | apply bN | apply bD) | exact HB.out))); (case aF => exact (fun k_ hk => ⟨Kd.fresh' (Kd.R_lt (by (with_reducible repeat (first | apply rA | apply rN | apply rD)); exact HO_5.out)) k_ hk, Kd.fresh' (Kd.R_lt (by (with_reducible repeat (first | apply rA | apply rN | apply rD)); exact HO_13.out)) k_ hk⟩)); (case aO => exact (by (with_reducible repeat (first | apply rA | apply rN | apply rD)); exact rM HO388.out (fun _ hk => ⟨hk.1.2, hk.2⟩))); (case aS => exact (below_size (by repeat (first | (with_reducible first | exact HB.out | apply bA | apply bN | apply bD) | exact HB.out)))); (case aL => have := LMc43.out; omega); intro v390 w46 ho hb hg hat; rw [← Ny389.out] at ho; have n0_ := Aside0.mk (Kd.R_after (ok := (fun k_ => some k_ ≠ (.slice Ao47 t374.length co47 : Value).ownBlock)) (by (with_reducible repeat (first | apply rA | apply rN | apply rD)); exact HO_5.out) hg hat); have n1_ := Aside0.mk (Kd.R_after (ok := (fun k_ => some k_ ≠ (.slice Ao9 t355.length co9 : Value).ownBlock)) (by (with_reducible repeat (first | apply rA | apply rN | apply rD)); exact HO_13.out) hg hat); have n2_ := Aside0.mk (hb); have n3_ := Aside0.mk (ho); clear HO_5; clear HO_13; clear HB; clear HO388; have HO_5 := n0_; have HO_13 := n1_; have HB := n2_; have HO391 := n3_; clear n0_ n1_ n2_ n3_; clear ho hb hg hat)))
           go_loopg [23, 24] kj25 (fun kq v23 v24 w' => ∃ (x23_3 : List Int) (x24_3 : Int), v24 = .int .i64 x24_3 ∧ Aside0 (laws_FnCycles.l0 kq l1 t355 t374 t384 x23_3 x24_3 = some r) ∧ Aside0 (kq ≤ kj25) ∧ Aside0 (Kd.R (Kd.int .i64) 3 w' w.heap.size (fun k_ => some k_ ≠ ((.slice Ao47 t374.length co47) : Value).ownBlock ∧ some k_ ≠ (v23 : Value).ownBlock) (.slice Ao9 t355.length co9) t355) ∧ Aside0 (Kd.R (Kd.int .i64) 3 w' w.heap.size (fun k_ => some k_ ≠ ((.slice Ao9 t355.length co9) : Value).ownBlock ∧ some k_ ≠ (v23 : Value).ownBlock) (.slice Ao47 t374.length co47) t374) ∧ Aside0 (Kd.R (Kd.int .i64) 3 w' w.heap.size (fun k_ => some k_ ≠ ((.slice Ao9 t355.length co9) : Value).ownBlock ∧ some k_ ≠ ((.slice Ao47 t374.length co47) : Value).ownBlock) v23 x23_3) ∧ Aside0 (Below w.heap.size w w'))
           case atStart => exact ⟨(y389), (1), (by first | rfl | (simp; done) | (simp [*]; done)), H', ⟨Nat.le_refl _⟩, ⟨by (with_reducible repeat (first | apply rA | apply rN | apply rD)); exact HO_5.out⟩, ⟨by (with_reducible repeat (first | apply rA | apply rN | apply rD)); exact HO_13.out⟩, ⟨by (with_reducible repeat (first | apply rA | apply rN | apply rD)); exact HO391.out⟩, ⟨by repeat (first | (with_reducible first | exact HB.out | apply bA | apply bN | apply bD) | exact HB.out)⟩⟩
           case round =>
            clear H'
            try clear c1
            try clear p2
            try clear c3
            try clear c3b0
            try clear c4
            try clear p6
            try clear c13
            try clear c13b0
            try clear c13b1
            try clear c13b2
            try clear c17
            try clear c19
            try clear c35
            try clear c36
            try clear c37
            try clear c38
            try clear c39
            try clear c40
            try clear c40b0
            try clear c40b1
            try clear c41
            try clear c42
            try clear c43
            try clear p2
            try clear p6
            obtain ⟨x23_3, x24_3, rfl, HA, HK3, HO_5, HO_13, HO_23, HB⟩ := hrel
            cases gk with
            | zero => exact absurd HA.out (by simp [laws_FnCycles.l0])
            | succ k3 =>
             have H := HA.out
             clear HA
             simp only [laws_FnCycles.l0] at H
             by_cases c48 : x24_3 ≤ t384
             ·rw [if_pos c48] at H
              have c48b0 : decide (x24_3 ≤ t384) = true := decide_eq_true c48
              clear c48
              replace H := oB H
              obtain ⟨⟨t392, t393⟩, A490, H⟩ := H
              replace H : (if t393 = true then ((laws_sameInts.f k3 t392 t374).bind fun t396 => (if (t396 != (x24_3 == t384)) = true then (some false) else (laws_FnCycles.l0 k3 l1 t355 t374 t384 t392 (wrap64 (x24_3 + 1))))) else (some false)) = some r := H
              have A49 := Aside0.mk A490
              clear A490
              by_cases c50 : t393 = true
              ·subst c50
               have H1 : ((laws_sameInts.f k3 t392 t374).bind fun t396 => (if (t396 != (x24_3 == t384)) = true then (some false) else (laws_FnCycles.l0 k3 l1 t355 t374 t384 t392 (wrap64 (x24_3 + 1))))) = some r := by rw [if_pos rfl] at H; exact H
               clear H
               have H := H1
               clear H1
               replace H := oB H
               obtain ⟨t396, A510, H⟩ := H
               replace H : (if (t396 != (x24_3 == t384)) = true then (some false) else (laws_FnCycles.l0 k3 l1 t355 t374 t384 t392 (wrap64 (x24_3 + 1)))) = some r := H
               have A51 := Aside0.mk A510
               clear A510
               by_cases c52 : (t396 != (x24_3 == t384)) = true
               ·rw [if_pos c52] at H
                have c52b0 : (t396 != (x24_3 == t384)) = true := c52
                (try (have c52b1 : decide (t396 = (x24_3 == t384)) = false := by simpa using c52))
                (try (have c52b2 : (t396 == (x24_3 == t384)) = false := by simpa using c52))
                (try (have c52b3 : ¬ (t396 = (x24_3 == t384)) := by simpa using c52))
                clear c52
                obtain rfl := Option.some.inj H
                exact absurd hr_.out (by simp)
               ·rw [if_neg c52] at H
                have c52b0 : (t396 != (x24_3 == t384)) = false := by simpa using c52
                (try (have c52b1 : decide (t396 = (x24_3 == t384)) = true := by simpa using c52))
                (try (have c52b2 : (t396 == (x24_3 == t384)) = true := by simpa using c52))
                clear c52
                have H' := Aside0.mk H
                clear H
                obtain ⟨Ao53, co53, eo53⟩ := rS HO_23.out
                subst eo53
                go_wp2_with (first | (go_at_call 22; (with_reducible refine (impl_ThenOrder.calls k3 _ _ x23_3 _ _ t355 t392 true _ ?side1 ?side2 ?side3 ?side4 A49.out).mono ?_); (case side1 => repeat (first | exact (rR HO_23.out).2.2 | (with_reducible first | refine cA ?_ _ | refine cN ?_ _ | refine cD ?_))); (case side2 => exact (rR HO_23.out).2.1); (case side3 => repeat (first | exact (rR HO_5.out).2.2 | (with_reducible first | refine cA ?_ _ | refine cN ?_ _ | refine cD ?_))); (case side4 => exact (rR HO_5.out).2.1); rintro e w54 ⟨v394, rfl, ho0, hb⟩; have n0_ := Aside0.mk (rF (by (with_reducible repeat (first | apply rA | apply rN | apply rD)); exact HO_5.out) (rE ho0) hb); have n1_ := Aside0.mk (rF (by (with_reducible repeat (first | apply rA | apply rN | apply rD)); exact HO_13.out) (rE ho0) hb); have n2_ := Aside0.mk (rF (by (with_reducible repeat (first | apply rA | apply rN | apply rD)); exact HO_23.out) (rE ho0) hb); have n3_ := Aside0.mk (Kd.R_lower (Kd.R_new' (Kd.R_new' (Kd.R_new' ho0 (Kd.R_lt (by (with_reducible repeat (first | apply rA | apply rN | apply rD)); exact HO_5.out))) (Kd.R_lt (by (with_reducible repeat (first | apply rA | apply rN | apply rD)); exact HO_13.out))) (Kd.R_lt (by (with_reducible repeat (first | apply rA | apply rN | apply rD)); exact HO_23.out))) (below_size (by repeat (first | (with_reducible first | exact HB.out | apply bA | apply bN | apply bD) | exact HB.out)))); have n4_ := Aside0.mk (below_step (by repeat (first | (with_reducible first | exact HB.out | apply bA | apply bN | apply bD) | exact HB.out)) hb); clear HO_5; clear HO_13; clear HO_23; clear HB; have HO_5 := n0_; have HO_13 := n1_; have HO_23 := n2_; have HO395 := n3_; have HB := n4_; clear n0_ n1_ n2_ n3_ n4_; (try clear hb); (try clear hb2); (try clear hk); (try clear hi); (try clear ho0); obtain ⟨Ao55, co55, eo55⟩ := rS HO395.out; subst eo55) | (go_at_call 10; (with_reducible refine (laws_sameInts.calls k3 _ _ t392 _ _ t374 t396 _ ?side1 ?side2 ?side3 ?side4 A51.out).mono ?_); (case side1 => repeat (first | exact (rR HO395.out).2.2 | (with_reducible first | refine cA ?_ _ | refine cN ?_ _ | refine cD ?_))); (case side2 => exact (rR HO395.out).2.1); (case side3 => repeat (first | exact (rR HO_13.out).2.2 | (with_reducible first | refine cA ?_ _ | refine cN ?_ _ | refine cD ?_))); (case side4 => exact (rR HO_13.out).2.1); rintro e w' ⟨rfl, ⟨nd, rfl⟩⟩; (try first | exact ⟨rfl, _, wN _ _ _⟩ | exact ⟨rfl, _, wM _ _ _ _⟩)))
                repeat (go_quiet (first | (go_at_call 22; (with_reducible refine (impl_ThenOrder.calls k3 _ _ x23_3 _ _ t355 t392 true _ ?side1 ?side2 ?side3 ?side4 A49.out).mono ?_); (case side1 => repeat (first | exact (rR HO_23.out).2.2 | (with_reducible first | refine cA ?_ _ | refine cN ?_ _ | refine cD ?_))); (case side2 => exact (rR HO_23.out).2.1); (case side3 => repeat (first | exact (rR HO_5.out).2.2 | (with_reducible first | refine cA ?_ _ | refine cN ?_ _ | refine cD ?_))); (case side4 => exact (rR HO_5.out).2.1); rintro e w54 ⟨v394, rfl, ho0, hb⟩; have n0_ := Aside0.mk (rF (by (with_reducible repeat (first | apply rA | apply rN | apply rD)); exact HO_5.out) (rE ho0) hb); have n1_ := Aside0.mk (rF (by (with_reducible repeat (first | apply rA | apply rN | apply rD)); exact HO_13.out) (rE ho0) hb); have n2_ := Aside0.mk (rF (by (with_reducible repeat (first | apply rA | apply rN | apply rD)); exact HO_23.out) (rE ho0) hb); have n3_ := Aside0.mk (Kd.R_lower (Kd.R_new' (Kd.R_new' (Kd.R_new' ho0 (Kd.R_lt (by (with_reducible repeat (first | apply rA | apply rN | apply rD)); exact HO_5.out))) (Kd.R_lt (by (with_reducible repeat (first | apply rA | apply rN | apply rD)); exact HO_13.out))) (Kd.R_lt (by (with_reducible repeat (first | apply rA | apply rN | apply rD)); exact HO_23.out))) (below_size (by repeat (first | (with_reducible first | exact HB.out | apply bA | apply bN | apply bD) | exact HB.out)))); have n4_ := Aside0.mk (below_step (by repeat (first | (with_reducible first | exact HB.out | apply bA | apply bN | apply bD) | exact HB.out)) hb); clear HO_5; clear HO_13; clear HO_23; clear HB; have HO_5 := n0_; have HO_13 := n1_; have HO_23 := n2_; have HO395 := n3_; have HB := n4_; clear n0_ n1_ n2_ n3_ n4_; (try clear hb); (try clear hb2); (try clear hk); (try clear hi); (try clear ho0); obtain ⟨Ao55, co55, eo55⟩ := rS HO395.out; subst eo55) | (go_at_call 10; (with_reducible refine (laws_sameInts.calls k3 _ _ t392 _ _ t374 t396 _ ?side1 ?side2 ?side3 ?side4 A51.out).mono ?_); (case side1 => repeat (first | exact (rR HO395.out).2.2 | (with_reducible first | refine cA ?_ _ | refine cN ?_ _ | refine cD ?_))); (case side2 => exact (rR HO395.out).2.1); (case side3 => repeat (first | exact (rR HO_13.out).2.2 | (with_reducible first | refine cA ?_ _ | refine cN ?_ _ | refine cD ?_))); (case side4 => exact (rR HO_13.out).2.1); rintro e w' ⟨rfl, ⟨nd, rfl⟩⟩; (try first | exact ⟨rfl, _, wN _ _ _⟩ | exact ⟨rfl, _, wM _ _ _ _⟩))); try go_wp2_with (first | (go_at_call 22; (with_reducible refine (impl_ThenOrder.calls k3 _ _ x23_3 _ _ t355 t392 true _ ?side1 ?side2 ?side3 ?side4 A49.out).mono ?_); (case side1 => repeat (first | exact (rR HO_23.out).2.2 | (with_reducible first | refine cA ?_ _ | refine cN ?_ _ | refine cD ?_))); (case side2 => exact (rR HO_23.out).2.1); (case side3 => repeat (first | exact (rR HO_5.out).2.2 | (with_reducible first | refine cA ?_ _ | refine cN ?_ _ | refine cD ?_))); (case side4 => exact (rR HO_5.out).2.1); rintro e w54 ⟨v394, rfl, ho0, hb⟩; have n0_ := Aside0.mk (rF (by (with_reducible repeat (first | apply rA | apply rN | apply rD)); exact HO_5.out) (rE ho0) hb); have n1_ := Aside0.mk (rF (by (with_reducible repeat (first | apply rA | apply rN | apply rD)); exact HO_13.out) (rE ho0) hb); have n2_ := Aside0.mk (rF (by (with_reducible repeat (first | apply rA | apply rN | apply rD)); exact HO_23.out) (rE ho0) hb); have n3_ := Aside0.mk (Kd.R_lower (Kd.R_new' (Kd.R_new' (Kd.R_new' ho0 (Kd.R_lt (by (with_reducible repeat (first | apply rA | apply rN | apply rD)); exact HO_5.out))) (Kd.R_lt (by (with_reducible repeat (first | apply rA | apply rN | apply rD)); exact HO_13.out))) (Kd.R_lt (by (with_reducible repeat (first | apply rA | apply rN | apply rD)); exact HO_23.out))) (below_size (by repeat (first | (with_reducible first | exact HB.out | apply bA | apply bN | apply bD) | exact HB.out)))); have n4_ := Aside0.mk (below_step (by repeat (first | (with_reducible first | exact HB.out | apply bA | apply bN | apply bD) | exact HB.out)) hb); clear HO_5; clear HO_13; clear HO_23; clear HB; have HO_5 := n0_; have HO_13 := n1_; have HO_23 := n2_; have HO395 := n3_; have HB := n4_; clear n0_ n1_ n2_ n3_ n4_; (try clear hb); (try clear hb2); (try clear hk); (try clear hi); (try clear ho0); obtain ⟨Ao55, co55, eo55⟩ := rS HO395.out; subst eo55) | (go_at_call 10; (with_reducible refine (laws_sameInts.calls k3 _ _ t392 _ _ t374 t396 _ ?side1 ?side2 ?side3 ?side4 A51.out).mono ?_); (case side1 => repeat (first | exact (rR HO395.out).2.2 | (with_reducible first | refine cA ?_ _ | refine cN ?_ _ | refine cD ?_))); (case side2 => exact (rR HO395.out).2.1); (case side3 => repeat (first | exact (rR HO_13.out).2.2 | (with_reducible first | refine cA ?_ _ | refine cN ?_ _ | refine cD ?_))); (case side4 => exact (rR HO_13.out).2.1); rintro e w' ⟨rfl, ⟨nd, rfl⟩⟩; (try first | exact ⟨rfl, _, wN _ _ _⟩ | exact ⟨rfl, _, wM _ _ _ _⟩))))
                go_roundg k3
                case measure => have := HJ6.out; have := HJ25.out; have := HK3.out; omega
                case rel => exact ⟨(t392), (wrap64 (x24_3 + 1)), (by first | rfl | (simp; done) | (simp [*]; done)), H', ⟨by have := HJ6.out; have := HJ25.out; have := HK3.out; omega⟩, ⟨by (with_reducible repeat (first | apply rA | apply rN | apply rD)); exact rM HO_5.out (fun _ hk => ⟨hk.1.1, hk.2⟩)⟩, ⟨by (with_reducible repeat (first | apply rA | apply rN | apply rD)); exact rM HO_13.out (fun _ hk => ⟨hk.1.1, hk.2⟩)⟩, ⟨by (with_reducible repeat (first | apply rA | apply rN | apply rD)); exact rM HO395.out (fun _ hk => ⟨hk.1.1.2, hk.1.2⟩)⟩, ⟨by repeat (first | (with_reducible first | exact HB.out | apply bA | apply bN | apply bD) | exact HB.out)⟩⟩
              ·replace c50 := fB c50
               subst c50
               have H1 : (some false) = some r := by rw [if_neg (show ¬ (false = true) by decide)] at H; exact H
               clear H
               have H := H1
               clear H1
               obtain rfl := Option.some.inj H
               exact absurd hr_.out (by simp)
             ·rw [if_neg c48] at H
              have c48b0 : decide (x24_3 ≤ t384) = false := decide_eq_false c48
              clear c48
              have H' := Aside0.mk H
              clear H
              go_wp2
              repeat (go_quiet (fail); try go_wp2)
              go_loopg [183] k3 (fun kq v183 w' => ∃ (x183_4 : Int), v183 = .int .i64 x183_4 ∧ Aside0 (laws_FnCycles.l1 kq l1 t374 (t374.length : Int) x183_4 = some r) ∧ Aside0 (kq ≤ k3) ∧ Aside0 (Kd.R (Kd.int .i64) 3 w' w.heap.size (fun _ => True) (.slice Ao47 t374.length co47) t374) ∧ Aside0 (Below w.heap.size w w'))
              case atStart => exact ⟨(0), (by first | rfl | (simp; done) | (simp [*]; done)), H', ⟨Nat.le_refl _⟩, ⟨by (with_reducible repeat (first | apply rA | apply rN | apply rD)); exact rM HO_13.out (fun _ hk => trivial)⟩, ⟨by repeat (first | (with_reducible first | exact HB.out | apply bA | apply bN | apply bD) | exact HB.out)⟩⟩
              case round =>
               clear H'
               try clear c1
               try clear p2
               try clear c3
               try clear c3b0
               try clear c4
               try clear c5
               try clear p6
               try clear c13
               try clear c13b0
               try clear c13b1
               try clear c13b2
               try clear c17
               try clear c19
               try clear c35
               try clear c36
               try clear c37
               try clear c38
               try clear c39
               try clear c40
               try clear c40b0
               try clear c40b1
               try clear c41
               try clear c42
               try clear c43
               try clear c48
               try clear c48b0
               try clear c50
               try clear c52
               try clear c52b0
               try clear c52b1
               try clear c52b2
               try clear p2
               try clear p6
               obtain ⟨x183_4, rfl, HA, HK4, HO_181, HB⟩ := hrel
               cases gk with
               | zero => exact absurd HA.out (by simp [laws_FnCycles.l1])
               | succ k4 =>
                have H := HA.out
                clear HA
                simp only [laws_FnCycles.l1] at H
                by_cases c56 : x183_4 < (t374.length : Int)
                ·rw [if_pos c56] at H
                 have c56b0 : decide (x183_4 < (t374.length : Int)) = true := decide_eq_true c56
                 clear c56
                 by_cases c57 : 0 ≤ x183_4
                 ·rw [if_pos c57] at H
                  have c57b0 : decide (0 ≤ x183_4) = true := decide_eq_true c57
                  clear c57
                  by_cases c58 : x183_4 < (t374.length : Int)
                  ·rw [if_pos c58] at H
                   have c58b0 : decide (x183_4 < (t374.length : Int)) = true := decide_eq_true c58
                   clear c58
                   by_cases c59 : x183_4 = (rd t374 x183_4)
                   ·rw [if_pos c59] at H
                    have c59b0 : (x183_4 == (rd t374 x183_4)) = true := beq_iff_eq.mpr c59
                    have c59b1 : (x183_4 != (rd t374 x183_4)) = false := bne_eq_false_iff_eq.mpr c59
                    clear c59
                    have H' := Aside0.mk H
                    clear H
                    have p397 : 0 ≤ (x183_4 : Int) := of_decide_eq_true (by first | (with_reducible assumption) | assumption)
                    have q397 : x183_4 < (t374.length : Int) := of_decide_eq_true (by first | (with_reducible assumption) | assumption)
                    obtain ⟨ad397, e397, hx397_0⟩ := Kd.at_int (rR HO_181.out).2.2 x183_4 p397 q397
                    cases e397
                    replace p397 := eq_true p397
                    replace q397 := eq_true q397
                    go_wp2
                    repeat (go_quiet (fail); try go_wp2)
                    go_roundg k4
                    case measure => have := HJ6.out; have := HJ25.out; have := HK3.out; have := HK4.out; omega
                    case rel => exact ⟨(wrap64 (x183_4 + 1)), (by first | rfl | (simp; done) | (simp [*]; done)), H', ⟨by have := HJ6.out; have := HJ25.out; have := HK3.out; have := HK4.out; omega⟩, ⟨by (with_reducible repeat (first | apply rA | apply rN | apply rD)); exact HO_181.out⟩, ⟨by repeat (first | (with_reducible first | exact HB.out | apply bA | apply bN | apply bD) | exact HB.out)⟩⟩
                   ·rw [if_neg c59] at H
                    have c59b0 : (x183_4 == (rd t374 x183_4)) = false := beq_eq_false_iff_ne.mpr c59
                    have c59b1 : (x183_4 != (rd t374 x183_4)) = true := bne_iff_ne.mpr c59
                    obtain rfl := Option.some.inj H
                    exact absurd hr_.out (by simp)
                  ·rw [if_neg c58] at H
                   exact absurd H (by simp)
                 ·rw [if_neg c57] at H
                  exact absurd H (by simp)
                ·rw [if_neg c56] at H
                 have c56b0 : decide (x183_4 < (t374.length : Int)) = false := decide_eq_false c56
                 clear c56
                 have H' := Aside0.mk H
                 clear H
                 go_wp2
                 repeat (go_quiet (fail); try go_wp2)
                 go_meet
                 case rel => exact ⟨_, H', ⟨by have := HJ6.out; have := HJ25.out; have := HK3.out; have := HK4.out; first | omega | exact Nat.le_refl _⟩, ⟨by repeat (first | (with_reducible first | exact HB.out | apply bA | apply bN | apply bD) | exact HB.out)⟩⟩
          ·rw [if_neg c43] at H
           exact absurd H (by simp)
      ·replace c19 := fB c19
       subst c19
       have H1 : (laws_FnCycles.j4 kj6 l1) = some r := by rw [if_neg (show ¬ (false = true) by decide)] at H; exact H
       clear H
       have H := H1
       clear H1
       have H' := Aside0.mk H
       clear H
       go_wp2
       repeat (go_quiet (fail); try go_wp2)
       go_meet
       case rel => exact ⟨_, H', ⟨by have := HJ6.out; first | omega | exact Nat.le_refl _⟩, ⟨by repeat (first | (with_reducible first | exact HB.out | apply bA | apply bN | apply bD) | exact HB.out)⟩⟩
     case rest =>
      clear HC18
      try clear c1
      try clear p2
      try clear c3
      try clear c3b0
      try clear p3
      try clear q3
      try clear hx3
      try clear c4
      try clear c5
      try clear p6
      try clear c13
      try clear c13b0
      try clear c13b1
      try clear c13b2
      try clear c17
      try clear c19
      try clear c35
      try clear c36
      try clear c37
      try clear c38
      try clear c39
      try clear p39
      try clear q39
      try clear hx39
      try clear c40
      try clear c40b0
      try clear c40b1
      try clear c41
      try clear c42
      try clear c43
      try clear c48
      try clear c48b0
      try clear c50
      try clear c52
      try clear c52b0
      try clear c52b1
      try clear c52b2
      try clear c56
      try clear c56b0
      try clear c57
      try clear c57b0
      try clear c58
      try clear c58b0
      try clear c59
      try clear c59b0
      try clear c59b1
      try clear hx397_0
      try clear p2
      try clear p397
      try clear p6
      try clear q397
      obtain ⟨kq, HA, HJ17, HB⟩ := hcut
      cases kq with
      | zero => exact absurd HA.out (by simp [laws_FnCycles.j4])
      | succ kj17 =>
       have H := HA.out
       clear HA
       simp only [laws_FnCycles.j4] at H
       replace H := oB H
       obtain ⟨t398, A600, H⟩ := H
       replace H : ((impl_CyclesOf.f kj17 t398).bind fun bt401 => ((spec_CyclesOf.f kj17 t398).bind fun bt405 => ((impl_SignOf.f kj17 t398).bind fun bt409 => ((spec_SignOf.f kj17 t398).bind fun bt411 => ((impl_LengthOf.f kj17 t398).bind fun bt413 => ((spec_LengthOf.f kj17 t398).bind fun bt415 => (if (bt401.2 != bt405.2) = true then (laws_FnCycles.j5 kj17 l1 bt401.1 bt405.1 true) else (if (bt401.1.length : Int) = (bt405.1.length : Int) then (if (bt409.2 != bt411.2) = true then (laws_FnCycles.j5 kj17 l1 bt401.1 bt405.1 true) else (if bt409.1 = bt411.1 then (if (bt413.2 != bt415.2) = true then (laws_FnCycles.j5 kj17 l1 bt401.1 bt405.1 true) else (if bt413.1 = bt415.1 then ((impl_IsOrder.f kj17 t398).bind fun t417 => (laws_FnCycles.j5 kj17 l1 bt401.1 bt405.1 (t417 != bt401.2))) else (laws_FnCycles.j5 kj17 l1 bt401.1 bt405.1 true))) else (laws_FnCycles.j5 kj17 l1 bt401.1 bt405.1 true))) else (laws_FnCycles.j5 kj17 l1 bt401.1 bt405.1 true))))))))) = some r := H
       have A60 := Aside0.mk A600
       clear A600
       replace H := oB H
       obtain ⟨⟨t401, t402⟩, A610, H⟩ := H
       replace H : ((spec_CyclesOf.f kj17 t398).bind fun bt405 => ((impl_SignOf.f kj17 t398).bind fun bt409 => ((spec_SignOf.f kj17 t398).bind fun bt411 => ((impl_LengthOf.f kj17 t398).bind fun bt413 => ((spec_LengthOf.f kj17 t398).bind fun bt415 => (if (t402 != bt405.2) = true then (laws_FnCycles.j5 kj17 l1 t401 bt405.1 true) else (if (t401.length : Int) = (bt405.1.length : Int) then (if (bt409.2 != bt411.2) = true then (laws_FnCycles.j5 kj17 l1 t401 bt405.1 true) else (if bt409.1 = bt411.1 then (if (bt413.2 != bt415.2) = true then (laws_FnCycles.j5 kj17 l1 t401 bt405.1 true) else (if bt413.1 = bt415.1 then ((impl_IsOrder.f kj17 t398).bind fun t417 => (laws_FnCycles.j5 kj17 l1 t401 bt405.1 (t417 != t402))) else (laws_FnCycles.j5 kj17 l1 t401 bt405.1 true))) else (laws_FnCycles.j5 kj17 l1 t401 bt405.1 true))) else (laws_FnCycles.j5 kj17 l1 t401 bt405.1 true)))))))) = some r := H
       have A61 := Aside0.mk A610
       clear A610
       replace H := oB H
       obtain ⟨⟨t405, t406⟩, A620, H⟩ := H
       replace H : ((impl_SignOf.f kj17 t398).bind fun bt409 => ((spec_SignOf.f kj17 t398).bind fun bt411 => ((impl_LengthOf.f kj17 t398).bind fun bt413 => ((spec_LengthOf.f kj17 t398).bind fun bt415 => (if (t402 != t406) = true then (laws_FnCycles.j5 kj17 l1 t401 t405 true) else (if (t401.length : Int) = (t405.length : Int) then (if (bt409.2 != bt411.2) = true then (laws_FnCycles.j5 kj17 l1 t401 t405 true) else (if bt409.1 = bt411.1 then (if (bt413.2 != bt415.2) = true then (laws_FnCycles.j5 kj17 l1 t401 t405 true) else (if bt413.1 = bt415.1 then ((impl_IsOrder.f kj17 t398).bind fun t417 => (laws_FnCycles.j5 kj17 l1 t401 t405 (t417 != t402))) else (laws_FnCycles.j5 kj17 l1 t401 t405 true))) else (laws_FnCycles.j5 kj17 l1 t401 t405 true))) else (laws_FnCycles.j5 kj17 l1 t401 t405 true))))))) = some r := H
       have A62 := Aside0.mk A620
       clear A620
       replace H := oB H
       obtain ⟨⟨t409, t410⟩, A630, H⟩ := H
       replace H : ((spec_SignOf.f kj17 t398).bind fun bt411 => ((impl_LengthOf.f kj17 t398).bind fun bt413 => ((spec_LengthOf.f kj17 t398).bind fun bt415 => (if (t402 != t406) = true then (laws_FnCycles.j5 kj17 l1 t401 t405 true) else (if (t401.length : Int) = (t405.length : Int) then (if (t410 != bt411.2) = true then (laws_FnCycles.j5 kj17 l1 t401 t405 true) else (if t409 = bt411.1 then (if (bt413.2 != bt415.2) = true then (laws_FnCycles.j5 kj17 l1 t401 t405 true) else (if bt413.1 = bt415.1 then ((impl_IsOrder.f kj17 t398).bind fun t417 => (laws_FnCycles.j5 kj17 l1 t401 t405 (t417 != t402))) else (laws_FnCycles.j5 kj17 l1 t401 t405 true))) else (laws_FnCycles.j5 kj17 l1 t401 t405 true))) else (laws_FnCycles.j5 kj17 l1 t401 t405 true)))))) = some r := H
       have A63 := Aside0.mk A630
       clear A630
       replace H := oB H
       obtain ⟨⟨t411, t412⟩, A640, H⟩ := H
       replace H : ((impl_LengthOf.f kj17 t398).bind fun bt413 => ((spec_LengthOf.f kj17 t398).bind fun bt415 => (if (t402 != t406) = true then (laws_FnCycles.j5 kj17 l1 t401 t405 true) else (if (t401.length : Int) = (t405.length : Int) then (if (t410 != t412) = true then (laws_FnCycles.j5 kj17 l1 t401 t405 true) else (if t409 = t411 then (if (bt413.2 != bt415.2) = true then (laws_FnCycles.j5 kj17 l1 t401 t405 true) else (if bt413.1 = bt415.1 then ((impl_IsOrder.f kj17 t398).bind fun t417 => (laws_FnCycles.j5 kj17 l1 t401 t405 (t417 != t402))) else (laws_FnCycles.j5 kj17 l1 t401 t405 true))) else (laws_FnCycles.j5 kj17 l1 t401 t405 true))) else (laws_FnCycles.j5 kj17 l1 t401 t405 true))))) = some r := H
       have A64 := Aside0.mk A640
       clear A640
       replace H := oB H
       obtain ⟨⟨t413, t414⟩, A650, H⟩ := H
       replace H : ((spec_LengthOf.f kj17 t398).bind fun bt415 => (if (t402 != t406) = true then (laws_FnCycles.j5 kj17 l1 t401 t405 true) else (if (t401.length : Int) = (t405.length : Int) then (if (t410 != t412) = true then (laws_FnCycles.j5 kj17 l1 t401 t405 true) else (if t409 = t411 then (if (t414 != bt415.2) = true then (laws_FnCycles.j5 kj17 l1 t401 t405 true) else (if t413 = bt415.1 then ((impl_IsOrder.f kj17 t398).bind fun t417 => (laws_FnCycles.j5 kj17 l1 t401 t405 (t417 != t402))) else (laws_FnCycles.j5 kj17 l1 t401 t405 true))) else (laws_FnCycles.j5 kj17 l1 t401 t405 true))) else (laws_FnCycles.j5 kj17 l1 t401 t405 true)))) = some r := H
       have A65 := Aside0.mk A650
       clear A650
       replace H := oB H
       obtain ⟨⟨t415, t416⟩, A660, H⟩ := H
       replace H : (if (t402 != t406) = true then (laws_FnCycles.j5 kj17 l1 t401 t405 true) else (if (t401.length : Int) = (t405.length : Int) then (if (t410 != t412) = true then (laws_FnCycles.j5 kj17 l1 t401 t405 true) else (if t409 = t411 then (if (t414 != t416) = true then (laws_FnCycles.j5 kj17 l1 t401 t405 true) else (if t413 = t415 then ((impl_IsOrder.f kj17 t398).bind fun t417 => (laws_FnCycles.j5 kj17 l1 t401 t405 (t417 != t402))) else (laws_FnCycles.j5 kj17 l1 t401 t405 true))) else (laws_FnCycles.j5 kj17 l1 t401 t405 true))) else (laws_FnCycles.j5 kj17 l1 t401 t405 true))) = some r := H
       have A66 := Aside0.mk A660
       clear A660
       have HC67 := Aside0.mk H
       clear H
       go_upto_region 38 with (first | (go_at_call 27; (with_reducible refine (spec_DrawCyclesOf.calls kj17 _ _ l1 t398 _ ?side1 ?side2 A60.out).mono ?_); (case side1 => repeat (first | exact (Kd.C_below HR1.out HB.out) | (with_reducible first | refine cA ?_ _ | refine cN ?_ _ | refine cD ?_))); (case side2 => exact HC1.out); rintro e w68 ⟨v399, rfl, ho0, hb⟩; have n0_ := Aside0.mk (Kd.R_lower ho0 (below_size (by repeat (first | (with_reducible first | exact HB.out | apply bA | apply bN | apply bD) | exact HB.out)))); have n1_ := Aside0.mk (below_step (by repeat (first | (with_reducible first | exact HB.out | apply bA | apply bN | apply bD) | exact HB.out)) hb); clear HB; have HO400 := n0_; have HB := n1_; clear n0_ n1_; (try clear hb); (try clear hb2); (try clear hk); (try clear hi); (try clear ho0); obtain ⟨Ao69, co69, eo69⟩ := rS HO400.out; subst eo69) | (go_at_call 28; (with_reducible refine (impl_CyclesOf.calls kj17 _ _ t398 t401 t402 _ ?side1 ?side2 A61.out).mono ?_); (case side1 => repeat (first | exact (rR HO400.out).2.2 | (with_reducible first | refine cA ?_ _ | refine cN ?_ _ | refine cD ?_))); (case side2 => exact (rR HO400.out).2.1); rintro e w70 ⟨v403, rfl, ho0, hb⟩; have n0_ := Aside0.mk (rB (by (with_reducible repeat (first | apply rA | apply rN | apply rD)); exact HO400.out) hb); have n1_ := Aside0.mk (Kd.S_lower (Kd.S_new' ho0 (Kd.R_lt (by (with_reducible repeat (first | apply rA | apply rN | apply rD)); exact HO400.out))) (below_size (by repeat (first | (with_reducible first | exact HB.out | apply bA | apply bN | apply bD) | exact HB.out)))); have n2_ := Aside0.mk (below_step (by repeat (first | (with_reducible first | exact HB.out | apply bA | apply bN | apply bD) | exact HB.out)) hb); clear HO400; clear HB; have HO400 := n0_; have HO404 := n1_; have HB := n2_; clear n0_ n1_ n2_; (try clear hb); (try clear hb2); (try clear hk); (try clear hi); (try clear ho0)) | (go_at_call 29; (with_reducible refine (spec_CyclesOf.calls kj17 _ _ t398 t405 t406 _ ?side1 ?side2 A62.out).mono ?_); (case side1 => repeat (first | exact (rR HO400.out).2.2 | (with_reducible first | refine cA ?_ _ | refine cN ?_ _ | refine cD ?_))); (case side2 => exact (rR HO400.out).2.1); rintro e w71 ⟨v407, rfl, ho0, hb⟩; have n0_ := Aside0.mk (rB (by (with_reducible repeat (first | apply rA | apply rN | apply rD)); exact HO400.out) hb); have n1_ := Aside0.mk (Kd.S_elder' (by (with_reducible repeat (first | apply sA | apply sN | apply sD)); exact HO404.out) (Kd.S_base ho0) hb); have n2_ := Aside0.mk (Kd.S_lower (Kd.S_new' (Kd.S_new' ho0 (Kd.R_lt (by (with_reducible repeat (first | apply rA | apply rN | apply rD)); exact HO400.out))) (Kd.S_lt (by (with_reducible repeat (first | apply sA | apply sN | apply sD)); exact HO404.out))) (below_size (by repeat (first | (with_reducible first | exact HB.out | apply bA | apply bN | apply bD) | exact HB.out)))); have n3_ := Aside0.mk (below_step (by repeat (first | (with_reducible first | exact HB.out | apply bA | apply bN | apply bD) | exact HB.out)) hb); clear HO400; clear HO404; clear HB; have HO400 := n0_; have HO404 := n1_; have HO408 := n2_; have HB := n3_; clear n0_ n1_ n2_ n3_; (try clear hb); (try clear hb2); (try clear hk); (try clear hi); (try clear ho0)) | (go_at_call 25; (with_reducible refine (impl_SignOf.calls kj17 _ _ t398 t409 t410 _ ?side1 ?side2 A63.out).mono ?_); (case side1 => repeat (first | exact (rR HO400.out).2.2 | (with_reducible first | refine cA ?_ _ | refine cN ?_ _ | refine cD ?_))); (case side2 => exact (rR HO400.out).2.1); rintro e w72 ⟨rfl, hb⟩; have n0_ := Aside0.mk (rB (by (with_reducible repeat (first | apply rA | apply rN | apply rD)); exact HO400.out) hb); have n1_ := Aside0.mk (Kd.S_below (by (with_reducible repeat (first | apply sA | apply sN | apply sD)); exact HO404.out) hb); have n2_ := Aside0.mk (Kd.S_below (by (with_reducible repeat (first | apply sA | apply sN | apply sD)); exact HO408.out) hb); have n3_ := Aside0.mk (below_step (by repeat (first | (with_reducible first | exact HB.out | apply bA | apply bN | apply bD) | exact HB.out)) hb); clear HO400; clear HO404; clear HO408; clear HB; have HO400 := n0_; have HO404 := n1_; have HO408 := n2_; have HB := n3_; clear n0_ n1_ n2_ n3_; (try clear hb); (try clear hb2); (try clear hk); (try clear hi)) | (go_at_call 30; (with_reducible refine (spec_SignOf.calls kj17 _ _ t398 t411 t412 _ ?side1 ?side2 A64.out).mono ?_); (case side1 => repeat (first | exact (rR HO400.out).2.2 | (with_reducible first | refine cA ?_ _ | refine cN ?_ _ | refine cD ?_))); (case side2 => exact (rR HO400.out).2.1); rintro e w73 ⟨rfl, hb⟩; have n0_ := Aside0.mk (rB (by (with_reducible repeat (first | apply rA | apply rN | apply rD)); exact HO400.out) hb); have n1_ := Aside0.mk (Kd.S_below (by (with_reducible repeat (first | apply sA | apply sN | apply sD)); exact HO404.out) hb); have n2_ := Aside0.mk (Kd.S_below (by (with_reducible repeat (first | apply sA | apply sN | apply sD)); exact HO408.out) hb); have n3_ := Aside0.mk (below_step (by repeat (first | (with_reducible first | exact HB.out | apply bA | apply bN | apply bD) | exact HB.out)) hb); clear HO400; clear HO404; clear HO408; clear HB; have HO400 := n0_; have HO404 := n1_; have HO408 := n2_; have HB := n3_; clear n0_ n1_ n2_ n3_; (try clear hb); (try clear hb2); (try clear hk); (try clear hi)) | (go_at_call 26; (with_reducible refine (impl_LengthOf.calls kj17 _ _ t398 t413 t414 _ ?side1 ?side2 A65.out).mono ?_); (case side1 => repeat (first | exact (rR HO400.out).2.2 | (with_reducible first | refine cA ?_ _ | refine cN ?_ _ | refine cD ?_))); (case side2 => exact (rR HO400.out).2.1); rintro e w74 ⟨rfl, hb⟩; have n0_ := Aside0.mk (rB (by (with_reducible repeat (first | apply rA | apply rN | apply rD)); exact HO400.out) hb); have n1_ := Aside0.mk (Kd.S_below (by (with_reducible repeat (first | apply sA | apply sN | apply sD)); exact HO404.out) hb); have n2_ := Aside0.mk (Kd.S_below (by (with_reducible repeat (first | apply sA | apply sN | apply sD)); exact HO408.out) hb); have n3_ := Aside0.mk (below_step (by repeat (first | (with_reducible first | exact HB.out | apply bA | apply bN | apply bD) | exact HB.out)) hb); clear HO400; clear HO404; clear HO408; clear HB; have HO400 := n0_; have HO404 := n1_; have HO408 := n2_; have HB := n3_; clear n0_ n1_ n2_ n3_; (try clear hb); (try clear hb2); (try clear hk); (try clear hi)) | (go_at_call 31; (with_reducible refine (spec_LengthOf.calls kj17 _ _ t398 t415 t416 _ ?side1 ?side2 A66.out).mono ?_); (case side1 => repeat (first | exact (rR HO400.out).2.2 | (with_reducible first | refine cA ?_ _ | refine cN ?_ _ | refine cD ?_))); (case side2 => exact (rR HO400.out).2.1); rintro e w75 ⟨rfl, hb⟩; have n0_ := Aside0.mk (rB (by (with_reducible repeat (first | apply rA | apply rN | apply rD)); exact HO400.out) hb); have n1_ := Aside0.mk (Kd.S_below (by (with_reducible repeat (first | apply sA | apply sN | apply sD)); exact HO404.out) hb); have n2_ := Aside0.mk (Kd.S_below (by (with_reducible repeat (first | apply sA | apply sN | apply sD)); exact HO408.out) hb); have n3_ := Aside0.mk (below_step (by repeat (first | (with_reducible first | exact HB.out | apply bA | apply bN | apply bD) | exact HB.out)) hb); clear HO400; clear HO404; clear HO408; clear HB; have HO400 := n0_; have HO404 := n1_; have HO408 := n2_; have HB := n3_; clear n0_ n1_ n2_ n3_; (try clear hb); (try clear hb2); (try clear hk); (try clear hi)))
       repeat (go_quiet (first | (go_at_call 27; (with_reducible refine (spec_DrawCyclesOf.calls kj17 _ _ l1 t398 _ ?side1 ?side2 A60.out).mono ?_); (case side1 => repeat (first | exact (Kd.C_below HR1.out HB.out) | (with_reducible first | refine cA ?_ _ | refine cN ?_ _ | refine cD ?_))); (case side2 => exact HC1.out); rintro e w68 ⟨v399, rfl, ho0, hb⟩; have n0_ := Aside0.mk (Kd.R_lower ho0 (below_size (by repeat (first | (with_reducible first | exact HB.out | apply bA | apply bN | apply bD) | exact HB.out)))); have n1_ := Aside0.mk (below_step (by repeat (first | (with_reducible first | exact HB.out | apply bA | apply bN | apply bD) | exact HB.out)) hb); clear HB; have HO400 := n0_; have HB := n1_; clear n0_ n1_; (try clear hb); (try clear hb2); (try clear hk); (try clear hi); (try clear ho0); obtain ⟨Ao69, co69, eo69⟩ := rS HO400.out; subst eo69) | (go_at_call 28; (with_reducible refine (impl_CyclesOf.calls kj17 _ _ t398 t401 t402 _ ?side1 ?side2 A61.out).mono ?_); (case side1 => repeat (first | exact (rR HO400.out).2.2 | (with_reducible first | refine cA ?_ _ | refine cN ?_ _ | refine cD ?_))); (case side2 => exact (rR HO400.out).2.1); rintro e w70 ⟨v403, rfl, ho0, hb⟩; have n0_ := Aside0.mk (rB (by (with_reducible repeat (first | apply rA | apply rN | apply rD)); exact HO400.out) hb); have n1_ := Aside0.mk (Kd.S_lower (Kd.S_new' ho0 (Kd.R_lt (by (with_reducible repeat (first | apply rA | apply rN | apply rD)); exact HO400.out))) (below_size (by repeat (first | (with_reducible first | exact HB.out | apply bA | apply bN | apply bD) | exact HB.out)))); have n2_ := Aside0.mk (below_step (by repeat (first | (with_reducible first | exact HB.out | apply bA | apply bN | apply bD) | exact HB.out)) hb); clear HO400; clear HB; have HO400 := n0_; have HO404 := n1_; have HB := n2_; clear n0_ n1_ n2_; (try clear hb); (try clear hb2); (try clear hk); (try clear hi); (try clear ho0)) | (go_at_call 29; (with_reducible refine (spec_CyclesOf.calls kj17 _ _ t398 t405 t406 _ ?side1 ?side2 A62.out).mono ?_); (case side1 => repeat (first | exact (rR HO400.out).2.2 | (with_reducible first | refine cA ?_ _ | refine cN ?_ _ | refine cD ?_))); (case side2 => exact (rR HO400.out).2.1); rintro e w71 ⟨v407, rfl, ho0, hb⟩; have n0_ := Aside0.mk (rB (by (with_reducible repeat (first | apply rA | apply rN | apply rD)); exact HO400.out) hb); have n1_ := Aside0.mk (Kd.S_elder' (by (with_reducible repeat (first | apply sA | apply sN | apply sD)); exact HO404.out) (Kd.S_base ho0) hb); have n2_ := Aside0.mk (Kd.S_lower (Kd.S_new' (Kd.S_new' ho0 (Kd.R_lt (by (with_reducible repeat (first | apply rA | apply rN | apply rD)); exact HO400.out))) (Kd.S_lt (by (with_reducible repeat (first | apply sA | apply sN | apply sD)); exact HO404.out))) (below_size (by repeat (first | (with_reducible first | exact HB.out | apply bA | apply bN | apply bD) | exact HB.out)))); have n3_ := Aside0.mk (below_step (by repeat (first | (with_reducible first | exact HB.out | apply bA | apply bN | apply bD) | exact HB.out)) hb); clear HO400; clear HO404; clear HB; have HO400 := n0_; have HO404 := n1_; have HO408 := n2_; have HB := n3_; clear n0_ n1_ n2_ n3_; (try clear hb); (try clear hb2); (try clear hk); (try clear hi); (try clear ho0)) | (go_at_call 25; (with_reducible refine (impl_SignOf.calls kj17 _ _ t398 t409 t410 _ ?side1 ?side2 A63.out).mono ?_); (case side1 => repeat (first | exact (rR HO400.out).2.2 | (with_reducible first | refine cA ?_ _ | refine cN ?_ _ | refine cD ?_))); (case side2 => exact (rR HO400.out).2.1); rintro e w72 ⟨rfl, hb⟩; have n0_ := Aside0.mk (rB (by (with_reducible repeat (first | apply rA | apply rN | apply rD)); exact HO400.out) hb); have n1_ := Aside0.mk (Kd.S_below (by (with_reducible repeat (first | apply sA | apply sN | apply sD)); exact HO404.out) hb); have n2_ := Aside0.mk (Kd.S_below (by (with_reducible repeat (first | apply sA | apply sN | apply sD)); exact HO408.out) hb); have n3_ := Aside0.mk (below_step (by repeat (first | (with_reducible first | exact HB.out | apply bA | apply bN | apply bD) | exact HB.out)) hb); clear HO400; clear HO404; clear HO408; clear HB; have HO400 := n0_; have HO404 := n1_; have HO408 := n2_; have HB := n3_; clear n0_ n1_ n2_ n3_; (try clear hb); (try clear hb2); (try clear hk); (try clear hi)) | (go_at_call 30; (with_reducible refine (spec_SignOf.calls kj17 _ _ t398 t411 t412 _ ?side1 ?side2 A64.out).mono ?_); (case side1 => repeat (first | exact (rR HO400.out).2.2 | (with_reducible first | refine cA ?_ _ | refine cN ?_ _ | refine cD ?_))); (case side2 => exact (rR HO400.out).2.1); rintro e w73 ⟨rfl, hb⟩; have n0_ := Aside0.mk (rB (by (with_reducible repeat (first | apply rA | apply rN | apply rD)); exact HO400.out) hb); have n1_ := Aside0.mk (Kd.S_below (by (with_reducible repeat (first | apply sA | apply sN | apply sD)); exact HO404.out) hb); have n2_ := Aside0.mk (Kd.S_below (by (with_reducible repeat (first | apply sA | apply sN | apply sD)); exact HO408.out) hb); have n3_ := Aside0.mk (below_step (by repeat (first | (with_reducible first | exact HB.out | apply bA | apply bN | apply bD) | exact HB.out)) hb); clear HO400; clear HO404; clear HO408; clear HB; have HO400 := n0_; have HO404 := n1_; have HO408 := n2_; have HB := n3_; clear n0_ n1_ n2_ n3_; (try clear hb); (try clear hb2); (try clear hk); (try clear hi)) | (go_at_call 26; (with_reducible refine (impl_LengthOf.calls kj17 _ _ t398 t413 t414 _ ?side1 ?side2 A65.out).mono ?_); (case side1 => repeat (first | exact (rR HO400.out).2.2 | (with_reducible first | refine cA ?_ _ | refine cN ?_ _ | refine cD ?_))); (case side2 => exact (rR HO400.out).2.1); rintro e w74 ⟨rfl, hb⟩; have n0_ := Aside0.mk (rB (by (with_reducible repeat (first | apply rA | apply rN | apply rD)); exact HO400.out) hb); have n1_ := Aside0.mk (Kd.S_below (by (with_reducible repeat (first | apply sA | apply sN | apply sD)); exact HO404.out) hb); have n2_ := Aside0.mk (Kd.S_below (by (with_reducible repeat (first | apply sA | apply sN | apply sD)); exact HO408.out) hb); have n3_ := Aside0.mk (below_step (by repeat (first | (with_reducible first | exact HB.out | apply bA | apply bN | apply bD) | exact HB.out)) hb); clear HO400; clear HO404; clear HO408; clear HB; have HO400 := n0_; have HO404 := n1_; have HO408 := n2_; have HB := n3_; clear n0_ n1_ n2_ n3_; (try clear hb); (try clear hb2); (try clear hk); (try clear hi)) | (go_at_call 31; (with_reducible refine (spec_LengthOf.calls kj17 _ _ t398 t415 t416 _ ?side1 ?side2 A66.out).mono ?_); (case side1 => repeat (first | exact (rR HO400.out).2.2 | (with_reducible first | refine cA ?_ _ | refine cN ?_ _ | refine cD ?_))); (case side2 => exact (rR HO400.out).2.1); rintro e w75 ⟨rfl, hb⟩; have n0_ := Aside0.mk (rB (by (with_reducible repeat (first | apply rA | apply rN | apply rD)); exact HO400.out) hb); have n1_ := Aside0.mk (Kd.S_below (by (with_reducible repeat (first | apply sA | apply sN | apply sD)); exact HO404.out) hb); have n2_ := Aside0.mk (Kd.S_below (by (with_reducible repeat (first | apply sA | apply sN | apply sD)); exact HO408.out) hb); have n3_ := Aside0.mk (below_step (by repeat (first | (with_reducible first | exact HB.out | apply bA | apply bN | apply bD) | exact HB.out)) hb); clear HO400; clear HO404; clear HO408; clear HB; have HO400 := n0_; have HO404 := n1_; have HO408 := n2_; have HB := n3_; clear n0_ n1_ n2_ n3_; (try clear hb); (try clear hb2); (try clear hk); (try clear hi))); go_upto_region 38 with (first | (go_at_call 27; (with_reducible refine (spec_DrawCyclesOf.calls kj17 _ _ l1 t398 _ ?side1 ?side2 A60.out).mono ?_); (case side1 => repeat (first | exact (Kd.C_below HR1.out HB.out) | (with_reducible first | refine cA ?_ _ | refine cN ?_ _ | refine cD ?_))); (case side2 => exact HC1.out); rintro e w68 ⟨v399, rfl, ho0, hb⟩; have n0_ := Aside0.mk (Kd.R_lower ho0 (below_size (by repeat (first | (with_reducible first | exact HB.out | apply bA | apply bN | apply bD) | exact HB.out)))); have n1_ := Aside0.mk (below_step (by repeat (first | (with_reducible first | exact HB.out | apply bA | apply bN | apply bD) | exact HB.out)) hb); clear HB; have HO400 := n0_; have HB := n1_; clear n0_ n1_; (try clear hb); (try clear hb2); (try clear hk); (try clear hi); (try clear ho0); obtain ⟨Ao69, co69, eo69⟩ := rS HO400.out; subst eo69) | (go_at_call 28; (with_reducible refine (impl_CyclesOf.calls kj17 _ _ t398 t401 t402 _ ?side1 ?side2 A61.out).mono ?_); (case side1 => repeat (first | exact (rR HO400.out).2.2 | (with_reducible first | refine cA ?_ _ | refine cN ?_ _ | refine cD ?_))); (case side2 => exact (rR HO400.out).2.1); rintro e w70 ⟨v403, rfl, ho0, hb⟩; have n0_ := Aside0.mk (rB (by (with_reducible repeat (first | apply rA | apply rN | apply rD)); exact HO400.out) hb); have n1_ := Aside0.mk (Kd.S_lower (Kd.S_new' ho0 (Kd.R_lt (by (with_reducible repeat (first | apply rA | apply rN | apply rD)); exact HO400.out))) (below_size (by repeat (first | (with_reducible first | exact HB.out | apply bA | apply bN | apply bD) | exact HB.out)))); have n2_ := Aside0.mk (below_step (by repeat (first | (with_reducible first | exact HB.out | apply bA | apply bN | apply bD) | exact HB.out)) hb); clear HO400; clear HB; have HO400 := n0_; have HO404 := n1_; have HB := n2_; clear n0_ n1_ n2_; (try clear hb); (try clear hb2); (try clear hk); (try clear hi); (try clear ho0)) | (go_at_call 29; (with_reducible refine (spec_CyclesOf.calls kj17 _ _ t398 t405 t406 _ ?side1 ?side2 A62.out).mono ?_); (case side1 => repeat (first | exact (rR HO400.out).2.2 | (with_reducible first | refine cA ?_ _ | refine cN ?_ _ | refine cD ?_))); (case side2 => exact (rR HO400.out).2.1); rintro e w71 ⟨v407, rfl, ho0, hb⟩; have n0_ := Aside0.mk (rB (by (with_reducible repeat (first | apply rA | apply rN | apply rD)); exact HO400.out) hb); have n1_ := Aside0.mk (Kd.S_elder' (by (with_reducible repeat (first | apply sA | apply sN | apply sD)); exact HO404.out) (Kd.S_base ho0) hb); have n2_ := Aside0.mk (Kd.S_lower (Kd.S_new' (Kd.S_new' ho0 (Kd.R_lt (by (with_reducible repeat (first | apply rA | apply rN | apply rD)); exact HO400.out))) (Kd.S_lt (by (with_reducible repeat (first | apply sA | apply sN | apply sD)); exact HO404.out))) (below_size (by repeat (first | (with_reducible first | exact HB.out | apply bA | apply bN | apply bD) | exact HB.out)))); have n3_ := Aside0.mk (below_step (by repeat (first | (with_reducible first | exact HB.out | apply bA | apply bN | apply bD) | exact HB.out)) hb); clear HO400; clear HO404; clear HB; have HO400 := n0_; have HO404 := n1_; have HO408 := n2_; have HB := n3_; clear n0_ n1_ n2_ n3_; (try clear hb); (try clear hb2); (try clear hk); (try clear hi); (try clear ho0)) | (go_at_call 25; (with_reducible refine (impl_SignOf.calls kj17 _ _ t398 t409 t410 _ ?side1 ?side2 A63.out).mono ?_); (case side1 => repeat (first | exact (rR HO400.out).2.2 | (with_reducible first | refine cA ?_ _ | refine cN ?_ _ | refine cD ?_))); (case side2 => exact (rR HO400.out).2.1); rintro e w72 ⟨rfl, hb⟩; have n0_ := Aside0.mk (rB (by (with_reducible repeat (first | apply rA | apply rN | apply rD)); exact HO400.out) hb); have n1_ := Aside0.mk (Kd.S_below (by (with_reducible repeat (first | apply sA | apply sN | apply sD)); exact HO404.out) hb); have n2_ := Aside0.mk (Kd.S_below (by (with_reducible repeat (first | apply sA | apply sN | apply sD)); exact HO408.out) hb); have n3_ := Aside0.mk (below_step (by repeat (first | (with_reducible first | exact HB.out | apply bA | apply bN | apply bD) | exact HB.out)) hb); clear HO400; clear HO404; clear HO408; clear HB; have HO400 := n0_; have HO404 := n1_; have HO408 := n2_; have HB := n3_; clear n0_ n1_ n2_ n3_; (try clear hb); (try clear hb2); (try clear hk); (try clear hi)) | (go_at_call 30; (with_reducible refine (spec_SignOf.calls kj17 _ _ t398 t411 t412 _ ?side1 ?side2 A64.out).mono ?_); (case side1 => repeat (first | exact (rR HO400.out).2.2 | (with_reducible first | refine cA ?_ _ | refine cN ?_ _ | refine cD ?_))); (case side2 => exact (rR HO400.out).2.1); rintro e w73 ⟨rfl, hb⟩; have n0_ := Aside0.mk (rB (by (with_reducible repeat (first | apply rA | apply rN | apply rD)); exact HO400.out) hb); have n1_ := Aside0.mk (Kd.S_below (by (with_reducible repeat (first | apply sA | apply sN | apply sD)); exact HO404.out) hb); have n2_ := Aside0.mk (Kd.S_below (by (with_reducible repeat (first | apply sA | apply sN | apply sD)); exact HO408.out) hb); have n3_ := Aside0.mk (below_step (by repeat (first | (with_reducible first | exact HB.out | apply bA | apply bN | apply bD) | exact HB.out)) hb); clear HO400; clear HO404; clear HO408; clear HB; have HO400 := n0_; have HO404 := n1_; have HO408 := n2_; have HB := n3_; clear n0_ n1_ n2_ n3_; (try clear hb); (try clear hb2); (try clear hk); (try clear hi)) | (go_at_call 26; (with_reducible refine (impl_LengthOf.calls kj17 _ _ t398 t413 t414 _ ?side1 ?side2 A65.out).mono ?_); (case side1 => repeat (first | exact (rR HO400.out).2.2 | (with_reducible first | refine cA ?_ _ | refine cN ?_ _ | refine cD ?_))); (case side2 => exact (rR HO400.out).2.1); rintro e w74 ⟨rfl, hb⟩; have n0_ := Aside0.mk (rB (by (with_reducible repeat (first | apply rA | apply rN | apply rD)); exact HO400.out) hb); have n1_ := Aside0.mk (Kd.S_below (by (with_reducible repeat (first | apply sA | apply sN | apply sD)); exact HO404.out) hb); have n2_ := Aside0.mk (Kd.S_below (by (with_reducible repeat (first | apply sA | apply sN | apply sD)); exact HO408.out) hb); have n3_ := Aside0.mk (below_step (by repeat (first | (with_reducible first | exact HB.out | apply bA | apply bN | apply bD) | exact HB.out)) hb); clear HO400; clear HO404; clear HO408; clear HB; have HO400 := n0_; have HO404 := n1_; have HO408 := n2_; have HB := n3_; clear n0_ n1_ n2_ n3_; (try clear hb); (try clear hb2); (try clear hk); (try clear hi)) | (go_at_call 31; (with_reducible refine (spec_LengthOf.calls kj17 _ _ t398 t415 t416 _ ?side1 ?side2 A66.out).mono ?_); (case side1 => repeat (first | exact (rR HO400.out).2.2 | (with_reducible first | refine cA ?_ _ | refine cN ?_ _ | refine cD ?_))); (case side2 => exact (rR HO400.out).2.1); rintro e w75 ⟨rfl, hb⟩; have n0_ := Aside0.mk (rB (by (with_reducible repeat (first | apply rA | apply rN | apply rD)); exact HO400.out) hb); have n1_ := Aside0.mk (Kd.S_below (by (with_reducible repeat (first | apply sA | apply sN | apply sD)); exact HO404.out) hb); have n2_ := Aside0.mk (Kd.S_below (by (with_reducible repeat (first | apply sA | apply sN | apply sD)); exact HO408.out) hb); have n3_ := Aside0.mk (below_step (by repeat (first | (with_reducible first | exact HB.out | apply bA | apply bN | apply bD) | exact HB.out)) hb); clear HO400; clear HO404; clear HO408; clear HB; have HO400 := n0_; have HO404 := n1_; have HO408 := n2_; have HB := n3_; clear n0_ n1_ n2_ n3_; (try clear hb); (try clear hb2); (try clear hk); (try clear hi))))
       (try simp only [Act.put, List.setIfInBounds_toArray, List.set_cons_zero, List.set_cons_succ])
       go_cut [259] from 99999 (fun v259 wc => ∃ (kq : Nat) (x259_66 : Bool), v259 = .bool x259_66 ∧ Aside0 (laws_FnCycles.j5 kq l1 t401 t405 x259_66 = some r) ∧ Aside0 (kq ≤ kj17) ∧ Aside0 (Kd.S (Kd.slice 3 (Kd.int .i64)) 25 wc w.heap.size (fun k_ => some k_ ≠ (v407 : Value).ownBlock) v403 t401) ∧ Aside0 (Kd.S (Kd.slice 3 (Kd.int .i64)) 25 wc w.heap.size (fun k_ => some k_ ≠ (v403 : Value).ownBlock) v407 t405) ∧ Aside0 (Below w.heap.size w wc))
       case first =>
        have H := HC67.out
        clear HC67
        by_cases c76 : (t402 != t406) = true
        ·rw [if_pos c76] at H
         have c76b0 : (t402 != t406) = true := c76
         (try (have c76b1 : decide (t402 = t406) = false := by simpa using c76))
         (try (have c76b2 : (t402 == t406) = false := by simpa using c76))
         (try (have c76b3 : ¬ (t402 = t406) := by simpa using c76))
         clear c76
         (first | rw [c76b0] | (simp only [i64_w, i32_w]; rw [c76b0]) | skip)
         have H' := Aside0.mk H
         clear H
         go_wp2
         repeat (go_quiet (fail); try go_wp2)
         go_meet
         case rel => exact ⟨_, (true), (by first | rfl | (simp; done) | (simp [*]; done)), H', ⟨by have := HJ6.out; have := HJ17.out; first | omega | exact Nat.le_refl _⟩, ⟨by (with_reducible repeat (first | apply sA | apply sN | apply sD)); exact Kd.S_mono HO404.out (fun _ hk => hk.2)⟩, ⟨by (with_reducible repeat (first | apply sA | apply sN | apply sD)); exact Kd.S_mono HO408.out (fun _ hk => hk.2)⟩, ⟨by repeat (first | (with_reducible first | exact HB.out | apply bA | apply bN | apply bD) | exact HB.out)⟩⟩
        ·rw [if_neg c76] at H
         have c76b0 : (t402 != t406) = false := by simpa using c76
         (try (have c76b1 : decide (t402 = t406) = true := by simpa using c76))
         (try (have c76b2 : (t402 == t406) = true := by simpa using c76))
         clear c76
         (first | rw [c76b0] | (simp only [i64_w, i32_w]; rw [c76b0]) | skip)
         by_cases c77 : (t401.length : Int) = (t405.length : Int)
         ·rw [if_pos c77] at H
          have c77b0 : ((t401.length : Int) == (t405.length : Int)) = true := beq_iff_eq.mpr c77
          have c77b1 : ((t401.length : Int) != (t405.length : Int)) = false := bne_eq_false_iff_eq.mpr c77
          have c77b2 : (t401.length == t405.length) = true := by first | simpa using c77 | (simp at c77 ⊢; omega)
          clear c77
          by_cases c78 : (t410 != t412) = true
          ·rw [if_pos c78] at H
           have c78b0 : (t410 != t412) = true := c78
           (try (have c78b1 : decide (t410 = t412) = false := by simpa using c78))
           (try (have c78b2 : (t410 == t412) = false := by simpa using c78))
           (try (have c78b3 : ¬ (t410 = t412) := by simpa using c78))
           clear c78
           have H' := Aside0.mk H
           clear H
           obtain ⟨Ao79, co79, eo79⟩ := Kd.S_slice HO404.out
           subst eo79
           obtain ⟨Ao80, co80, eo80⟩ := Kd.S_slice HO408.out
           subst eo80
           go_wp2
           repeat (go_quiet (fail); try go_wp2)
           go_meet
           case rel => exact ⟨_, (true), (by first | rfl | (simp; done) | (simp [*]; done)), H', ⟨by have := HJ6.out; have := HJ17.out; first | omega | exact Nat.le_refl _⟩, ⟨by (with_reducible repeat (first | apply sA | apply sN | apply sD)); exact Kd.S_mono HO404.out (fun _ hk => hk.2)⟩, ⟨by (with_reducible repeat (first | apply sA | apply sN | apply sD)); exact Kd.S_mono HO408.out (fun _ hk => hk.2)⟩, ⟨by repeat (first | (with_reducible first | exact HB.out | apply bA | apply bN | apply bD) | exact HB.out)⟩⟩
          ·rw [if_neg c78] at H
           have c78b0 : (t410 != t412) = false := by simpa using c78
           (try (have c78b1 : decide (t410 = t412) = true := by simpa using c78))
           (try (have c78b2 : (t410 == t412) = true := by simpa using c78))
           clear c78
           by_cases c81 : t409 = t411
           ·rw [if_pos c81] at H
            have c81b0 : (t409 == t411) = true := beq_iff_eq.mpr c81
            have c81b1 : (t409 != t411) = false := bne_eq_false_iff_eq.mpr c81
            clear c81
            by_cases c82 : (t414 != t416) = true
            ·rw [if_pos c82] at H
             have c82b0 : (t414 != t416) = true := c82
             (try (have c82b1 : decide (t414 = t416) = false := by simpa using c82))
             (try (have c82b2 : (t414 == t416) = false := by simpa using c82))
             (try (have c82b3 : ¬ (t414 = t416) := by simpa using c82))
             clear c82
             have H' := Aside0.mk H
             clear H
             obtain ⟨Ao83, co83, eo83⟩ := Kd.S_slice HO404.out
             subst eo83
             obtain ⟨Ao84, co84, eo84⟩ := Kd.S_slice HO408.out
             subst eo84
             go_wp2
             repeat (go_quiet (fail); try go_wp2)
             go_meet
             case rel => exact ⟨_, (true), (by first | rfl | (simp; done) | (simp [*]; done)), H', ⟨by have := HJ6.out; have := HJ17.out; first | omega | exact Nat.le_refl _⟩, ⟨by (with_reducible repeat (first | apply sA | apply sN | apply sD)); exact Kd.S_mono HO404.out (fun _ hk => hk.2)⟩, ⟨by (with_reducible repeat (first | apply sA | apply sN | apply sD)); exact Kd.S_mono HO408.out (fun _ hk => hk.2)⟩, ⟨by repeat (first | (with_reducible first | exact HB.out | apply bA | apply bN | apply bD) | exact HB.out)⟩⟩
            ·rw [if_neg c82] at H
             have c82b0 : (t414 != t416) = false := by simpa using c82
             (try (have c82b1 : decide (t414 = t416) = true := by simpa using c82))
             (try (have c82b2 : (t414 == t416) = true := by simpa using c82))
             clear c82
             by_cases c85 : t413 = t415
             ·rw [if_pos c85] at H
              have c85b0 : (t413 == t415) = true := beq_iff_eq.mpr c85
              have c85b1 : (t413 != t415) = false := bne_eq_false_iff_eq.mpr c85
              clear c85
              replace H := oB H
              obtain ⟨t417, A860, H⟩ := H
              replace H : (laws_FnCycles.j5 kj17 l1 t401 t405 (t417 != t402)) = some r := H
              have A86 := Aside0.mk A860
              clear A860
              have H' := Aside0.mk H
              clear H
              obtain ⟨Ao87, co87, eo87⟩ := Kd.S_slice HO404.out
              subst eo87
              obtain ⟨Ao88, co88, eo88⟩ := Kd.S_slice HO408.out
              subst eo88
              go_wp2_with (first | (go_at_call 32; (with_reducible refine (impl_IsOrder.calls kj17 _ _ t398 t417 _ ?side1 ?side2 A86.out).mono ?_); (case side1 => repeat (first | exact (rR HO400.out).2.2 | (with_reducible first | refine cA ?_ _ | refine cN ?_ _ | refine cD ?_))); (case side2 => exact (rR HO400.out).2.1); rintro e w' ⟨rfl, ⟨nd, rfl⟩⟩; (try first | exact ⟨rfl, _, wN _ _ _⟩ | exact ⟨rfl, _, wM _ _ _ _⟩)))
              repeat (go_quiet (first | (go_at_call 32; (with_reducible refine (impl_IsOrder.calls kj17 _ _ t398 t417 _ ?side1 ?side2 A86.out).mono ?_); (case side1 => repeat (first | exact (rR HO400.out).2.2 | (with_reducible first | refine cA ?_ _ | refine cN ?_ _ | refine cD ?_))); (case side2 => exact (rR HO400.out).2.1); rintro e w' ⟨rfl, ⟨nd, rfl⟩⟩; (try first | exact ⟨rfl, _, wN _ _ _⟩ | exact ⟨rfl, _, wM _ _ _ _⟩))); try go_wp2_with (first | (go_at_call 32; (with_reducible refine (impl_IsOrder.calls kj17 _ _ t398 t417 _ ?side1 ?side2 A86.out).mono ?_); (case side1 => repeat (first | exact (rR HO400.out).2.2 | (with_reducible first | refine cA ?_ _ | refine cN ?_ _ | refine cD ?_))); (case side2 => exact (rR HO400.out).2.1); rintro e w' ⟨rfl, ⟨nd, rfl⟩⟩; (try first | exact ⟨rfl, _, wN _ _ _⟩ | exact ⟨rfl, _, wM _ _ _ _⟩))))
              go_meet
              case rel => exact ⟨_, ((t417 != t402)), (by first | rfl | (simp; done) | (simp [*]; done)), H', ⟨by have := HJ6.out; have := HJ17.out; first | omega | exact Nat.le_refl _⟩, ⟨by (with_reducible repeat (first | apply sA | apply sN | apply sD)); exact Kd.S_mono HO404.out (fun _ hk => hk.2)⟩, ⟨by (with_reducible repeat (first | apply sA | apply sN | apply sD)); exact Kd.S_mono HO408.out (fun _ hk => hk.2)⟩, ⟨by repeat (first | (with_reducible first | exact HB.out | apply bA | apply bN | apply bD) | exact HB.out)⟩⟩
             ·rw [if_neg c85] at H
              have c85b0 : (t413 == t415) = false := beq_eq_false_iff_ne.mpr c85
              have c85b1 : (t413 != t415) = true := bne_iff_ne.mpr c85
              have H' := Aside0.mk H
              clear H
              obtain ⟨Ao89, co89, eo89⟩ := Kd.S_slice HO404.out
              subst eo89
              obtain ⟨Ao90, co90, eo90⟩ := Kd.S_slice HO408.out
              subst eo90
              go_wp2
              repeat (go_quiet (fail); try go_wp2)
              go_meet
              case rel => exact ⟨_, (true), (by first | rfl | (simp; done) | (simp [*]; done)), H', ⟨by have := HJ6.out; have := HJ17.out; first | omega | exact Nat.le_refl _⟩, ⟨by (with_reducible repeat (first | apply sA | apply sN | apply sD)); exact Kd.S_mono HO404.out (fun _ hk => hk.2)⟩, ⟨by (with_reducible repeat (first | apply sA | apply sN | apply sD)); exact Kd.S_mono HO408.out (fun _ hk => hk.2)⟩, ⟨by repeat (first | (with_reducible first | exact HB.out | apply bA | apply bN | apply bD) | exact HB.out)⟩⟩
           ·rw [if_neg c81] at H
            have c81b0 : (t409 == t411) = false := beq_eq_false_iff_ne.mpr c81
            have c81b1 : (t409 != t411) = true := bne_iff_ne.mpr c81
            have H' := Aside0.mk H
            clear H
            obtain ⟨Ao91, co91, eo91⟩ := Kd.S_slice HO404.out
            subst eo91
            obtain ⟨Ao92, co92, eo92⟩ := Kd.S_slice HO408.out
            subst eo92
            go_wp2
            repeat (go_quiet (fail); try go_wp2)
            go_meet
            case rel => exact ⟨_, (true), (by first | rfl | (simp; done) | (simp [*]; done)), H', ⟨by have := HJ6.out; have := HJ17.out; first | omega | exact Nat.le_refl _⟩, ⟨by (with_reducible repeat (first | apply sA | apply sN | apply sD)); exact Kd.S_mono HO404.out (fun _ hk => hk.2)⟩, ⟨by (with_reducible repeat (first | apply sA | apply sN | apply sD)); exact Kd.S_mono HO408.out (fun _ hk => hk.2)⟩, ⟨by repeat (first | (with_reducible first | exact HB.out | apply bA | apply bN | apply bD) | exact HB.out)⟩⟩
         ·rw [if_neg c77] at H
          have c77b0 : ((t401.length : Int) == (t405.length : Int)) = false := beq_eq_false_iff_ne.mpr c77
          have c77b1 : ((t401.length : Int) != (t405.length : Int)) = true := bne_iff_ne.mpr c77
          have c77b2 : (t401.length == t405.length) = false := by first | simpa using c77 | (simp at c77 ⊢; omega)
          have H' := Aside0.mk H
          clear H
          obtain ⟨Ao93, co93, eo93⟩ := Kd.S_slice HO404.out
          subst eo93
          obtain ⟨Ao94, co94, eo94⟩ := Kd.S_slice HO408.out
          subst eo94
          go_wp2
          repeat (go_quiet (fail); try go_wp2)
          go_meet
          case rel => exact ⟨_, (true), (by first | rfl | (simp; done) | (simp [*]; done)), H', ⟨by have := HJ6.out; have := HJ17.out; first | omega | exact Nat.le_refl _⟩, ⟨by (with_reducible repeat (first | apply sA | apply sN | apply sD)); exact Kd.S_mono HO404.out (fun _ hk => hk.2)⟩, ⟨by (with_reducible repeat (first | apply sA | apply sN | apply sD)); exact Kd.S_mono HO408.out (fun _ hk => hk.2)⟩, ⟨by repeat (first | (with_reducible first | exact HB.out | apply bA | apply bN | apply bD) | exact HB.out)⟩⟩
       case rest =>
        clear HC67
        try clear c1
        try clear p2
        try clear c3
        try clear c3b0
        try clear p3
        try clear q3
        try clear hx3
        try clear c4
        try clear c5
        try clear p6
        try clear c7
        try clear c8
        try clear c13
        try clear c13b0
        try clear c13b1
        try clear c13b2
        try clear c17
        try clear c19
        try clear c35
        try clear c36
        try clear c37
        try clear c38
        try clear c39
        try clear p39
        try clear q39
        try clear hx39
        try clear c40
        try clear c40b0
        try clear c40b1
        try clear c41
        try clear c42
        try clear c43
        try clear c48
        try clear c48b0
        try clear c50
        try clear c52
        try clear c52b0
        try clear c52b1
        try clear c52b2
        try clear c56
        try clear c56b0
        try clear c57
        try clear c57b0
        try clear c58
        try clear c58b0
        try clear c59
        try clear c59b0
        try clear c59b1
        try clear p64
        try clear c76
        try clear c76b0
        try clear c76b1
        try clear c76b2
        try clear c77
        try clear c77b0
        try clear c77b1
        try clear c77b2
        try clear c78
        try clear c78b0
        try clear c78b1
        try clear c78b2
        try clear c81
        try clear c81b0
        try clear c81b1
        try clear c82
        try clear c82b0
        try clear c82b1
        try clear c82b2
        try clear c85
        try clear c85b0
        try clear c85b1
        try clear hx397_0
        try clear p2
        try clear p3
        try clear p39
        try clear p397
        try clear p6
        try clear q3
        try clear q39
        try clear q397
        obtain ⟨kq, x259_66, rfl, HA, HJ66, HO_30, HO_32, HB⟩ := hcut
        cases kq with
        | zero => exact absurd HA.out (by simp [laws_FnCycles.j5])
        | succ kj66 =>
         have H := HA.out
         clear HA
         simp only [laws_FnCycles.j5] at H
         by_cases c95 : x259_66 = true
         ·subst c95
          have H1 : (some false) = some r := by rw [if_pos rfl] at H; exact H
          clear H
          have H := H1
          clear H1
          obtain rfl := Option.some.inj H
          exact absurd hr_.out (by simp)
         ·replace c95 := fB c95
          subst c95
          have H1 : (laws_FnCycles.l2 kj66 l1 t401 t405 (t401.length : Int) 0) = some r := by rw [if_neg (show ¬ (false = true) by decide)] at H; exact H
          clear H
          have H := H1
          clear H1
          have H' := Aside0.mk H
          clear H
          obtain ⟨Ao96, co96, eo96⟩ := Kd.S_slice HO_30.out
          subst eo96
          go_wp2
          repeat (go_quiet (fail); try go_wp2)
          go_loopg [262] kj66 (fun kq v262 w' => ∃ (x262_4 : Int), v262 = .int .i64 x262_4 ∧ Aside0 (laws_FnCycles.l2 kq l1 t401 t405 (t401.length : Int) x262_4 = some r) ∧ Aside0 (kq ≤ kj66) ∧ Aside0 (Kd.S (Kd.slice 3 (Kd.int .i64)) 25 w' w.heap.size (fun k_ => some k_ ≠ (v407 : Value).ownBlock) (.slice Ao96 t401.length co96) t401) ∧ Aside0 (Kd.S (Kd.slice 3 (Kd.int .i64)) 25 w' w.heap.size (fun k_ => some k_ ≠ ((.slice Ao96 t401.length co96) : Value).ownBlock) v407 t405) ∧ Aside0 (Below w.heap.size w w'))
          case atStart => exact ⟨(0), (by first | rfl | (simp; done) | (simp [*]; done)), H', ⟨Nat.le_refl _⟩, ⟨by (with_reducible repeat (first | apply sA | apply sN | apply sD)); exact HO_30.out⟩, ⟨by (with_reducible repeat (first | apply sA | apply sN | apply sD)); exact HO_32.out⟩, ⟨by repeat (first | (with_reducible first | exact HB.out | apply bA | apply bN | apply bD) | exact HB.out)⟩⟩
          case round =>
           clear H'
           try clear c1
           try clear p2
           try clear c3
           try clear c3b0
           try clear p3
           try clear q3
           try clear hx3
           try clear c4
           try clear c5
           try clear p6
           try clear c7
           try clear c8
           try clear c9
           try clear c13
           try clear c13b0
           try clear c13b1
           try clear c13b2
           try clear c17
           try clear c19
           try clear c35
           try clear c36
           try clear c37
           try clear c38
           try clear c39
           try clear p39
           try clear q39
           try clear hx39
           try clear c40
           try clear c40b0
           try clear c40b1
           try clear c41
           try clear c42
           try clear c43
           try clear c48
           try clear c48b0
           try clear c50
           try clear c52
           try clear c52b0
           try clear c52b1
           try clear c52b2
           try clear c56
           try clear c56b0
           try clear c57
           try clear c57b0
           try clear c58
           try clear c58b0
           try clear c59
           try clear c59b0
           try clear c59b1
           try clear p64
           try clear c76
           try clear c76b0
           try clear c76b1
           try clear c76b2
           try clear c77
           try clear c77b0
           try clear c77b1
           try clear c77b2
           try clear c78
           try clear c78b0
           try clear c78b1
           try clear c78b2
           try clear c81
           try clear c81b0
           try clear c81b1
           try clear c82
           try clear c82b0
           try clear c82b1
           try clear c82b2
           try clear c85
           try clear c85b0
           try clear c85b1
           try clear c95
           try clear hx397_0
           try clear p2
           try clear p3
           try clear p39
           try clear p397
           try clear p6
           try clear p64
           try clear q3
           try clear q39
           try clear q397
           obtain ⟨x262_4, rfl, HA, HK4, HO_30, HO_32, HB⟩ := hrel
           cases gk with
           | zero => exact absurd HA.out (by simp [laws_FnCycles.l2])
           | succ k4 =>
            have H := HA.out
            clear HA
            simp only [laws_FnCycles.l2] at H
            by_cases c97 : x262_4 < (t401.length : Int)
            ·rw [if_pos c97] at H
             have c97b0 : decide (x262_4 < (t401.length : Int)) = true := decide_eq_true c97
             clear c97
             by_cases c98 : 0 ≤ x262_4
             ·rw [if_pos c98] at H
              have c98b0 : decide (0 ≤ x262_4) = true := decide_eq_true c98
              clear c98
              by_cases c99 : x262_4 < (t401.length : Int)
              ·rw [if_pos c99] at H
               have c99b0 : decide (x262_4 < (t401.length : Int)) = true := decide_eq_true c99
               clear c99
               by_cases c100 : x262_4 < (t405.length : Int)
               ·rw [if_pos c100] at H
                have c100b0 : decide (x262_4 < (t405.length : Int)) = true := decide_eq_true c100
                clear c100
                replace H := oB H
                obtain ⟨t420, A1010, H⟩ := H
                replace H : (if t420 = true then (laws_FnCycles.l2 k4 l1 t401 t405 (t401.length : Int) (wrap64 (x262_4 + 1))) else (some false)) = some r := H
                have A101 := Aside0.mk A1010
                clear A1010
                by_cases c102 : t420 = true
                ·subst c102
                 have H1 : (laws_FnCycles.l2 k4 l1 t401 t405 (t401.length : Int) (wrap64 (x262_4 + 1))) = some r := by rw [if_pos rfl] at H; exact H
                 clear H
                 have H := H1
                 clear H1
                 have H' := Aside0.mk H
                 clear H
                 have p418 : 0 ≤ (x262_4 : Int) := of_decide_eq_true (by first | (with_reducible assumption) | assumption)
                 have q418 : x262_4 < (t401.length : Int) := of_decide_eq_true (by first | (with_reducible assumption) | assumption)
                 obtain ⟨ad418, A418_0, c418_0, e418, hx418_0, hl418_0, hi418_0⟩ := at_L3 (Kd.S_reads' HO_30.out).2.2 x262_4 p418 q418
                 cases e418
                 obtain ⟨ce418, hce418, hMe418, hcc418⟩ := Kd.S_get HO_30.out [] x262_4 p418 (by first | exact q418 | exact of_decide_eq_true (by first | (with_reducible assumption) | assumption) | (have e_ := (Kd.S_reads' HO_30.out).1; omega))
                 obtain ⟨ve418_0, rfl, ge418_0⟩ := hMe418
                 have hv418_0 := hcc418 0 _ rfl
                 rw [Nat.add_zero, show ((Kd.slice 3 (Kd.int .i64))).sz = 1 from rfl, Nat.mul_one] at hv418_0
                 replace hv418_0 := Option.some.inj (hv418_0.symm.trans hx418_0)
                 rw [hv418_0] at ge418_0
                 have HL418_0 := Aside0.mk (show Kd.R (Kd.int .i64) 3 _ _ _ _ (rd_L3 t401 x262_4) from ge418_0)
                 clear hv418_0 ge418_0
                 clear hcc418 hce418
                 have HR418_0 := Aside0.mk hi418_0
                 have HC418_0 := Aside0.mk hl418_0
                 clear hi418_0 hl418_0
                 replace p418 := eq_true p418
                 replace q418 := eq_true q418
                 obtain ⟨Ao103, co103, eo103⟩ := Kd.S_slice HO_32.out
                 subst eo103
                 have p419 : 0 ≤ (x262_4 : Int) := of_decide_eq_true (by first | (with_reducible assumption) | assumption)
                 have q419 : x262_4 < (t405.length : Int) := of_decide_eq_true (by first | (with_reducible assumption) | assumption)
                 obtain ⟨ad419, A419_0, c419_0, e419, hx419_0, hl419_0, hi419_0⟩ := at_L3 (Kd.S_reads' HO_32.out).2.2 x262_4 p419 q419
                 cases e419
                 obtain ⟨ce419, hce419, hMe419, hcc419⟩ := Kd.S_get HO_32.out [] x262_4 p419 (by first | exact q419 | exact of_decide_eq_true (by first | (with_reducible assumption) | assumption) | (have e_ := (Kd.S_reads' HO_32.out).1; omega))
                 obtain ⟨ve419_0, rfl, ge419_0⟩ := hMe419
                 have hv419_0 := hcc419 0 _ rfl
                 rw [Nat.add_zero, show ((Kd.slice 3 (Kd.int .i64))).sz = 1 from rfl, Nat.mul_one] at hv419_0
                 replace hv419_0 := Option.some.inj (hv419_0.symm.trans hx419_0)
                 rw [hv419_0] at ge419_0
                 have HL419_0 := Aside0.mk (show Kd.R (Kd.int .i64) 3 _ _ _ _ (rd_L3 t405 x262_4) from ge419_0)
                 clear hv419_0 ge419_0
                 clear hcc419 hce419
                 have HR419_0 := Aside0.mk hi419_0
                 have HC419_0 := Aside0.mk hl419_0
                 clear hi419_0 hl419_0
                 replace p419 := eq_true p419
                 replace q419 := eq_true q419
                 go_wp2_with (first | (go_at_call 10; (with_reducible refine (laws_sameInts.calls k4 _ _ (rd_L3 t401 x262_4) _ _ (rd_L3 t405 x262_4) true _ ?side1 ?side2 ?side3 ?side4 A101.out).mono ?_); (case side1 => repeat (first | exact (by repeat (first | (with_reducible exact HR418_0.out) | (with_reducible first | refine cA ?_ _ | refine cN ?_ _ | refine cD ?_) | exact HR418_0.out)) | (with_reducible first | refine cA ?_ _ | refine cN ?_ _ | refine cD ?_))); (case side2 => exact HC418_0.out); (case side3 => repeat (first | exact (by repeat (first | (with_reducible exact HR419_0.out) | (with_reducible first | refine cA ?_ _ | refine cN ?_ _ | refine cD ?_) | exact HR419_0.out)) | (with_reducible first | refine cA ?_ _ | refine cN ?_ _ | refine cD ?_))); (case side4 => exact HC419_0.out); rintro e w' ⟨rfl, ⟨nd, rfl⟩⟩; (try first | exact ⟨rfl, _, wN _ _ _⟩ | exact ⟨rfl, _, wM _ _ _ _⟩)))
                 repeat (go_quiet (first | (go_at_call 10; (with_reducible refine (laws_sameInts.calls k4 _ _ (rd_L3 t401 x262_4) _ _ (rd_L3 t405 x262_4) true _ ?side1 ?side2 ?side3 ?side4 A101.out).mono ?_); (case side1 => repeat (first | exact (by repeat (first | (with_reducible exact HR418_0.out) | (with_reducible first | refine cA ?_ _ | refine cN ?_ _ | refine cD ?_) | exact HR418_0.out)) | (with_reducible first | refine cA ?_ _ | refine cN ?_ _ | refine cD ?_))); (case side2 => exact HC418_0.out); (case side3 => repeat (first | exact (by repeat (first | (with_reducible exact HR419_0.out) | (with_reducible first | refine cA ?_ _ | refine cN ?_ _ | refine cD ?_) | exact HR419_0.out)) | (with_reducible first | refine cA ?_ _ | refine cN ?_ _ | refine cD ?_))); (case side4 => exact HC419_0.out); rintro e w' ⟨rfl, ⟨nd, rfl⟩⟩; (try first | exact ⟨rfl, _, wN _ _ _⟩ | exact ⟨rfl, _, wM _ _ _ _⟩))); try go_wp2_with (first | (go_at_call 10; (with_reducible refine (laws_sameInts.calls k4 _ _ (rd_L3 t401 x262_4) _ _ (rd_L3 t405 x262_4) true _ ?side1 ?side2 ?side3 ?side4 A101.out).mono ?_); (case side1 => repeat (first | exact (by repeat (first | (with_reducible exact HR418_0.out) | (with_reducible first | refine cA ?_ _ | refine cN ?_ _ | refine cD ?_) | exact HR418_0.out)) | (with_reducible first | refine cA ?_ _ | refine cN ?_ _ | refine cD ?_))); (case side2 => exact HC418_0.out); (case side3 => repeat (first | exact (by repeat (first | (with_reducible exact HR419_0.out) | (with_reducible first | refine cA ?_ _ | refine cN ?_ _ | refine cD ?_) | exact HR419_0.out)) | (with_reducible first | refine cA ?_ _ | refine cN ?_ _ | refine cD ?_))); (case side4 => exact HC419_0.out); rintro e w' ⟨rfl, ⟨nd, rfl⟩⟩; (try first | exact ⟨rfl, _, wN _ _ _⟩ | exact ⟨rfl, _, wM _ _ _ _⟩))))
                 go_roundg k4
                 case measure => have := HJ6.out; have := HJ17.out; have := HJ66.out; have := HK4.out; omega
                 case rel => exact ⟨(wrap64 (x262_4 + 1)), (by first | rfl | (simp; done) | (simp [*]; done)), H', ⟨by have := HJ6.out; have := HJ17.out; have := HJ66.out; have := HK4.out; omega⟩, ⟨by (with_reducible repeat (first | apply sA | apply sN | apply sD)); exact HO_30.out⟩, ⟨by (with_reducible repeat (first | apply sA | apply sN | apply sD)); exact HO_32.out⟩, ⟨by repeat (first | (with_reducible first | exact HB.out | apply bA | apply bN | apply bD) | exact HB.out)⟩⟩
                ·replace c102 := fB c102
                 subst c102
                 have H1 : (some false) = some r := by rw [if_neg (show ¬ (false = true) by decide)] at H; exact H
                 clear H
                 have H := H1
                 clear H1
                 obtain rfl := Option.some.inj H
                 exact absurd hr_.out (by simp)
               ·rw [if_neg c100] at H
                exact absurd H (by simp)
              ·rw [if_neg c99] at H
               exact absurd H (by simp)
             ·rw [if_neg c98] at H
              exact absurd H (by simp)
            ·rw [if_neg c97] at H
             have c97b0 : decide (x262_4 < (t401.length : Int)) = false := decide_eq_false c97
             clear c97
             replace H := oB H
             obtain ⟨t421, A1040, H⟩ := H
             replace H : ((impl_BackOrder.f k4 t421).bind fun bt424 => ((spec_BackOrder.f k4 t421).bind fun bt428 => ((spec_DrawApplyOrder.f k4 l1).bind fun bt432 => ((impl_ApplyOrder.f k4 bt432.1 bt432.2).bind fun bt438 => ((spec_ApplyOrder.f k4 bt432.1 bt432.2).bind fun bt442 => (if (bt424.2 != bt428.2) = true then (laws_FnCycles.j7 k4 bt432.1 bt432.2 bt438.1 bt438.2 true) else ((laws_sameInts.f k4 bt424.1 bt428.1).bind fun t446 => (if t446 = true then (if (bt438.2 != bt442.2) = true then (laws_FnCycles.j7 k4 bt432.1 bt432.2 bt438.1 bt438.2 true) else ((laws_sameTexts.f k4 bt438.1 bt442.1).bind fun t447 => (laws_FnCycles.j7 k4 bt432.1 bt432.2 bt438.1 bt438.2 (!t447)))) else (laws_FnCycles.j7 k4 bt432.1 bt432.2 bt438.1 bt438.2 true))))))))) = some r := H
             have A104 := Aside0.mk A1040
             clear A1040
             replace H := oB H
             obtain ⟨⟨t424, t425⟩, A1050, H⟩ := H
             replace H : ((spec_BackOrder.f k4 t421).bind fun bt428 => ((spec_DrawApplyOrder.f k4 l1).bind fun bt432 => ((impl_ApplyOrder.f k4 bt432.1 bt432.2).bind fun bt438 => ((spec_ApplyOrder.f k4 bt432.1 bt432.2).bind fun bt442 => (if (t425 != bt428.2) = true then (laws_FnCycles.j7 k4 bt432.1 bt432.2 bt438.1 bt438.2 true) else ((laws_sameInts.f k4 t424 bt428.1).bind fun t446 => (if t446 = true then (if (bt438.2 != bt442.2) = true then (laws_FnCycles.j7 k4 bt432.1 bt432.2 bt438.1 bt438.2 true) else ((laws_sameTexts.f k4 bt438.1 bt442.1).bind fun t447 => (laws_FnCycles.j7 k4 bt432.1 bt432.2 bt438.1 bt438.2 (!t447)))) else (laws_FnCycles.j7 k4 bt432.1 bt432.2 bt438.1 bt438.2 true)))))))) = some r := H
             have A105 := Aside0.mk A1050
             clear A1050
             replace H := oB H
             obtain ⟨⟨t428, t429⟩, A1060, H⟩ := H
             replace H : ((spec_DrawApplyOrder.f k4 l1).bind fun bt432 => ((impl_ApplyOrder.f k4 bt432.1 bt432.2).bind fun bt438 => ((spec_ApplyOrder.f k4 bt432.1 bt432.2).bind fun bt442 => (if (t425 != t429) = true then (laws_FnCycles.j7 k4 bt432.1 bt432.2 bt438.1 bt438.2 true) else ((laws_sameInts.f k4 t424 t428).bind fun t446 => (if t446 = true then (if (bt438.2 != bt442.2) = true then (laws_FnCycles.j7 k4 bt432.1 bt432.2 bt438.1 bt438.2 true) else ((laws_sameTexts.f k4 bt438.1 bt442.1).bind fun t447 => (laws_FnCycles.j7 k4 bt432.1 bt432.2 bt438.1 bt438.2 (!t447)))) else (laws_FnCycles.j7 k4 bt432.1 bt432.2 bt438.1 bt438.2 true))))))) = some r := H
             have A106 := Aside0.mk A1060
             clear A1060
             replace H := oB H
             obtain ⟨⟨t432, t433⟩, A1070, H⟩ := H
             replace H : ((impl_ApplyOrder.f k4 t432 t433).bind fun bt438 => ((spec_ApplyOrder.f k4 t432 t433).bind fun bt442 => (if (t425 != t429) = true then (laws_FnCycles.j7 k4 t432 t433 bt438.1 bt438.2 true) else ((laws_sameInts.f k4 t424 t428).bind fun t446 => (if t446 = true then (if (bt438.2 != bt442.2) = true then (laws_FnCycles.j7 k4 t432 t433 bt438.1 bt438.2 true) else ((laws_sameTexts.f k4 bt438.1 bt442.1).bind fun t447 => (laws_FnCycles.j7 k4 t432 t433 bt438.1 bt438.2 (!t447)))) else (laws_FnCycles.j7 k4 t432 t433 bt438.1 bt438.2 true)))))) = some r := H
             have A107 := Aside0.mk A1070
             clear A1070
             replace H := oB H
             obtain ⟨⟨t438, t439⟩, A1080, H⟩ := H
             replace H : ((spec_ApplyOrder.f k4 t432 t433).bind fun bt442 => (if (t425 != t429) = true then (laws_FnCycles.j7 k4 t432 t433 t438 t439 true) else ((laws_sameInts.f k4 t424 t428).bind fun t446 => (if t446 = true then (if (t439 != bt442.2) = true then (laws_FnCycles.j7 k4 t432 t433 t438 t439 true) else ((laws_sameTexts.f k4 t438 bt442.1).bind fun t447 => (laws_FnCycles.j7 k4 t432 t433 t438 t439 (!t447)))) else (laws_FnCycles.j7 k4 t432 t433 t438 t439 true))))) = some r := H
             have A108 := Aside0.mk A1080
             clear A1080
             replace H := oB H
             obtain ⟨⟨t442, t443⟩, A1090, H⟩ := H
             replace H : (if (t425 != t429) = true then (laws_FnCycles.j7 k4 t432 t433 t438 t439 true) else ((laws_sameInts.f k4 t424 t428).bind fun t446 => (if t446 = true then (if (t439 != t443) = true then (laws_FnCycles.j7 k4 t432 t433 t438 t439 true) else ((laws_sameTexts.f k4 t438 t442).bind fun t447 => (laws_FnCycles.j7 k4 t432 t433 t438 t439 (!t447)))) else (laws_FnCycles.j7 k4 t432 t433 t438 t439 true)))) = some r := H
             have A109 := Aside0.mk A1090
             clear A1090
             have HC110 := Aside0.mk H
             clear H
             go_upto_region 52 with (first | (go_at_call 33; (with_reducible refine (spec_DrawBackOrder.calls k4 _ _ l1 t421 _ ?side1 ?side2 A104.out).mono ?_); (case side1 => repeat (first | exact (Kd.C_below HR1.out HB.out) | (with_reducible first | refine cA ?_ _ | refine cN ?_ _ | refine cD ?_))); (case side2 => exact HC1.out); rintro e w111 ⟨v422, rfl, ho0, hb⟩; have n0_ := Aside0.mk (Kd.S_elder' (by (with_reducible repeat (first | apply sA | apply sN | apply sD)); exact HO_30.out) (rE ho0) hb); have n1_ := Aside0.mk (Kd.S_elder' (by (with_reducible repeat (first | apply sA | apply sN | apply sD)); exact HO_32.out) (rE ho0) hb); have n2_ := Aside0.mk (Kd.R_lower ho0 (below_size (by repeat (first | (with_reducible first | exact HB.out | apply bA | apply bN | apply bD) | exact HB.out)))); have n3_ := Aside0.mk (below_step (by repeat (first | (with_reducible first | exact HB.out | apply bA | apply bN | apply bD) | exact HB.out)) hb); clear HO_30; clear HO_32; clear HB; have HO_30 := n0_; have HO_32 := n1_; have HO423 := n2_; have HB := n3_; clear n0_ n1_ n2_ n3_; (try clear hb); (try clear hb2); (try clear hk); (try clear hi); (try clear ho0); obtain ⟨Ao112, co112, eo112⟩ := rS HO423.out; subst eo112) | (go_at_call 24; (with_reducible refine (impl_BackOrder.calls k4 _ _ t421 t424 t425 _ ?side1 ?side2 A105.out).mono ?_); (case side1 => repeat (first | exact (rR HO423.out).2.2 | (with_reducible first | refine cA ?_ _ | refine cN ?_ _ | refine cD ?_))); (case side2 => exact (rR HO423.out).2.1); rintro e w113 ⟨v426, rfl, ho0, hb⟩; have n0_ := Aside0.mk (Kd.S_elder' (by (with_reducible repeat (first | apply sA | apply sN | apply sD)); exact HO_30.out) (rE ho0) hb); have n1_ := Aside0.mk (Kd.S_elder' (by (with_reducible repeat (first | apply sA | apply sN | apply sD)); exact HO_32.out) (rE ho0) hb); have n2_ := Aside0.mk (rF (by (with_reducible repeat (first | apply rA | apply rN | apply rD)); exact HO423.out) (rE ho0) hb); have n3_ := Aside0.mk (Kd.R_lower (Kd.R_new' ho0 (Kd.R_lt (by (with_reducible repeat (first | apply rA | apply rN | apply rD)); exact HO423.out))) (below_size (by repeat (first | (with_reducible first | exact HB.out | apply bA | apply bN | apply bD) | exact HB.out)))); have n4_ := Aside0.mk (below_step (by repeat (first | (with_reducible first | exact HB.out | apply bA | apply bN | apply bD) | exact HB.out)) hb); clear HO_30; clear HO_32; clear HO423; clear HB; have HO_30 := n0_; have HO_32 := n1_; have HO423 := n2_; have HO427 := n3_; have HB := n4_; clear n0_ n1_ n2_ n3_ n4_; (try clear hb); (try clear hb2); (try clear hk); (try clear hi); (try clear ho0)) | (go_at_call 34; (with_reducible refine (spec_BackOrder.calls k4 _ _ t421 t428 t429 _ ?side1 ?side2 A106.out).mono ?_); (case side1 => repeat (first | exact (rR HO423.out).2.2 | (with_reducible first | refine cA ?_ _ | refine cN ?_ _ | refine cD ?_))); (case side2 => exact (rR HO423.out).2.1); rintro e w114 ⟨v430, rfl, ho0, hb⟩; have n0_ := Aside0.mk (Kd.S_elder' (by (with_reducible repeat (first | apply sA | apply sN | apply sD)); exact HO_30.out) (rE ho0) hb); have n1_ := Aside0.mk (Kd.S_elder' (by (with_reducible repeat (first | apply sA | apply sN | apply sD)); exact HO_32.out) (rE ho0) hb); have n2_ := Aside0.mk (rF (by (with_reducible repeat (first | apply rA | apply rN | apply rD)); exact HO423.out) (rE ho0) hb); have n3_ := Aside0.mk (rF (by (with_reducible repeat (first | apply rA | apply rN | apply rD)); exact HO427.out) (rE ho0) hb); have n4_ := Aside0.mk (Kd.R_lower (Kd.R_new' (Kd.R_new' ho0 (Kd.R_lt (by (with_reducible repeat (first | apply rA | apply rN | apply rD)); exact HO423.out))) (Kd.R_lt (by (with_reducible repeat (first | apply rA | apply rN | apply rD)); exact HO427.out))) (below_size (by repeat (first | (with_reducible first | exact HB.out | apply bA | apply bN | apply bD) | exact HB.out)))); have n5_ := Aside0.mk (below_step (by repeat (first | (with_reducible first | exact HB.out | apply bA | apply bN | apply bD) | exact HB.out)) hb); clear HO_30; clear HO_32; clear HO423; clear HO427; clear HB; have HO_30 := n0_; have HO_32 := n1_; have HO423 := n2_; have HO427 := n3_; have HO431 := n4_; have HB := n5_; clear n0_ n1_ n2_ n3_ n4_ n5_; (try clear hb); (try clear hb2); (try clear hk); (try clear hi); (try clear ho0)) | (go_at_call 35; (with_reducible refine (spec_DrawApplyOrder.calls k4 _ _ l1 t432 t433 _ ?side1 ?side2 A107.out).mono ?_); (case side1 => repeat (first | exact (Kd.C_below HR1.out HB.out) | (with_reducible first | refine cA ?_ _ | refine cN ?_ _ | refine cD ?_))); (case side2 => exact HC1.out); rintro e w115 ⟨v434, v436, rfl, ho0, ho1, hb⟩; have n0_ := Aside0.mk (Kd.S_elder' (by (with_reducible repeat (first | apply sA | apply sN | apply sD)); exact HO_30.out) (rE ho0) hb); have n1_ := Aside0.mk (Kd.S_elder' (by (with_reducible repeat (first | apply sA | apply sN | apply sD)); exact HO_32.out) (rE ho0) hb); have n2_ := Aside0.mk (rF (by (with_reducible repeat (first | apply rA | apply rN | apply rD)); exact HO423.out) (rE ho0) hb); have n3_ := Aside0.mk (rF (by (with_reducible repeat (first | apply rA | apply rN | apply rD)); exact HO427.out) (rE ho0) hb); have n4_ := Aside0.mk (rF (by (with_reducible repeat (first | apply rA | apply rN | apply rD)); exact HO431.out) (rE ho0) hb); have n5_ := Aside0.mk (Kd.R_lower (Kd.R_new' (Kd.R_new' (Kd.R_new' ho0 (Kd.R_lt (by (with_reducible repeat (first | apply rA | apply rN | apply rD)); exact HO423.out))) (Kd.R_lt (by (with_reducible repeat (first | apply rA | apply rN | apply rD)); exact HO427.out))) (Kd.R_lt (by (with_reducible repeat (first | apply rA | apply rN | apply rD)); exact HO431.out))) (below_size (by repeat (first | (with_reducible first | exact HB.out | apply bA | apply bN | apply bD) | exact HB.out)))); have n6_ := Aside0.mk (Kd.R_lower ho1 (below_size (by repeat (first | (with_reducible first | exact HB.out | apply bA | apply bN | apply bD) | exact HB.out)))); have n7_ := Aside0.mk (below_step (by repeat (first | (with_reducible first | exact HB.out | apply bA | apply bN | apply bD) | exact HB.out)) hb); clear HO_30; clear HO_32; clear HO423; clear HO427; clear HO431; clear HB; have HO_30 := n0_; have HO_32 := n1_; have HO423 := n2_; have HO427 := n3_; have HO431 := n4_; have HO435 := n5_; have HO437 := n6_; have HB := n7_; clear n0_ n1_ n2_ n3_ n4_ n5_ n6_ n7_; (try clear hb); (try clear hb2); (try clear hk); (try clear hi); (try clear ho0); (try clear ho1); obtain ⟨Ao116, co116, eo116⟩ := rS HO435.out; subst eo116; obtain ⟨Ao117, co117, eo117⟩ := rS HO437.out; subst eo117) | (go_at_call 36; (with_reducible refine (impl_ApplyOrder.calls k4 _ _ t432 _ _ t433 t438 t439 _ ?side1 ?side2 ?side3 ?side4 A108.out).mono ?_); (case side1 => repeat (first | exact (rR HO435.out).2.2 | (with_reducible first | refine cA ?_ _ | refine cN ?_ _ | refine cD ?_))); (case side2 => exact (rR HO435.out).2.1); (case side3 => repeat (first | exact (rR HO437.out).2.2 | (with_reducible first | refine cA ?_ _ | refine cN ?_ _ | refine cD ?_))); (case side4 => exact (rR HO437.out).2.1); rintro e w118 ⟨v440, rfl, ho0, hb⟩; have n0_ := Aside0.mk (Kd.S_below (by (with_reducible repeat (first | apply sA | apply sN | apply sD)); exact HO_30.out) hb); have n1_ := Aside0.mk (Kd.S_below (by (with_reducible repeat (first | apply sA | apply sN | apply sD)); exact HO_32.out) hb); have n2_ := Aside0.mk (rB (by (with_reducible repeat (first | apply rA | apply rN | apply rD)); exact HO423.out) hb); have n3_ := Aside0.mk (rB (by (with_reducible repeat (first | apply rA | apply rN | apply rD)); exact HO427.out) hb); have n4_ := Aside0.mk (rB (by (with_reducible repeat (first | apply rA | apply rN | apply rD)); exact HO431.out) hb); have n5_ := Aside0.mk (rB (by (with_reducible repeat (first | apply rA | apply rN | apply rD)); exact HO435.out) hb); have n6_ := Aside0.mk (rF (by (with_reducible repeat (first | apply rA | apply rN | apply rD)); exact HO437.out) (rE ho0) hb); have n7_ := Aside0.mk (Kd.R_lower (Kd.R_new' ho0 (Kd.R_lt (by (with_reducible repeat (first | apply rA | apply rN | apply rD)); exact HO437.out))) (below_size (by repeat (first | (with_reducible first | exact HB.out | apply bA | apply bN | apply bD) | exact HB.out)))); have n8_ := Aside0.mk (below_step (by repeat (first | (with_reducible first | exact HB.out | apply bA | apply bN | apply bD) | exact HB.out)) hb); clear HO_30; clear HO_32; clear HO423; clear HO427; clear HO431; clear HO435; clear HO437; clear HB; have HO_30 := n0_; have HO_32 := n1_; have HO423 := n2_; have HO427 := n3_; have HO431 := n4_; have HO435 := n5_; have HO437 := n6_; have HO441 := n7_; have HB := n8_; clear n0_ n1_ n2_ n3_ n4_ n5_ n6_ n7_ n8_; (try clear hb); (try clear hb2); (try clear hk); (try clear hi); (try clear ho0)) | (go_at_call 37; (with_reducible refine (spec_ApplyOrder.calls k4 _ _ t432 _ _ t433 t442 t443 _ ?side1 ?side2 ?side3 ?side4 A109.out).mono ?_); (case side1 => repeat (first | exact (rR HO435.out).2.2 | (with_reducible first | refine cA ?_ _ | refine cN ?_ _ | refine cD ?_))); (case side2 => exact (rR HO435.out).2.1); (case side3 => repeat (first | exact (rR HO437.out).2.2 | (with_reducible first | refine cA ?_ _ | refine cN ?_ _ | refine cD ?_))); (case side4 => exact (rR HO437.out).2.1); rintro e w119 ⟨v444, rfl, ho0, hb⟩; have n0_ := Aside0.mk (Kd.S_below (by (with_reducible repeat (first | apply sA | apply sN | apply sD)); exact HO_30.out) hb); have n1_ := Aside0.mk (Kd.S_below (by (with_reducible repeat (first | apply sA | apply sN | apply sD)); exact HO_32.out) hb); have n2_ := Aside0.mk (rB (by (with_reducible repeat (first | apply rA | apply rN | apply rD)); exact HO423.out) hb); have n3_ := Aside0.mk (rB (by (with_reducible repeat (first | apply rA | apply rN | apply rD)); exact HO427.out) hb); have n4_ := Aside0.mk (rB (by (with_reducible repeat (first | apply rA | apply rN | apply rD)); exact HO431.out) hb); have n5_ := Aside0.mk (rB (by (with_reducible repeat (first | apply rA | apply rN | apply rD)); exact HO435.out) hb); have n6_ := Aside0.mk (rF (by (with_reducible repeat (first | apply rA | apply rN | apply rD)); exact HO437.out) (rE ho0) hb); have n7_ := Aside0.mk (rF (by (with_reducible repeat (first | apply rA | apply rN | apply rD)); exact HO441.out) (rE ho0) hb); have n8_ := Aside0.mk (Kd.R_lower (Kd.R_new' (Kd.R_new' ho0 (Kd.R_lt (by (with_reducible repeat (first | apply rA | apply rN | apply rD)); exact HO437.out))) (Kd.R_lt (by (with_reducible repeat (first | apply rA | apply rN | apply rD)); exact HO441.out))) (below_size (by repeat (first | (with_reducible first | exact HB.out | apply bA | apply bN | apply bD) | exact HB.out)))); have n9_ := Aside0.mk (below_step (by repeat (first | (with_reducible first | exact HB.out | apply bA | apply bN | apply bD) | exact HB.out)) hb); clear HO_30; clear HO_32; clear HO423; clear HO427; clear HO431; clear HO435; clear HO437; clear HO441; clear HB; have HO_30 := n0_; have HO_32 := n1_; have HO423 := n2_; have HO427 := n3_; have HO431 := n4_; have HO435 := n5_; have HO437 := n6_; have HO441 := n7_; have HO445 := n8_; have HB := n9_; clear n0_ n1_ n2_ n3_ n4_ n5_ n6_ n7_ n8_ n9_; (try clear hb); (try clear hb2); (try clear hk); (try clear hi); (try clear ho0)))
             repeat (go_quiet (first | (go_at_call 33; (with_reducible refine (spec_DrawBackOrder.calls k4 _ _ l1 t421 _ ?side1 ?side2 A104.out).mono ?_); (case side1 => repeat (first | exact (Kd.C_below HR1.out HB.out) | (with_reducible first | refine cA ?_ _ | refine cN ?_ _ | refine cD ?_))); (case side2 => exact HC1.out); rintro e w111 ⟨v422, rfl, ho0, hb⟩; have n0_ := Aside0.mk (Kd.S_elder' (by (with_reducible repeat (first | apply sA | apply sN | apply sD)); exact HO_30.out) (rE ho0) hb); have n1_ := Aside0.mk (Kd.S_elder' (by (with_reducible repeat (first | apply sA | apply sN | apply sD)); exact HO_32.out) (rE ho0) hb); have n2_ := Aside0.mk (Kd.R_lower ho0 (below_size (by repeat (first | (with_reducible first | exact HB.out | apply bA | apply bN | apply bD) | exact HB.out)))); have n3_ := Aside0.mk (below_step (by repeat (first | (with_reducible first | exact HB.out | apply bA | apply bN | apply bD) | exact HB.out)) hb); clear HO_30; clear HO_32; clear HB; have HO_30 := n0_; have HO_32 := n1_; have HO423 := n2_; have HB := n3_; clear n0_ n1_ n2_ n3_; (try clear hb); (try clear hb2); (try clear hk); (try clear hi); (try clear ho0); obtain ⟨Ao112, co112, eo112⟩ := rS HO423.out; subst eo112) | (go_at_call 24; (with_reducible refine (impl_BackOrder.calls k4 _ _ t421 t424 t425 _ ?side1 ?side2 A105.out).mono ?_); (case side1 => repeat (first | exact (rR HO423.out).2.2 | (with_reducible first | refine cA ?_ _ | refine cN ?_ _ | refine cD ?_))); (case side2 => exact (rR HO423.out).2.1); rintro e w113 ⟨v426, rfl, ho0, hb⟩; have n0_ := Aside0.mk (Kd.S_elder' (by (with_reducible repeat (first | apply sA | apply sN | apply sD)); exact HO_30.out) (rE ho0) hb); have n1_ := Aside0.mk (Kd.S_elder' (by (with_reducible repeat (first | apply sA | apply sN | apply sD)); exact HO_32.out) (rE ho0) hb); have n2_ := Aside0.mk (rF (by (with_reducible repeat (first | apply rA | apply rN | apply rD)); exact HO423.out) (rE ho0) hb); have n3_ := Aside0.mk (Kd.R_lower (Kd.R_new' ho0 (Kd.R_lt (by (with_reducible repeat (first | apply rA | apply rN | apply rD)); exact HO423.out))) (below_size (by repeat (first | (with_reducible first | exact HB.out | apply bA | apply bN | apply bD) | exact HB.out)))); have n4_ := Aside0.mk (below_step (by repeat (first | (with_reducible first | exact HB.out | apply bA | apply bN | apply bD) | exact HB.out)) hb); clear HO_30; clear HO_32; clear HO423; clear HB; have HO_30 := n0_; have HO_32 := n1_; have HO423 := n2_; have HO427 := n3_; have HB := n4_; clear n0_ n1_ n2_ n3_ n4_; (try clear hb); (try clear hb2); (try clear hk); (try clear hi); (try clear ho0)) | (go_at_call 34; (with_reducible refine (spec_BackOrder.calls k4 _ _ t421 t428 t429 _ ?side1 ?side2 A106.out).mono ?_); (case side1 => repeat (first | exact (rR HO423.out).2.2 | (with_reducible first | refine cA ?_ _ | refine cN ?_ _ | refine cD ?_))); (case side2 => exact (rR HO423.out).2.1); rintro e w114 ⟨v430, rfl, ho0, hb⟩; have n0_ := Aside0.mk (Kd.S_elder' (by (with_reducible repeat (first | apply sA | apply sN | apply sD)); exact HO_30.out) (rE ho0) hb); have n1_ := Aside0.mk (Kd.S_elder' (by (with_reducible repeat (first | apply sA | apply sN | apply sD)); exact HO_32.out) (rE ho0) hb); have n2_ := Aside0.mk (rF (by (with_reducible repeat (first | apply rA | apply rN | apply rD)); exact HO423.out) (rE ho0) hb); have n3_ := Aside0.mk (rF (by (with_reducible repeat (first | apply rA | apply rN | apply rD)); exact HO427.out) (rE ho0) hb); have n4_ := Aside0.mk (Kd.R_lower (Kd.R_new' (Kd.R_new' ho0 (Kd.R_lt (by (with_reducible repeat (first | apply rA | apply rN | apply rD)); exact HO423.out))) (Kd.R_lt (by (with_reducible repeat (first | apply rA | apply rN | apply rD)); exact HO427.out))) (below_size (by repeat (first | (with_reducible first | exact HB.out | apply bA | apply bN | apply bD) | exact HB.out)))); have n5_ := Aside0.mk (below_step (by repeat (first | (with_reducible first | exact HB.out | apply bA | apply bN | apply bD) | exact HB.out)) hb); clear HO_30; clear HO_32; clear HO423; clear HO427; clear HB; have HO_30 := n0_; have HO_32 := n1_; have HO423 := n2_; have HO427 := n3_; have HO431 := n4_; have HB := n5_; clear n0_ n1_ n2_ n3_ n4_ n5_; (try clear hb); (try clear hb2); (try clear hk); (try clear hi); (try clear ho0)) | (go_at_call 35; (with_reducible refine (spec_DrawApplyOrder.calls k4 _ _ l1 t432 t433 _ ?side1 ?side2 A107.out).mono ?_); (case side1 => repeat (first | exact (Kd.C_below HR1.out HB.out) | (with_reducible first | refine cA ?_ _ | refine cN ?_ _ | refine cD ?_))); (case side2 => exact HC1.out); rintro e w115 ⟨v434, v436, rfl, ho0, ho1, hb⟩; have n0_ := Aside0.mk (Kd.S_elder' (by (with_reducible repeat (first | apply sA | apply sN | apply sD)); exact HO_30.out) (rE ho0) hb); have n1_ := Aside0.mk (Kd.S_elder' (by (with_reducible repeat (first | apply sA | apply sN | apply sD)); exact HO_32.out) (rE ho0) hb); have n2_ := Aside0.mk (rF (by (with_reducible repeat (first | apply rA | apply rN | apply rD)); exact HO423.out) (rE ho0) hb); have n3_ := Aside0.mk (rF (by (with_reducible repeat (first | apply rA | apply rN | apply rD)); exact HO427.out) (rE ho0) hb); have n4_ := Aside0.mk (rF (by (with_reducible repeat (first | apply rA | apply rN | apply rD)); exact HO431.out) (rE ho0) hb); have n5_ := Aside0.mk (Kd.R_lower (Kd.R_new' (Kd.R_new' (Kd.R_new' ho0 (Kd.R_lt (by (with_reducible repeat (first | apply rA | apply rN | apply rD)); exact HO423.out))) (Kd.R_lt (by (with_reducible repeat (first | apply rA | apply rN | apply rD)); exact HO427.out))) (Kd.R_lt (by (with_reducible repeat (first | apply rA | apply rN | apply rD)); exact HO431.out))) (below_size (by repeat (first | (with_reducible first | exact HB.out | apply bA | apply bN | apply bD) | exact HB.out)))); have n6_ := Aside0.mk (Kd.R_lower ho1 (below_size (by repeat (first | (with_reducible first | exact HB.out | apply bA | apply bN | apply bD) | exact HB.out)))); have n7_ := Aside0.mk (below_step (by repeat (first | (with_reducible first | exact HB.out | apply bA | apply bN | apply bD) | exact HB.out)) hb); clear HO_30; clear HO_32; clear HO423; clear HO427; clear HO431; clear HB; have HO_30 := n0_; have HO_32 := n1_; have HO423 := n2_; have HO427 := n3_; have HO431 := n4_; have HO435 := n5_; have HO437 := n6_; have HB := n7_; clear n0_ n1_ n2_ n3_ n4_ n5_ n6_ n7_; (try clear hb); (try clear hb2); (try clear hk); (try clear hi); (try clear ho0); (try clear ho1); obtain ⟨Ao116, co116, eo116⟩ := rS HO435.out; subst eo116; obtain ⟨Ao117, co117, eo117⟩ := rS HO437.out; subst eo117) | (go_at_call 36; (with_reducible refine (impl_ApplyOrder.calls k4 _ _ t432 _ _ t433 t438 t439 _ ?side1 ?side2 ?side3 ?side4 A108.out).mono ?_); (case side1 => repeat (first | exact (rR HO435.out).2.2 | (with_reducible first | refine cA ?_ _ | refine cN ?_ _ | refine cD ?_))); (case side2 => exact (rR HO435.out).2.1); (case side3 => repeat (first | exact (rR HO437.out).2.2 | (with_reducible first | refine cA ?_ _ | refine cN ?_ _ | refine cD ?_))); (case side4 => exact (rR HO437.out).2.1); rintro e w118 ⟨v440, rfl, ho0, hb⟩; have n0_ := Aside0.mk (Kd.S_below (by (with_reducible repeat (first | apply sA | apply sN | apply sD)); exact HO_30.out) hb); have n1_ := Aside0.mk (Kd.S_below (by (with_reducible repeat (first | apply sA | apply sN | apply sD)); exact HO_32.out) hb); have n2_ := Aside0.mk (rB (by (with_reducible repeat (first | apply rA | apply rN | apply rD)); exact HO423.out) hb); have n3_ := Aside0.mk (rB (by (with_reducible repeat (first | apply rA | apply rN | apply rD)); exact HO427.out) hb); have n4_ := Aside0.mk (rB (by (with_reducible repeat (first | apply rA | apply rN | apply rD)); exact HO431.out) hb); have n5_ := Aside0.mk (rB (by (with_reducible repeat (first | apply rA | apply rN | apply rD)); exact HO435.out) hb); have n6_ := Aside0.mk (rF (by (with_reducible repeat (first | apply rA | apply rN | apply rD)); exact HO437.out) (rE ho0) hb); have n7_ := Aside0.mk (Kd.R_lower (Kd.R_new' ho0 (Kd.R_lt (by (with_reducible repeat (first | apply rA | apply rN | apply rD)); exact HO437.out))) (below_size (by repeat (first | (with_reducible first | exact HB.out | apply bA | apply bN | apply bD) | exact HB.out)))); have n8_ := Aside0.mk (below_step (by repeat (first | (with_reducible first | exact HB.out | apply bA | apply bN | apply bD) | exact HB.out)) hb); clear HO_30; clear HO_32; clear HO423; clear HO427; clear HO431; clear HO435; clear HO437; clear HB; have HO_30 := n0_; have HO_32 := n1_; have HO423 := n2_; have HO427 := n3_; have HO431 := n4_; have HO435 := n5_; have HO437 := n6_; have HO441 := n7_; have HB := n8_; clear n0_ n1_ n2_ n3_ n4_ n5_ n6_ n7_ n8_; (try clear hb); (try clear hb2); (try clear hk); (try clear hi); (try clear ho0)) | (go_at_call 37; (with_reducible refine (spec_ApplyOrder.calls k4 _ _ t432 _ _ t433 t442 t443 _ ?side1 ?side2 ?side3 ?side4 A109.out).mono ?_); (case side1 => repeat (first | exact (rR HO435.out).2.2 | (with_reducible first | refine cA ?_ _ | refine cN ?_ _ | refine cD ?_))); (case side2 => exact (rR HO435.out).2.1); (case side3 => repeat (first | exact (rR HO437.out).2.2 | (with_reducible first | refine cA ?_ _ | refine cN ?_ _ | refine cD ?_))); (case side4 => exact (rR HO437.out).2.1); rintro e w119 ⟨v444, rfl, ho0, hb⟩; have n0_ := Aside0.mk (Kd.S_below (by (with_reducible repeat (first | apply sA | apply sN | apply sD)); exact HO_30.out) hb); have n1_ := Aside0.mk (Kd.S_below (by (with_reducible repeat (first | apply sA | apply sN | apply sD)); exact HO_32.out) hb); have n2_ := Aside0.mk (rB (by (with_reducible repeat (first | apply rA | apply rN | apply rD)); exact HO423.out) hb); have n3_ := Aside0.mk (rB (by (with_reducible repeat (first | apply rA | apply rN | apply rD)); exact HO427.out) hb); have n4_ := Aside0.mk (rB (by (with_reducible repeat (first | apply rA | apply rN | apply rD)); exact HO431.out) hb); have n5_ := Aside0.mk (rB (by (with_reducible repeat (first | apply rA | apply rN | apply rD)); exact HO435.out) hb); have n6_ := Aside0.mk (rF (by (with_reducible repeat (first | apply rA | apply rN | apply rD)); exact HO437.out) (rE ho0) hb); have n7_ := Aside0.mk (rF (by (with_reducible repeat (first | apply rA | apply rN | apply rD)); exact HO441.out) (rE ho0) hb); have n8_ := Aside0.mk (Kd.R_lower (Kd.R_new' (Kd.R_new' ho0 (Kd.R_lt (by (with_reducible repeat (first | apply rA | apply rN | apply rD)); exact HO437.out))) (Kd.R_lt (by (with_reducible repeat (first | apply rA | apply rN | apply rD)); exact HO441.out))) (below_size (by repeat (first | (with_reducible first | exact HB.out | apply bA | apply bN | apply bD) | exact HB.out)))); have n9_ := Aside0.mk (below_step (by repeat (first | (with_reducible first | exact HB.out | apply bA | apply bN | apply bD) | exact HB.out)) hb); clear HO_30; clear HO_32; clear HO423; clear HO427; clear HO431; clear HO435; clear HO437; clear HO441; clear HB; have HO_30 := n0_; have HO_32 := n1_; have HO423 := n2_; have HO427 := n3_; have HO431 := n4_; have HO435 := n5_; have HO437 := n6_; have HO441 := n7_; have HO445 := n8_; have HB := n9_; clear n0_ n1_ n2_ n3_ n4_ n5_ n6_ n7_ n8_ n9_; (try clear hb); (try clear hb2); (try clear hk); (try clear hi); (try clear ho0))); go_upto_region 52 with (first | (go_at_call 33; (with_reducible refine (spec_DrawBackOrder.calls k4 _ _ l1 t421 _ ?side1 ?side2 A104.out).mono ?_); (case side1 => repeat (first | exact (Kd.C_below HR1.out HB.out) | (with_reducible first | refine cA ?_ _ | refine cN ?_ _ | refine cD ?_))); (case side2 => exact HC1.out); rintro e w111 ⟨v422, rfl, ho0, hb⟩; have n0_ := Aside0.mk (Kd.S_elder' (by (with_reducible repeat (first | apply sA | apply sN | apply sD)); exact HO_30.out) (rE ho0) hb); have n1_ := Aside0.mk (Kd.S_elder' (by (with_reducible repeat (first | apply sA | apply sN | apply sD)); exact HO_32.out) (rE ho0) hb); have n2_ := Aside0.mk (Kd.R_lower ho0 (below_size (by repeat (first | (with_reducible first | exact HB.out | apply bA | apply bN | apply bD) | exact HB.out)))); have n3_ := Aside0.mk (below_step (by repeat (first | (with_reducible first | exact HB.out | apply bA | apply bN | apply bD) | exact HB.out)) hb); clear HO_30; clear HO_32; clear HB; have HO_30 := n0_; have HO_32 := n1_; have HO423 := n2_; have HB := n3_; clear n0_ n1_ n2_ n3_; (try clear hb); (try clear hb2); (try clear hk); (try clear hi); (try clear ho0); obtain ⟨Ao112, co112, eo112⟩ := rS HO423.out; subst eo112) | (go_at_call 24; (with_reducible refine (impl_BackOrder.calls k4 _ _ t421 t424 t425 _ ?side1 ?side2 A105.out).mono ?_); (case side1 => repeat (first | exact (rR HO423.out).2.2 | (with_reducible first | refine cA ?_ _ | refine cN ?_ _ | refine cD ?_))); (case side2 => exact (rR HO423.out).2.1); rintro e w113 ⟨v426, rfl, ho0, hb⟩; have n0_ := Aside0.mk (Kd.S_elder' (by (with_reducible repeat (first | apply sA | apply sN | apply sD)); exact HO_30.out) (rE ho0) hb); have n1_ := Aside0.mk (Kd.S_elder' (by (with_reducible repeat (first | apply sA | apply sN | apply sD)); exact HO_32.out) (rE ho0) hb); have n2_ := Aside0.mk (rF (by (with_reducible repeat (first | apply rA | apply rN | apply rD)); exact HO423.out) (rE ho0) hb); have n3_ := Aside0.mk (Kd.R_lower (Kd.R_new' ho0 (Kd.R_lt (by (with_reducible repeat (first | apply rA | apply rN | apply rD)); exact HO423.out))) (below_size (by repeat (first | (with_reducible first | exact HB.out | apply bA | apply bN | apply bD) | exact HB.out)))); have n4_ := Aside0.mk (below_step (by repeat (first | (with_reducible first | exact HB.out | apply bA | apply bN | apply bD) | exact HB.out)) hb); clear HO_30; clear HO_32; clear HO423; clear HB; have HO_30 := n0_; have HO_32 := n1_; have HO423 := n2_; have HO427 := n3_; have HB := n4_; clear n0_ n1_ n2_ n3_ n4_; (try clear hb); (try clear hb2); (try clear hk); (try clear hi); (try clear ho0)) | (go_at_call 34; (with_reducible refine (spec_BackOrder.calls k4 _ _ t421 t428 t429 _ ?side1 ?side2 A106.out).mono ?_); (case side1 => repeat (first | exact (rR HO423.out).2.2 | (with_reducible first | refine cA ?_ _ | refine cN ?_ _ | refine cD ?_))); (case side2 => exact (rR HO423.out).2.1); rintro e w114 ⟨v430, rfl, ho0, hb⟩; have n0_ := Aside0.mk (Kd.S_elder' (by (with_reducible repeat (first | apply sA | apply sN | apply sD)); exact HO_30.out) (rE ho0) hb); have n1_ := Aside0.mk (Kd.S_elder' (by (with_reducible repeat (first | apply sA | apply sN | apply sD)); exact HO_32.out) (rE ho0) hb); have n2_ := Aside0.mk (rF (by (with_reducible repeat (first | apply rA | apply rN | apply rD)); exact HO423.out) (rE ho0) hb); have n3_ := Aside0.mk (rF (by (with_reducible repeat (first | apply rA | apply rN | apply rD)); exact HO427.out) (rE ho0) hb); have n4_ := Aside0.mk (Kd.R_lower (Kd.R_new' (Kd.R_new' ho0 (Kd.R_lt (by (with_reducible repeat (first | apply rA | apply rN | apply rD)); exact HO423.out))) (Kd.R_lt (by (with_reducible repeat (first | apply rA | apply rN | apply rD)); exact HO427.out))) (below_size (by repeat (first | (with_reducible first | exact HB.out | apply bA | apply bN | apply bD) | exact HB.out)))); have n5_ := Aside0.mk (below_step (by repeat (first | (with_reducible first | exact HB.out | apply bA | apply bN | apply bD) | exact HB.out)) hb); clear HO_30; clear HO_32; clear HO423; clear HO427; clear HB; have HO_30 := n0_; have HO_32 := n1_; have HO423 := n2_; have HO427 := n3_; have HO431 := n4_; have HB := n5_; clear n0_ n1_ n2_ n3_ n4_ n5_; (try clear hb); (try clear hb2); (try clear hk); (try clear hi); (try clear ho0)) | (go_at_call 35; (with_reducible refine (spec_DrawApplyOrder.calls k4 _ _ l1 t432 t433 _ ?side1 ?side2 A107.out).mono ?_); (case side1 => repeat (first | exact (Kd.C_below HR1.out HB.out) | (with_reducible first | refine cA ?_ _ | refine cN ?_ _ | refine cD ?_))); (case side2 => exact HC1.out); rintro e w115 ⟨v434, v436, rfl, ho0, ho1, hb⟩; have n0_ := Aside0.mk (Kd.S_elder' (by (with_reducible repeat (first | apply sA | apply sN | apply sD)); exact HO_30.out) (rE ho0) hb); have n1_ := Aside0.mk (Kd.S_elder' (by (with_reducible repeat (first | apply sA | apply sN | apply sD)); exact HO_32.out) (rE ho0) hb); have n2_ := Aside0.mk (rF (by (with_reducible repeat (first | apply rA | apply rN | apply rD)); exact HO423.out) (rE ho0) hb); have n3_ := Aside0.mk (rF (by (with_reducible repeat (first | apply rA | apply rN | apply rD)); exact HO427.out) (rE ho0) hb); have n4_ := Aside0.mk (rF (by (with_reducible repeat (first | apply rA | apply rN | apply rD)); exact HO431.out) (rE ho0) hb); have n5_ := Aside0.mk (Kd.R_lower (Kd.R_new' (Kd.R_new' (Kd.R_new' ho0 (Kd.R_lt (by (with_reducible repeat (first | apply rA | apply rN | apply rD)); exact HO423.out))) (Kd.R_lt (by (with_reducible repeat (first | apply rA | apply rN | apply rD)); exact HO427.out))) (Kd.R_lt (by (with_reducible repeat (first | apply rA | apply rN | apply rD)); exact HO431.out))) (below_size (by repeat (first | (with_reducible first | exact HB.out | apply bA | apply bN | apply bD) | exact HB.out)))); have n6_ := Aside0.mk (Kd.R_lower ho1 (below_size (by repeat (first | (with_reducible first | exact HB.out | apply bA | apply bN | apply bD) | exact HB.out)))); have n7_ := Aside0.mk (below_step (by repeat (first | (with_reducible first | exact HB.out | apply bA | apply bN | apply bD) | exact HB.out)) hb); clear HO_30; clear HO_32; clear HO423; clear HO427; clear HO431; clear HB; have HO_30 := n0_; have HO_32 := n1_; have HO423 := n2_; have HO427 := n3_; have HO431 := n4_; have HO435 := n5_; have HO437 := n6_; have HB := n7_; clear n0_ n1_ n2_ n3_ n4_ n5_ n6_ n7_; (try clear hb); (try clear hb2); (try clear hk); (try clear hi); (try clear ho0); (try clear ho1); obtain ⟨Ao116, co116, eo116⟩ := rS HO435.out; subst eo116; obtain ⟨Ao117, co117, eo117⟩ := rS HO437.out; subst eo117) | (go_at_call 36; (with_reducible refine (impl_ApplyOrder.calls k4 _ _ t432 _ _ t433 t438 t439 _ ?side1 ?side2 ?side3 ?side4 A108.out).mono ?_); (case side1 => repeat (first | exact (rR HO435.out).2.2 | (with_reducible first | refine cA ?_ _ | refine cN ?_ _ | refine cD ?_))); (case side2 => exact (rR HO435.out).2.1); (case side3 => repeat (first | exact (rR HO437.out).2.2 | (with_reducible first | refine cA ?_ _ | refine cN ?_ _ | refine cD ?_))); (case side4 => exact (rR HO437.out).2.1); rintro e w118 ⟨v440, rfl, ho0, hb⟩; have n0_ := Aside0.mk (Kd.S_below (by (with_reducible repeat (first | apply sA | apply sN | apply sD)); exact HO_30.out) hb); have n1_ := Aside0.mk (Kd.S_below (by (with_reducible repeat (first | apply sA | apply sN | apply sD)); exact HO_32.out) hb); have n2_ := Aside0.mk (rB (by (with_reducible repeat (first | apply rA | apply rN | apply rD)); exact HO423.out) hb); have n3_ := Aside0.mk (rB (by (with_reducible repeat (first | apply rA | apply rN | apply rD)); exact HO427.out) hb); have n4_ := Aside0.mk (rB (by (with_reducible repeat (first | apply rA | apply rN | apply rD)); exact HO431.out) hb); have n5_ := Aside0.mk (rB (by (with_reducible repeat (first | apply rA | apply rN | apply rD)); exact HO435.out) hb); have n6_ := Aside0.mk (rF (by (with_reducible repeat (first | apply rA | apply rN | apply rD)); exact HO437.out) (rE ho0) hb); have n7_ := Aside0.mk (Kd.R_lower (Kd.R_new' ho0 (Kd.R_lt (by (with_reducible repeat (first | apply rA | apply rN | apply rD)); exact HO437.out))) (below_size (by repeat (first | (with_reducible first | exact HB.out | apply bA | apply bN | apply bD) | exact HB.out)))); have n8_ := Aside0.mk (below_step (by repeat (first | (with_reducible first | exact HB.out | apply bA | apply bN | apply bD) | exact HB.out)) hb); clear HO_30; clear HO_32; clear HO423; clear HO427; clear HO431; clear HO435; clear HO437; clear HB; have HO_30 := n0_; have HO_32 := n1_; have HO423 := n2_; have HO427 := n3_; have HO431 := n4_; have HO435 := n5_; have HO437 := n6_; have HO441 := n7_; have HB := n8_; clear n0_ n1_ n2_ n3_ n4_ n5_ n6_ n7_ n8_; (try clear hb); (try clear hb2); (try clear hk); (try clear hi); (try clear ho0)) | (go_at_call 37; (with_reducible refine (spec_ApplyOrder.calls k4 _ _ t432 _ _ t433 t442 t443 _ ?side1 ?side2 ?side3 ?side4 A109.out).mono ?_); (case side1 => repeat (first | exact (rR HO435.out).2.2 | (with_reducible first | refine cA ?_ _ | refine cN ?_ _ | refine cD ?_))); (case side2 => exact (rR HO435.out).2.1); (case side3 => repeat (first | exact (rR HO437.out).2.2 | (with_reducible first | refine cA ?_ _ | refine cN ?_ _ | refine cD ?_))); (case side4 => exact (rR HO437.out).2.1); rintro e w119 ⟨v444, rfl, ho0, hb⟩; have n0_ := Aside0.mk (Kd.S_below (by (with_reducible repeat (first | apply sA | apply sN | apply sD)); exact HO_30.out) hb); have n1_ := Aside0.mk (Kd.S_below (by (with_reducible repeat (first | apply sA | apply sN | apply sD)); exact HO_32.out) hb); have n2_ := Aside0.mk (rB (by (with_reducible repeat (first | apply rA | apply rN | apply rD)); exact HO423.out) hb); have n3_ := Aside0.mk (rB (by (with_reducible repeat (first | apply rA | apply rN | apply rD)); exact HO427.out) hb); have n4_ := Aside0.mk (rB (by (with_reducible repeat (first | apply rA | apply rN | apply rD)); exact HO431.out) hb); have n5_ := Aside0.mk (rB (by (with_reducible repeat (first | apply rA | apply rN | apply rD)); exact HO435.out) hb); have n6_ := Aside0.mk (rF (by (with_reducible repeat (first | apply rA | apply rN | apply rD)); exact HO437.out) (rE ho0) hb); have n7_ := Aside0.mk (rF (by (with_reducible repeat (first | apply rA | apply rN | apply rD)); exact HO441.out) (rE ho0) hb); have n8_ := Aside0.mk (Kd.R_lower (Kd.R_new' (Kd.R_new' ho0 (Kd.R_lt (by (with_reducible repeat (first | apply rA | apply rN | apply rD)); exact HO437.out))) (Kd.R_lt (by (with_reducible repeat (first | apply rA | apply rN | apply rD)); exact HO441.out))) (below_size (by repeat (first | (with_reducible first | exact HB.out | apply bA | apply bN | apply bD) | exact HB.out)))); have n9_ := Aside0.mk (below_step (by repeat (first | (with_reducible first | exact HB.out | apply bA | apply bN | apply bD) | exact HB.out)) hb); clear HO_30; clear HO_32; clear HO423; clear HO427; clear HO431; clear HO435; clear HO437; clear HO441; clear HB; have HO_30 := n0_; have HO_32 := n1_; have HO423 := n2_; have HO427 := n3_; have HO431 := n4_; have HO435 := n5_; have HO437 := n6_; have HO441 := n7_; have HO445 := n8_; have HB := n9_; clear n0_ n1_ n2_ n3_ n4_ n5_ n6_ n7_ n8_ n9_; (try clear hb); (try clear hb2); (try clear hk); (try clear hi); (try clear ho0))))
             (try simp only [Act.put, List.setIfInBounds_toArray, List.set_cons_zero, List.set_cons_succ])
             go_cut [324] from 99999 (fun v324 wc => ∃ (kq : Nat) (x324_109 : Bool), v324 = .bool x324_109 ∧ Aside0 (laws_FnCycles.j7 kq t432 t433 t438 t439 x324_109 = some r) ∧ Aside0 (kq ≤ k4) ∧ Aside0 (Kd.R (Kd.int .i64) 3 wc w.heap.size (fun _ => True) (.slice Ao116 t432.length co116) t432) ∧ Aside0 (Kd.R Kd.string 9 wc w.heap.size (fun k_ => some k_ ≠ (v440 : Value).ownBlock) (.slice Ao117 t433.length co117) t433) ∧ Aside0 (Kd.R Kd.string 9 wc w.heap.size (fun k_ => some k_ ≠ ((.slice Ao117 t433.length co117) : Value).ownBlock) v440 t438) ∧ Aside0 (Below w.heap.size w wc))
             case first =>
              have H := HC110.out
              clear HC110
              by_cases c120 : (t425 != t429) = true
              ·rw [if_pos c120] at H
               have c120b0 : (t425 != t429) = true := c120
               (try (have c120b1 : decide (t425 = t429) = false := by simpa using c120))
               (try (have c120b2 : (t425 == t429) = false := by simpa using c120))
               (try (have c120b3 : ¬ (t425 = t429) := by simpa using c120))
               clear c120
               (first | rw [c120b0] | (simp only [i64_w, i32_w]; rw [c120b0]) | skip)
               have H' := Aside0.mk H
               clear H
               go_wp2
               repeat (go_quiet (fail); try go_wp2)
               go_meet
               case rel => exact ⟨_, (true), (by first | rfl | (simp; done) | (simp [*]; done)), H', ⟨by have := HJ6.out; have := HJ17.out; have := HJ66.out; have := HK4.out; first | omega | exact Nat.le_refl _⟩, ⟨by (with_reducible repeat (first | apply rA | apply rN | apply rD)); exact rM HO435.out (fun _ hk => trivial)⟩, ⟨by (with_reducible repeat (first | apply rA | apply rN | apply rD)); exact rM HO437.out (fun _ hk => hk.1.2)⟩, ⟨by (with_reducible repeat (first | apply rA | apply rN | apply rD)); exact rM HO441.out (fun _ hk => hk.1.2)⟩, ⟨by repeat (first | (with_reducible first | exact HB.out | apply bA | apply bN | apply bD) | exact HB.out)⟩⟩
              ·rw [if_neg c120] at H
               have c120b0 : (t425 != t429) = false := by simpa using c120
               (try (have c120b1 : decide (t425 = t429) = true := by simpa using c120))
               (try (have c120b2 : (t425 == t429) = true := by simpa using c120))
               clear c120
               (first | rw [c120b0] | (simp only [i64_w, i32_w]; rw [c120b0]) | skip)
               replace H := oB H
               obtain ⟨t446, A1210, H⟩ := H
               replace H : (if t446 = true then (if (t439 != t443) = true then (laws_FnCycles.j7 k4 t432 t433 t438 t439 true) else ((laws_sameTexts.f k4 t438 t442).bind fun t447 => (laws_FnCycles.j7 k4 t432 t433 t438 t439 (!t447)))) else (laws_FnCycles.j7 k4 t432 t433 t438 t439 true)) = some r := H
               have A121 := Aside0.mk A1210
               clear A1210
               by_cases c122 : t446 = true
               ·subst c122
                have H1 : (if (t439 != t443) = true then (laws_FnCycles.j7 k4 t432 t433 t438 t439 true) else ((laws_sameTexts.f k4 t438 t442).bind fun t447 => (laws_FnCycles.j7 k4 t432 t433 t438 t439 (!t447)))) = some r := by rw [if_pos rfl] at H; exact H
                clear H
                have H := H1
                clear H1
                by_cases c123 : (t439 != t443) = true
                ·rw [if_pos c123] at H
                 have c123b0 : (t439 != t443) = true := c123
                 (try (have c123b1 : decide (t439 = t443) = false := by simpa using c123))
                 (try (have c123b2 : (t439 == t443) = false := by simpa using c123))
                 (try (have c123b3 : ¬ (t439 = t443) := by simpa using c123))
                 clear c123
                 have H' := Aside0.mk H
                 clear H
                 obtain ⟨Ao124, co124, eo124⟩ := rS HO427.out
                 subst eo124
                 obtain ⟨Ao125, co125, eo125⟩ := rS HO431.out
                 subst eo125
                 go_wp2_with (first | (go_at_call 10; (with_reducible refine (laws_sameInts.calls k4 _ _ t424 _ _ t428 true _ ?side1 ?side2 ?side3 ?side4 A121.out).mono ?_); (case side1 => repeat (first | exact (rR HO427.out).2.2 | (with_reducible first | refine cA ?_ _ | refine cN ?_ _ | refine cD ?_))); (case side2 => exact (rR HO427.out).2.1); (case side3 => repeat (first | exact (rR HO431.out).2.2 | (with_reducible first | refine cA ?_ _ | refine cN ?_ _ | refine cD ?_))); (case side4 => exact (rR HO431.out).2.1); rintro e w' ⟨rfl, ⟨nd, rfl⟩⟩; (try first | exact ⟨rfl, _, wN _ _ _⟩ | exact ⟨rfl, _, wM _ _ _ _⟩)))
                 repeat (go_quiet (first | (go_at_call 10; (with_reducible refine (laws_sameInts.calls k4 _ _ t424 _ _ t428 true _ ?side1 ?side2 ?side3 ?side4 A121.out).mono ?_); (case side1 => repeat (first | exact (rR HO427.out).2.2 | (with_reducible first | refine cA ?_ _ | refine cN ?_ _ | refine cD ?_))); (case side2 => exact (rR HO427.out).2.1); (case side3 => repeat (first | exact (rR HO431.out).2.2 | (with_reducible first | refine cA ?_ _ | refine cN ?_ _ | refine cD ?_))); (case side4 => exact (rR HO431.out).2.1); rintro e w' ⟨rfl, ⟨nd, rfl⟩⟩; (try first | exact ⟨rfl, _, wN _ _ _⟩ | exact ⟨rfl, _, wM _ _ _ _⟩))); try go_wp2_with (first | (go_at_call 10; (with_reducible refine (laws_sameInts.calls k4 _ _ t424 _ _ t428 true _ ?side1 ?side2 ?side3 ?side4 A121.out).mono ?_); (case side1 => repeat (first | exact (rR HO427.out).2.2 | (with_reducible first | refine cA ?_ _ | refine cN ?_ _ | refine cD ?_))); (case side2 => exact (rR HO427.out).2.1); (case side3 => repeat (first | exact (rR HO431.out).2.2 | (with_reducible first | refine cA ?_ _ | refine cN ?_ _ | refine cD ?_))); (case side4 => exact (rR HO431.out).2.1); rintro e w' ⟨rfl, ⟨nd, rfl⟩⟩; (try first | exact ⟨rfl, _, wN _ _ _⟩ | exact ⟨rfl, _, wM _ _ _ _⟩))))
                 go_meet
                 case rel => exact ⟨_, (true), (by first | rfl | (simp; done) | (simp [*]; done)), H', ⟨by have := HJ6.out; have := HJ17.out; have := HJ66.out; have := HK4.out; first | omega | exact Nat.le_refl _⟩, ⟨by (with_reducible repeat (first | apply rA | apply rN | apply rD)); exact rM HO435.out (fun _ hk => trivial)⟩, ⟨by (with_reducible repeat (first | apply rA | apply rN | apply rD)); exact rM HO437.out (fun _ hk => hk.1.2)⟩, ⟨by (with_reducible repeat (first | apply rA | apply rN | apply rD)); exact rM HO441.out (fun _ hk => hk.1.2)⟩, ⟨by repeat (first | (with_reducible first | exact HB.out | apply bA | apply bN | apply bD) | exact HB.out)⟩⟩
                ·rw [if_neg c123] at H
                 have c123b0 : (t439 != t443) = false := by simpa using c123
                 (try (have c123b1 : decide (t439 = t443) = true := by simpa using c123))
                 (try (have c123b2 : (t439 == t443) = true := by simpa using c123))
                 clear c123
                 replace H := oB H
                 obtain ⟨t447, A1260, H⟩ := H
                 replace H : (laws_FnCycles.j7 k4 t432 t433 t438 t439 (!t447)) = some r := H
                 have A126 := Aside0.mk A1260
                 clear A1260
                 have H' := Aside0.mk H
                 clear H
                 obtain ⟨Ao127, co127, eo127⟩ := rS HO427.out
                 subst eo127
                 obtain ⟨Ao128, co128, eo128⟩ := rS HO431.out
                 subst eo128
                 go_wp2_with (first | (go_at_call 10; (with_reducible refine (laws_sameInts.calls k4 _ _ t424 _ _ t428 true _ ?side1 ?side2 ?side3 ?side4 A121.out).mono ?_); (case side1 => repeat (first | exact (rR HO427.out).2.2 | (with_reducible first | refine cA ?_ _ | refine cN ?_ _ | refine cD ?_))); (case side2 => exact (rR HO427.out).2.1); (case side3 => repeat (first | exact (rR HO431.out).2.2 | (with_reducible first | refine cA ?_ _ | refine cN ?_ _ | refine cD ?_))); (case side4 => exact (rR HO431.out).2.1); rintro e w' ⟨rfl, ⟨nd, rfl⟩⟩; (try first | exact ⟨rfl, _, wN _ _ _⟩ | exact ⟨rfl, _, wM _ _ _ _⟩); obtain ⟨Ao129, co129, eo129⟩ := rS HO441.out; subst eo129; obtain ⟨Ao130, co130, eo130⟩ := rS HO445.out; subst eo130) | (go_at_call 20; (with_reducible refine (laws_sameTexts.calls k4 _ _ t438 _ _ t442 t447 _ ?side1 ?side2 ?side3 ?side4 A126.out).mono ?_); (case side1 => repeat (first | exact (rR HO441.out).2.2 | (with_reducible first | refine cA ?_ _ | refine cN ?_ _ | refine cD ?_))); (case side2 => exact (rR HO441.out).2.1); (case side3 => repeat (first | exact (rR HO445.out).2.2 | (with_reducible first | refine cA ?_ _ | refine cN ?_ _ | refine cD ?_))); (case side4 => exact (rR HO445.out).2.1); rintro e w' ⟨rfl, ⟨nd, rfl⟩⟩; (try first | exact ⟨rfl, _, wN _ _ _⟩ | exact ⟨rfl, _, wM _ _ _ _⟩)))
                 repeat (go_quiet (first | (go_at_call 10; (with_reducible refine (laws_sameInts.calls k4 _ _ t424 _ _ t428 true _ ?side1 ?side2 ?side3 ?side4 A121.out).mono ?_); (case side1 => repeat (first | exact (rR HO427.out).2.2 | (with_reducible first | refine cA ?_ _ | refine cN ?_ _ | refine cD ?_))); (case side2 => exact (rR HO427.out).2.1); (case side3 => repeat (first | exact (rR HO431.out).2.2 | (with_reducible first | refine cA ?_ _ | refine cN ?_ _ | refine cD ?_))); (case side4 => exact (rR HO431.out).2.1); rintro e w' ⟨rfl, ⟨nd, rfl⟩⟩; (try first | exact ⟨rfl, _, wN _ _ _⟩ | exact ⟨rfl, _, wM _ _ _ _⟩); obtain ⟨Ao129, co129, eo129⟩ := rS HO441.out; subst eo129; obtain ⟨Ao130, co130, eo130⟩ := rS HO445.out; subst eo130) | (go_at_call 20; (with_reducible refine (laws_sameTexts.calls k4 _ _ t438 _ _ t442 t447 _ ?side1 ?side2 ?side3 ?side4 A126.out).mono ?_); (case side1 => repeat (first | exact (rR HO441.out).2.2 | (with_reducible first | refine cA ?_ _ | refine cN ?_ _ | refine cD ?_))); (case side2 => exact (rR HO441.out).2.1); (case side3 => repeat (first | exact (rR HO445.out).2.2 | (with_reducible first | refine cA ?_ _ | refine cN ?_ _ | refine cD ?_))); (case side4 => exact (rR HO445.out).2.1); rintro e w' ⟨rfl, ⟨nd, rfl⟩⟩; (try first | exact ⟨rfl, _, wN _ _ _⟩ | exact ⟨rfl, _, wM _ _ _ _⟩))); try go_wp2_with (first | (go_at_call 10; (with_reducible refine (laws_sameInts.calls k4 _ _ t424 _ _ t428 true _ ?side1 ?side2 ?side3 ?side4 A121.out).mono ?_); (case side1 => repeat (first | exact (rR HO427.out).2.2 | (with_reducible first | refine cA ?_ _ | refine cN ?_ _ | refine cD ?_))); (case side2 => exact (rR HO427.out).2.1); (case side3 => repeat (first | exact (rR HO431.out).2.2 | (with_reducible first | refine cA ?_ _ | refine cN ?_ _ | refine cD ?_))); (case side4 => exact (rR HO431.out).2.1); rintro e w' ⟨rfl, ⟨nd, rfl⟩⟩; (try first | exact ⟨rfl, _, wN _ _ _⟩ | exact ⟨rfl, _, wM _ _ _ _⟩); obtain ⟨Ao129, co129, eo129⟩ := rS HO441.out; subst eo129; obtain ⟨Ao130, co130, eo130⟩ := rS HO445.out; subst eo130) | (go_at_call 20; (with_reducible refine (laws_sameTexts.calls k4 _ _ t438 _ _ t442 t447 _ ?side1 ?side2 ?side3 ?side4 A126.out).mono ?_); (case side1 => repeat (first | exact (rR HO441.out).2.2 | (with_reducible first | refine cA ?_ _ | refine cN ?_ _ | refine cD ?_))); (case side2 => exact (rR HO441.out).2.1); (case side3 => repeat (first | exact (rR HO445.out).2.2 | (with_reducible first | refine cA ?_ _ | refine cN ?_ _ | refine cD ?_))); (case side4 => exact (rR HO445.out).2.1); rintro e w' ⟨rfl, ⟨nd, rfl⟩⟩; (try first | exact ⟨rfl, _, wN _ _ _⟩ | exact ⟨rfl, _, wM _ _ _ _⟩))))
                 go_meet
                 case rel => exact ⟨_, (!t447), (by first | rfl | (simp; done) | (simp [*]; done)), H', ⟨by have := HJ6.out; have := HJ17.out; have := HJ66.out; have := HK4.out; first | omega | exact Nat.le_refl _⟩, ⟨by (with_reducible repeat (first | apply rA | apply rN | apply rD)); exact rM HO435.out (fun _ hk => trivial)⟩, ⟨by (with_reducible repeat (first | apply rA | apply rN | apply rD)); exact rM HO437.out (fun _ hk => hk.1.2)⟩, ⟨by (with_reducible repeat (first | apply rA | apply rN | apply rD)); exact rM HO441.out (fun _ hk => hk.1.2)⟩, ⟨by repeat (first | (with_reducible first | exact HB.out | apply bA | apply bN | apply bD) | exact HB.out)⟩⟩
               ·replace c122 := fB c122
                subst c122
                have H1 : (laws_FnCycles.j7 k4 t432 t433 t438 t439 true) = some r := by rw [if_neg (show ¬ (false = true) by decide)] at H; exact H
                clear H
                have H := H1
                clear H1
                have H' := Aside0.mk H
                clear H
                obtain ⟨Ao131, co131, eo131⟩ := rS HO427.out
                subst eo131
                obtain ⟨Ao132, co132, eo132⟩ := rS HO431.out
                subst eo132
                go_wp2_with (first | (go_at_call 10; (with_reducible refine (laws_sameInts.calls k4 _ _ t424 _ _ t428 false _ ?side1 ?side2 ?side3 ?side4 A121.out).mono ?_); (case side1 => repeat (first | exact (rR HO427.out).2.2 | (with_reducible first | refine cA ?_ _ | refine cN ?_ _ | refine cD ?_))); (case side2 => exact (rR HO427.out).2.1); (case side3 => repeat (first | exact (rR HO431.out).2.2 | (with_reducible first | refine cA ?_ _ | refine cN ?_ _ | refine cD ?_))); (case side4 => exact (rR HO431.out).2.1); rintro e w' ⟨rfl, ⟨nd, rfl⟩⟩; (try first | exact ⟨rfl, _, wN _ _ _⟩ | exact ⟨rfl, _, wM _ _ _ _⟩)))
                repeat (go_quiet (first | (go_at_call 10; (with_reducible refine (laws_sameInts.calls k4 _ _ t424 _ _ t428 false _ ?side1 ?side2 ?side3 ?side4 A121.out).mono ?_); (case side1 => repeat (first | exact (rR HO427.out).2.2 | (with_reducible first | refine cA ?_ _ | refine cN ?_ _ | refine cD ?_))); (case side2 => exact (rR HO427.out).2.1); (case side3 => repeat (first | exact (rR HO431.out).2.2 | (with_reducible first | refine cA ?_ _ | refine cN ?_ _ | refine cD ?_))); (case side4 => exact (rR HO431.out).2.1); rintro e w' ⟨rfl, ⟨nd, rfl⟩⟩; (try first | exact ⟨rfl, _, wN _ _ _⟩ | exact ⟨rfl, _, wM _ _ _ _⟩))); try go_wp2_with (first | (go_at_call 10; (with_reducible refine (laws_sameInts.calls k4 _ _ t424 _ _ t428 false _ ?side1 ?side2 ?side3 ?side4 A121.out).mono ?_); (case side1 => repeat (first | exact (rR HO427.out).2.2 | (with_reducible first | refine cA ?_ _ | refine cN ?_ _ | refine cD ?_))); (case side2 => exact (rR HO427.out).2.1); (case side3 => repeat (first | exact (rR HO431.out).2.2 | (with_reducible first | refine cA ?_ _ | refine cN ?_ _ | refine cD ?_))); (case side4 => exact (rR HO431.out).2.1); rintro e w' ⟨rfl, ⟨nd, rfl⟩⟩; (try first | exact ⟨rfl, _, wN _ _ _⟩ | exact ⟨rfl, _, wM _ _ _ _⟩))))
                go_meet
                case rel => exact ⟨_, (true), (by first | rfl | (simp; done) | (simp [*]; done)), H', ⟨by have := HJ6.out; have := HJ17.out; have := HJ66.out; have := HK4.out; first | omega | exact Nat.le_refl _⟩, ⟨by (with_reducible repeat (first | apply rA | apply rN | apply rD)); exact rM HO435.out (fun _ hk => trivial)⟩, ⟨by (with_reducible repeat (first | apply rA | apply rN | apply rD)); exact rM HO437.out (fun _ hk => hk.1.2)⟩, ⟨by (with_reducible repeat (first | apply rA | apply rN | apply rD)); exact rM HO441.out (fun _ hk => hk.1.2)⟩, ⟨by repeat (first | (with_reducible first | exact HB.out | apply bA | apply bN | apply bD) | exact HB.out)⟩⟩
             case rest =>
              clear HC110
              try clear c1
              try clear p2
              try clear c3
              try clear c3b0
              try clear p3
              try clear q3
              try clear hx3
              try clear c4
              try clear p4
              try clear q4
              try clear hx4
              try clear c5
              try clear p6
              try clear c7
              try clear c8
              try clear c9
              try clear c10
              try clear c12
              try clear c13
              try clear c13b0
              try clear c13b1
              try clear c13b2
              try clear c17
              try clear c19
              try clear c35
              try clear c36
              try clear c37
              try clear c38
              try clear c39
              try clear p39
              try clear q39
              try clear hx39
              try clear c40
              try clear c40b0
              try clear c40b1
              try clear c41
              try clear p41
              try clear q41
              try clear hx41
              try clear c42
              try clear c43
              try clear c48
              try clear c48b0
              try clear c50
              try clear c52
              try clear c52b0
              try clear c52b1
              try clear c52b2
              try clear c56
              try clear c56b0
              try clear c57
              try clear c57b0
              try clear c58
              try clear c58b0
              try clear c59
              try clear c59b0
              try clear c59b1
              try clear p64
              try clear c76
              try clear c76b0
              try clear c76b1
              try clear c76b2
              try clear c77
              try clear c77b0
              try clear c77b1
              try clear c77b2
              try clear c78
              try clear c78b0
              try clear c78b1
              try clear c78b2
              try clear c81
              try clear c81b0
              try clear c81b1
              try clear c82
              try clear c82b0
              try clear c82b1
              try clear c82b2
              try clear c85
              try clear c85b0
              try clear c85b1
              try clear c95
              try clear c97
              try clear c97b0
              try clear c98
              try clear c98b0
              try clear c99
              try clear c99b0
              try clear c100
              try clear c100b0
              try clear c102
              try clear c120
              try clear c120b0
              try clear c120b1
              try clear c120b2
              try clear c122
              try clear c123
              try clear c123b0
              try clear c123b1
              try clear c123b2
              try clear hx397_0
              try clear hx418_0
              try clear hx419_0
              try clear p2
              try clear p3
              try clear p39
              try clear p397
              try clear p418
              try clear p419
              try clear p6
              try clear p64
              try clear q3
              try clear q39
              try clear q397
              try clear q418
              try clear q419
              obtain ⟨kq, x324_109, rfl, HA, HJ109, HO_48, HO_49, HO_50, HB⟩ := hcut
              cases kq with
              | zero => exact absurd HA.out (by simp [laws_FnCycles.j7])
              | succ kj109 =>
               have H := HA.out
               clear HA
               simp only [laws_FnCycles.j7] at H
               by_cases c133 : x324_109 = true
               ·subst c133
                have H1 : (some false) = some r := by rw [if_pos rfl] at H; exact H
                clear H
                have H := H1
                clear H1
                obtain rfl := Option.some.inj H
                exact absurd hr_.out (by simp)
               ·replace c133 := fB c133
                subst c133
                have H1 : (if t439 = true then ((impl_BackOrder.f kj109 t432).bind fun bt448 => ((impl_ApplyOrder.f kj109 bt448.1 t438).bind fun bt452 => (if bt448.2 = true then (if bt452.2 = true then ((laws_sameTexts.f kj109 bt452.1 t433).bind fun t456 => (some t456)) else (some false)) else (some false)))) else (some true)) = some r := by rw [if_neg (show ¬ (false = true) by decide)] at H; exact H
                clear H
                have H := H1
                clear H1
                by_cases c134 : t439 = true
                ·subst c134
                 have H1 : ((impl_BackOrder.f kj109 t432).bind fun bt448 => ((impl_ApplyOrder.f kj109 bt448.1 t438).bind fun bt452 => (if bt448.2 = true then (if bt452.2 = true then ((laws_sameTexts.f kj109 bt452.1 t433).bind fun t456 => (some t456)) else (some false)) else (some false)))) = some r := by rw [if_pos rfl] at H; exact H
                 clear H
                 have H := H1
                 clear H1
                 replace H := oB H
                 obtain ⟨⟨t448, t449⟩, A1350, H⟩ := H
                 replace H : ((impl_ApplyOrder.f kj109 t448 t438).bind fun bt452 => (if t449 = true then (if bt452.2 = true then ((laws_sameTexts.f kj109 bt452.1 t433).bind fun t456 => (some t456)) else (some false)) else (some false))) = some r := H
                 have A135 := Aside0.mk A1350
                 clear A1350
                 replace H := oB H
                 obtain ⟨⟨t452, t453⟩, A1360, H⟩ := H
                 replace H : (if t449 = true then (if t453 = true then ((laws_sameTexts.f kj109 t452 t433).bind fun t456 => (some t456)) else (some false)) else (some false)) = some r := H
                 have A136 := Aside0.mk A1360
                 clear A1360
                 by_cases c137 : t449 = true
                 ·subst c137
                  have H1 : (if t453 = true then ((laws_sameTexts.f kj109 t452 t433).bind fun t456 => (some t456)) else (some false)) = some r := by rw [if_pos rfl] at H; exact H
                  clear H
                  have H := H1
                  clear H1
                  by_cases c138 : t453 = true
                  ·subst c138
                   have H1 : ((laws_sameTexts.f kj109 t452 t433).bind fun t456 => (some t456)) = some r := by rw [if_pos rfl] at H; exact H
                   clear H
                   have H := H1
                   clear H1
                   replace H := oB H
                   obtain ⟨t456, A1390, H⟩ := H
                   replace H : (some t456) = some r := H
                   have A139 := Aside0.mk A1390
                   clear A1390
                   obtain rfl := Option.some.inj H
                   simp only [Option.some.injEq, Prod.mk.injEq] at H
                   obtain ⟨rfl⟩ := H
                   go_wp2_with (first | (go_at_call 24; (with_reducible refine (impl_BackOrder.calls kj109 _ _ t432 t448 true _ ?side1 ?side2 A135.out).mono ?_); (case side1 => repeat (first | exact (rR HO_48.out).2.2 | (with_reducible first | refine cA ?_ _ | refine cN ?_ _ | refine cD ?_))); (case side2 => exact (rR HO_48.out).2.1); rintro e w140 ⟨v450, rfl, ho0, hb⟩; have n0_ := Aside0.mk (rF (by (with_reducible repeat (first | apply rA | apply rN | apply rD)); exact HO_48.out) (rE ho0) hb); have n1_ := Aside0.mk (rB (by (with_reducible repeat (first | apply rA | apply rN | apply rD)); exact HO_49.out) hb); have n2_ := Aside0.mk (rB (by (with_reducible repeat (first | apply rA | apply rN | apply rD)); exact HO_50.out) hb); have n3_ := Aside0.mk (Kd.R_lower (Kd.R_new' ho0 (Kd.R_lt (by (with_reducible repeat (first | apply rA | apply rN | apply rD)); exact HO_48.out))) (below_size (by repeat (first | (with_reducible first | exact HB.out | apply bA | apply bN | apply bD) | exact HB.out)))); have n4_ := Aside0.mk (below_step (by repeat (first | (with_reducible first | exact HB.out | apply bA | apply bN | apply bD) | exact HB.out)) hb); clear HO_48; clear HO_49; clear HO_50; clear HB; have HO_48 := n0_; have HO_49 := n1_; have HO_50 := n2_; have HO451 := n3_; have HB := n4_; clear n0_ n1_ n2_ n3_ n4_; (try clear hb); (try clear hb2); (try clear hk); (try clear hi); (try clear ho0); obtain ⟨Ao141, co141, eo141⟩ := rS HO451.out; subst eo141; obtain ⟨Ao142, co142, eo142⟩ := rS HO_50.out; subst eo142) | (go_at_call 36; (with_reducible refine (impl_ApplyOrder.calls kj109 _ _ t448 _ _ t438 t452 true _ ?side1 ?side2 ?side3 ?side4 A136.out).mono ?_); (case side1 => repeat (first | exact (rR HO451.out).2.2 | (with_reducible first | refine cA ?_ _ | refine cN ?_ _ | refine cD ?_))); (case side2 => exact (rR HO451.out).2.1); (case side3 => repeat (first | exact (rR HO_50.out).2.2 | (with_reducible first | refine cA ?_ _ | refine cN ?_ _ | refine cD ?_))); (case side4 => exact (rR HO_50.out).2.1); rintro e w143 ⟨v454, rfl, ho0, hb⟩; have n0_ := Aside0.mk (rB (by (with_reducible repeat (first | apply rA | apply rN | apply rD)); exact HO_48.out) hb); have n1_ := Aside0.mk (rF (by (with_reducible repeat (first | apply rA | apply rN | apply rD)); exact HO_49.out) (rE ho0) hb); have n2_ := Aside0.mk (rF (by (with_reducible repeat (first | apply rA | apply rN | apply rD)); exact HO_50.out) (rE ho0) hb); have n3_ := Aside0.mk (rB (by (with_reducible repeat (first | apply rA | apply rN | apply rD)); exact HO451.out) hb); have n4_ := Aside0.mk (Kd.R_lower (Kd.R_new' (Kd.R_new' ho0 (Kd.R_lt (by (with_reducible repeat (first | apply rA | apply rN | apply rD)); exact HO_49.out))) (Kd.R_lt (by (with_reducible repeat (first | apply rA | apply rN | apply rD)); exact HO_50.out))) (below_size (by repeat (first | (with_reducible first | exact HB.out | apply bA | apply bN | apply bD) | exact HB.out)))); have n5_ := Aside0.mk (below_step (by repeat (first | (with_reducible first | exact HB.out | apply bA | apply bN | apply bD) | exact HB.out)) hb); clear HO_48; clear HO_49; clear HO_50; clear HO451; clear HB; have HO_48 := n0_; have HO_49 := n1_; have HO_50 := n2_; have HO451 := n3_; have HO455 := n4_; have HB := n5_; clear n0_ n1_ n2_ n3_ n4_ n5_; (try clear hb); (try clear hb2); (try clear hk); (try clear hi); (try clear ho0); obtain ⟨Ao144, co144, eo144⟩ := rS HO455.out; subst eo144) | (go_at_call 20; (with_reducible refine (laws_sameTexts.calls kj109 _ _ t452 _ _ t433 t456 _ ?side1 ?side2 ?side3 ?side4 A139.out).mono ?_); (case side1 => repeat (first | exact (rR HO455.out).2.2 | (with_reducible first | refine cA ?_ _ | refine cN ?_ _ | refine cD ?_))); (case side2 => exact (rR HO455.out).2.1); (case side3 => repeat (first | exact (rR HO_49.out).2.2 | (with_reducible first | refine cA ?_ _ | refine cN ?_ _ | refine cD ?_))); (case side4 => exact (rR HO_49.out).2.1); rintro e w' ⟨rfl, ⟨nd, rfl⟩⟩; (try first | exact ⟨rfl, _, wN _ _ _⟩ | exact ⟨rfl, _, wM _ _ _ _⟩)))
                   repeat (go_quiet (first | (go_at_call 24; (with_reducible refine (impl_BackOrder.calls kj109 _ _ t432 t448 true _ ?side1 ?side2 A135.out).mono ?_); (case side1 => repeat (first | exact (rR HO_48.out).2.2 | (with_reducible first | refine cA ?_ _ | refine cN ?_ _ | refine cD ?_))); (case side2 => exact (rR HO_48.out).2.1); rintro e w140 ⟨v450, rfl, ho0, hb⟩; have n0_ := Aside0.mk (rF (by (with_reducible repeat (first | apply rA | apply rN | apply rD)); exact HO_48.out) (rE ho0) hb); have n1_ := Aside0.mk (rB (by (with_reducible repeat (first | apply rA | apply rN | apply rD)); exact HO_49.out) hb); have n2_ := Aside0.mk (rB (by (with_reducible repeat (first | apply rA | apply rN | apply rD)); exact HO_50.out) hb); have n3_ := Aside0.mk (Kd.R_lower (Kd.R_new' ho0 (Kd.R_lt (by (with_reducible repeat (first | apply rA | apply rN | apply rD)); exact HO_48.out))) (below_size (by repeat (first | (with_reducible first | exact HB.out | apply bA | apply bN | apply bD) | exact HB.out)))); have n4_ := Aside0.mk (below_step (by repeat (first | (with_reducible first | exact HB.out | apply bA | apply bN | apply bD) | exact HB.out)) hb); clear HO_48; clear HO_49; clear HO_50; clear HB; have HO_48 := n0_; have HO_49 := n1_; have HO_50 := n2_; have HO451 := n3_; have HB := n4_; clear n0_ n1_ n2_ n3_ n4_; (try clear hb); (try clear hb2); (try clear hk); (try clear hi); (try clear ho0); obtain ⟨Ao141, co141, eo141⟩ := rS HO451.out; subst eo141; obtain ⟨Ao142, co142, eo142⟩ := rS HO_50.out; subst eo142) | (go_at_call 36; (with_reducible refine (impl_ApplyOrder.calls kj109 _ _ t448 _ _ t438 t452 true _ ?side1 ?side2 ?side3 ?side4 A136.out).mono ?_); (case side1 => repeat (first | exact (rR HO451.out).2.2 | (with_reducible first | refine cA ?_ _ | refine cN ?_ _ | refine cD ?_))); (case side2 => exact (rR HO451.out).2.1); (case side3 => repeat (first | exact (rR HO_50.out).2.2 | (with_reducible first | refine cA ?_ _ | refine cN ?_ _ | refine cD ?_))); (case side4 => exact (rR HO_50.out).2.1); rintro e w143 ⟨v454, rfl, ho0, hb⟩; have n0_ := Aside0.mk (rB (by (with_reducible repeat (first | apply rA | apply rN | apply rD)); exact HO_48.out) hb); have n1_ := Aside0.mk (rF (by (with_reducible repeat (first | apply rA | apply rN | apply rD)); exact HO_49.out) (rE ho0) hb); have n2_ := Aside0.mk (rF (by (with_reducible repeat (first | apply rA | apply rN | apply rD)); exact HO_50.out) (rE ho0) hb); have n3_ := Aside0.mk (rB (by (with_reducible repeat (first | apply rA | apply rN | apply rD)); exact HO451.out) hb); have n4_ := Aside0.mk (Kd.R_lower (Kd.R_new' (Kd.R_new' ho0 (Kd.R_lt (by (with_reducible repeat (first | apply rA | apply rN | apply rD)); exact HO_49.out))) (Kd.R_lt (by (with_reducible repeat (first | apply rA | apply rN | apply rD)); exact HO_50.out))) (below_size (by repeat (first | (with_reducible first | exact HB.out | apply bA | apply bN | apply bD) | exact HB.out)))); have n5_ := Aside0.mk (below_step (by repeat (first | (with_reducible first | exact HB.out | apply bA | apply bN | apply bD) | exact HB.out)) hb); clear HO_48; clear HO_49; clear HO_50; clear HO451; clear HB; have HO_48 := n0_; have HO_49 := n1_; have HO_50 := n2_; have HO451 := n3_; have HO455 := n4_; have HB := n5_; clear n0_ n1_ n2_ n3_ n4_ n5_; (try clear hb); (try clear hb2); (try clear hk); (try clear hi); (try clear ho0); obtain ⟨Ao144, co144, eo144⟩ := rS HO455.out; subst eo144) | (go_at_call 20; (with_reducible refine (laws_sameTexts.calls kj109 _ _ t452 _ _ t433 t456 _ ?side1 ?side2 ?side3 ?side4 A139.out).mono ?_); (case side1 => repeat (first | exact (rR HO455.out).2.2 | (with_reducible first | refine cA ?_ _ | refine cN ?_ _ | refine cD ?_))); (case side2 => exact (rR HO455.out).2.1); (case side3 => repeat (first | exact (rR HO_49.out).2.2 | (with_reducible first | refine cA ?_ _ | refine cN ?_ _ | refine cD ?_))); (case side4 => exact (rR HO_49.out).2.1); rintro e w' ⟨rfl, ⟨nd, rfl⟩⟩; (try first | exact ⟨rfl, _, wN _ _ _⟩ | exact ⟨rfl, _, wM _ _ _ _⟩))); try go_wp2_with (first | (go_at_call 24; (with_reducible refine (impl_BackOrder.calls kj109 _ _ t432 t448 true _ ?side1 ?side2 A135.out).mono ?_); (case side1 => repeat (first | exact (rR HO_48.out).2.2 | (with_reducible first | refine cA ?_ _ | refine cN ?_ _ | refine cD ?_))); (case side2 => exact (rR HO_48.out).2.1); rintro e w140 ⟨v450, rfl, ho0, hb⟩; have n0_ := Aside0.mk (rF (by (with_reducible repeat (first | apply rA | apply rN | apply rD)); exact HO_48.out) (rE ho0) hb); have n1_ := Aside0.mk (rB (by (with_reducible repeat (first | apply rA | apply rN | apply rD)); exact HO_49.out) hb); have n2_ := Aside0.mk (rB (by (with_reducible repeat (first | apply rA | apply rN | apply rD)); exact HO_50.out) hb); have n3_ := Aside0.mk (Kd.R_lower (Kd.R_new' ho0 (Kd.R_lt (by (with_reducible repeat (first | apply rA | apply rN | apply rD)); exact HO_48.out))) (below_size (by repeat (first | (with_reducible first | exact HB.out | apply bA | apply bN | apply bD) | exact HB.out)))); have n4_ := Aside0.mk (below_step (by repeat (first | (with_reducible first | exact HB.out | apply bA | apply bN | apply bD) | exact HB.out)) hb); clear HO_48; clear HO_49; clear HO_50; clear HB; have HO_48 := n0_; have HO_49 := n1_; have HO_50 := n2_; have HO451 := n3_; have HB := n4_; clear n0_ n1_ n2_ n3_ n4_; (try clear hb); (try clear hb2); (try clear hk); (try clear hi); (try clear ho0); obtain ⟨Ao141, co141, eo141⟩ := rS HO451.out; subst eo141; obtain ⟨Ao142, co142, eo142⟩ := rS HO_50.out; subst eo142) | (go_at_call 36; (with_reducible refine (impl_ApplyOrder.calls kj109 _ _ t448 _ _ t438 t452 true _ ?side1 ?side2 ?side3 ?side4 A136.out).mono ?_); (case side1 => repeat (first | exact (rR HO451.out).2.2 | (with_reducible first | refine cA ?_ _ | refine cN ?_ _ | refine cD ?_))); (case side2 => exact (rR HO451.out).2.1); (case side3 => repeat (first | exact (rR HO_50.out).2.2 | (with_reducible first | refine cA ?_ _ | refine cN ?_ _ | refine cD ?_))); (case side4 => exact (rR HO_50.out).2.1); rintro e w143 ⟨v454, rfl, ho0, hb⟩; have n0_ := Aside0.mk (rB (by (with_reducible repeat (first | apply rA | apply rN | apply rD)); exact HO_48.out) hb); have n1_ := Aside0.mk (rF (by (with_reducible repeat (first | apply rA | apply rN | apply rD)); exact HO_49.out) (rE ho0) hb); have n2_ := Aside0.mk (rF (by (with_reducible repeat (first | apply rA | apply rN | apply rD)); exact HO_50.out) (rE ho0) hb); have n3_ := Aside0.mk (rB (by (with_reducible repeat (first | apply rA | apply rN | apply rD)); exact HO451.out) hb); have n4_ := Aside0.mk (Kd.R_lower (Kd.R_new' (Kd.R_new' ho0 (Kd.R_lt (by (with_reducible repeat (first | apply rA | apply rN | apply rD)); exact HO_49.out))) (Kd.R_lt (by (with_reducible repeat (first | apply rA | apply rN | apply rD)); exact HO_50.out))) (below_size (by repeat (first | (with_reducible first | exact HB.out | apply bA | apply bN | apply bD) | exact HB.out)))); have n5_ := Aside0.mk (below_step (by repeat (first | (with_reducible first | exact HB.out | apply bA | apply bN | apply bD) | exact HB.out)) hb); clear HO_48; clear HO_49; clear HO_50; clear HO451; clear HB; have HO_48 := n0_; have HO_49 := n1_; have HO_50 := n2_; have HO451 := n3_; have HO455 := n4_; have HB := n5_; clear n0_ n1_ n2_ n3_ n4_ n5_; (try clear hb); (try clear hb2); (try clear hk); (try clear hi); (try clear ho0); obtain ⟨Ao144, co144, eo144⟩ := rS HO455.out; subst eo144) | (go_at_call 20; (with_reducible refine (laws_sameTexts.calls kj109 _ _ t452 _ _ t433 t456 _ ?side1 ?side2 ?side3 ?side4 A139.out).mono ?_); (case side1 => repeat (first | exact (rR HO455.out).2.2 | (with_reducible first | refine cA ?_ _ | refine cN ?_ _ | refine cD ?_))); (case side2 => exact (rR HO455.out).2.1); (case side3 => repeat (first | exact (rR HO_49.out).2.2 | (with_reducible first | refine cA ?_ _ | refine cN ?_ _ | refine cD ?_))); (case side4 => exact (rR HO_49.out).2.1); rintro e w' ⟨rfl, ⟨nd, rfl⟩⟩; (try first | exact ⟨rfl, _, wN _ _ _⟩ | exact ⟨rfl, _, wM _ _ _ _⟩))))
                   go_ret
                   exact ⟨by first | rfl | (simp [errW_none, errW_some] <;> rfl) | (simp [*, errW_none, errW_some] <;> rfl), by repeat (first | (with_reducible first | exact HB.out | apply bA | apply bN | apply bD) | exact HB.out)⟩
                  ·replace c138 := fB c138
                   subst c138
                   have H1 : (some false) = some r := by rw [if_neg (show ¬ (false = true) by decide)] at H; exact H
                   clear H
                   have H := H1
                   clear H1
                   obtain rfl := Option.some.inj H
                   exact absurd hr_.out (by simp)
                 ·replace c137 := fB c137
                  subst c137
                  have H1 : (some false) = some r := by rw [if_neg (show ¬ (false = true) by decide)] at H; exact H
                  clear H
                  have H := H1
                  clear H1
                  obtain rfl := Option.some.inj H
                  exact absurd hr_.out (by simp)
                ·replace c134 := fB c134
                 subst c134
                 have H1 : (some true) = some r := by rw [if_neg (show ¬ (false = true) by decide)] at H; exact H
                 clear H
                 have H := H1
                 clear H1
                 obtain rfl := Option.some.inj H
                 simp only [Option.some.injEq, Prod.mk.injEq] at H
                 obtain ⟨rfl⟩ := H
                 go_wp2
                 repeat (go_quiet (fail); try go_wp2)
                 go_ret
                 exact ⟨by first | rfl | (simp [errW_none, errW_some] <;> rfl) | (simp [*, errW_none, errW_some] <;> rfl), by repeat (first | (with_reducible first | exact HB.out | apply bA | apply bN | apply bD) | exact HB.out)⟩

/-- THE ONE PURE STATEMENT of laws_FnCycles: yours. -/
def laws_FnCycles.Pure : Prop := ∀ (l0 : List Int) (l1 : List Int), l0.length ≤ maxLen → l0.length * 1 ≤ 140737488351232 → (∀ x ∈ l0, (Lit.int .u8 x).wf = true) → l1.length ≤ maxLen → l1.length * 1 ≤ 140737488351232 → (∀ x ∈ l1, (Lit.int .u8 x).wf = true) → ∃ k, laws_FnCycles.f k l0 l1 = some true
theorem laws_FnCycles.walk (P : laws_FnCycles.Pure) (a0 : Option Addr) (len0 cap0 : Nat) (z0 : List Int) (a1 : Option Addr) (len1 cap1 : Nat) (z1 : List Int) (w : World) (w0 : (a0 = none ∧ len0 = 0 ∧ cap0 = 0 ∧ z0 = []) ∨ ∃ x, a0 = some x ∧ len0 ≤ cap0 ∧ cap0 ≤ maxLen ∧ z0.length = cap0 ∧ (∀ i, i < z0.length → w.cell? (x.add i) = some (.int .u8 (z0.getD i 0))) ∧ ∀ n ∈ z0, (Lit.int .u8 n).wf = true) (y0 : len0 * 1 ≤ 140737488351232) (w1 : (a1 = none ∧ len1 = 0 ∧ cap1 = 0 ∧ z1 = []) ∨ ∃ x, a1 = some x ∧ len1 ≤ cap1 ∧ cap1 ≤ maxLen ∧ z1.length = cap1 ∧ (∀ i, i < z1.length → w.cell? (x.add i) = some (.int .u8 (z1.getD i 0))) ∧ ∀ n ∈ z1, (Lit.int .u8 n).wf = true) (y1 : len1 * 1 ≤ 140737488351232) :
  Calls Try.prog 4 #[.slice a0 len0 cap0, .slice a1 len1 cap1] w fun e w' => e = .returned (.bool true) ∧ Below w.heap.size w w' := by
 obtain ⟨l0, rfl, hr0, hm0, hw0, hc0⟩ := ReadsInt.ofRowC w0
 obtain ⟨l1, rfl, hr1, hm1, hw1, hc1⟩ := ReadsInt.ofRowC w1
 obtain ⟨k, h⟩ := P l0 l1 hm0 y0 hw0 hm1 y1 hw1
 refine (laws_FnCycles.calls k _ _ l0 _ _ l1 true w (Kd.C_of_reads (d := (0 : Int)) (h1 := fun _ => rfl) hr0) hc0 (Kd.C_of_reads (d := (0 : Int)) (h1 := fun _ => rfl) hr1) hc1 h ⟨rfl⟩).mono ?_
 rintro e w' ⟨rfl, hd⟩
 exact ⟨rfl, hd⟩

end Go.Proofs.Ytebpikejljgfgaa.PFnCycles
