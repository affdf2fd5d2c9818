-- Written by a program of this session, after the kit's print (changed in some places; see NOTES.md). Lean checks it.
import Derived.Test.YtdiehchbbhlfgaaPFnCoverx0
import Derived.Test.YtdiehchbbhlfgaaPFnCoverx2
import Derived.Test.YtdiehchbbhlfgaaPFnCoverx3
import Derived.Test.YtdiehchbbhlfgaaPFnCoverx5
import Derived.Test.YtdiehchbbhlfgaaPFnCoverx7
import Derived.Test.YtdiehchbbhlfgaaPFnCoverx8
import Derived.Test.YtdiehchbbhlfgaaPFnCoverx9
namespace Go.Proofs.Ytdiehchbbhlfgaa.PFnCover
open Go.RowKit Go.Proofs.YtdiehchbbhlfgaaW.PrintWords Go.Proofs.YtdiehchbbhlfgaaW.PrintLast Go.Proofs.YtdiehchbbhlfgaaW.PrintMore
attribute [local go_sem] max2_int min2_int max_two min_two max_three min_three max_four min_four Go.Proofs.Ytdiehchbbhlfgaa.Ownw.str_gtr Go.Proofs.Ytdiehchbbhlfgaa.Ownw.str_leq Go.Proofs.Ytdiehchbbhlfgaa.Ownw.str_geq   -- for this text's walks alone
set_option linter.unusedVariables false
set_option linter.unusedSimpArgs false
attribute [local go_sem high] eqA60
mutual
def laws_FnCover.j0 : Nat → List Int → Int → List (S60) → List (S57) → List ByteArray → List Bool → Bool → Bool → Option (Bool)
 | 0, _, _, _, _, _, _, _, _ => none
 | k + 1, x1, x5, x6, x7, x8, x9, x10, x88 => if x88 = true then (some false) else (if x10 = true then ((impl_EraseSays.f k x6).bind fun bt385 => ((impl_PlayCover.f k x5 bt385.1).bind fun bt389 => ((impl_TraceOf.f k x5 (bt385.1.length : Int)).bind fun bt399 => (if bt385.2 = true then (if bt389.2.2.2 = true then ((laws_sameTrace.f k bt389.1 x7).bind fun t403 => (if t403 = true then (if bt399.2 = true then ((laws_sameTrace.f k bt399.1 x7).bind fun t404 => (if t404 = true then (laws_FnCover.j1 k x1 x6 x8 x9 ((x8.length : Int) != (x7.length : Int))) else (laws_FnCover.j1 k x1 x6 x8 x9 true))) else (laws_FnCover.j1 k x1 x6 x8 x9 true)) else (laws_FnCover.j1 k x1 x6 x8 x9 true))) else (laws_FnCover.j1 k x1 x6 x8 x9 true)) else (laws_FnCover.j1 k x1 x6 x8 x9 true))))) else (laws_FnCover.j5 k x1))
def laws_FnCover.j5 : Nat → List Int → Option (Bool)
 | 0, _ => none
 | k + 1, x1 => (spec_DrawEraseSays.f k x1).bind fun t413 => ((impl_EraseSays.f k t413).bind fun bt416 => ((spec_EraseSays.f k t413).bind fun bt420 => ((spec_DrawTraceOf.f x1).bind fun bt424 => ((impl_TraceOf.f k bt424.1 bt424.2).bind fun bt426 => ((spec_TraceOf.f k bt424.1 bt424.2).bind fun bt430 => (if (bt416.2 != bt420.2) = true then (laws_FnCover.j6 k bt416.1 bt420.1 true) else (if (bt416.1.length : Int) = (bt420.1.length : Int) then (if (bt426.2 != bt430.2) = true then (laws_FnCover.j6 k bt416.1 bt420.1 true) else ((laws_sameTrace.f k bt426.1 bt430.1).bind fun t434 => (laws_FnCover.j6 k bt416.1 bt420.1 (!t434)))) else (laws_FnCover.j6 k bt416.1 bt420.1 true))))))))
def laws_FnCover.j6 : Nat → List (S60) → List (S60) → Bool → Option (Bool)
 | 0, _, _, _ => none
 | k + 1, x30, x32, x233 => if x233 = true then (some false) else (laws_FnCover.l2 k x30 x32 (x30.length : Int) 0)
def laws_FnCover.l2 : Nat → List (S60) → List (S60) → Int → Int → Option (Bool)
 | 0, _, _, _, _ => none
 | k + 1, x30, x32, x235, x236 => if x236 < x235 then (if 0 ≤ x236 then (if x236 < (x30.length : Int) then (if x236 < (x32.length : Int) then (if (!(((rd_T60 x30 x236).f0) == ((rd_T60 x32 x236).f0)) || (!((((rd_T60 x30 x236).f1).toList) == (((rd_T60 x32 x236).f1).toList)))) = true then (some false) else (laws_FnCover.l2 k x30 x32 x235 (wrap64 (x236 + 1)))) else (none)) else (none)) else (none)) else (some true)
def laws_FnCover.j1 : Nat → List Int → List (S60) → List ByteArray → List Bool → Bool → Option (Bool)
 | 0, _, _, _, _, _ => none
 | k + 1, x1, x6, x8, x9, x138 => if x138 = true then (some false) else (laws_FnCover.l0 k x1 x8 x9 ([] : List ByteArray) x6 (x6.length : Int) 0)
def laws_FnCover.l0 : Nat → List Int → List ByteArray → List Bool → List ByteArray → List (S60) → Int → Int → Option (Bool)
 | 0, _, _, _, _, _, _, _ => none
 | k + 1, x1, x8, x9, x23, x139, x140, x141 => if x141 < x140 then (if 0 ≤ x141 then (if x141 < (x139.length : Int) then (if x141 < (x9.length : Int) then (if rdOf false x9 x141 = true then (if ((rd_T60 x139 x141).f0) = 1 then (if x23.length < 8796093022208 then (laws_FnCover.l0 k x1 x8 x9 (x23 ++ [(rd_T60 x139 x141).f1]) x139 x140 (wrap64 (x141 + 1))) else (none)) else (laws_FnCover.l0 k x1 x8 x9 x23 x139 x140 (wrap64 (x141 + 1)))) else (laws_FnCover.l0 k x1 x8 x9 x23 x139 x140 (wrap64 (x141 + 1)))) else (none)) else (none)) else (none)) else (laws_FnCover.l1 k x1 x23 0 x8 (x8.length : Int) 0)
def laws_FnCover.l1 : Nat → List Int → List ByteArray → Int → List ByteArray → Int → Int → Option (Bool)
 | 0, _, _, _, _, _, _ => none
 | k + 1, x1, x23, x26, x161, x162, x163 => if x163 < x162 then (if 0 ≤ x163 then (if x163 < (x161.length : Int) then (if x26 < (x23.length : Int) then (if 0 ≤ x26 then (laws_FnCover.j4 k x1 x23 x26 (rdOf ByteArray.empty x161 x163) x161 x162 x163 ((rdOf ByteArray.empty x23 x26).toList == (rdOf ByteArray.empty x161 x163).toList)) else (none)) else (laws_FnCover.j4 k x1 x23 x26 (rdOf ByteArray.empty x161 x163) x161 x162 x163 false)) else (none)) else (none)) else (laws_FnCover.j5 k x1)
def laws_FnCover.j4 : Nat → List Int → List ByteArray → Int → ByteArray → List ByteArray → Int → Int → Bool → Option (Bool)
 | 0, _, _, _, _, _, _, _, _ => none
 | k + 1, x1, x23, x26, x28, x161, x162, x163, x178 => if x178 = true then (laws_FnCover.l1 k x1 x23 (wrap64 (x26 + 1)) x161 x162 (wrap64 (x163 + 1))) else (if x28.toList = ([] : List UInt8) then (laws_FnCover.l1 k x1 x23 x26 x161 x162 (wrap64 (x163 + 1))) else (some false))
end
def laws_FnCover.f (k : Nat) (l0 : List Int) (l1 : List Int) : Option (Bool) := if (wrap64 ((l0.length : Int) + (l1.length : Int))) > 1048576 then (some true) else ((spec_DrawPlayCover.f k l0).bind fun bt358 => ((impl_PlayCover.f k bt358.1 bt358.2).bind fun bt362 => ((spec_PlayCover.f k bt358.1 bt358.2).bind fun bt372 => (if (bt362.2.2.2 != bt372.2.2.2) = true then (laws_FnCover.j0 k l1 bt358.1 bt358.2 bt362.1 bt362.2.1 bt362.2.2.1 bt362.2.2.2 true) else ((laws_sameTrace.f k bt362.1 bt372.1).bind fun t382 => (if t382 = true then ((laws_sameTexts.f k bt362.2.1 bt372.2.1).bind fun t383 => (if t383 = true then ((laws_sameBools.f k bt362.2.2.1 bt372.2.2.1).bind fun t384 => (laws_FnCover.j0 k l1 bt358.1 bt358.2 bt362.1 bt362.2.1 bt362.2.2.1 bt362.2.2.2 (!t384))) else (laws_FnCover.j0 k l1 bt358.1 bt358.2 bt362.1 bt362.2.1 bt362.2.2.1 bt362.2.2.2 true))) else (laws_FnCover.j0 k l1 bt358.1 bt358.2 bt362.1 bt362.2.1 bt362.2.2.1 bt362.2.2.2 true)))))))
theorem laws_FnCover.mono_l : ∀ k, (∀ y0 y1 y2 y3 y4 y5 y6 y7, LeO (laws_FnCover.j0 k y0 y1 y2 y3 y4 y5 y6 y7) (laws_FnCover.j0 (k + 1) y0 y1 y2 y3 y4 y5 y6 y7)) ∧ (∀ y0, LeO (laws_FnCover.j5 k y0) (laws_FnCover.j5 (k + 1) y0)) ∧ (∀ y0 y1 y2, LeO (laws_FnCover.j6 k y0 y1 y2) (laws_FnCover.j6 (k + 1) y0 y1 y2)) ∧ (∀ y0 y1 y2 y3, LeO (laws_FnCover.l2 k y0 y1 y2 y3) (laws_FnCover.l2 (k + 1) y0 y1 y2 y3)) ∧ (∀ y0 y1 y2 y3 y4, LeO (laws_FnCover.j1 k y0 y1 y2 y3 y4) (laws_FnCover.j1 (k + 1) y0 y1 y2 y3 y4)) ∧ (∀ y0 y1 y2 y3 y4 y5 y6, LeO (laws_FnCover.l0 k y0 y1 y2 y3 y4 y5 y6) (laws_FnCover.l0 (k + 1) y0 y1 y2 y3 y4 y5 y6)) ∧ (∀ y0 y1 y2 y3 y4 y5, LeO (laws_FnCover.l1 k y0 y1 y2 y3 y4 y5) (laws_FnCover.l1 (k + 1) y0 y1 y2 y3 y4 y5)) ∧ (∀ y0 y1 y2 y3 y4 y5 y6 y7, LeO (laws_FnCover.j4 k y0 y1 y2 y3 y4 y5 y6 y7) (laws_FnCover.j4 (k + 1) y0 y1 y2 y3 y4 y5 y6 y7))
 | 0 => ⟨fun _ _ _ _ _ _ _ _ r h => by simp [laws_FnCover.j0] at h, fun _ r h => by simp [laws_FnCover.j5] at h, fun _ _ _ r h => by simp [laws_FnCover.j6] at h, fun _ _ _ _ r h => by simp [laws_FnCover.l2] at h, fun _ _ _ _ _ r h => by simp [laws_FnCover.j1] at h, fun _ _ _ _ _ _ _ r h => by simp [laws_FnCover.l0] at h, fun _ _ _ _ _ _ r h => by simp [laws_FnCover.l1] at h, fun _ _ _ _ _ _ _ _ r h => by simp [laws_FnCover.j4] at h⟩
 | k + 1 => by
  obtain ⟨ih0, ih1, ih2, ih3, ih4, ih5, ih6, ih7⟩ := laws_FnCover.mono_l k
  refine ⟨?_, ?_, ?_, ?_, ?_, ?_, ?_, ?_⟩
  ·intro y0 y1 y2 y3 y4 y5 y6 y7
   unfold laws_FnCover.j0
   repeat' first
   | (with_reducible exact ih0 _ _ _ _ _ _ _ _)
   | (with_reducible exact ih1 _)
   | (with_reducible exact ih2 _ _ _)
   | (with_reducible exact ih3 _ _ _ _)
   | (with_reducible exact ih4 _ _ _ _ _)
   | (with_reducible exact ih5 _ _ _ _ _ _ _)
   | (with_reducible exact ih6 _ _ _ _ _ _)
   | (with_reducible exact ih7 _ _ _ _ _ _ _ _)
   | (with_reducible exact impl_EraseSays.mono _ _)
   | (with_reducible exact impl_PlayCover.mono _ _ _)
   | (with_reducible exact impl_TraceOf.mono _ _ _)
   | (with_reducible exact laws_sameBools.mono _ _ _)
   | (with_reducible exact laws_sameTexts.mono _ _ _)
   | (with_reducible exact laws_sameTrace.mono _ _ _)
   | (with_reducible exact spec_DrawEraseSays.mono _ _)
   | (with_reducible exact spec_DrawPlayCover.mono _ _)
   | (with_reducible exact spec_EraseSays.mono _ _)
   | (with_reducible exact spec_PlayCover.mono _ _ _)
   | (with_reducible exact spec_TraceOf.mono _ _ _)
   | (with_reducible exact LeO.refl _)
   | (with_reducible exact LeO.none _)
   | (with_reducible refine LeO.ite ?_ ?_)
   | (with_reducible refine LeO.bind ?_ (fun _ => ?_))
   | exact ih0 _ _ _ _ _ _ _ _
   | exact ih1 _
   | exact ih2 _ _ _
   | exact ih3 _ _ _ _
   | exact ih4 _ _ _ _ _
   | exact ih5 _ _ _ _ _ _ _
   | exact ih6 _ _ _ _ _ _
   | exact ih7 _ _ _ _ _ _ _ _
   | exact impl_EraseSays.mono _ _
   | exact impl_PlayCover.mono _ _ _
   | exact impl_TraceOf.mono _ _ _
   | exact laws_sameBools.mono _ _ _
   | exact laws_sameTexts.mono _ _ _
   | exact laws_sameTrace.mono _ _ _
   | exact spec_DrawEraseSays.mono _ _
   | exact spec_DrawPlayCover.mono _ _
   | exact spec_EraseSays.mono _ _
   | exact spec_PlayCover.mono _ _ _
   | exact spec_TraceOf.mono _ _ _
   | exact LeO.none _
   | refine LeO.ite ?_ ?_
   | refine LeO.bind ?_ (fun _ => ?_)
  ·intro y0
   unfold laws_FnCover.j5
   repeat' first
   | (with_reducible exact ih0 _ _ _ _ _ _ _ _)
   | (with_reducible exact ih1 _)
   | (with_reducible exact ih2 _ _ _)
   | (with_reducible exact ih3 _ _ _ _)
   | (with_reducible exact ih4 _ _ _ _ _)
   | (with_reducible exact ih5 _ _ _ _ _ _ _)
   | (with_reducible exact ih6 _ _ _ _ _ _)
   | (with_reducible exact ih7 _ _ _ _ _ _ _ _)
   | (with_reducible exact impl_EraseSays.mono _ _)
   | (with_reducible exact impl_PlayCover.mono _ _ _)
   | (with_reducible exact impl_TraceOf.mono _ _ _)
   | (with_reducible exact laws_sameBools.mono _ _ _)
   | (with_reducible exact laws_sameTexts.mono _ _ _)
   | (with_reducible exact laws_sameTrace.mono _ _ _)
   | (with_reducible exact spec_DrawEraseSays.mono _ _)
   | (with_reducible exact spec_DrawPlayCover.mono _ _)
   | (with_reducible exact spec_EraseSays.mono _ _)
   | (with_reducible exact spec_PlayCover.mono _ _ _)
   | (with_reducible exact spec_TraceOf.mono _ _ _)
   | (with_reducible exact LeO.refl _)
   | (with_reducible exact LeO.none _)
   | (with_reducible refine LeO.ite ?_ ?_)
   | (with_reducible refine LeO.bind ?_ (fun _ => ?_))
   | exact ih0 _ _ _ _ _ _ _ _
   | exact ih1 _
   | exact ih2 _ _ _
   | exact ih3 _ _ _ _
   | exact ih4 _ _ _ _ _
   | exact ih5 _ _ _ _ _ _ _
   | exact ih6 _ _ _ _ _ _
   | exact ih7 _ _ _ _ _ _ _ _
   | exact impl_EraseSays.mono _ _
   | exact impl_PlayCover.mono _ _ _
   | exact impl_TraceOf.mono _ _ _
   | exact laws_sameBools.mono _ _ _
   | exact laws_sameTexts.mono _ _ _
   | exact laws_sameTrace.mono _ _ _
   | exact spec_DrawEraseSays.mono _ _
   | exact spec_DrawPlayCover.mono _ _
   | exact spec_EraseSays.mono _ _
   | exact spec_PlayCover.mono _ _ _
   | exact spec_TraceOf.mono _ _ _
   | exact LeO.none _
   | refine LeO.ite ?_ ?_
   | refine LeO.bind ?_ (fun _ => ?_)
  ·intro y0 y1 y2
   unfold laws_FnCover.j6
   repeat' first
   | (with_reducible exact ih0 _ _ _ _ _ _ _ _)
   | (with_reducible exact ih1 _)
   | (with_reducible exact ih2 _ _ _)
   | (with_reducible exact ih3 _ _ _ _)
   | (with_reducible exact ih4 _ _ _ _ _)
   | (with_reducible exact ih5 _ _ _ _ _ _ _)
   | (with_reducible exact ih6 _ _ _ _ _ _)
   | (with_reducible exact ih7 _ _ _ _ _ _ _ _)
   | (with_reducible exact impl_EraseSays.mono _ _)
   | (with_reducible exact impl_PlayCover.mono _ _ _)
   | (with_reducible exact impl_TraceOf.mono _ _ _)
   | (with_reducible exact laws_sameBools.mono _ _ _)
   | (with_reducible exact laws_sameTexts.mono _ _ _)
   | (with_reducible exact laws_sameTrace.mono _ _ _)
   | (with_reducible exact spec_DrawEraseSays.mono _ _)
   | (with_reducible exact spec_DrawPlayCover.mono _ _)
   | (with_reducible exact spec_EraseSays.mono _ _)
   | (with_reducible exact spec_PlayCover.mono _ _ _)
   | (with_reducible exact spec_TraceOf.mono _ _ _)
   | (with_reducible exact LeO.refl _)
   | (with_reducible exact LeO.none _)
   | (with_reducible refine LeO.ite ?_ ?_)
   | (with_reducible refine LeO.bind ?_ (fun _ => ?_))
   | exact ih0 _ _ _ _ _ _ _ _
   | exact ih1 _
   | exact ih2 _ _ _
   | exact ih3 _ _ _ _
   | exact ih4 _ _ _ _ _
   | exact ih5 _ _ _ _ _ _ _
   | exact ih6 _ _ _ _ _ _
   | exact ih7 _ _ _ _ _ _ _ _
   | exact impl_EraseSays.mono _ _
   | exact impl_PlayCover.mono _ _ _
   | exact impl_TraceOf.mono _ _ _
   | exact laws_sameBools.mono _ _ _
   | exact laws_sameTexts.mono _ _ _
   | exact laws_sameTrace.mono _ _ _
   | exact spec_DrawEraseSays.mono _ _
   | exact spec_DrawPlayCover.mono _ _
   | exact spec_EraseSays.mono _ _
   | exact spec_PlayCover.mono _ _ _
   | exact spec_TraceOf.mono _ _ _
   | exact LeO.none _
   | refine LeO.ite ?_ ?_
   | refine LeO.bind ?_ (fun _ => ?_)
  ·intro y0 y1 y2 y3
   unfold laws_FnCover.l2
   repeat' first
   | (with_reducible exact ih0 _ _ _ _ _ _ _ _)
   | (with_reducible exact ih1 _)
   | (with_reducible exact ih2 _ _ _)
   | (with_reducible exact ih3 _ _ _ _)
   | (with_reducible exact ih4 _ _ _ _ _)
   | (with_reducible exact ih5 _ _ _ _ _ _ _)
   | (with_reducible exact ih6 _ _ _ _ _ _)
   | (with_reducible exact ih7 _ _ _ _ _ _ _ _)
   | (with_reducible exact impl_EraseSays.mono _ _)
   | (with_reducible exact impl_PlayCover.mono _ _ _)
   | (with_reducible exact impl_TraceOf.mono _ _ _)
   | (with_reducible exact laws_sameBools.mono _ _ _)
   | (with_reducible exact laws_sameTexts.mono _ _ _)
   | (with_reducible exact laws_sameTrace.mono _ _ _)
   | (with_reducible exact spec_DrawEraseSays.mono _ _)
   | (with_reducible exact spec_DrawPlayCover.mono _ _)
   | (with_reducible exact spec_EraseSays.mono _ _)
   | (with_reducible exact spec_PlayCover.mono _ _ _)
   | (with_reducible exact spec_TraceOf.mono _ _ _)
   | (with_reducible exact LeO.refl _)
   | (with_reducible exact LeO.none _)
   | (with_reducible refine LeO.ite ?_ ?_)
   | (with_reducible refine LeO.bind ?_ (fun _ => ?_))
   | exact ih0 _ _ _ _ _ _ _ _
   | exact ih1 _
   | exact ih2 _ _ _
   | exact ih3 _ _ _ _
   | exact ih4 _ _ _ _ _
   | exact ih5 _ _ _ _ _ _ _
   | exact ih6 _ _ _ _ _ _
   | exact ih7 _ _ _ _ _ _ _ _
   | exact impl_EraseSays.mono _ _
   | exact impl_PlayCover.mono _ _ _
   | exact impl_TraceOf.mono _ _ _
   | exact laws_sameBools.mono _ _ _
   | exact laws_sameTexts.mono _ _ _
   | exact laws_sameTrace.mono _ _ _
   | exact spec_DrawEraseSays.mono _ _
   | exact spec_DrawPlayCover.mono _ _
   | exact spec_EraseSays.mono _ _
   | exact spec_PlayCover.mono _ _ _
   | exact spec_TraceOf.mono _ _ _
   | exact LeO.none _
   | refine LeO.ite ?_ ?_
   | refine LeO.bind ?_ (fun _ => ?_)
  ·intro y0 y1 y2 y3 y4
   unfold laws_FnCover.j1
   repeat' first
   | (with_reducible exact ih0 _ _ _ _ _ _ _ _)
   | (with_reducible exact ih1 _)
   | (with_reducible exact ih2 _ _ _)
   | (with_reducible exact ih3 _ _ _ _)
   | (with_reducible exact ih4 _ _ _ _ _)
   | (with_reducible exact ih5 _ _ _ _ _ _ _)
   | (with_reducible exact ih6 _ _ _ _ _ _)
   | (with_reducible exact ih7 _ _ _ _ _ _ _ _)
   | (with_reducible exact impl_EraseSays.mono _ _)
   | (with_reducible exact impl_PlayCover.mono _ _ _)
   | (with_reducible exact impl_TraceOf.mono _ _ _)
   | (with_reducible exact laws_sameBools.mono _ _ _)
   | (with_reducible exact laws_sameTexts.mono _ _ _)
   | (with_reducible exact laws_sameTrace.mono _ _ _)
   | (with_reducible exact spec_DrawEraseSays.mono _ _)
   | (with_reducible exact spec_DrawPlayCover.mono _ _)
   | (with_reducible exact spec_EraseSays.mono _ _)
   | (with_reducible exact spec_PlayCover.mono _ _ _)
   | (with_reducible exact spec_TraceOf.mono _ _ _)
   | (with_reducible exact LeO.refl _)
   | (with_reducible exact LeO.none _)
   | (with_reducible refine LeO.ite ?_ ?_)
   | (with_reducible refine LeO.bind ?_ (fun _ => ?_))
   | exact ih0 _ _ _ _ _ _ _ _
   | exact ih1 _
   | exact ih2 _ _ _
   | exact ih3 _ _ _ _
   | exact ih4 _ _ _ _ _
   | exact ih5 _ _ _ _ _ _ _
   | exact ih6 _ _ _ _ _ _
   | exact ih7 _ _ _ _ _ _ _ _
   | exact impl_EraseSays.mono _ _
   | exact impl_PlayCover.mono _ _ _
   | exact impl_TraceOf.mono _ _ _
   | exact laws_sameBools.mono _ _ _
   | exact laws_sameTexts.mono _ _ _
   | exact laws_sameTrace.mono _ _ _
   | exact spec_DrawEraseSays.mono _ _
   | exact spec_DrawPlayCover.mono _ _
   | exact spec_EraseSays.mono _ _
   | exact spec_PlayCover.mono _ _ _
   | exact spec_TraceOf.mono _ _ _
   | exact LeO.none _
   | refine LeO.ite ?_ ?_
   | refine LeO.bind ?_ (fun _ => ?_)
  ·intro y0 y1 y2 y3 y4 y5 y6
   unfold laws_FnCover.l0
   repeat' first
   | (with_reducible exact ih0 _ _ _ _ _ _ _ _)
   | (with_reducible exact ih1 _)
   | (with_reducible exact ih2 _ _ _)
   | (with_reducible exact ih3 _ _ _ _)
   | (with_reducible exact ih4 _ _ _ _ _)
   | (with_reducible exact ih5 _ _ _ _ _ _ _)
   | (with_reducible exact ih6 _ _ _ _ _ _)
   | (with_reducible exact ih7 _ _ _ _ _ _ _ _)
   | (with_reducible exact impl_EraseSays.mono _ _)
   | (with_reducible exact impl_PlayCover.mono _ _ _)
   | (with_reducible exact impl_TraceOf.mono _ _ _)
   | (with_reducible exact laws_sameBools.mono _ _ _)
   | (with_reducible exact laws_sameTexts.mono _ _ _)
   | (with_reducible exact laws_sameTrace.mono _ _ _)
   | (with_reducible exact spec_DrawEraseSays.mono _ _)
   | (with_reducible exact spec_DrawPlayCover.mono _ _)
   | (with_reducible exact spec_EraseSays.mono _ _)
   | (with_reducible exact spec_PlayCover.mono _ _ _)
   | (with_reducible exact spec_TraceOf.mono _ _ _)
   | (with_reducible exact LeO.refl _)
   | (with_reducible exact LeO.none _)
   | (with_reducible refine LeO.ite ?_ ?_)
   | (with_reducible refine LeO.bind ?_ (fun _ => ?_))
   | exact ih0 _ _ _ _ _ _ _ _
   | exact ih1 _
   | exact ih2 _ _ _
   | exact ih3 _ _ _ _
   | exact ih4 _ _ _ _ _
   | exact ih5 _ _ _ _ _ _ _
   | exact ih6 _ _ _ _ _ _
   | exact ih7 _ _ _ _ _ _ _ _
   | exact impl_EraseSays.mono _ _
   | exact impl_PlayCover.mono _ _ _
   | exact impl_TraceOf.mono _ _ _
   | exact laws_sameBools.mono _ _ _
   | exact laws_sameTexts.mono _ _ _
   | exact laws_sameTrace.mono _ _ _
   | exact spec_DrawEraseSays.mono _ _
   | exact spec_DrawPlayCover.mono _ _
   | exact spec_EraseSays.mono _ _
   | exact spec_PlayCover.mono _ _ _
   | exact spec_TraceOf.mono _ _ _
   | exact LeO.none _
   | refine LeO.ite ?_ ?_
   | refine LeO.bind ?_ (fun _ => ?_)
  ·intro y0 y1 y2 y3 y4 y5
   unfold laws_FnCover.l1
   repeat' first
   | (with_reducible exact ih0 _ _ _ _ _ _ _ _)
   | (with_reducible exact ih1 _)
   | (with_reducible exact ih2 _ _ _)
   | (with_reducible exact ih3 _ _ _ _)
   | (with_reducible exact ih4 _ _ _ _ _)
   | (with_reducible exact ih5 _ _ _ _ _ _ _)
   | (with_reducible exact ih6 _ _ _ _ _ _)
   | (with_reducible exact ih7 _ _ _ _ _ _ _ _)
   | (with_reducible exact impl_EraseSays.mono _ _)
   | (with_reducible exact impl_PlayCover.mono _ _ _)
   | (with_reducible exact impl_TraceOf.mono _ _ _)
   | (with_reducible exact laws_sameBools.mono _ _ _)
   | (with_reducible exact laws_sameTexts.mono _ _ _)
   | (with_reducible exact laws_sameTrace.mono _ _ _)
   | (with_reducible exact spec_DrawEraseSays.mono _ _)
   | (with_reducible exact spec_DrawPlayCover.mono _ _)
   | (with_reducible exact spec_EraseSays.mono _ _)
   | (with_reducible exact spec_PlayCover.mono _ _ _)
   | (with_reducible exact spec_TraceOf.mono _ _ _)
   | (with_reducible exact LeO.refl _)
   | (with_reducible exact LeO.none _)
   | (with_reducible refine LeO.ite ?_ ?_)
   | (with_reducible refine LeO.bind ?_ (fun _ => ?_))
   | exact ih0 _ _ _ _ _ _ _ _
   | exact ih1 _
   | exact ih2 _ _ _
   | exact ih3 _ _ _ _
   | exact ih4 _ _ _ _ _
   | exact ih5 _ _ _ _ _ _ _
   | exact ih6 _ _ _ _ _ _
   | exact ih7 _ _ _ _ _ _ _ _
   | exact impl_EraseSays.mono _ _
   | exact impl_PlayCover.mono _ _ _
   | exact impl_TraceOf.mono _ _ _
   | exact laws_sameBools.mono _ _ _
   | exact laws_sameTexts.mono _ _ _
   | exact laws_sameTrace.mono _ _ _
   | exact spec_DrawEraseSays.mono _ _
   | exact spec_DrawPlayCover.mono _ _
   | exact spec_EraseSays.mono _ _
   | exact spec_PlayCover.mono _ _ _
   | exact spec_TraceOf.mono _ _ _
   | exact LeO.none _
   | refine LeO.ite ?_ ?_
   | refine LeO.bind ?_ (fun _ => ?_)
  ·intro y0 y1 y2 y3 y4 y5 y6 y7
   unfold laws_FnCover.j4
   repeat' first
   | (with_reducible exact ih0 _ _ _ _ _ _ _ _)
   | (with_reducible exact ih1 _)
   | (with_reducible exact ih2 _ _ _)
   | (with_reducible exact ih3 _ _ _ _)
   | (with_reducible exact ih4 _ _ _ _ _)
   | (with_reducible exact ih5 _ _ _ _ _ _ _)
   | (with_reducible exact ih6 _ _ _ _ _ _)
   | (with_reducible exact ih7 _ _ _ _ _ _ _ _)
   | (with_reducible exact impl_EraseSays.mono _ _)
   | (with_reducible exact impl_PlayCover.mono _ _ _)
   | (with_reducible exact impl_TraceOf.mono _ _ _)
   | (with_reducible exact laws_sameBools.mono _ _ _)
   | (with_reducible exact laws_sameTexts.mono _ _ _)
   | (with_reducible exact laws_sameTrace.mono _ _ _)
   | (with_reducible exact spec_DrawEraseSays.mono _ _)
   | (with_reducible exact spec_DrawPlayCover.mono _ _)
   | (with_reducible exact spec_EraseSays.mono _ _)
   | (with_reducible exact spec_PlayCover.mono _ _ _)
   | (with_reducible exact spec_TraceOf.mono _ _ _)
   | (with_reducible exact LeO.refl _)
   | (with_reducible exact LeO.none _)
   | (with_reducible refine LeO.ite ?_ ?_)
   | (with_reducible refine LeO.bind ?_ (fun _ => ?_))
   | exact ih0 _ _ _ _ _ _ _ _
   | exact ih1 _
   | exact ih2 _ _ _
   | exact ih3 _ _ _ _
   | exact ih4 _ _ _ _ _
   | exact ih5 _ _ _ _ _ _ _
   | exact ih6 _ _ _ _ _ _
   | exact ih7 _ _ _ _ _ _ _ _
   | exact impl_EraseSays.mono _ _
   | exact impl_PlayCover.mono _ _ _
   | exact impl_TraceOf.mono _ _ _
   | exact laws_sameBools.mono _ _ _
   | exact laws_sameTexts.mono _ _ _
   | exact laws_sameTrace.mono _ _ _
   | exact spec_DrawEraseSays.mono _ _
   | exact spec_DrawPlayCover.mono _ _
   | exact spec_EraseSays.mono _ _
   | exact spec_PlayCover.mono _ _ _
   | exact spec_TraceOf.mono _ _ _
   | exact LeO.none _
   | refine LeO.ite ?_ ?_
   | refine LeO.bind ?_ (fun _ => ?_)
theorem laws_FnCover.mono : ∀ a0 a1 k, LeO (laws_FnCover.f k a0 a1) (laws_FnCover.f (k + 1) a0 a1) := by
 intro a0 a1 k
 obtain ⟨ih0, ih1, ih2, ih3, ih4, ih5, ih6, ih7⟩ := laws_FnCover.mono_l k
 unfold laws_FnCover.f
 repeat' first
   | (with_reducible exact ih0 _ _ _ _ _ _ _ _)
   | (with_reducible exact ih1 _)
   | (with_reducible exact ih2 _ _ _)
   | (with_reducible exact ih3 _ _ _ _)
   | (with_reducible exact ih4 _ _ _ _ _)
   | (with_reducible exact ih5 _ _ _ _ _ _ _)
   | (with_reducible exact ih6 _ _ _ _ _ _)
   | (with_reducible exact ih7 _ _ _ _ _ _ _ _)
   | (with_reducible exact impl_EraseSays.mono _ _)
   | (with_reducible exact impl_PlayCover.mono _ _ _)
   | (with_reducible exact impl_TraceOf.mono _ _ _)
   | (with_reducible exact laws_sameBools.mono _ _ _)
   | (with_reducible exact laws_sameTexts.mono _ _ _)
   | (with_reducible exact laws_sameTrace.mono _ _ _)
   | (with_reducible exact spec_DrawEraseSays.mono _ _)
   | (with_reducible exact spec_DrawPlayCover.mono _ _)
   | (with_reducible exact spec_EraseSays.mono _ _)
   | (with_reducible exact spec_PlayCover.mono _ _ _)
   | (with_reducible exact spec_TraceOf.mono _ _ _)
   | (with_reducible exact LeO.refl _)
   | (with_reducible exact LeO.none _)
   | (with_reducible refine LeO.ite ?_ ?_)
   | (with_reducible refine LeO.bind ?_ (fun _ => ?_))
   | exact ih0 _ _ _ _ _ _ _ _
   | exact ih1 _
   | exact ih2 _ _ _
   | exact ih3 _ _ _ _
   | exact ih4 _ _ _ _ _
   | exact ih5 _ _ _ _ _ _ _
   | exact ih6 _ _ _ _ _ _
   | exact ih7 _ _ _ _ _ _ _ _
   | exact impl_EraseSays.mono _ _
   | exact impl_PlayCover.mono _ _ _
   | exact impl_TraceOf.mono _ _ _
   | exact laws_sameBools.mono _ _ _
   | exact laws_sameTexts.mono _ _ _
   | exact laws_sameTrace.mono _ _ _
   | exact spec_DrawEraseSays.mono _ _
   | exact spec_DrawPlayCover.mono _ _
   | exact spec_EraseSays.mono _ _
   | exact spec_PlayCover.mono _ _ _
   | exact spec_TraceOf.mono _ _ _
   | exact LeO.none _
   | refine LeO.ite ?_ ?_
   | refine LeO.bind ?_ (fun _ => ?_)
set_option maxHeartbeats 8000000 in
set_option maxRecDepth 100000 in
theorem laws_FnCover.calls (k : Nat) (A0 : Option Addr) (c0 : Nat) (l0 : List Int) (A1 : Option Addr) (c1 : Nat) (l1 : List Int) (r : Bool) (w : World) (hr0 : Kd.C (Kd.int .u8) w A0 l0.length l0) (hc0 : l0.length ≤ c0) (hr1 : Kd.C (Kd.int .u8) w A1 l1.length l1) (hc1 : l1.length ≤ c1) (h : laws_FnCover.f k l0 l1 = some r) (hr_ : Aside0 (r = true)) :
  Calls Try.prog 11 #[.slice A0 l0.length c0, .slice A1 l1.length c1] w fun e w' => e = .returned (.bool r) ∧ Below w.heap.size w w' := by
 have hu60 := Try.underlying60
 have HR0 := Aside0.mk hr0
 have HC0 := Aside0.mk hc0
 clear hr0 hc0
 have HR1 := Aside0.mk hr1
 have HC1 := Aside0.mk hc1
 clear hr1 hc1
 have HB := Aside0.mk (Below.refl w.heap.size w)
 have H : (if (wrap64 ((l0.length : Int) + (l1.length : Int))) > 1048576 then (some true) else ((spec_DrawPlayCover.f k l0).bind fun bt358 => ((impl_PlayCover.f k bt358.1 bt358.2).bind fun bt362 => ((spec_PlayCover.f k bt358.1 bt358.2).bind fun bt372 => (if (bt362.2.2.2 != bt372.2.2.2) = true then (laws_FnCover.j0 k l1 bt358.1 bt358.2 bt362.1 bt362.2.1 bt362.2.2.1 bt362.2.2.2 true) else ((laws_sameTrace.f k bt362.1 bt372.1).bind fun t382 => (if t382 = true then ((laws_sameTexts.f k bt362.2.1 bt372.2.1).bind fun t383 => (if t383 = true then ((laws_sameBools.f k bt362.2.2.1 bt372.2.2.1).bind fun t384 => (laws_FnCover.j0 k l1 bt358.1 bt358.2 bt362.1 bt362.2.1 bt362.2.2.1 bt362.2.2.2 (!t384))) else (laws_FnCover.j0 k l1 bt358.1 bt358.2 bt362.1 bt362.2.1 bt362.2.2.1 bt362.2.2.2 true))) else (laws_FnCover.j0 k l1 bt358.1 bt358.2 bt362.1 bt362.2.1 bt362.2.2.1 bt362.2.2.2 true)))))))) = some r := h
 clear h
 by_cases c3 : (wrap64 ((l0.length : Int) + (l1.length : Int))) > 1048576
 ·rw [if_pos c3] at H
  have c3b0 : decide (1048576 < (wrap64 ((l0.length : Int) + (l1.length : Int)))) = true := decide_eq_true c3
  clear c3
  as_aux_lemma =>
   obtain rfl := Option.some.inj H
   simp only [Option.some.injEq, Prod.mk.injEq] at H
   obtain ⟨rfl⟩ := H
   go_enter Try.func11, Try.ntmps11
   go_wp2
   repeat (go_quiet (fail); try go_wp2)
   go_ret
   exact ⟨by first | rfl | (simp [errW_none, errW_some] <;> rfl) | (simp [*, errW_none, errW_some] <;> rfl), by repeat (first | (with_reducible first | exact HB.out | apply below_alloc | apply pw_below_drewN | apply below_drew1) | exact HB.out)⟩
 ·rw [if_neg c3] at H
  have c3b0 : decide (1048576 < (wrap64 ((l0.length : Int) + (l1.length : Int)))) = false := decide_eq_false c3
  clear c3
  replace H := Option.bind_eq_some_iff.mp H
  obtain ⟨⟨t358, t359⟩, A40, H⟩ := H
  replace H : ((impl_PlayCover.f k t358 t359).bind fun bt362 => ((spec_PlayCover.f k t358 t359).bind fun bt372 => (if (bt362.2.2.2 != bt372.2.2.2) = true then (laws_FnCover.j0 k l1 t358 t359 bt362.1 bt362.2.1 bt362.2.2.1 bt362.2.2.2 true) else ((laws_sameTrace.f k bt362.1 bt372.1).bind fun t382 => (if t382 = true then ((laws_sameTexts.f k bt362.2.1 bt372.2.1).bind fun t383 => (if t383 = true then ((laws_sameBools.f k bt362.2.2.1 bt372.2.2.1).bind fun t384 => (laws_FnCover.j0 k l1 t358 t359 bt362.1 bt362.2.1 bt362.2.2.1 bt362.2.2.2 (!t384))) else (laws_FnCover.j0 k l1 t358 t359 bt362.1 bt362.2.1 bt362.2.2.1 bt362.2.2.2 true))) else (laws_FnCover.j0 k l1 t358 t359 bt362.1 bt362.2.1 bt362.2.2.1 bt362.2.2.2 true)))))) = some r := H
  have A4 := Aside0.mk A40
  clear A40
  replace H := Option.bind_eq_some_iff.mp H
  obtain ⟨⟨t362, t363, t364, t365⟩, A50, H⟩ := H
  replace H : ((spec_PlayCover.f k t358 t359).bind fun bt372 => (if (t365 != bt372.2.2.2) = true then (laws_FnCover.j0 k l1 t358 t359 t362 t363 t364 t365 true) else ((laws_sameTrace.f k t362 bt372.1).bind fun t382 => (if t382 = true then ((laws_sameTexts.f k t363 bt372.2.1).bind fun t383 => (if t383 = true then ((laws_sameBools.f k t364 bt372.2.2.1).bind fun t384 => (laws_FnCover.j0 k l1 t358 t359 t362 t363 t364 t365 (!t384))) else (laws_FnCover.j0 k l1 t358 t359 t362 t363 t364 t365 true))) else (laws_FnCover.j0 k l1 t358 t359 t362 t363 t364 t365 true))))) = some r := H
  have A5 := Aside0.mk A50
  clear A50
  replace H := Option.bind_eq_some_iff.mp H
  obtain ⟨⟨t372, t373, t374, t375⟩, A60, H⟩ := H
  replace H : (if (t365 != t375) = true then (laws_FnCover.j0 k l1 t358 t359 t362 t363 t364 t365 true) else ((laws_sameTrace.f k t362 t372).bind fun t382 => (if t382 = true then ((laws_sameTexts.f k t363 t373).bind fun t383 => (if t383 = true then ((laws_sameBools.f k t364 t374).bind fun t384 => (laws_FnCover.j0 k l1 t358 t359 t362 t363 t364 t365 (!t384))) else (laws_FnCover.j0 k l1 t358 t359 t362 t363 t364 t365 true))) else (laws_FnCover.j0 k l1 t358 t359 t362 t363 t364 t365 true)))) = some r := H
  have A6 := Aside0.mk A60
  clear A60
  have HC7 := Aside0.mk H
  clear H
  go_enter Try.func11, Try.ntmps11
  go_upto_region 6 with (first | (go_at_call 52; (with_reducible refine (spec_DrawPlayCover.calls k _ _ l0 t358 t359 _ ?side1 ?side2 A4.out).mono ?_); (case side1 => repeat (first | exact HR0.out | (with_reducible refine Kd.C_alloc ?_ _) | (with_reducible refine Kd.C_drewN ?_ _) | (with_reducible refine Kd.C_drew ?_))); (case side2 => exact HC0.out); rintro e w8 ⟨v360, rfl, ho0, hb⟩; have n0_ := Aside0.mk (Kd.R_lower ho0 (below_size (by repeat (first | (with_reducible first | exact HB.out | apply below_alloc | apply pw_below_drewN | apply below_drew1) | exact HB.out)))); have n1_ := Aside0.mk (below_step (by repeat (first | (with_reducible first | exact HB.out | apply below_alloc | apply pw_below_drewN | apply below_drew1) | exact HB.out)) hb); clear HB; have HO361 := n0_; have HB := n1_; clear n0_ n1_; (try clear hb); (try clear hb2); (try clear hk); (try clear hi); (try clear ho0); obtain ⟨Ao9, co9, eo9⟩ := Kd.R_slice HO361.out; subst eo9) | (go_at_call 41; (with_reducible refine (impl_PlayCover.calls k t358 _ _ t359 t362 t363 t364 t365 _ ?side1 ?side2 A5.out).mono ?_); (case side1 => repeat (first | exact (Kd.R_reads' HO361.out).2.2 | (with_reducible refine Kd.C_alloc ?_ _) | (with_reducible refine Kd.C_drewN ?_ _) | (with_reducible refine Kd.C_drew ?_))); (case side2 => exact (Kd.R_reads' HO361.out).2.1); rintro e w10 ⟨v366, v368, v370, rfl, ho0, ho1, ho2, hb⟩; have n0_ := Aside0.mk (Kd.R_below (by (with_reducible repeat (first | apply Kd.R_alloc | apply Kd.R_drewN | apply Kd.R_drew)); exact HO361.out) hb); have n1_ := Aside0.mk (Kd.R_lower ho0 (below_size (by repeat (first | (with_reducible first | exact HB.out | apply below_alloc | apply pw_below_drewN | apply below_drew1) | exact HB.out)))); have n2_ := Aside0.mk (Kd.R_lower ho1 (below_size (by repeat (first | (with_reducible first | exact HB.out | apply below_alloc | apply pw_below_drewN | apply below_drew1) | exact HB.out)))); have n3_ := Aside0.mk (Kd.R_lower ho2 (below_size (by repeat (first | (with_reducible first | exact HB.out | apply below_alloc | apply pw_below_drewN | apply below_drew1) | exact HB.out)))); have n4_ := Aside0.mk (below_step (by repeat (first | (with_reducible first | exact HB.out | apply below_alloc | apply pw_below_drewN | apply below_drew1) | exact HB.out)) hb); clear HO361; clear HB; have HO361 := n0_; have HO367 := n1_; have HO369 := n2_; have HO371 := n3_; have HB := n4_; clear n0_ n1_ n2_ n3_ n4_; (try clear hb); (try clear hb2); (try clear hk); (try clear hi); (try clear ho0); (try clear ho1); (try clear ho2)) | (go_at_call 40; (with_reducible refine (spec_PlayCover.calls k t358 _ _ t359 t372 t373 t374 t375 _ ?side1 ?side2 A6.out).mono ?_); (case side1 => repeat (first | exact (Kd.R_reads' HO361.out).2.2 | (with_reducible refine Kd.C_alloc ?_ _) | (with_reducible refine Kd.C_drewN ?_ _) | (with_reducible refine Kd.C_drew ?_))); (case side2 => exact (Kd.R_reads' HO361.out).2.1); rintro e w11 ⟨v376, v378, v380, rfl, ho0, ho1, ho2, hb⟩; have n0_ := Aside0.mk (Kd.R_below (by (with_reducible repeat (first | apply Kd.R_alloc | apply Kd.R_drewN | apply Kd.R_drew)); exact HO361.out) hb); have n1_ := Aside0.mk (Kd.R_elder' (by (with_reducible repeat (first | apply Kd.R_alloc | apply Kd.R_drewN | apply Kd.R_drew)); exact HO367.out) (Kd.R_base ho0) hb); have n2_ := Aside0.mk (Kd.R_elder' (by (with_reducible repeat (first | apply Kd.R_alloc | apply Kd.R_drewN | apply Kd.R_drew)); exact HO369.out) (Kd.R_base ho1) hb); have n3_ := Aside0.mk (Kd.R_elder' (by (with_reducible repeat (first | apply Kd.R_alloc | apply Kd.R_drewN | apply Kd.R_drew)); exact HO371.out) (Kd.R_base ho2) hb); have n4_ := Aside0.mk (Kd.R_lower (Kd.R_new' ho0 (Kd.R_lt (by (with_reducible repeat (first | apply Kd.R_alloc | apply Kd.R_drewN | apply Kd.R_drew)); exact HO367.out))) (below_size (by repeat (first | (with_reducible first | exact HB.out | apply below_alloc | apply pw_below_drewN | apply below_drew1) | exact HB.out)))); have n5_ := Aside0.mk (Kd.R_lower (Kd.R_new' ho1 (Kd.R_lt (by (with_reducible repeat (first | apply Kd.R_alloc | apply Kd.R_drewN | apply Kd.R_drew)); exact HO369.out))) (below_size (by repeat (first | (with_reducible first | exact HB.out | apply below_alloc | apply pw_below_drewN | apply below_drew1) | exact HB.out)))); have n6_ := Aside0.mk (Kd.R_lower (Kd.R_new' ho2 (Kd.R_lt (by (with_reducible repeat (first | apply Kd.R_alloc | apply Kd.R_drewN | apply Kd.R_drew)); exact HO371.out))) (below_size (by repeat (first | (with_reducible first | exact HB.out | apply below_alloc | apply pw_below_drewN | apply below_drew1) | exact HB.out)))); have n7_ := Aside0.mk (below_step (by repeat (first | (with_reducible first | exact HB.out | apply below_alloc | apply pw_below_drewN | apply below_drew1) | exact HB.out)) hb); clear HO361; clear HO367; clear HO369; clear HO371; clear HB; have HO361 := n0_; have HO367 := n1_; have HO369 := n2_; have HO371 := n3_; have HO377 := n4_; have HO379 := n5_; have HO381 := n6_; have HB := n7_; clear n0_ n1_ n2_ n3_ n4_ n5_ n6_ n7_; (try clear hb); (try clear hb2); (try clear hk); (try clear hi); (try clear ho0); (try clear ho1); (try clear ho2)))
  repeat (go_quiet (first | (go_at_call 52; (with_reducible refine (spec_DrawPlayCover.calls k _ _ l0 t358 t359 _ ?side1 ?side2 A4.out).mono ?_); (case side1 => repeat (first | exact HR0.out | (with_reducible refine Kd.C_alloc ?_ _) | (with_reducible refine Kd.C_drewN ?_ _) | (with_reducible refine Kd.C_drew ?_))); (case side2 => exact HC0.out); rintro e w8 ⟨v360, rfl, ho0, hb⟩; have n0_ := Aside0.mk (Kd.R_lower ho0 (below_size (by repeat (first | (with_reducible first | exact HB.out | apply below_alloc | apply pw_below_drewN | apply below_drew1) | exact HB.out)))); have n1_ := Aside0.mk (below_step (by repeat (first | (with_reducible first | exact HB.out | apply below_alloc | apply pw_below_drewN | apply below_drew1) | exact HB.out)) hb); clear HB; have HO361 := n0_; have HB := n1_; clear n0_ n1_; (try clear hb); (try clear hb2); (try clear hk); (try clear hi); (try clear ho0); obtain ⟨Ao9, co9, eo9⟩ := Kd.R_slice HO361.out; subst eo9) | (go_at_call 41; (with_reducible refine (impl_PlayCover.calls k t358 _ _ t359 t362 t363 t364 t365 _ ?side1 ?side2 A5.out).mono ?_); (case side1 => repeat (first | exact (Kd.R_reads' HO361.out).2.2 | (with_reducible refine Kd.C_alloc ?_ _) | (with_reducible refine Kd.C_drewN ?_ _) | (with_reducible refine Kd.C_drew ?_))); (case side2 => exact (Kd.R_reads' HO361.out).2.1); rintro e w10 ⟨v366, v368, v370, rfl, ho0, ho1, ho2, hb⟩; have n0_ := Aside0.mk (Kd.R_below (by (with_reducible repeat (first | apply Kd.R_alloc | apply Kd.R_drewN | apply Kd.R_drew)); exact HO361.out) hb); have n1_ := Aside0.mk (Kd.R_lower ho0 (below_size (by repeat (first | (with_reducible first | exact HB.out | apply below_alloc | apply pw_below_drewN | apply below_drew1) | exact HB.out)))); have n2_ := Aside0.mk (Kd.R_lower ho1 (below_size (by repeat (first | (with_reducible first | exact HB.out | apply below_alloc | apply pw_below_drewN | apply below_drew1) | exact HB.out)))); have n3_ := Aside0.mk (Kd.R_lower ho2 (below_size (by repeat (first | (with_reducible first | exact HB.out | apply below_alloc | apply pw_below_drewN | apply below_drew1) | exact HB.out)))); have n4_ := Aside0.mk (below_step (by repeat (first | (with_reducible first | exact HB.out | apply below_alloc | apply pw_below_drewN | apply below_drew1) | exact HB.out)) hb); clear HO361; clear HB; have HO361 := n0_; have HO367 := n1_; have HO369 := n2_; have HO371 := n3_; have HB := n4_; clear n0_ n1_ n2_ n3_ n4_; (try clear hb); (try clear hb2); (try clear hk); (try clear hi); (try clear ho0); (try clear ho1); (try clear ho2)) | (go_at_call 40; (with_reducible refine (spec_PlayCover.calls k t358 _ _ t359 t372 t373 t374 t375 _ ?side1 ?side2 A6.out).mono ?_); (case side1 => repeat (first | exact (Kd.R_reads' HO361.out).2.2 | (with_reducible refine Kd.C_alloc ?_ _) | (with_reducible refine Kd.C_drewN ?_ _) | (with_reducible refine Kd.C_drew ?_))); (case side2 => exact (Kd.R_reads' HO361.out).2.1); rintro e w11 ⟨v376, v378, v380, rfl, ho0, ho1, ho2, hb⟩; have n0_ := Aside0.mk (Kd.R_below (by (with_reducible repeat (first | apply Kd.R_alloc | apply Kd.R_drewN | apply Kd.R_drew)); exact HO361.out) hb); have n1_ := Aside0.mk (Kd.R_elder' (by (with_reducible repeat (first | apply Kd.R_alloc | apply Kd.R_drewN | apply Kd.R_drew)); exact HO367.out) (Kd.R_base ho0) hb); have n2_ := Aside0.mk (Kd.R_elder' (by (with_reducible repeat (first | apply Kd.R_alloc | apply Kd.R_drewN | apply Kd.R_drew)); exact HO369.out) (Kd.R_base ho1) hb); have n3_ := Aside0.mk (Kd.R_elder' (by (with_reducible repeat (first | apply Kd.R_alloc | apply Kd.R_drewN | apply Kd.R_drew)); exact HO371.out) (Kd.R_base ho2) hb); have n4_ := Aside0.mk (Kd.R_lower (Kd.R_new' ho0 (Kd.R_lt (by (with_reducible repeat (first | apply Kd.R_alloc | apply Kd.R_drewN | apply Kd.R_drew)); exact HO367.out))) (below_size (by repeat (first | (with_reducible first | exact HB.out | apply below_alloc | apply pw_below_drewN | apply below_drew1) | exact HB.out)))); have n5_ := Aside0.mk (Kd.R_lower (Kd.R_new' ho1 (Kd.R_lt (by (with_reducible repeat (first | apply Kd.R_alloc | apply Kd.R_drewN | apply Kd.R_drew)); exact HO369.out))) (below_size (by repeat (first | (with_reducible first | exact HB.out | apply below_alloc | apply pw_below_drewN | apply below_drew1) | exact HB.out)))); have n6_ := Aside0.mk (Kd.R_lower (Kd.R_new' ho2 (Kd.R_lt (by (with_reducible repeat (first | apply Kd.R_alloc | apply Kd.R_drewN | apply Kd.R_drew)); exact HO371.out))) (below_size (by repeat (first | (with_reducible first | exact HB.out | apply below_alloc | apply pw_below_drewN | apply below_drew1) | exact HB.out)))); have n7_ := Aside0.mk (below_step (by repeat (first | (with_reducible first | exact HB.out | apply below_alloc | apply pw_below_drewN | apply below_drew1) | exact HB.out)) hb); clear HO361; clear HO367; clear HO369; clear HO371; clear HB; have HO361 := n0_; have HO367 := n1_; have HO369 := n2_; have HO371 := n3_; have HO377 := n4_; have HO379 := n5_; have HO381 := n6_; have HB := n7_; clear n0_ n1_ n2_ n3_ n4_ n5_ n6_ n7_; (try clear hb); (try clear hb2); (try clear hk); (try clear hi); (try clear ho0); (try clear ho1); (try clear ho2))); go_upto_region 6 with (first | (go_at_call 52; (with_reducible refine (spec_DrawPlayCover.calls k _ _ l0 t358 t359 _ ?side1 ?side2 A4.out).mono ?_); (case side1 => repeat (first | exact HR0.out | (with_reducible refine Kd.C_alloc ?_ _) | (with_reducible refine Kd.C_drewN ?_ _) | (with_reducible refine Kd.C_drew ?_))); (case side2 => exact HC0.out); rintro e w8 ⟨v360, rfl, ho0, hb⟩; have n0_ := Aside0.mk (Kd.R_lower ho0 (below_size (by repeat (first | (with_reducible first | exact HB.out | apply below_alloc | apply pw_below_drewN | apply below_drew1) | exact HB.out)))); have n1_ := Aside0.mk (below_step (by repeat (first | (with_reducible first | exact HB.out | apply below_alloc | apply pw_below_drewN | apply below_drew1) | exact HB.out)) hb); clear HB; have HO361 := n0_; have HB := n1_; clear n0_ n1_; (try clear hb); (try clear hb2); (try clear hk); (try clear hi); (try clear ho0); obtain ⟨Ao9, co9, eo9⟩ := Kd.R_slice HO361.out; subst eo9) | (go_at_call 41; (with_reducible refine (impl_PlayCover.calls k t358 _ _ t359 t362 t363 t364 t365 _ ?side1 ?side2 A5.out).mono ?_); (case side1 => repeat (first | exact (Kd.R_reads' HO361.out).2.2 | (with_reducible refine Kd.C_alloc ?_ _) | (with_reducible refine Kd.C_drewN ?_ _) | (with_reducible refine Kd.C_drew ?_))); (case side2 => exact (Kd.R_reads' HO361.out).2.1); rintro e w10 ⟨v366, v368, v370, rfl, ho0, ho1, ho2, hb⟩; have n0_ := Aside0.mk (Kd.R_below (by (with_reducible repeat (first | apply Kd.R_alloc | apply Kd.R_drewN | apply Kd.R_drew)); exact HO361.out) hb); have n1_ := Aside0.mk (Kd.R_lower ho0 (below_size (by repeat (first | (with_reducible first | exact HB.out | apply below_alloc | apply pw_below_drewN | apply below_drew1) | exact HB.out)))); have n2_ := Aside0.mk (Kd.R_lower ho1 (below_size (by repeat (first | (with_reducible first | exact HB.out | apply below_alloc | apply pw_below_drewN | apply below_drew1) | exact HB.out)))); have n3_ := Aside0.mk (Kd.R_lower ho2 (below_size (by repeat (first | (with_reducible first | exact HB.out | apply below_alloc | apply pw_below_drewN | apply below_drew1) | exact HB.out)))); have n4_ := Aside0.mk (below_step (by repeat (first | (with_reducible first | exact HB.out | apply below_alloc | apply pw_below_drewN | apply below_drew1) | exact HB.out)) hb); clear HO361; clear HB; have HO361 := n0_; have HO367 := n1_; have HO369 := n2_; have HO371 := n3_; have HB := n4_; clear n0_ n1_ n2_ n3_ n4_; (try clear hb); (try clear hb2); (try clear hk); (try clear hi); (try clear ho0); (try clear ho1); (try clear ho2)) | (go_at_call 40; (with_reducible refine (spec_PlayCover.calls k t358 _ _ t359 t372 t373 t374 t375 _ ?side1 ?side2 A6.out).mono ?_); (case side1 => repeat (first | exact (Kd.R_reads' HO361.out).2.2 | (with_reducible refine Kd.C_alloc ?_ _) | (with_reducible refine Kd.C_drewN ?_ _) | (with_reducible refine Kd.C_drew ?_))); (case side2 => exact (Kd.R_reads' HO361.out).2.1); rintro e w11 ⟨v376, v378, v380, rfl, ho0, ho1, ho2, hb⟩; have n0_ := Aside0.mk (Kd.R_below (by (with_reducible repeat (first | apply Kd.R_alloc | apply Kd.R_drewN | apply Kd.R_drew)); exact HO361.out) hb); have n1_ := Aside0.mk (Kd.R_elder' (by (with_reducible repeat (first | apply Kd.R_alloc | apply Kd.R_drewN | apply Kd.R_drew)); exact HO367.out) (Kd.R_base ho0) hb); have n2_ := Aside0.mk (Kd.R_elder' (by (with_reducible repeat (first | apply Kd.R_alloc | apply Kd.R_drewN | apply Kd.R_drew)); exact HO369.out) (Kd.R_base ho1) hb); have n3_ := Aside0.mk (Kd.R_elder' (by (with_reducible repeat (first | apply Kd.R_alloc | apply Kd.R_drewN | apply Kd.R_drew)); exact HO371.out) (Kd.R_base ho2) hb); have n4_ := Aside0.mk (Kd.R_lower (Kd.R_new' ho0 (Kd.R_lt (by (with_reducible repeat (first | apply Kd.R_alloc | apply Kd.R_drewN | apply Kd.R_drew)); exact HO367.out))) (below_size (by repeat (first | (with_reducible first | exact HB.out | apply below_alloc | apply pw_below_drewN | apply below_drew1) | exact HB.out)))); have n5_ := Aside0.mk (Kd.R_lower (Kd.R_new' ho1 (Kd.R_lt (by (with_reducible repeat (first | apply Kd.R_alloc | apply Kd.R_drewN | apply Kd.R_drew)); exact HO369.out))) (below_size (by repeat (first | (with_reducible first | exact HB.out | apply below_alloc | apply pw_below_drewN | apply below_drew1) | exact HB.out)))); have n6_ := Aside0.mk (Kd.R_lower (Kd.R_new' ho2 (Kd.R_lt (by (with_reducible repeat (first | apply Kd.R_alloc | apply Kd.R_drewN | apply Kd.R_drew)); exact HO371.out))) (below_size (by repeat (first | (with_reducible first | exact HB.out | apply below_alloc | apply pw_below_drewN | apply below_drew1) | exact HB.out)))); have n7_ := Aside0.mk (below_step (by repeat (first | (with_reducible first | exact HB.out | apply below_alloc | apply pw_below_drewN | apply below_drew1) | exact HB.out)) hb); clear HO361; clear HO367; clear HO369; clear HO371; clear HB; have HO361 := n0_; have HO367 := n1_; have HO369 := n2_; have HO371 := n3_; have HO377 := n4_; have HO379 := n5_; have HO381 := n6_; have HB := n7_; clear n0_ n1_ n2_ n3_ n4_ n5_ n6_ n7_; (try clear hb); (try clear hb2); (try clear hk); (try clear hi); (try clear ho0); (try clear ho1); (try clear ho2))))
  (try simp only [Act.put, List.setIfInBounds_toArray, List.set_cons_zero, List.set_cons_succ])
  go_cut [88] (fun v88 wc => ∃ (kq : Nat) (x88_6 : Bool), v88 = .bool x88_6 ∧ Aside0 (laws_FnCover.j0 kq l1 t358 t359 t362 t363 t364 t365 x88_6 = some r) ∧ Aside0 (kq ≤ k) ∧ Aside0 (Kd.R k60 60 wc w.heap.size (fun _ => True) (.slice Ao9 t359.length co9) t359) ∧ Aside0 (Kd.R k57 57 wc w.heap.size (fun _ => True) v366 t362) ∧ Aside0 (Kd.R Kd.string 9 wc w.heap.size (fun _ => True) v368 t363) ∧ Aside0 (Kd.R Kd.bool 4 wc w.heap.size (fun _ => True) v370 t364) ∧ Aside0 (Below w.heap.size w wc))
  case first =>
   have H := HC7.out
   clear HC7
   by_cases c12 : (t365 != t375) = true
   ·rw [if_pos c12] at H
    have c12b0 : (t365 != t375) = true := c12
    (try (have c12b1 : decide (t365 = t375) = false := by simpa using c12))
    (try (have c12b2 : (t365 == t375) = false := by simpa using c12))
    (try (have c12b3 : ¬ (t365 = t375) := by simpa using c12))
    clear c12
    (first | rw [c12b0] | (simp only [i64_w, i32_w]; rw [c12b0]) | skip)
    as_aux_lemma =>
     have H' := Aside0.mk H
     clear H
     go_wp2
     repeat (go_quiet (fail); try go_wp2)
     go_meet
     case rel => exact ⟨_, (true), (by first | rfl | (simp; done) | (simp [*]; done)), H', ⟨by first | omega | exact Nat.le_refl _⟩, ⟨by (with_reducible repeat (first | apply Kd.R_alloc | apply Kd.R_drewN | apply Kd.R_drew)); exact HO361.out⟩, ⟨by (with_reducible repeat (first | apply Kd.R_alloc | apply Kd.R_drewN | apply Kd.R_drew)); exact Kd.R_mono HO367.out (fun _ hk => trivial)⟩, ⟨by (with_reducible repeat (first | apply Kd.R_alloc | apply Kd.R_drewN | apply Kd.R_drew)); exact Kd.R_mono HO369.out (fun _ hk => trivial)⟩, ⟨by (with_reducible repeat (first | apply Kd.R_alloc | apply Kd.R_drewN | apply Kd.R_drew)); exact Kd.R_mono HO371.out (fun _ hk => trivial)⟩, ⟨by repeat (first | (with_reducible first | exact HB.out | apply below_alloc | apply pw_below_drewN | apply below_drew1) | exact HB.out)⟩⟩
   ·rw [if_neg c12] at H
    have c12b0 : (t365 != t375) = false := by simpa using c12
    (try (have c12b1 : decide (t365 = t375) = true := by simpa using c12))
    (try (have c12b2 : (t365 == t375) = true := by simpa using c12))
    clear c12
    (first | rw [c12b0] | (simp only [i64_w, i32_w]; rw [c12b0]) | skip)
    replace H := Option.bind_eq_some_iff.mp H
    obtain ⟨t382, A130, H⟩ := H
    replace H : (if t382 = true then ((laws_sameTexts.f k t363 t373).bind fun t383 => (if t383 = true then ((laws_sameBools.f k t364 t374).bind fun t384 => (laws_FnCover.j0 k l1 t358 t359 t362 t363 t364 t365 (!t384))) else (laws_FnCover.j0 k l1 t358 t359 t362 t363 t364 t365 true))) else (laws_FnCover.j0 k l1 t358 t359 t362 t363 t364 t365 true)) = some r := H
    have A13 := Aside0.mk A130
    clear A130
    by_cases c14 : t382 = true
    ·subst c14
     have H1 : ((laws_sameTexts.f k t363 t373).bind fun t383 => (if t383 = true then ((laws_sameBools.f k t364 t374).bind fun t384 => (laws_FnCover.j0 k l1 t358 t359 t362 t363 t364 t365 (!t384))) else (laws_FnCover.j0 k l1 t358 t359 t362 t363 t364 t365 true))) = some r := by rw [if_pos rfl] at H; exact H
     clear H
     have H := H1
     clear H1
     replace H := Option.bind_eq_some_iff.mp H
     obtain ⟨t383, A150, H⟩ := H
     replace H : (if t383 = true then ((laws_sameBools.f k t364 t374).bind fun t384 => (laws_FnCover.j0 k l1 t358 t359 t362 t363 t364 t365 (!t384))) else (laws_FnCover.j0 k l1 t358 t359 t362 t363 t364 t365 true)) = some r := H
     have A15 := Aside0.mk A150
     clear A150
     by_cases c16 : t383 = true
     ·subst c16
      have H1 : ((laws_sameBools.f k t364 t374).bind fun t384 => (laws_FnCover.j0 k l1 t358 t359 t362 t363 t364 t365 (!t384))) = some r := by rw [if_pos rfl] at H; exact H
      clear H
      have H := H1
      clear H1
      replace H := Option.bind_eq_some_iff.mp H
      obtain ⟨t384, A170, H⟩ := H
      replace H : (laws_FnCover.j0 k l1 t358 t359 t362 t363 t364 t365 (!t384)) = some r := H
      have A17 := Aside0.mk A170
      clear A170
      as_aux_lemma =>
       have H' := Aside0.mk H
       clear H
       obtain ⟨Ao18, co18, eo18⟩ := Kd.R_slice HO367.out
       subst eo18
       obtain ⟨Ao19, co19, eo19⟩ := Kd.R_slice HO377.out
       subst eo19
       go_wp2_with (first | (go_at_call 53; (with_reducible refine (laws_sameTrace.calls k _ _ t362 _ _ t372 true _ ?side1 ?side2 ?side3 ?side4 A13.out).mono ?_); (case side1 => repeat (first | exact (Kd.R_reads' HO367.out).2.2 | (with_reducible refine Kd.C_alloc ?_ _) | (with_reducible refine Kd.C_drewN ?_ _) | (with_reducible refine Kd.C_drew ?_))); (case side2 => exact (Kd.R_reads' HO367.out).2.1); (case side3 => repeat (first | exact (Kd.R_reads' HO377.out).2.2 | (with_reducible refine Kd.C_alloc ?_ _) | (with_reducible refine Kd.C_drewN ?_ _) | (with_reducible refine Kd.C_drew ?_))); (case side4 => exact (Kd.R_reads' HO377.out).2.1); rintro e w' ⟨rfl, ⟨nd, rfl⟩⟩; (try first | exact ⟨rfl, _, World.drewN_drewN _ _ _⟩ | exact ⟨rfl, _, Eq.trans (World.drewN_drewN _ _ _) (congrArg (World.drewN _) (Nat.add_assoc _ _ _))⟩); obtain ⟨Ao20, co20, eo20⟩ := Kd.R_slice HO369.out; subst eo20; obtain ⟨Ao21, co21, eo21⟩ := Kd.R_slice HO379.out; subst eo21) | (go_at_call 54; (with_reducible refine (laws_sameTexts.calls k _ _ t363 _ _ t373 true _ ?side1 ?side2 ?side3 ?side4 A15.out).mono ?_); (case side1 => repeat (first | exact (Kd.R_reads' HO369.out).2.2 | (with_reducible refine Kd.C_alloc ?_ _) | (with_reducible refine Kd.C_drewN ?_ _) | (with_reducible refine Kd.C_drew ?_))); (case side2 => exact (Kd.R_reads' HO369.out).2.1); (case side3 => repeat (first | exact (Kd.R_reads' HO379.out).2.2 | (with_reducible refine Kd.C_alloc ?_ _) | (with_reducible refine Kd.C_drewN ?_ _) | (with_reducible refine Kd.C_drew ?_))); (case side4 => exact (Kd.R_reads' HO379.out).2.1); rintro e w' ⟨rfl, ⟨nd, rfl⟩⟩; (try first | exact ⟨rfl, _, World.drewN_drewN _ _ _⟩ | exact ⟨rfl, _, Eq.trans (World.drewN_drewN _ _ _) (congrArg (World.drewN _) (Nat.add_assoc _ _ _))⟩); obtain ⟨Ao22, co22, eo22⟩ := Kd.R_slice HO371.out; subst eo22; obtain ⟨Ao23, co23, eo23⟩ := Kd.R_slice HO381.out; subst eo23) | (go_at_call 55; (with_reducible refine (laws_sameBools.calls k _ _ t364 _ _ t374 t384 _ ?side1 ?side2 ?side3 ?side4 A17.out).mono ?_); (case side1 => repeat (first | exact (Kd.R_reads' HO371.out).2.2 | (with_reducible refine Kd.C_alloc ?_ _) | (with_reducible refine Kd.C_drewN ?_ _) | (with_reducible refine Kd.C_drew ?_))); (case side2 => exact (Kd.R_reads' HO371.out).2.1); (case side3 => repeat (first | exact (Kd.R_reads' HO381.out).2.2 | (with_reducible refine Kd.C_alloc ?_ _) | (with_reducible refine Kd.C_drewN ?_ _) | (with_reducible refine Kd.C_drew ?_))); (case side4 => exact (Kd.R_reads' HO381.out).2.1); rintro e w' ⟨rfl, ⟨nd, rfl⟩⟩; (try first | exact ⟨rfl, _, World.drewN_drewN _ _ _⟩ | exact ⟨rfl, _, Eq.trans (World.drewN_drewN _ _ _) (congrArg (World.drewN _) (Nat.add_assoc _ _ _))⟩)))
       repeat (go_quiet (first | (go_at_call 53; (with_reducible refine (laws_sameTrace.calls k _ _ t362 _ _ t372 true _ ?side1 ?side2 ?side3 ?side4 A13.out).mono ?_); (case side1 => repeat (first | exact (Kd.R_reads' HO367.out).2.2 | (with_reducible refine Kd.C_alloc ?_ _) | (with_reducible refine Kd.C_drewN ?_ _) | (with_reducible refine Kd.C_drew ?_))); (case side2 => exact (Kd.R_reads' HO367.out).2.1); (case side3 => repeat (first | exact (Kd.R_reads' HO377.out).2.2 | (with_reducible refine Kd.C_alloc ?_ _) | (with_reducible refine Kd.C_drewN ?_ _) | (with_reducible refine Kd.C_drew ?_))); (case side4 => exact (Kd.R_reads' HO377.out).2.1); rintro e w' ⟨rfl, ⟨nd, rfl⟩⟩; (try first | exact ⟨rfl, _, World.drewN_drewN _ _ _⟩ | exact ⟨rfl, _, Eq.trans (World.drewN_drewN _ _ _) (congrArg (World.drewN _) (Nat.add_assoc _ _ _))⟩); obtain ⟨Ao20, co20, eo20⟩ := Kd.R_slice HO369.out; subst eo20; obtain ⟨Ao21, co21, eo21⟩ := Kd.R_slice HO379.out; subst eo21) | (go_at_call 54; (with_reducible refine (laws_sameTexts.calls k _ _ t363 _ _ t373 true _ ?side1 ?side2 ?side3 ?side4 A15.out).mono ?_); (case side1 => repeat (first | exact (Kd.R_reads' HO369.out).2.2 | (with_reducible refine Kd.C_alloc ?_ _) | (with_reducible refine Kd.C_drewN ?_ _) | (with_reducible refine Kd.C_drew ?_))); (case side2 => exact (Kd.R_reads' HO369.out).2.1); (case side3 => repeat (first | exact (Kd.R_reads' HO379.out).2.2 | (with_reducible refine Kd.C_alloc ?_ _) | (with_reducible refine Kd.C_drewN ?_ _) | (with_reducible refine Kd.C_drew ?_))); (case side4 => exact (Kd.R_reads' HO379.out).2.1); rintro e w' ⟨rfl, ⟨nd, rfl⟩⟩; (try first | exact ⟨rfl, _, World.drewN_drewN _ _ _⟩ | exact ⟨rfl, _, Eq.trans (World.drewN_drewN _ _ _) (congrArg (World.drewN _) (Nat.add_assoc _ _ _))⟩); obtain ⟨Ao22, co22, eo22⟩ := Kd.R_slice HO371.out; subst eo22; obtain ⟨Ao23, co23, eo23⟩ := Kd.R_slice HO381.out; subst eo23) | (go_at_call 55; (with_reducible refine (laws_sameBools.calls k _ _ t364 _ _ t374 t384 _ ?side1 ?side2 ?side3 ?side4 A17.out).mono ?_); (case side1 => repeat (first | exact (Kd.R_reads' HO371.out).2.2 | (with_reducible refine Kd.C_alloc ?_ _) | (with_reducible refine Kd.C_drewN ?_ _) | (with_reducible refine Kd.C_drew ?_))); (case side2 => exact (Kd.R_reads' HO371.out).2.1); (case side3 => repeat (first | exact (Kd.R_reads' HO381.out).2.2 | (with_reducible refine Kd.C_alloc ?_ _) | (with_reducible refine Kd.C_drewN ?_ _) | (with_reducible refine Kd.C_drew ?_))); (case side4 => exact (Kd.R_reads' HO381.out).2.1); rintro e w' ⟨rfl, ⟨nd, rfl⟩⟩; (try first | exact ⟨rfl, _, World.drewN_drewN _ _ _⟩ | exact ⟨rfl, _, Eq.trans (World.drewN_drewN _ _ _) (congrArg (World.drewN _) (Nat.add_assoc _ _ _))⟩))); try go_wp2_with (first | (go_at_call 53; (with_reducible refine (laws_sameTrace.calls k _ _ t362 _ _ t372 true _ ?side1 ?side2 ?side3 ?side4 A13.out).mono ?_); (case side1 => repeat (first | exact (Kd.R_reads' HO367.out).2.2 | (with_reducible refine Kd.C_alloc ?_ _) | (with_reducible refine Kd.C_drewN ?_ _) | (with_reducible refine Kd.C_drew ?_))); (case side2 => exact (Kd.R_reads' HO367.out).2.1); (case side3 => repeat (first | exact (Kd.R_reads' HO377.out).2.2 | (with_reducible refine Kd.C_alloc ?_ _) | (with_reducible refine Kd.C_drewN ?_ _) | (with_reducible refine Kd.C_drew ?_))); (case side4 => exact (Kd.R_reads' HO377.out).2.1); rintro e w' ⟨rfl, ⟨nd, rfl⟩⟩; (try first | exact ⟨rfl, _, World.drewN_drewN _ _ _⟩ | exact ⟨rfl, _, Eq.trans (World.drewN_drewN _ _ _) (congrArg (World.drewN _) (Nat.add_assoc _ _ _))⟩); obtain ⟨Ao20, co20, eo20⟩ := Kd.R_slice HO369.out; subst eo20; obtain ⟨Ao21, co21, eo21⟩ := Kd.R_slice HO379.out; subst eo21) | (go_at_call 54; (with_reducible refine (laws_sameTexts.calls k _ _ t363 _ _ t373 true _ ?side1 ?side2 ?side3 ?side4 A15.out).mono ?_); (case side1 => repeat (first | exact (Kd.R_reads' HO369.out).2.2 | (with_reducible refine Kd.C_alloc ?_ _) | (with_reducible refine Kd.C_drewN ?_ _) | (with_reducible refine Kd.C_drew ?_))); (case side2 => exact (Kd.R_reads' HO369.out).2.1); (case side3 => repeat (first | exact (Kd.R_reads' HO379.out).2.2 | (with_reducible refine Kd.C_alloc ?_ _) | (with_reducible refine Kd.C_drewN ?_ _) | (with_reducible refine Kd.C_drew ?_))); (case side4 => exact (Kd.R_reads' HO379.out).2.1); rintro e w' ⟨rfl, ⟨nd, rfl⟩⟩; (try first | exact ⟨rfl, _, World.drewN_drewN _ _ _⟩ | exact ⟨rfl, _, Eq.trans (World.drewN_drewN _ _ _) (congrArg (World.drewN _) (Nat.add_assoc _ _ _))⟩); obtain ⟨Ao22, co22, eo22⟩ := Kd.R_slice HO371.out; subst eo22; obtain ⟨Ao23, co23, eo23⟩ := Kd.R_slice HO381.out; subst eo23) | (go_at_call 55; (with_reducible refine (laws_sameBools.calls k _ _ t364 _ _ t374 t384 _ ?side1 ?side2 ?side3 ?side4 A17.out).mono ?_); (case side1 => repeat (first | exact (Kd.R_reads' HO371.out).2.2 | (with_reducible refine Kd.C_alloc ?_ _) | (with_reducible refine Kd.C_drewN ?_ _) | (with_reducible refine Kd.C_drew ?_))); (case side2 => exact (Kd.R_reads' HO371.out).2.1); (case side3 => repeat (first | exact (Kd.R_reads' HO381.out).2.2 | (with_reducible refine Kd.C_alloc ?_ _) | (with_reducible refine Kd.C_drewN ?_ _) | (with_reducible refine Kd.C_drew ?_))); (case side4 => exact (Kd.R_reads' HO381.out).2.1); rintro e w' ⟨rfl, ⟨nd, rfl⟩⟩; (try first | exact ⟨rfl, _, World.drewN_drewN _ _ _⟩ | exact ⟨rfl, _, Eq.trans (World.drewN_drewN _ _ _) (congrArg (World.drewN _) (Nat.add_assoc _ _ _))⟩))))
       go_meet
       case rel => exact ⟨_, (!t384), (by first | rfl | (simp; done) | (simp [*]; done)), H', ⟨by first | omega | exact Nat.le_refl _⟩, ⟨by (with_reducible repeat (first | apply Kd.R_alloc | apply Kd.R_drewN | apply Kd.R_drew)); exact HO361.out⟩, ⟨by (with_reducible repeat (first | apply Kd.R_alloc | apply Kd.R_drewN | apply Kd.R_drew)); exact Kd.R_mono HO367.out (fun _ hk => trivial)⟩, ⟨by (with_reducible repeat (first | apply Kd.R_alloc | apply Kd.R_drewN | apply Kd.R_drew)); exact Kd.R_mono HO369.out (fun _ hk => trivial)⟩, ⟨by (with_reducible repeat (first | apply Kd.R_alloc | apply Kd.R_drewN | apply Kd.R_drew)); exact Kd.R_mono HO371.out (fun _ hk => trivial)⟩, ⟨by repeat (first | (with_reducible first | exact HB.out | apply below_alloc | apply pw_below_drewN | apply below_drew1) | exact HB.out)⟩⟩
     ·replace c16 := Bool.eq_false_iff.mpr c16
      subst c16
      have H1 : (laws_FnCover.j0 k l1 t358 t359 t362 t363 t364 t365 true) = some r := by rw [if_neg (show ¬ (false = true) by decide)] at H; exact H
      clear H
      have H := H1
      clear H1
      as_aux_lemma =>
       have H' := Aside0.mk H
       clear H
       obtain ⟨Ao24, co24, eo24⟩ := Kd.R_slice HO367.out
       subst eo24
       obtain ⟨Ao25, co25, eo25⟩ := Kd.R_slice HO377.out
       subst eo25
       go_wp2_with (first | (go_at_call 53; (with_reducible refine (laws_sameTrace.calls k _ _ t362 _ _ t372 true _ ?side1 ?side2 ?side3 ?side4 A13.out).mono ?_); (case side1 => repeat (first | exact (Kd.R_reads' HO367.out).2.2 | (with_reducible refine Kd.C_alloc ?_ _) | (with_reducible refine Kd.C_drewN ?_ _) | (with_reducible refine Kd.C_drew ?_))); (case side2 => exact (Kd.R_reads' HO367.out).2.1); (case side3 => repeat (first | exact (Kd.R_reads' HO377.out).2.2 | (with_reducible refine Kd.C_alloc ?_ _) | (with_reducible refine Kd.C_drewN ?_ _) | (with_reducible refine Kd.C_drew ?_))); (case side4 => exact (Kd.R_reads' HO377.out).2.1); rintro e w' ⟨rfl, ⟨nd, rfl⟩⟩; (try first | exact ⟨rfl, _, World.drewN_drewN _ _ _⟩ | exact ⟨rfl, _, Eq.trans (World.drewN_drewN _ _ _) (congrArg (World.drewN _) (Nat.add_assoc _ _ _))⟩); obtain ⟨Ao26, co26, eo26⟩ := Kd.R_slice HO369.out; subst eo26; obtain ⟨Ao27, co27, eo27⟩ := Kd.R_slice HO379.out; subst eo27) | (go_at_call 54; (with_reducible refine (laws_sameTexts.calls k _ _ t363 _ _ t373 false _ ?side1 ?side2 ?side3 ?side4 A15.out).mono ?_); (case side1 => repeat (first | exact (Kd.R_reads' HO369.out).2.2 | (with_reducible refine Kd.C_alloc ?_ _) | (with_reducible refine Kd.C_drewN ?_ _) | (with_reducible refine Kd.C_drew ?_))); (case side2 => exact (Kd.R_reads' HO369.out).2.1); (case side3 => repeat (first | exact (Kd.R_reads' HO379.out).2.2 | (with_reducible refine Kd.C_alloc ?_ _) | (with_reducible refine Kd.C_drewN ?_ _) | (with_reducible refine Kd.C_drew ?_))); (case side4 => exact (Kd.R_reads' HO379.out).2.1); rintro e w' ⟨rfl, ⟨nd, rfl⟩⟩; (try first | exact ⟨rfl, _, World.drewN_drewN _ _ _⟩ | exact ⟨rfl, _, Eq.trans (World.drewN_drewN _ _ _) (congrArg (World.drewN _) (Nat.add_assoc _ _ _))⟩)))
       repeat (go_quiet (first | (go_at_call 53; (with_reducible refine (laws_sameTrace.calls k _ _ t362 _ _ t372 true _ ?side1 ?side2 ?side3 ?side4 A13.out).mono ?_); (case side1 => repeat (first | exact (Kd.R_reads' HO367.out).2.2 | (with_reducible refine Kd.C_alloc ?_ _) | (with_reducible refine Kd.C_drewN ?_ _) | (with_reducible refine Kd.C_drew ?_))); (case side2 => exact (Kd.R_reads' HO367.out).2.1); (case side3 => repeat (first | exact (Kd.R_reads' HO377.out).2.2 | (with_reducible refine Kd.C_alloc ?_ _) | (with_reducible refine Kd.C_drewN ?_ _) | (with_reducible refine Kd.C_drew ?_))); (case side4 => exact (Kd.R_reads' HO377.out).2.1); rintro e w' ⟨rfl, ⟨nd, rfl⟩⟩; (try first | exact ⟨rfl, _, World.drewN_drewN _ _ _⟩ | exact ⟨rfl, _, Eq.trans (World.drewN_drewN _ _ _) (congrArg (World.drewN _) (Nat.add_assoc _ _ _))⟩); obtain ⟨Ao26, co26, eo26⟩ := Kd.R_slice HO369.out; subst eo26; obtain ⟨Ao27, co27, eo27⟩ := Kd.R_slice HO379.out; subst eo27) | (go_at_call 54; (with_reducible refine (laws_sameTexts.calls k _ _ t363 _ _ t373 false _ ?side1 ?side2 ?side3 ?side4 A15.out).mono ?_); (case side1 => repeat (first | exact (Kd.R_reads' HO369.out).2.2 | (with_reducible refine Kd.C_alloc ?_ _) | (with_reducible refine Kd.C_drewN ?_ _) | (with_reducible refine Kd.C_drew ?_))); (case side2 => exact (Kd.R_reads' HO369.out).2.1); (case side3 => repeat (first | exact (Kd.R_reads' HO379.out).2.2 | (with_reducible refine Kd.C_alloc ?_ _) | (with_reducible refine Kd.C_drewN ?_ _) | (with_reducible refine Kd.C_drew ?_))); (case side4 => exact (Kd.R_reads' HO379.out).2.1); rintro e w' ⟨rfl, ⟨nd, rfl⟩⟩; (try first | exact ⟨rfl, _, World.drewN_drewN _ _ _⟩ | exact ⟨rfl, _, Eq.trans (World.drewN_drewN _ _ _) (congrArg (World.drewN _) (Nat.add_assoc _ _ _))⟩))); try go_wp2_with (first | (go_at_call 53; (with_reducible refine (laws_sameTrace.calls k _ _ t362 _ _ t372 true _ ?side1 ?side2 ?side3 ?side4 A13.out).mono ?_); (case side1 => repeat (first | exact (Kd.R_reads' HO367.out).2.2 | (with_reducible refine Kd.C_alloc ?_ _) | (with_reducible refine Kd.C_drewN ?_ _) | (with_reducible refine Kd.C_drew ?_))); (case side2 => exact (Kd.R_reads' HO367.out).2.1); (case side3 => repeat (first | exact (Kd.R_reads' HO377.out).2.2 | (with_reducible refine Kd.C_alloc ?_ _) | (with_reducible refine Kd.C_drewN ?_ _) | (with_reducible refine Kd.C_drew ?_))); (case side4 => exact (Kd.R_reads' HO377.out).2.1); rintro e w' ⟨rfl, ⟨nd, rfl⟩⟩; (try first | exact ⟨rfl, _, World.drewN_drewN _ _ _⟩ | exact ⟨rfl, _, Eq.trans (World.drewN_drewN _ _ _) (congrArg (World.drewN _) (Nat.add_assoc _ _ _))⟩); obtain ⟨Ao26, co26, eo26⟩ := Kd.R_slice HO369.out; subst eo26; obtain ⟨Ao27, co27, eo27⟩ := Kd.R_slice HO379.out; subst eo27) | (go_at_call 54; (with_reducible refine (laws_sameTexts.calls k _ _ t363 _ _ t373 false _ ?side1 ?side2 ?side3 ?side4 A15.out).mono ?_); (case side1 => repeat (first | exact (Kd.R_reads' HO369.out).2.2 | (with_reducible refine Kd.C_alloc ?_ _) | (with_reducible refine Kd.C_drewN ?_ _) | (with_reducible refine Kd.C_drew ?_))); (case side2 => exact (Kd.R_reads' HO369.out).2.1); (case side3 => repeat (first | exact (Kd.R_reads' HO379.out).2.2 | (with_reducible refine Kd.C_alloc ?_ _) | (with_reducible refine Kd.C_drewN ?_ _) | (with_reducible refine Kd.C_drew ?_))); (case side4 => exact (Kd.R_reads' HO379.out).2.1); rintro e w' ⟨rfl, ⟨nd, rfl⟩⟩; (try first | exact ⟨rfl, _, World.drewN_drewN _ _ _⟩ | exact ⟨rfl, _, Eq.trans (World.drewN_drewN _ _ _) (congrArg (World.drewN _) (Nat.add_assoc _ _ _))⟩))))
       go_meet
       case rel => exact ⟨_, (true), (by first | rfl | (simp; done) | (simp [*]; done)), H', ⟨by first | omega | exact Nat.le_refl _⟩, ⟨by (with_reducible repeat (first | apply Kd.R_alloc | apply Kd.R_drewN | apply Kd.R_drew)); exact HO361.out⟩, ⟨by (with_reducible repeat (first | apply Kd.R_alloc | apply Kd.R_drewN | apply Kd.R_drew)); exact Kd.R_mono HO367.out (fun _ hk => trivial)⟩, ⟨by (with_reducible repeat (first | apply Kd.R_alloc | apply Kd.R_drewN | apply Kd.R_drew)); exact Kd.R_mono HO369.out (fun _ hk => trivial)⟩, ⟨by (with_reducible repeat (first | apply Kd.R_alloc | apply Kd.R_drewN | apply Kd.R_drew)); exact Kd.R_mono HO371.out (fun _ hk => trivial)⟩, ⟨by repeat (first | (with_reducible first | exact HB.out | apply below_alloc | apply pw_below_drewN | apply below_drew1) | exact HB.out)⟩⟩
    ·replace c14 := Bool.eq_false_iff.mpr c14
     subst c14
     have H1 : (laws_FnCover.j0 k l1 t358 t359 t362 t363 t364 t365 true) = some r := by rw [if_neg (show ¬ (false = true) by decide)] at H; exact H
     clear H
     have H := H1
     clear H1
     as_aux_lemma =>
      have H' := Aside0.mk H
      clear H
      obtain ⟨Ao28, co28, eo28⟩ := Kd.R_slice HO367.out
      subst eo28
      obtain ⟨Ao29, co29, eo29⟩ := Kd.R_slice HO377.out
      subst eo29
      go_wp2_with (first | (go_at_call 53; (with_reducible refine (laws_sameTrace.calls k _ _ t362 _ _ t372 false _ ?side1 ?side2 ?side3 ?side4 A13.out).mono ?_); (case side1 => repeat (first | exact (Kd.R_reads' HO367.out).2.2 | (with_reducible refine Kd.C_alloc ?_ _) | (with_reducible refine Kd.C_drewN ?_ _) | (with_reducible refine Kd.C_drew ?_))); (case side2 => exact (Kd.R_reads' HO367.out).2.1); (case side3 => repeat (first | exact (Kd.R_reads' HO377.out).2.2 | (with_reducible refine Kd.C_alloc ?_ _) | (with_reducible refine Kd.C_drewN ?_ _) | (with_reducible refine Kd.C_drew ?_))); (case side4 => exact (Kd.R_reads' HO377.out).2.1); rintro e w' ⟨rfl, ⟨nd, rfl⟩⟩; (try first | exact ⟨rfl, _, World.drewN_drewN _ _ _⟩ | exact ⟨rfl, _, Eq.trans (World.drewN_drewN _ _ _) (congrArg (World.drewN _) (Nat.add_assoc _ _ _))⟩)))
      repeat (go_quiet (first | (go_at_call 53; (with_reducible refine (laws_sameTrace.calls k _ _ t362 _ _ t372 false _ ?side1 ?side2 ?side3 ?side4 A13.out).mono ?_); (case side1 => repeat (first | exact (Kd.R_reads' HO367.out).2.2 | (with_reducible refine Kd.C_alloc ?_ _) | (with_reducible refine Kd.C_drewN ?_ _) | (with_reducible refine Kd.C_drew ?_))); (case side2 => exact (Kd.R_reads' HO367.out).2.1); (case side3 => repeat (first | exact (Kd.R_reads' HO377.out).2.2 | (with_reducible refine Kd.C_alloc ?_ _) | (with_reducible refine Kd.C_drewN ?_ _) | (with_reducible refine Kd.C_drew ?_))); (case side4 => exact (Kd.R_reads' HO377.out).2.1); rintro e w' ⟨rfl, ⟨nd, rfl⟩⟩; (try first | exact ⟨rfl, _, World.drewN_drewN _ _ _⟩ | exact ⟨rfl, _, Eq.trans (World.drewN_drewN _ _ _) (congrArg (World.drewN _) (Nat.add_assoc _ _ _))⟩))); try go_wp2_with (first | (go_at_call 53; (with_reducible refine (laws_sameTrace.calls k _ _ t362 _ _ t372 false _ ?side1 ?side2 ?side3 ?side4 A13.out).mono ?_); (case side1 => repeat (first | exact (Kd.R_reads' HO367.out).2.2 | (with_reducible refine Kd.C_alloc ?_ _) | (with_reducible refine Kd.C_drewN ?_ _) | (with_reducible refine Kd.C_drew ?_))); (case side2 => exact (Kd.R_reads' HO367.out).2.1); (case side3 => repeat (first | exact (Kd.R_reads' HO377.out).2.2 | (with_reducible refine Kd.C_alloc ?_ _) | (with_reducible refine Kd.C_drewN ?_ _) | (with_reducible refine Kd.C_drew ?_))); (case side4 => exact (Kd.R_reads' HO377.out).2.1); rintro e w' ⟨rfl, ⟨nd, rfl⟩⟩; (try first | exact ⟨rfl, _, World.drewN_drewN _ _ _⟩ | exact ⟨rfl, _, Eq.trans (World.drewN_drewN _ _ _) (congrArg (World.drewN _) (Nat.add_assoc _ _ _))⟩))))
      go_meet
      case rel => exact ⟨_, (true), (by first | rfl | (simp; done) | (simp [*]; done)), H', ⟨by first | omega | exact Nat.le_refl _⟩, ⟨by (with_reducible repeat (first | apply Kd.R_alloc | apply Kd.R_drewN | apply Kd.R_drew)); exact HO361.out⟩, ⟨by (with_reducible repeat (first | apply Kd.R_alloc | apply Kd.R_drewN | apply Kd.R_drew)); exact Kd.R_mono HO367.out (fun _ hk => trivial)⟩, ⟨by (with_reducible repeat (first | apply Kd.R_alloc | apply Kd.R_drewN | apply Kd.R_drew)); exact Kd.R_mono HO369.out (fun _ hk => trivial)⟩, ⟨by (with_reducible repeat (first | apply Kd.R_alloc | apply Kd.R_drewN | apply Kd.R_drew)); exact Kd.R_mono HO371.out (fun _ hk => trivial)⟩, ⟨by repeat (first | (with_reducible first | exact HB.out | apply below_alloc | apply pw_below_drewN | apply below_drew1) | exact HB.out)⟩⟩
  case rest =>
   clear HC7
   try clear c1
   try clear p2
   try clear c3
   try clear c3b0
   try clear p6
   try clear c11
   try clear c12
   try clear c12b0
   try clear c12b1
   try clear c12b2
   try clear c14
   try clear c16
   obtain ⟨kq, x88_6, rfl, HA, HJ6, HO_6, HO_7, HO_8, HO_9, HB⟩ := hcut
   cases kq with
   | zero => exact absurd HA.out (by simp [laws_FnCover.j0])
   | succ kj6 =>
    have H := HA.out
    clear HA
    simp only [laws_FnCover.j0] at H
    by_cases c30 : x88_6 = true
    ·subst c30
     have H1 : (some false) = some r := by rw [if_pos rfl] at H; exact H
     clear H
     have H := H1
     clear H1
     as_aux_lemma =>
      obtain rfl := Option.some.inj H
      exact absurd hr_.out (by simp)
    ·replace c30 := Bool.eq_false_iff.mpr c30
     subst c30
     have H1 : (if t365 = true then ((impl_EraseSays.f kj6 t359).bind fun bt385 => ((impl_PlayCover.f kj6 t358 bt385.1).bind fun bt389 => ((impl_TraceOf.f kj6 t358 (bt385.1.length : Int)).bind fun bt399 => (if bt385.2 = true then (if bt389.2.2.2 = true then ((laws_sameTrace.f kj6 bt389.1 t362).bind fun t403 => (if t403 = true then (if bt399.2 = true then ((laws_sameTrace.f kj6 bt399.1 t362).bind fun t404 => (if t404 = true then (laws_FnCover.j1 kj6 l1 t359 t363 t364 ((t363.length : Int) != (t362.length : Int))) else (laws_FnCover.j1 kj6 l1 t359 t363 t364 true))) else (laws_FnCover.j1 kj6 l1 t359 t363 t364 true)) else (laws_FnCover.j1 kj6 l1 t359 t363 t364 true))) else (laws_FnCover.j1 kj6 l1 t359 t363 t364 true)) else (laws_FnCover.j1 kj6 l1 t359 t363 t364 true))))) else (laws_FnCover.j5 kj6 l1)) = some r := by rw [if_neg (show ¬ (false = true) by decide)] at H; exact H
     clear H
     have H := H1
     clear H1
     have HC31 := Aside0.mk H
     clear H
     go_upto_if 89 with (fail)
     repeat (go_quiet (fail); go_upto_if 89 with (fail))
     go_cut [] (fun wc => ∃ (kq : Nat), Aside0 (laws_FnCover.j5 kq l1 = some r) ∧ Aside0 (kq ≤ kj6) ∧ Aside0 (Below w.heap.size w wc))
     case first =>
      have H := HC31.out
      clear HC31
      by_cases c32 : t365 = true
      ·subst c32
       have H1 : ((impl_EraseSays.f kj6 t359).bind fun bt385 => ((impl_PlayCover.f kj6 t358 bt385.1).bind fun bt389 => ((impl_TraceOf.f kj6 t358 (bt385.1.length : Int)).bind fun bt399 => (if bt385.2 = true then (if bt389.2.2.2 = true then ((laws_sameTrace.f kj6 bt389.1 t362).bind fun t403 => (if t403 = true then (if bt399.2 = true then ((laws_sameTrace.f kj6 bt399.1 t362).bind fun t404 => (if t404 = true then (laws_FnCover.j1 kj6 l1 t359 t363 t364 ((t363.length : Int) != (t362.length : Int))) else (laws_FnCover.j1 kj6 l1 t359 t363 t364 true))) else (laws_FnCover.j1 kj6 l1 t359 t363 t364 true)) else (laws_FnCover.j1 kj6 l1 t359 t363 t364 true))) else (laws_FnCover.j1 kj6 l1 t359 t363 t364 true)) else (laws_FnCover.j1 kj6 l1 t359 t363 t364 true))))) = some r := by rw [if_pos rfl] at H; exact H
       clear H
       have H := H1
       clear H1
       replace H := Option.bind_eq_some_iff.mp H
       obtain ⟨⟨t385, t386⟩, A330, H⟩ := H
       replace H : ((impl_PlayCover.f kj6 t358 t385).bind fun bt389 => ((impl_TraceOf.f kj6 t358 (t385.length : Int)).bind fun bt399 => (if t386 = true then (if bt389.2.2.2 = true then ((laws_sameTrace.f kj6 bt389.1 t362).bind fun t403 => (if t403 = true then (if bt399.2 = true then ((laws_sameTrace.f kj6 bt399.1 t362).bind fun t404 => (if t404 = true then (laws_FnCover.j1 kj6 l1 t359 t363 t364 ((t363.length : Int) != (t362.length : Int))) else (laws_FnCover.j1 kj6 l1 t359 t363 t364 true))) else (laws_FnCover.j1 kj6 l1 t359 t363 t364 true)) else (laws_FnCover.j1 kj6 l1 t359 t363 t364 true))) else (laws_FnCover.j1 kj6 l1 t359 t363 t364 true)) else (laws_FnCover.j1 kj6 l1 t359 t363 t364 true)))) = some r := H
       have A33 := Aside0.mk A330
       clear A330
       replace H := Option.bind_eq_some_iff.mp H
       obtain ⟨⟨t389, t390, t391, t392⟩, A340, H⟩ := H
       replace H : ((impl_TraceOf.f kj6 t358 (t385.length : Int)).bind fun bt399 => (if t386 = true then (if t392 = true then ((laws_sameTrace.f kj6 t389 t362).bind fun t403 => (if t403 = true then (if bt399.2 = true then ((laws_sameTrace.f kj6 bt399.1 t362).bind fun t404 => (if t404 = true then (laws_FnCover.j1 kj6 l1 t359 t363 t364 ((t363.length : Int) != (t362.length : Int))) else (laws_FnCover.j1 kj6 l1 t359 t363 t364 true))) else (laws_FnCover.j1 kj6 l1 t359 t363 t364 true)) else (laws_FnCover.j1 kj6 l1 t359 t363 t364 true))) else (laws_FnCover.j1 kj6 l1 t359 t363 t364 true)) else (laws_FnCover.j1 kj6 l1 t359 t363 t364 true))) = some r := H
       have A34 := Aside0.mk A340
       clear A340
       replace H := Option.bind_eq_some_iff.mp H
       obtain ⟨⟨t399, t400⟩, A350, H⟩ := H
       replace H : (if t386 = true then (if t392 = true then ((laws_sameTrace.f kj6 t389 t362).bind fun t403 => (if t403 = true then (if t400 = true then ((laws_sameTrace.f kj6 t399 t362).bind fun t404 => (if t404 = true then (laws_FnCover.j1 kj6 l1 t359 t363 t364 ((t363.length : Int) != (t362.length : Int))) else (laws_FnCover.j1 kj6 l1 t359 t363 t364 true))) else (laws_FnCover.j1 kj6 l1 t359 t363 t364 true)) else (laws_FnCover.j1 kj6 l1 t359 t363 t364 true))) else (laws_FnCover.j1 kj6 l1 t359 t363 t364 true)) else (laws_FnCover.j1 kj6 l1 t359 t363 t364 true)) = some r := H
       have A35 := Aside0.mk A350
       clear A350
       have HC36 := Aside0.mk H
       clear H
       go_upto_region 12 with (first | (go_at_call 29; (with_reducible refine (impl_EraseSays.calls kj6 _ _ t359 t385 t386 _ ?side1 ?side2 A33.out).mono ?_); (case side1 => repeat (first | exact (Kd.R_reads' HO_6.out).2.2 | (with_reducible refine Kd.C_alloc ?_ _) | (with_reducible refine Kd.C_drewN ?_ _) | (with_reducible refine Kd.C_drew ?_))); (case side2 => exact (Kd.R_reads' HO_6.out).2.1); rintro e w37 ⟨v387, rfl, ho0, hb⟩; have n0_ := Aside0.mk (Kd.R_elder' (by (with_reducible repeat (first | apply Kd.R_alloc | apply Kd.R_drewN | apply Kd.R_drew)); exact HO_6.out) (Kd.R_base ho0) hb); have n1_ := Aside0.mk (Kd.R_below (by (with_reducible repeat (first | apply Kd.R_alloc | apply Kd.R_drewN | apply Kd.R_drew)); exact HO_7.out) hb); have n2_ := Aside0.mk (Kd.R_below (by (with_reducible repeat (first | apply Kd.R_alloc | apply Kd.R_drewN | apply Kd.R_drew)); exact HO_8.out) hb); have n3_ := Aside0.mk (Kd.R_below (by (with_reducible repeat (first | apply Kd.R_alloc | apply Kd.R_drewN | apply Kd.R_drew)); exact HO_9.out) hb); have n4_ := Aside0.mk (Kd.R_lower (Kd.R_new' ho0 (Kd.R_lt (by (with_reducible repeat (first | apply Kd.R_alloc | apply Kd.R_drewN | apply Kd.R_drew)); exact HO_6.out))) (below_size (by repeat (first | (with_reducible first | exact HB.out | apply below_alloc | apply pw_below_drewN | apply below_drew1) | exact HB.out)))); have n5_ := Aside0.mk (below_step (by repeat (first | (with_reducible first | exact HB.out | apply below_alloc | apply pw_below_drewN | apply below_drew1) | exact HB.out)) hb); clear HO_6; clear HO_7; clear HO_8; clear HO_9; clear HB; have HO_6 := n0_; have HO_7 := n1_; have HO_8 := n2_; have HO_9 := n3_; have HO388 := n4_; have HB := n5_; clear n0_ n1_ n2_ n3_ n4_ n5_; (try clear hb); (try clear hb2); (try clear hk); (try clear hi); (try clear ho0); obtain ⟨Ao38, co38, eo38⟩ := Kd.R_slice HO388.out; subst eo38) | (go_at_call 41; (with_reducible refine (impl_PlayCover.calls kj6 t358 _ _ t385 t389 t390 t391 t392 _ ?side1 ?side2 A34.out).mono ?_); (case side1 => repeat (first | exact (Kd.R_reads' HO388.out).2.2 | (with_reducible refine Kd.C_alloc ?_ _) | (with_reducible refine Kd.C_drewN ?_ _) | (with_reducible refine Kd.C_drew ?_))); (case side2 => exact (Kd.R_reads' HO388.out).2.1); rintro e w39 ⟨v393, v395, v397, rfl, ho0, ho1, ho2, hb⟩; have n0_ := Aside0.mk (Kd.R_below (by (with_reducible repeat (first | apply Kd.R_alloc | apply Kd.R_drewN | apply Kd.R_drew)); exact HO_6.out) hb); have n1_ := Aside0.mk (Kd.R_elder' (by (with_reducible repeat (first | apply Kd.R_alloc | apply Kd.R_drewN | apply Kd.R_drew)); exact HO_7.out) (Kd.R_base ho0) hb); have n2_ := Aside0.mk (Kd.R_elder' (by (with_reducible repeat (first | apply Kd.R_alloc | apply Kd.R_drewN | apply Kd.R_drew)); exact HO_8.out) (Kd.R_base ho1) hb); have n3_ := Aside0.mk (Kd.R_elder' (by (with_reducible repeat (first | apply Kd.R_alloc | apply Kd.R_drewN | apply Kd.R_drew)); exact HO_9.out) (Kd.R_base ho2) hb); have n4_ := Aside0.mk (Kd.R_below (by (with_reducible repeat (first | apply Kd.R_alloc | apply Kd.R_drewN | apply Kd.R_drew)); exact HO388.out) hb); have n5_ := Aside0.mk (Kd.R_lower (Kd.R_new' ho0 (Kd.R_lt (by (with_reducible repeat (first | apply Kd.R_alloc | apply Kd.R_drewN | apply Kd.R_drew)); exact HO_7.out))) (below_size (by repeat (first | (with_reducible first | exact HB.out | apply below_alloc | apply pw_below_drewN | apply below_drew1) | exact HB.out)))); have n6_ := Aside0.mk (Kd.R_lower (Kd.R_new' ho1 (Kd.R_lt (by (with_reducible repeat (first | apply Kd.R_alloc | apply Kd.R_drewN | apply Kd.R_drew)); exact HO_8.out))) (below_size (by repeat (first | (with_reducible first | exact HB.out | apply below_alloc | apply pw_below_drewN | apply below_drew1) | exact HB.out)))); have n7_ := Aside0.mk (Kd.R_lower (Kd.R_new' ho2 (Kd.R_lt (by (with_reducible repeat (first | apply Kd.R_alloc | apply Kd.R_drewN | apply Kd.R_drew)); exact HO_9.out))) (below_size (by repeat (first | (with_reducible first | exact HB.out | apply below_alloc | apply pw_below_drewN | apply below_drew1) | exact HB.out)))); have n8_ := Aside0.mk (below_step (by repeat (first | (with_reducible first | exact HB.out | apply below_alloc | apply pw_below_drewN | apply below_drew1) | exact HB.out)) hb); clear HO_6; clear HO_7; clear HO_8; clear HO_9; clear HO388; clear HB; have HO_6 := n0_; have HO_7 := n1_; have HO_8 := n2_; have HO_9 := n3_; have HO388 := n4_; have HO394 := n5_; have HO396 := n6_; have HO398 := n7_; have HB := n8_; clear n0_ n1_ n2_ n3_ n4_ n5_ n6_ n7_ n8_; (try clear hb); (try clear hb2); (try clear hk); (try clear hi); (try clear ho0); (try clear ho1); (try clear ho2)) | (go_at_call 13; (with_reducible refine (impl_TraceOf.calls kj6 t358 (t385.length : Int) t399 t400 _ A35.out).mono ?_); rintro e w40 ⟨v401, rfl, ho0, hb⟩; have n0_ := Aside0.mk (Kd.R_below (by (with_reducible repeat (first | apply Kd.R_alloc | apply Kd.R_drewN | apply Kd.R_drew)); exact HO_6.out) hb); have n1_ := Aside0.mk (Kd.R_elder' (by (with_reducible repeat (first | apply Kd.R_alloc | apply Kd.R_drewN | apply Kd.R_drew)); exact HO_7.out) (Kd.R_base ho0) hb); have n2_ := Aside0.mk (Kd.R_below (by (with_reducible repeat (first | apply Kd.R_alloc | apply Kd.R_drewN | apply Kd.R_drew)); exact HO_8.out) hb); have n3_ := Aside0.mk (Kd.R_below (by (with_reducible repeat (first | apply Kd.R_alloc | apply Kd.R_drewN | apply Kd.R_drew)); exact HO_9.out) hb); have n4_ := Aside0.mk (Kd.R_below (by (with_reducible repeat (first | apply Kd.R_alloc | apply Kd.R_drewN | apply Kd.R_drew)); exact HO388.out) hb); have n5_ := Aside0.mk (Kd.R_elder' (by (with_reducible repeat (first | apply Kd.R_alloc | apply Kd.R_drewN | apply Kd.R_drew)); exact HO394.out) (Kd.R_base ho0) hb); have n6_ := Aside0.mk (Kd.R_below (by (with_reducible repeat (first | apply Kd.R_alloc | apply Kd.R_drewN | apply Kd.R_drew)); exact HO396.out) hb); have n7_ := Aside0.mk (Kd.R_below (by (with_reducible repeat (first | apply Kd.R_alloc | apply Kd.R_drewN | apply Kd.R_drew)); exact HO398.out) hb); have n8_ := Aside0.mk (Kd.R_lower (Kd.R_new' (Kd.R_new' ho0 (Kd.R_lt (by (with_reducible repeat (first | apply Kd.R_alloc | apply Kd.R_drewN | apply Kd.R_drew)); exact HO_7.out))) (Kd.R_lt (by (with_reducible repeat (first | apply Kd.R_alloc | apply Kd.R_drewN | apply Kd.R_drew)); exact HO394.out))) (below_size (by repeat (first | (with_reducible first | exact HB.out | apply below_alloc | apply pw_below_drewN | apply below_drew1) | exact HB.out)))); have n9_ := Aside0.mk (below_step (by repeat (first | (with_reducible first | exact HB.out | apply below_alloc | apply pw_below_drewN | apply below_drew1) | exact HB.out)) hb); clear HO_6; clear HO_7; clear HO_8; clear HO_9; clear HO388; clear HO394; clear HO396; clear HO398; clear HB; have HO_6 := n0_; have HO_7 := n1_; have HO_8 := n2_; have HO_9 := n3_; have HO388 := n4_; have HO394 := n5_; have HO396 := n6_; have HO398 := n7_; have HO402 := n8_; have HB := n9_; clear n0_ n1_ n2_ n3_ n4_ n5_ n6_ n7_ n8_ n9_; (try clear hb); (try clear hb2); (try clear hk); (try clear hi); (try clear ho0)))
       repeat (go_quiet (first | (go_at_call 29; (with_reducible refine (impl_EraseSays.calls kj6 _ _ t359 t385 t386 _ ?side1 ?side2 A33.out).mono ?_); (case side1 => repeat (first | exact (Kd.R_reads' HO_6.out).2.2 | (with_reducible refine Kd.C_alloc ?_ _) | (with_reducible refine Kd.C_drewN ?_ _) | (with_reducible refine Kd.C_drew ?_))); (case side2 => exact (Kd.R_reads' HO_6.out).2.1); rintro e w37 ⟨v387, rfl, ho0, hb⟩; have n0_ := Aside0.mk (Kd.R_elder' (by (with_reducible repeat (first | apply Kd.R_alloc | apply Kd.R_drewN | apply Kd.R_drew)); exact HO_6.out) (Kd.R_base ho0) hb); have n1_ := Aside0.mk (Kd.R_below (by (with_reducible repeat (first | apply Kd.R_alloc | apply Kd.R_drewN | apply Kd.R_drew)); exact HO_7.out) hb); have n2_ := Aside0.mk (Kd.R_below (by (with_reducible repeat (first | apply Kd.R_alloc | apply Kd.R_drewN | apply Kd.R_drew)); exact HO_8.out) hb); have n3_ := Aside0.mk (Kd.R_below (by (with_reducible repeat (first | apply Kd.R_alloc | apply Kd.R_drewN | apply Kd.R_drew)); exact HO_9.out) hb); have n4_ := Aside0.mk (Kd.R_lower (Kd.R_new' ho0 (Kd.R_lt (by (with_reducible repeat (first | apply Kd.R_alloc | apply Kd.R_drewN | apply Kd.R_drew)); exact HO_6.out))) (below_size (by repeat (first | (with_reducible first | exact HB.out | apply below_alloc | apply pw_below_drewN | apply below_drew1) | exact HB.out)))); have n5_ := Aside0.mk (below_step (by repeat (first | (with_reducible first | exact HB.out | apply below_alloc | apply pw_below_drewN | apply below_drew1) | exact HB.out)) hb); clear HO_6; clear HO_7; clear HO_8; clear HO_9; clear HB; have HO_6 := n0_; have HO_7 := n1_; have HO_8 := n2_; have HO_9 := n3_; have HO388 := n4_; have HB := n5_; clear n0_ n1_ n2_ n3_ n4_ n5_; (try clear hb); (try clear hb2); (try clear hk); (try clear hi); (try clear ho0); obtain ⟨Ao38, co38, eo38⟩ := Kd.R_slice HO388.out; subst eo38) | (go_at_call 41; (with_reducible refine (impl_PlayCover.calls kj6 t358 _ _ t385 t389 t390 t391 t392 _ ?side1 ?side2 A34.out).mono ?_); (case side1 => repeat (first | exact (Kd.R_reads' HO388.out).2.2 | (with_reducible refine Kd.C_alloc ?_ _) | (with_reducible refine Kd.C_drewN ?_ _) | (with_reducible refine Kd.C_drew ?_))); (case side2 => exact (Kd.R_reads' HO388.out).2.1); rintro e w39 ⟨v393, v395, v397, rfl, ho0, ho1, ho2, hb⟩; have n0_ := Aside0.mk (Kd.R_below (by (with_reducible repeat (first | apply Kd.R_alloc | apply Kd.R_drewN | apply Kd.R_drew)); exact HO_6.out) hb); have n1_ := Aside0.mk (Kd.R_elder' (by (with_reducible repeat (first | apply Kd.R_alloc | apply Kd.R_drewN | apply Kd.R_drew)); exact HO_7.out) (Kd.R_base ho0) hb); have n2_ := Aside0.mk (Kd.R_elder' (by (with_reducible repeat (first | apply Kd.R_alloc | apply Kd.R_drewN | apply Kd.R_drew)); exact HO_8.out) (Kd.R_base ho1) hb); have n3_ := Aside0.mk (Kd.R_elder' (by (with_reducible repeat (first | apply Kd.R_alloc | apply Kd.R_drewN | apply Kd.R_drew)); exact HO_9.out) (Kd.R_base ho2) hb); have n4_ := Aside0.mk (Kd.R_below (by (with_reducible repeat (first | apply Kd.R_alloc | apply Kd.R_drewN | apply Kd.R_drew)); exact HO388.out) hb); have n5_ := Aside0.mk (Kd.R_lower (Kd.R_new' ho0 (Kd.R_lt (by (with_reducible repeat (first | apply Kd.R_alloc | apply Kd.R_drewN | apply Kd.R_drew)); exact HO_7.out))) (below_size (by repeat (first | (with_reducible first | exact HB.out | apply below_alloc | apply pw_below_drewN | apply below_drew1) | exact HB.out)))); have n6_ := Aside0.mk (Kd.R_lower (Kd.R_new' ho1 (Kd.R_lt (by (with_reducible repeat (first | apply Kd.R_alloc | apply Kd.R_drewN | apply Kd.R_drew)); exact HO_8.out))) (below_size (by repeat (first | (with_reducible first | exact HB.out | apply below_alloc | apply pw_below_drewN | apply below_drew1) | exact HB.out)))); have n7_ := Aside0.mk (Kd.R_lower (Kd.R_new' ho2 (Kd.R_lt (by (with_reducible repeat (first | apply Kd.R_alloc | apply Kd.R_drewN | apply Kd.R_drew)); exact HO_9.out))) (below_size (by repeat (first | (with_reducible first | exact HB.out | apply below_alloc | apply pw_below_drewN | apply below_drew1) | exact HB.out)))); have n8_ := Aside0.mk (below_step (by repeat (first | (with_reducible first | exact HB.out | apply below_alloc | apply pw_below_drewN | apply below_drew1) | exact HB.out)) hb); clear HO_6; clear HO_7; clear HO_8; clear HO_9; clear HO388; clear HB; have HO_6 := n0_; have HO_7 := n1_; have HO_8 := n2_; have HO_9 := n3_; have HO388 := n4_; have HO394 := n5_; have HO396 := n6_; have HO398 := n7_; have HB := n8_; clear n0_ n1_ n2_ n3_ n4_ n5_ n6_ n7_ n8_; (try clear hb); (try clear hb2); (try clear hk); (try clear hi); (try clear ho0); (try clear ho1); (try clear ho2)) | (go_at_call 13; (with_reducible refine (impl_TraceOf.calls kj6 t358 (t385.length : Int) t399 t400 _ A35.out).mono ?_); rintro e w40 ⟨v401, rfl, ho0, hb⟩; have n0_ := Aside0.mk (Kd.R_below (by (with_reducible repeat (first | apply Kd.R_alloc | apply Kd.R_drewN | apply Kd.R_drew)); exact HO_6.out) hb); have n1_ := Aside0.mk (Kd.R_elder' (by (with_reducible repeat (first | apply Kd.R_alloc | apply Kd.R_drewN | apply Kd.R_drew)); exact HO_7.out) (Kd.R_base ho0) hb); have n2_ := Aside0.mk (Kd.R_below (by (with_reducible repeat (first | apply Kd.R_alloc | apply Kd.R_drewN | apply Kd.R_drew)); exact HO_8.out) hb); have n3_ := Aside0.mk (Kd.R_below (by (with_reducible repeat (first | apply Kd.R_alloc | apply Kd.R_drewN | apply Kd.R_drew)); exact HO_9.out) hb); have n4_ := Aside0.mk (Kd.R_below (by (with_reducible repeat (first | apply Kd.R_alloc | apply Kd.R_drewN | apply Kd.R_drew)); exact HO388.out) hb); have n5_ := Aside0.mk (Kd.R_elder' (by (with_reducible repeat (first | apply Kd.R_alloc | apply Kd.R_drewN | apply Kd.R_drew)); exact HO394.out) (Kd.R_base ho0) hb); have n6_ := Aside0.mk (Kd.R_below (by (with_reducible repeat (first | apply Kd.R_alloc | apply Kd.R_drewN | apply Kd.R_drew)); exact HO396.out) hb); have n7_ := Aside0.mk (Kd.R_below (by (with_reducible repeat (first | apply Kd.R_alloc | apply Kd.R_drewN | apply Kd.R_drew)); exact HO398.out) hb); have n8_ := Aside0.mk (Kd.R_lower (Kd.R_new' (Kd.R_new' ho0 (Kd.R_lt (by (with_reducible repeat (first | apply Kd.R_alloc | apply Kd.R_drewN | apply Kd.R_drew)); exact HO_7.out))) (Kd.R_lt (by (with_reducible repeat (first | apply Kd.R_alloc | apply Kd.R_drewN | apply Kd.R_drew)); exact HO394.out))) (below_size (by repeat (first | (with_reducible first | exact HB.out | apply below_alloc | apply pw_below_drewN | apply below_drew1) | exact HB.out)))); have n9_ := Aside0.mk (below_step (by repeat (first | (with_reducible first | exact HB.out | apply below_alloc | apply pw_below_drewN | apply below_drew1) | exact HB.out)) hb); clear HO_6; clear HO_7; clear HO_8; clear HO_9; clear HO388; clear HO394; clear HO396; clear HO398; clear HB; have HO_6 := n0_; have HO_7 := n1_; have HO_8 := n2_; have HO_9 := n3_; have HO388 := n4_; have HO394 := n5_; have HO396 := n6_; have HO398 := n7_; have HO402 := n8_; have HB := n9_; clear n0_ n1_ n2_ n3_ n4_ n5_ n6_ n7_ n8_ n9_; (try clear hb); (try clear hb2); (try clear hk); (try clear hi); (try clear ho0))); go_upto_region 12 with (first | (go_at_call 29; (with_reducible refine (impl_EraseSays.calls kj6 _ _ t359 t385 t386 _ ?side1 ?side2 A33.out).mono ?_); (case side1 => repeat (first | exact (Kd.R_reads' HO_6.out).2.2 | (with_reducible refine Kd.C_alloc ?_ _) | (with_reducible refine Kd.C_drewN ?_ _) | (with_reducible refine Kd.C_drew ?_))); (case side2 => exact (Kd.R_reads' HO_6.out).2.1); rintro e w37 ⟨v387, rfl, ho0, hb⟩; have n0_ := Aside0.mk (Kd.R_elder' (by (with_reducible repeat (first | apply Kd.R_alloc | apply Kd.R_drewN | apply Kd.R_drew)); exact HO_6.out) (Kd.R_base ho0) hb); have n1_ := Aside0.mk (Kd.R_below (by (with_reducible repeat (first | apply Kd.R_alloc | apply Kd.R_drewN | apply Kd.R_drew)); exact HO_7.out) hb); have n2_ := Aside0.mk (Kd.R_below (by (with_reducible repeat (first | apply Kd.R_alloc | apply Kd.R_drewN | apply Kd.R_drew)); exact HO_8.out) hb); have n3_ := Aside0.mk (Kd.R_below (by (with_reducible repeat (first | apply Kd.R_alloc | apply Kd.R_drewN | apply Kd.R_drew)); exact HO_9.out) hb); have n4_ := Aside0.mk (Kd.R_lower (Kd.R_new' ho0 (Kd.R_lt (by (with_reducible repeat (first | apply Kd.R_alloc | apply Kd.R_drewN | apply Kd.R_drew)); exact HO_6.out))) (below_size (by repeat (first | (with_reducible first | exact HB.out | apply below_alloc | apply pw_below_drewN | apply below_drew1) | exact HB.out)))); have n5_ := Aside0.mk (below_step (by repeat (first | (with_reducible first | exact HB.out | apply below_alloc | apply pw_below_drewN | apply below_drew1) | exact HB.out)) hb); clear HO_6; clear HO_7; clear HO_8; clear HO_9; clear HB; have HO_6 := n0_; have HO_7 := n1_; have HO_8 := n2_; have HO_9 := n3_; have HO388 := n4_; have HB := n5_; clear n0_ n1_ n2_ n3_ n4_ n5_; (try clear hb); (try clear hb2); (try clear hk); (try clear hi); (try clear ho0); obtain ⟨Ao38, co38, eo38⟩ := Kd.R_slice HO388.out; subst eo38) | (go_at_call 41; (with_reducible refine (impl_PlayCover.calls kj6 t358 _ _ t385 t389 t390 t391 t392 _ ?side1 ?side2 A34.out).mono ?_); (case side1 => repeat (first | exact (Kd.R_reads' HO388.out).2.2 | (with_reducible refine Kd.C_alloc ?_ _) | (with_reducible refine Kd.C_drewN ?_ _) | (with_reducible refine Kd.C_drew ?_))); (case side2 => exact (Kd.R_reads' HO388.out).2.1); rintro e w39 ⟨v393, v395, v397, rfl, ho0, ho1, ho2, hb⟩; have n0_ := Aside0.mk (Kd.R_below (by (with_reducible repeat (first | apply Kd.R_alloc | apply Kd.R_drewN | apply Kd.R_drew)); exact HO_6.out) hb); have n1_ := Aside0.mk (Kd.R_elder' (by (with_reducible repeat (first | apply Kd.R_alloc | apply Kd.R_drewN | apply Kd.R_drew)); exact HO_7.out) (Kd.R_base ho0) hb); have n2_ := Aside0.mk (Kd.R_elder' (by (with_reducible repeat (first | apply Kd.R_alloc | apply Kd.R_drewN | apply Kd.R_drew)); exact HO_8.out) (Kd.R_base ho1) hb); have n3_ := Aside0.mk (Kd.R_elder' (by (with_reducible repeat (first | apply Kd.R_alloc | apply Kd.R_drewN | apply Kd.R_drew)); exact HO_9.out) (Kd.R_base ho2) hb); have n4_ := Aside0.mk (Kd.R_below (by (with_reducible repeat (first | apply Kd.R_alloc | apply Kd.R_drewN | apply Kd.R_drew)); exact HO388.out) hb); have n5_ := Aside0.mk (Kd.R_lower (Kd.R_new' ho0 (Kd.R_lt (by (with_reducible repeat (first | apply Kd.R_alloc | apply Kd.R_drewN | apply Kd.R_drew)); exact HO_7.out))) (below_size (by repeat (first | (with_reducible first | exact HB.out | apply below_alloc | apply pw_below_drewN | apply below_drew1) | exact HB.out)))); have n6_ := Aside0.mk (Kd.R_lower (Kd.R_new' ho1 (Kd.R_lt (by (with_reducible repeat (first | apply Kd.R_alloc | apply Kd.R_drewN | apply Kd.R_drew)); exact HO_8.out))) (below_size (by repeat (first | (with_reducible first | exact HB.out | apply below_alloc | apply pw_below_drewN | apply below_drew1) | exact HB.out)))); have n7_ := Aside0.mk (Kd.R_lower (Kd.R_new' ho2 (Kd.R_lt (by (with_reducible repeat (first | apply Kd.R_alloc | apply Kd.R_drewN | apply Kd.R_drew)); exact HO_9.out))) (below_size (by repeat (first | (with_reducible first | exact HB.out | apply below_alloc | apply pw_below_drewN | apply below_drew1) | exact HB.out)))); have n8_ := Aside0.mk (below_step (by repeat (first | (with_reducible first | exact HB.out | apply below_alloc | apply pw_below_drewN | apply below_drew1) | exact HB.out)) hb); clear HO_6; clear HO_7; clear HO_8; clear HO_9; clear HO388; clear HB; have HO_6 := n0_; have HO_7 := n1_; have HO_8 := n2_; have HO_9 := n3_; have HO388 := n4_; have HO394 := n5_; have HO396 := n6_; have HO398 := n7_; have HB := n8_; clear n0_ n1_ n2_ n3_ n4_ n5_ n6_ n7_ n8_; (try clear hb); (try clear hb2); (try clear hk); (try clear hi); (try clear ho0); (try clear ho1); (try clear ho2)) | (go_at_call 13; (with_reducible refine (impl_TraceOf.calls kj6 t358 (t385.length : Int) t399 t400 _ A35.out).mono ?_); rintro e w40 ⟨v401, rfl, ho0, hb⟩; have n0_ := Aside0.mk (Kd.R_below (by (with_reducible repeat (first | apply Kd.R_alloc | apply Kd.R_drewN | apply Kd.R_drew)); exact HO_6.out) hb); have n1_ := Aside0.mk (Kd.R_elder' (by (with_reducible repeat (first | apply Kd.R_alloc | apply Kd.R_drewN | apply Kd.R_drew)); exact HO_7.out) (Kd.R_base ho0) hb); have n2_ := Aside0.mk (Kd.R_below (by (with_reducible repeat (first | apply Kd.R_alloc | apply Kd.R_drewN | apply Kd.R_drew)); exact HO_8.out) hb); have n3_ := Aside0.mk (Kd.R_below (by (with_reducible repeat (first | apply Kd.R_alloc | apply Kd.R_drewN | apply Kd.R_drew)); exact HO_9.out) hb); have n4_ := Aside0.mk (Kd.R_below (by (with_reducible repeat (first | apply Kd.R_alloc | apply Kd.R_drewN | apply Kd.R_drew)); exact HO388.out) hb); have n5_ := Aside0.mk (Kd.R_elder' (by (with_reducible repeat (first | apply Kd.R_alloc | apply Kd.R_drewN | apply Kd.R_drew)); exact HO394.out) (Kd.R_base ho0) hb); have n6_ := Aside0.mk (Kd.R_below (by (with_reducible repeat (first | apply Kd.R_alloc | apply Kd.R_drewN | apply Kd.R_drew)); exact HO396.out) hb); have n7_ := Aside0.mk (Kd.R_below (by (with_reducible repeat (first | apply Kd.R_alloc | apply Kd.R_drewN | apply Kd.R_drew)); exact HO398.out) hb); have n8_ := Aside0.mk (Kd.R_lower (Kd.R_new' (Kd.R_new' ho0 (Kd.R_lt (by (with_reducible repeat (first | apply Kd.R_alloc | apply Kd.R_drewN | apply Kd.R_drew)); exact HO_7.out))) (Kd.R_lt (by (with_reducible repeat (first | apply Kd.R_alloc | apply Kd.R_drewN | apply Kd.R_drew)); exact HO394.out))) (below_size (by repeat (first | (with_reducible first | exact HB.out | apply below_alloc | apply pw_below_drewN | apply below_drew1) | exact HB.out)))); have n9_ := Aside0.mk (below_step (by repeat (first | (with_reducible first | exact HB.out | apply below_alloc | apply pw_below_drewN | apply below_drew1) | exact HB.out)) hb); clear HO_6; clear HO_7; clear HO_8; clear HO_9; clear HO388; clear HO394; clear HO396; clear HO398; clear HB; have HO_6 := n0_; have HO_7 := n1_; have HO_8 := n2_; have HO_9 := n3_; have HO388 := n4_; have HO394 := n5_; have HO396 := n6_; have HO398 := n7_; have HO402 := n8_; have HB := n9_; clear n0_ n1_ n2_ n3_ n4_ n5_ n6_ n7_ n8_ n9_; (try clear hb); (try clear hb2); (try clear hk); (try clear hi); (try clear ho0))))
       (try simp only [Act.put, List.setIfInBounds_toArray, List.set_cons_zero, List.set_cons_succ])
       go_cut [138] (fun v138 wc => ∃ (kq : Nat) (x138_35 : Bool), v138 = .bool x138_35 ∧ Aside0 (laws_FnCover.j1 kq l1 t359 t363 t364 x138_35 = some r) ∧ Aside0 (kq ≤ kj6) ∧ Aside0 (Kd.R k60 60 wc w.heap.size (fun _ => True) (.slice Ao9 t359.length co9) t359) ∧ Aside0 (Kd.R Kd.string 9 wc w.heap.size (fun _ => True) v368 t363) ∧ Aside0 (Kd.R Kd.bool 4 wc w.heap.size (fun _ => True) v370 t364) ∧ Aside0 (Below w.heap.size w wc))
       case first =>
        have H := HC36.out
        clear HC36
        by_cases c41 : t386 = true
        ·subst c41
         have H1 : (if t392 = true then ((laws_sameTrace.f kj6 t389 t362).bind fun t403 => (if t403 = true then (if t400 = true then ((laws_sameTrace.f kj6 t399 t362).bind fun t404 => (if t404 = true then (laws_FnCover.j1 kj6 l1 t359 t363 t364 ((t363.length : Int) != (t362.length : Int))) else (laws_FnCover.j1 kj6 l1 t359 t363 t364 true))) else (laws_FnCover.j1 kj6 l1 t359 t363 t364 true)) else (laws_FnCover.j1 kj6 l1 t359 t363 t364 true))) else (laws_FnCover.j1 kj6 l1 t359 t363 t364 true)) = some r := by rw [if_pos rfl] at H; exact H
         clear H
         have H := H1
         clear H1
         by_cases c42 : t392 = true
         ·subst c42
          have H1 : ((laws_sameTrace.f kj6 t389 t362).bind fun t403 => (if t403 = true then (if t400 = true then ((laws_sameTrace.f kj6 t399 t362).bind fun t404 => (if t404 = true then (laws_FnCover.j1 kj6 l1 t359 t363 t364 ((t363.length : Int) != (t362.length : Int))) else (laws_FnCover.j1 kj6 l1 t359 t363 t364 true))) else (laws_FnCover.j1 kj6 l1 t359 t363 t364 true)) else (laws_FnCover.j1 kj6 l1 t359 t363 t364 true))) = some r := by rw [if_pos rfl] at H; exact H
          clear H
          have H := H1
          clear H1
          replace H := Option.bind_eq_some_iff.mp H
          obtain ⟨t403, A430, H⟩ := H
          replace H : (if t403 = true then (if t400 = true then ((laws_sameTrace.f kj6 t399 t362).bind fun t404 => (if t404 = true then (laws_FnCover.j1 kj6 l1 t359 t363 t364 ((t363.length : Int) != (t362.length : Int))) else (laws_FnCover.j1 kj6 l1 t359 t363 t364 true))) else (laws_FnCover.j1 kj6 l1 t359 t363 t364 true)) else (laws_FnCover.j1 kj6 l1 t359 t363 t364 true)) = some r := H
          have A43 := Aside0.mk A430
          clear A430
          by_cases c44 : t403 = true
          ·subst c44
           have H1 : (if t400 = true then ((laws_sameTrace.f kj6 t399 t362).bind fun t404 => (if t404 = true then (laws_FnCover.j1 kj6 l1 t359 t363 t364 ((t363.length : Int) != (t362.length : Int))) else (laws_FnCover.j1 kj6 l1 t359 t363 t364 true))) else (laws_FnCover.j1 kj6 l1 t359 t363 t364 true)) = some r := by rw [if_pos rfl] at H; exact H
           clear H
           have H := H1
           clear H1
           by_cases c45 : t400 = true
           ·subst c45
            have H1 : ((laws_sameTrace.f kj6 t399 t362).bind fun t404 => (if t404 = true then (laws_FnCover.j1 kj6 l1 t359 t363 t364 ((t363.length : Int) != (t362.length : Int))) else (laws_FnCover.j1 kj6 l1 t359 t363 t364 true))) = some r := by rw [if_pos rfl] at H; exact H
            clear H
            have H := H1
            clear H1
            replace H := Option.bind_eq_some_iff.mp H
            obtain ⟨t404, A460, H⟩ := H
            replace H : (if t404 = true then (laws_FnCover.j1 kj6 l1 t359 t363 t364 ((t363.length : Int) != (t362.length : Int))) else (laws_FnCover.j1 kj6 l1 t359 t363 t364 true)) = some r := H
            have A46 := Aside0.mk A460
            clear A460
            by_cases c47 : t404 = true
            ·subst c47
             have H1 : (laws_FnCover.j1 kj6 l1 t359 t363 t364 ((t363.length : Int) != (t362.length : Int))) = some r := by rw [if_pos rfl] at H; exact H
             clear H
             have H := H1
             clear H1
             as_aux_lemma =>
              have H' := Aside0.mk H
              clear H
              obtain ⟨Ao48, co48, eo48⟩ := Kd.R_slice HO394.out
              subst eo48
              obtain ⟨Ao49, co49, eo49⟩ := Kd.R_slice HO_7.out
              subst eo49
              go_wp2_with (first | (go_at_call 53; (with_reducible refine (laws_sameTrace.calls kj6 _ _ t389 _ _ t362 true _ ?side1 ?side2 ?side3 ?side4 A43.out).mono ?_); (case side1 => repeat (first | exact (Kd.R_reads' HO394.out).2.2 | (with_reducible refine Kd.C_alloc ?_ _) | (with_reducible refine Kd.C_drewN ?_ _) | (with_reducible refine Kd.C_drew ?_))); (case side2 => exact (Kd.R_reads' HO394.out).2.1); (case side3 => repeat (first | exact (Kd.R_reads' HO_7.out).2.2 | (with_reducible refine Kd.C_alloc ?_ _) | (with_reducible refine Kd.C_drewN ?_ _) | (with_reducible refine Kd.C_drew ?_))); (case side4 => exact (Kd.R_reads' HO_7.out).2.1); rintro e w' ⟨rfl, ⟨nd, rfl⟩⟩; (try first | exact ⟨rfl, _, World.drewN_drewN _ _ _⟩ | exact ⟨rfl, _, Eq.trans (World.drewN_drewN _ _ _) (congrArg (World.drewN _) (Nat.add_assoc _ _ _))⟩); obtain ⟨Ao50, co50, eo50⟩ := Kd.R_slice HO402.out; subst eo50) | (go_at_call 53; (with_reducible refine (laws_sameTrace.calls kj6 _ _ t399 _ _ t362 true _ ?side1 ?side2 ?side3 ?side4 A46.out).mono ?_); (case side1 => repeat (first | exact (Kd.R_reads' HO402.out).2.2 | (with_reducible refine Kd.C_alloc ?_ _) | (with_reducible refine Kd.C_drewN ?_ _) | (with_reducible refine Kd.C_drew ?_))); (case side2 => exact (Kd.R_reads' HO402.out).2.1); (case side3 => repeat (first | exact (Kd.R_reads' HO_7.out).2.2 | (with_reducible refine Kd.C_alloc ?_ _) | (with_reducible refine Kd.C_drewN ?_ _) | (with_reducible refine Kd.C_drew ?_))); (case side4 => exact (Kd.R_reads' HO_7.out).2.1); rintro e w' ⟨rfl, ⟨nd, rfl⟩⟩; (try first | exact ⟨rfl, _, World.drewN_drewN _ _ _⟩ | exact ⟨rfl, _, Eq.trans (World.drewN_drewN _ _ _) (congrArg (World.drewN _) (Nat.add_assoc _ _ _))⟩); obtain ⟨Ao51, co51, eo51⟩ := Kd.R_slice HO_8.out; subst eo51))
              repeat (go_quiet (first | (go_at_call 53; (with_reducible refine (laws_sameTrace.calls kj6 _ _ t389 _ _ t362 true _ ?side1 ?side2 ?side3 ?side4 A43.out).mono ?_); (case side1 => repeat (first | exact (Kd.R_reads' HO394.out).2.2 | (with_reducible refine Kd.C_alloc ?_ _) | (with_reducible refine Kd.C_drewN ?_ _) | (with_reducible refine Kd.C_drew ?_))); (case side2 => exact (Kd.R_reads' HO394.out).2.1); (case side3 => repeat (first | exact (Kd.R_reads' HO_7.out).2.2 | (with_reducible refine Kd.C_alloc ?_ _) | (with_reducible refine Kd.C_drewN ?_ _) | (with_reducible refine Kd.C_drew ?_))); (case side4 => exact (Kd.R_reads' HO_7.out).2.1); rintro e w' ⟨rfl, ⟨nd, rfl⟩⟩; (try first | exact ⟨rfl, _, World.drewN_drewN _ _ _⟩ | exact ⟨rfl, _, Eq.trans (World.drewN_drewN _ _ _) (congrArg (World.drewN _) (Nat.add_assoc _ _ _))⟩); obtain ⟨Ao50, co50, eo50⟩ := Kd.R_slice HO402.out; subst eo50) | (go_at_call 53; (with_reducible refine (laws_sameTrace.calls kj6 _ _ t399 _ _ t362 true _ ?side1 ?side2 ?side3 ?side4 A46.out).mono ?_); (case side1 => repeat (first | exact (Kd.R_reads' HO402.out).2.2 | (with_reducible refine Kd.C_alloc ?_ _) | (with_reducible refine Kd.C_drewN ?_ _) | (with_reducible refine Kd.C_drew ?_))); (case side2 => exact (Kd.R_reads' HO402.out).2.1); (case side3 => repeat (first | exact (Kd.R_reads' HO_7.out).2.2 | (with_reducible refine Kd.C_alloc ?_ _) | (with_reducible refine Kd.C_drewN ?_ _) | (with_reducible refine Kd.C_drew ?_))); (case side4 => exact (Kd.R_reads' HO_7.out).2.1); rintro e w' ⟨rfl, ⟨nd, rfl⟩⟩; (try first | exact ⟨rfl, _, World.drewN_drewN _ _ _⟩ | exact ⟨rfl, _, Eq.trans (World.drewN_drewN _ _ _) (congrArg (World.drewN _) (Nat.add_assoc _ _ _))⟩); obtain ⟨Ao51, co51, eo51⟩ := Kd.R_slice HO_8.out; subst eo51)); try go_wp2_with (first | (go_at_call 53; (with_reducible refine (laws_sameTrace.calls kj6 _ _ t389 _ _ t362 true _ ?side1 ?side2 ?side3 ?side4 A43.out).mono ?_); (case side1 => repeat (first | exact (Kd.R_reads' HO394.out).2.2 | (with_reducible refine Kd.C_alloc ?_ _) | (with_reducible refine Kd.C_drewN ?_ _) | (with_reducible refine Kd.C_drew ?_))); (case side2 => exact (Kd.R_reads' HO394.out).2.1); (case side3 => repeat (first | exact (Kd.R_reads' HO_7.out).2.2 | (with_reducible refine Kd.C_alloc ?_ _) | (with_reducible refine Kd.C_drewN ?_ _) | (with_reducible refine Kd.C_drew ?_))); (case side4 => exact (Kd.R_reads' HO_7.out).2.1); rintro e w' ⟨rfl, ⟨nd, rfl⟩⟩; (try first | exact ⟨rfl, _, World.drewN_drewN _ _ _⟩ | exact ⟨rfl, _, Eq.trans (World.drewN_drewN _ _ _) (congrArg (World.drewN _) (Nat.add_assoc _ _ _))⟩); obtain ⟨Ao50, co50, eo50⟩ := Kd.R_slice HO402.out; subst eo50) | (go_at_call 53; (with_reducible refine (laws_sameTrace.calls kj6 _ _ t399 _ _ t362 true _ ?side1 ?side2 ?side3 ?side4 A46.out).mono ?_); (case side1 => repeat (first | exact (Kd.R_reads' HO402.out).2.2 | (with_reducible refine Kd.C_alloc ?_ _) | (with_reducible refine Kd.C_drewN ?_ _) | (with_reducible refine Kd.C_drew ?_))); (case side2 => exact (Kd.R_reads' HO402.out).2.1); (case side3 => repeat (first | exact (Kd.R_reads' HO_7.out).2.2 | (with_reducible refine Kd.C_alloc ?_ _) | (with_reducible refine Kd.C_drewN ?_ _) | (with_reducible refine Kd.C_drew ?_))); (case side4 => exact (Kd.R_reads' HO_7.out).2.1); rintro e w' ⟨rfl, ⟨nd, rfl⟩⟩; (try first | exact ⟨rfl, _, World.drewN_drewN _ _ _⟩ | exact ⟨rfl, _, Eq.trans (World.drewN_drewN _ _ _) (congrArg (World.drewN _) (Nat.add_assoc _ _ _))⟩); obtain ⟨Ao51, co51, eo51⟩ := Kd.R_slice HO_8.out; subst eo51)))
              go_meet
              case rel => exact ⟨_, (((t363.length : Int) != (t362.length : Int))), (by first | rfl | (simp; done) | (simp [*]; done)), H', ⟨by have := HJ6.out; first | omega | exact Nat.le_refl _⟩, ⟨by (with_reducible repeat (first | apply Kd.R_alloc | apply Kd.R_drewN | apply Kd.R_drew)); exact Kd.R_mono HO_6.out (fun _ hk => trivial)⟩, ⟨by (with_reducible repeat (first | apply Kd.R_alloc | apply Kd.R_drewN | apply Kd.R_drew)); exact Kd.R_mono HO_8.out (fun _ hk => trivial)⟩, ⟨by (with_reducible repeat (first | apply Kd.R_alloc | apply Kd.R_drewN | apply Kd.R_drew)); exact Kd.R_mono HO_9.out (fun _ hk => trivial)⟩, ⟨by repeat (first | (with_reducible first | exact HB.out | apply below_alloc | apply pw_below_drewN | apply below_drew1) | exact HB.out)⟩⟩
            ·replace c47 := Bool.eq_false_iff.mpr c47
             subst c47
             have H1 : (laws_FnCover.j1 kj6 l1 t359 t363 t364 true) = some r := by rw [if_neg (show ¬ (false = true) by decide)] at H; exact H
             clear H
             have H := H1
             clear H1
             as_aux_lemma =>
              have H' := Aside0.mk H
              clear H
              obtain ⟨Ao52, co52, eo52⟩ := Kd.R_slice HO394.out
              subst eo52
              obtain ⟨Ao53, co53, eo53⟩ := Kd.R_slice HO_7.out
              subst eo53
              go_wp2_with (first | (go_at_call 53; (with_reducible refine (laws_sameTrace.calls kj6 _ _ t389 _ _ t362 true _ ?side1 ?side2 ?side3 ?side4 A43.out).mono ?_); (case side1 => repeat (first | exact (Kd.R_reads' HO394.out).2.2 | (with_reducible refine Kd.C_alloc ?_ _) | (with_reducible refine Kd.C_drewN ?_ _) | (with_reducible refine Kd.C_drew ?_))); (case side2 => exact (Kd.R_reads' HO394.out).2.1); (case side3 => repeat (first | exact (Kd.R_reads' HO_7.out).2.2 | (with_reducible refine Kd.C_alloc ?_ _) | (with_reducible refine Kd.C_drewN ?_ _) | (with_reducible refine Kd.C_drew ?_))); (case side4 => exact (Kd.R_reads' HO_7.out).2.1); rintro e w' ⟨rfl, ⟨nd, rfl⟩⟩; (try first | exact ⟨rfl, _, World.drewN_drewN _ _ _⟩ | exact ⟨rfl, _, Eq.trans (World.drewN_drewN _ _ _) (congrArg (World.drewN _) (Nat.add_assoc _ _ _))⟩); obtain ⟨Ao54, co54, eo54⟩ := Kd.R_slice HO402.out; subst eo54) | (go_at_call 53; (with_reducible refine (laws_sameTrace.calls kj6 _ _ t399 _ _ t362 false _ ?side1 ?side2 ?side3 ?side4 A46.out).mono ?_); (case side1 => repeat (first | exact (Kd.R_reads' HO402.out).2.2 | (with_reducible refine Kd.C_alloc ?_ _) | (with_reducible refine Kd.C_drewN ?_ _) | (with_reducible refine Kd.C_drew ?_))); (case side2 => exact (Kd.R_reads' HO402.out).2.1); (case side3 => repeat (first | exact (Kd.R_reads' HO_7.out).2.2 | (with_reducible refine Kd.C_alloc ?_ _) | (with_reducible refine Kd.C_drewN ?_ _) | (with_reducible refine Kd.C_drew ?_))); (case side4 => exact (Kd.R_reads' HO_7.out).2.1); rintro e w' ⟨rfl, ⟨nd, rfl⟩⟩; (try first | exact ⟨rfl, _, World.drewN_drewN _ _ _⟩ | exact ⟨rfl, _, Eq.trans (World.drewN_drewN _ _ _) (congrArg (World.drewN _) (Nat.add_assoc _ _ _))⟩)))
              repeat (go_quiet (first | (go_at_call 53; (with_reducible refine (laws_sameTrace.calls kj6 _ _ t389 _ _ t362 true _ ?side1 ?side2 ?side3 ?side4 A43.out).mono ?_); (case side1 => repeat (first | exact (Kd.R_reads' HO394.out).2.2 | (with_reducible refine Kd.C_alloc ?_ _) | (with_reducible refine Kd.C_drewN ?_ _) | (with_reducible refine Kd.C_drew ?_))); (case side2 => exact (Kd.R_reads' HO394.out).2.1); (case side3 => repeat (first | exact (Kd.R_reads' HO_7.out).2.2 | (with_reducible refine Kd.C_alloc ?_ _) | (with_reducible refine Kd.C_drewN ?_ _) | (with_reducible refine Kd.C_drew ?_))); (case side4 => exact (Kd.R_reads' HO_7.out).2.1); rintro e w' ⟨rfl, ⟨nd, rfl⟩⟩; (try first | exact ⟨rfl, _, World.drewN_drewN _ _ _⟩ | exact ⟨rfl, _, Eq.trans (World.drewN_drewN _ _ _) (congrArg (World.drewN _) (Nat.add_assoc _ _ _))⟩); obtain ⟨Ao54, co54, eo54⟩ := Kd.R_slice HO402.out; subst eo54) | (go_at_call 53; (with_reducible refine (laws_sameTrace.calls kj6 _ _ t399 _ _ t362 false _ ?side1 ?side2 ?side3 ?side4 A46.out).mono ?_); (case side1 => repeat (first | exact (Kd.R_reads' HO402.out).2.2 | (with_reducible refine Kd.C_alloc ?_ _) | (with_reducible refine Kd.C_drewN ?_ _) | (with_reducible refine Kd.C_drew ?_))); (case side2 => exact (Kd.R_reads' HO402.out).2.1); (case side3 => repeat (first | exact (Kd.R_reads' HO_7.out).2.2 | (with_reducible refine Kd.C_alloc ?_ _) | (with_reducible refine Kd.C_drewN ?_ _) | (with_reducible refine Kd.C_drew ?_))); (case side4 => exact (Kd.R_reads' HO_7.out).2.1); rintro e w' ⟨rfl, ⟨nd, rfl⟩⟩; (try first | exact ⟨rfl, _, World.drewN_drewN _ _ _⟩ | exact ⟨rfl, _, Eq.trans (World.drewN_drewN _ _ _) (congrArg (World.drewN _) (Nat.add_assoc _ _ _))⟩))); try go_wp2_with (first | (go_at_call 53; (with_reducible refine (laws_sameTrace.calls kj6 _ _ t389 _ _ t362 true _ ?side1 ?side2 ?side3 ?side4 A43.out).mono ?_); (case side1 => repeat (first | exact (Kd.R_reads' HO394.out).2.2 | (with_reducible refine Kd.C_alloc ?_ _) | (with_reducible refine Kd.C_drewN ?_ _) | (with_reducible refine Kd.C_drew ?_))); (case side2 => exact (Kd.R_reads' HO394.out).2.1); (case side3 => repeat (first | exact (Kd.R_reads' HO_7.out).2.2 | (with_reducible refine Kd.C_alloc ?_ _) | (with_reducible refine Kd.C_drewN ?_ _) | (with_reducible refine Kd.C_drew ?_))); (case side4 => exact (Kd.R_reads' HO_7.out).2.1); rintro e w' ⟨rfl, ⟨nd, rfl⟩⟩; (try first | exact ⟨rfl, _, World.drewN_drewN _ _ _⟩ | exact ⟨rfl, _, Eq.trans (World.drewN_drewN _ _ _) (congrArg (World.drewN _) (Nat.add_assoc _ _ _))⟩); obtain ⟨Ao54, co54, eo54⟩ := Kd.R_slice HO402.out; subst eo54) | (go_at_call 53; (with_reducible refine (laws_sameTrace.calls kj6 _ _ t399 _ _ t362 false _ ?side1 ?side2 ?side3 ?side4 A46.out).mono ?_); (case side1 => repeat (first | exact (Kd.R_reads' HO402.out).2.2 | (with_reducible refine Kd.C_alloc ?_ _) | (with_reducible refine Kd.C_drewN ?_ _) | (with_reducible refine Kd.C_drew ?_))); (case side2 => exact (Kd.R_reads' HO402.out).2.1); (case side3 => repeat (first | exact (Kd.R_reads' HO_7.out).2.2 | (with_reducible refine Kd.C_alloc ?_ _) | (with_reducible refine Kd.C_drewN ?_ _) | (with_reducible refine Kd.C_drew ?_))); (case side4 => exact (Kd.R_reads' HO_7.out).2.1); rintro e w' ⟨rfl, ⟨nd, rfl⟩⟩; (try first | exact ⟨rfl, _, World.drewN_drewN _ _ _⟩ | exact ⟨rfl, _, Eq.trans (World.drewN_drewN _ _ _) (congrArg (World.drewN _) (Nat.add_assoc _ _ _))⟩))))
              go_meet
              case rel => exact ⟨_, (true), (by first | rfl | (simp; done) | (simp [*]; done)), H', ⟨by have := HJ6.out; first | omega | exact Nat.le_refl _⟩, ⟨by (with_reducible repeat (first | apply Kd.R_alloc | apply Kd.R_drewN | apply Kd.R_drew)); exact Kd.R_mono HO_6.out (fun _ hk => trivial)⟩, ⟨by (with_reducible repeat (first | apply Kd.R_alloc | apply Kd.R_drewN | apply Kd.R_drew)); exact Kd.R_mono HO_8.out (fun _ hk => trivial)⟩, ⟨by (with_reducible repeat (first | apply Kd.R_alloc | apply Kd.R_drewN | apply Kd.R_drew)); exact Kd.R_mono HO_9.out (fun _ hk => trivial)⟩, ⟨by repeat (first | (with_reducible first | exact HB.out | apply below_alloc | apply pw_below_drewN | apply below_drew1) | exact HB.out)⟩⟩
           ·replace c45 := Bool.eq_false_iff.mpr c45
            subst c45
            have H1 : (laws_FnCover.j1 kj6 l1 t359 t363 t364 true) = some r := by rw [if_neg (show ¬ (false = true) by decide)] at H; exact H
            clear H
            have H := H1
            clear H1
            as_aux_lemma =>
             have H' := Aside0.mk H
             clear H
             obtain ⟨Ao55, co55, eo55⟩ := Kd.R_slice HO394.out
             subst eo55
             obtain ⟨Ao56, co56, eo56⟩ := Kd.R_slice HO_7.out
             subst eo56
             go_wp2_with (first | (go_at_call 53; (with_reducible refine (laws_sameTrace.calls kj6 _ _ t389 _ _ t362 true _ ?side1 ?side2 ?side3 ?side4 A43.out).mono ?_); (case side1 => repeat (first | exact (Kd.R_reads' HO394.out).2.2 | (with_reducible refine Kd.C_alloc ?_ _) | (with_reducible refine Kd.C_drewN ?_ _) | (with_reducible refine Kd.C_drew ?_))); (case side2 => exact (Kd.R_reads' HO394.out).2.1); (case side3 => repeat (first | exact (Kd.R_reads' HO_7.out).2.2 | (with_reducible refine Kd.C_alloc ?_ _) | (with_reducible refine Kd.C_drewN ?_ _) | (with_reducible refine Kd.C_drew ?_))); (case side4 => exact (Kd.R_reads' HO_7.out).2.1); rintro e w' ⟨rfl, ⟨nd, rfl⟩⟩; (try first | exact ⟨rfl, _, World.drewN_drewN _ _ _⟩ | exact ⟨rfl, _, Eq.trans (World.drewN_drewN _ _ _) (congrArg (World.drewN _) (Nat.add_assoc _ _ _))⟩)))
             repeat (go_quiet (first | (go_at_call 53; (with_reducible refine (laws_sameTrace.calls kj6 _ _ t389 _ _ t362 true _ ?side1 ?side2 ?side3 ?side4 A43.out).mono ?_); (case side1 => repeat (first | exact (Kd.R_reads' HO394.out).2.2 | (with_reducible refine Kd.C_alloc ?_ _) | (with_reducible refine Kd.C_drewN ?_ _) | (with_reducible refine Kd.C_drew ?_))); (case side2 => exact (Kd.R_reads' HO394.out).2.1); (case side3 => repeat (first | exact (Kd.R_reads' HO_7.out).2.2 | (with_reducible refine Kd.C_alloc ?_ _) | (with_reducible refine Kd.C_drewN ?_ _) | (with_reducible refine Kd.C_drew ?_))); (case side4 => exact (Kd.R_reads' HO_7.out).2.1); rintro e w' ⟨rfl, ⟨nd, rfl⟩⟩; (try first | exact ⟨rfl, _, World.drewN_drewN _ _ _⟩ | exact ⟨rfl, _, Eq.trans (World.drewN_drewN _ _ _) (congrArg (World.drewN _) (Nat.add_assoc _ _ _))⟩))); try go_wp2_with (first | (go_at_call 53; (with_reducible refine (laws_sameTrace.calls kj6 _ _ t389 _ _ t362 true _ ?side1 ?side2 ?side3 ?side4 A43.out).mono ?_); (case side1 => repeat (first | exact (Kd.R_reads' HO394.out).2.2 | (with_reducible refine Kd.C_alloc ?_ _) | (with_reducible refine Kd.C_drewN ?_ _) | (with_reducible refine Kd.C_drew ?_))); (case side2 => exact (Kd.R_reads' HO394.out).2.1); (case side3 => repeat (first | exact (Kd.R_reads' HO_7.out).2.2 | (with_reducible refine Kd.C_alloc ?_ _) | (with_reducible refine Kd.C_drewN ?_ _) | (with_reducible refine Kd.C_drew ?_))); (case side4 => exact (Kd.R_reads' HO_7.out).2.1); rintro e w' ⟨rfl, ⟨nd, rfl⟩⟩; (try first | exact ⟨rfl, _, World.drewN_drewN _ _ _⟩ | exact ⟨rfl, _, Eq.trans (World.drewN_drewN _ _ _) (congrArg (World.drewN _) (Nat.add_assoc _ _ _))⟩))))
             go_meet
             case rel => exact ⟨_, (true), (by first | rfl | (simp; done) | (simp [*]; done)), H', ⟨by have := HJ6.out; first | omega | exact Nat.le_refl _⟩, ⟨by (with_reducible repeat (first | apply Kd.R_alloc | apply Kd.R_drewN | apply Kd.R_drew)); exact Kd.R_mono HO_6.out (fun _ hk => trivial)⟩, ⟨by (with_reducible repeat (first | apply Kd.R_alloc | apply Kd.R_drewN | apply Kd.R_drew)); exact Kd.R_mono HO_8.out (fun _ hk => trivial)⟩, ⟨by (with_reducible repeat (first | apply Kd.R_alloc | apply Kd.R_drewN | apply Kd.R_drew)); exact Kd.R_mono HO_9.out (fun _ hk => trivial)⟩, ⟨by repeat (first | (with_reducible first | exact HB.out | apply below_alloc | apply pw_below_drewN | apply below_drew1) | exact HB.out)⟩⟩
          ·replace c44 := Bool.eq_false_iff.mpr c44
           subst c44
           have H1 : (laws_FnCover.j1 kj6 l1 t359 t363 t364 true) = some r := by rw [if_neg (show ¬ (false = true) by decide)] at H; exact H
           clear H
           have H := H1
           clear H1
           as_aux_lemma =>
            have H' := Aside0.mk H
            clear H
            obtain ⟨Ao57, co57, eo57⟩ := Kd.R_slice HO394.out
            subst eo57
            obtain ⟨Ao58, co58, eo58⟩ := Kd.R_slice HO_7.out
            subst eo58
            go_wp2_with (first | (go_at_call 53; (with_reducible refine (laws_sameTrace.calls kj6 _ _ t389 _ _ t362 false _ ?side1 ?side2 ?side3 ?side4 A43.out).mono ?_); (case side1 => repeat (first | exact (Kd.R_reads' HO394.out).2.2 | (with_reducible refine Kd.C_alloc ?_ _) | (with_reducible refine Kd.C_drewN ?_ _) | (with_reducible refine Kd.C_drew ?_))); (case side2 => exact (Kd.R_reads' HO394.out).2.1); (case side3 => repeat (first | exact (Kd.R_reads' HO_7.out).2.2 | (with_reducible refine Kd.C_alloc ?_ _) | (with_reducible refine Kd.C_drewN ?_ _) | (with_reducible refine Kd.C_drew ?_))); (case side4 => exact (Kd.R_reads' HO_7.out).2.1); rintro e w' ⟨rfl, ⟨nd, rfl⟩⟩; (try first | exact ⟨rfl, _, World.drewN_drewN _ _ _⟩ | exact ⟨rfl, _, Eq.trans (World.drewN_drewN _ _ _) (congrArg (World.drewN _) (Nat.add_assoc _ _ _))⟩)))
            repeat (go_quiet (first | (go_at_call 53; (with_reducible refine (laws_sameTrace.calls kj6 _ _ t389 _ _ t362 false _ ?side1 ?side2 ?side3 ?side4 A43.out).mono ?_); (case side1 => repeat (first | exact (Kd.R_reads' HO394.out).2.2 | (with_reducible refine Kd.C_alloc ?_ _) | (with_reducible refine Kd.C_drewN ?_ _) | (with_reducible refine Kd.C_drew ?_))); (case side2 => exact (Kd.R_reads' HO394.out).2.1); (case side3 => repeat (first | exact (Kd.R_reads' HO_7.out).2.2 | (with_reducible refine Kd.C_alloc ?_ _) | (with_reducible refine Kd.C_drewN ?_ _) | (with_reducible refine Kd.C_drew ?_))); (case side4 => exact (Kd.R_reads' HO_7.out).2.1); rintro e w' ⟨rfl, ⟨nd, rfl⟩⟩; (try first | exact ⟨rfl, _, World.drewN_drewN _ _ _⟩ | exact ⟨rfl, _, Eq.trans (World.drewN_drewN _ _ _) (congrArg (World.drewN _) (Nat.add_assoc _ _ _))⟩))); try go_wp2_with (first | (go_at_call 53; (with_reducible refine (laws_sameTrace.calls kj6 _ _ t389 _ _ t362 false _ ?side1 ?side2 ?side3 ?side4 A43.out).mono ?_); (case side1 => repeat (first | exact (Kd.R_reads' HO394.out).2.2 | (with_reducible refine Kd.C_alloc ?_ _) | (with_reducible refine Kd.C_drewN ?_ _) | (with_reducible refine Kd.C_drew ?_))); (case side2 => exact (Kd.R_reads' HO394.out).2.1); (case side3 => repeat (first | exact (Kd.R_reads' HO_7.out).2.2 | (with_reducible refine Kd.C_alloc ?_ _) | (with_reducible refine Kd.C_drewN ?_ _) | (with_reducible refine Kd.C_drew ?_))); (case side4 => exact (Kd.R_reads' HO_7.out).2.1); rintro e w' ⟨rfl, ⟨nd, rfl⟩⟩; (try first | exact ⟨rfl, _, World.drewN_drewN _ _ _⟩ | exact ⟨rfl, _, Eq.trans (World.drewN_drewN _ _ _) (congrArg (World.drewN _) (Nat.add_assoc _ _ _))⟩))))
            go_meet
            case rel => exact ⟨_, (true), (by first | rfl | (simp; done) | (simp [*]; done)), H', ⟨by have := HJ6.out; first | omega | exact Nat.le_refl _⟩, ⟨by (with_reducible repeat (first | apply Kd.R_alloc | apply Kd.R_drewN | apply Kd.R_drew)); exact Kd.R_mono HO_6.out (fun _ hk => trivial)⟩, ⟨by (with_reducible repeat (first | apply Kd.R_alloc | apply Kd.R_drewN | apply Kd.R_drew)); exact Kd.R_mono HO_8.out (fun _ hk => trivial)⟩, ⟨by (with_reducible repeat (first | apply Kd.R_alloc | apply Kd.R_drewN | apply Kd.R_drew)); exact Kd.R_mono HO_9.out (fun _ hk => trivial)⟩, ⟨by repeat (first | (with_reducible first | exact HB.out | apply below_alloc | apply pw_below_drewN | apply below_drew1) | exact HB.out)⟩⟩
         ·replace c42 := Bool.eq_false_iff.mpr c42
          subst c42
          have H1 : (laws_FnCover.j1 kj6 l1 t359 t363 t364 true) = some r := by rw [if_neg (show ¬ (false = true) by decide)] at H; exact H
          clear H
          have H := H1
          clear H1
          as_aux_lemma =>
           have H' := Aside0.mk H
           clear H
           go_wp2
           repeat (go_quiet (fail); try go_wp2)
           go_meet
           case rel => exact ⟨_, (true), (by first | rfl | (simp; done) | (simp [*]; done)), H', ⟨by have := HJ6.out; first | omega | exact Nat.le_refl _⟩, ⟨by (with_reducible repeat (first | apply Kd.R_alloc | apply Kd.R_drewN | apply Kd.R_drew)); exact Kd.R_mono HO_6.out (fun _ hk => trivial)⟩, ⟨by (with_reducible repeat (first | apply Kd.R_alloc | apply Kd.R_drewN | apply Kd.R_drew)); exact Kd.R_mono HO_8.out (fun _ hk => trivial)⟩, ⟨by (with_reducible repeat (first | apply Kd.R_alloc | apply Kd.R_drewN | apply Kd.R_drew)); exact Kd.R_mono HO_9.out (fun _ hk => trivial)⟩, ⟨by repeat (first | (with_reducible first | exact HB.out | apply below_alloc | apply pw_below_drewN | apply below_drew1) | exact HB.out)⟩⟩
        ·replace c41 := Bool.eq_false_iff.mpr c41
         subst c41
         have H1 : (laws_FnCover.j1 kj6 l1 t359 t363 t364 true) = some r := by rw [if_neg (show ¬ (false = true) by decide)] at H; exact H
         clear H
         have H := H1
         clear H1
         as_aux_lemma =>
          have H' := Aside0.mk H
          clear H
          go_wp2
          repeat (go_quiet (fail); try go_wp2)
          go_meet
          case rel => exact ⟨_, (true), (by first | rfl | (simp; done) | (simp [*]; done)), H', ⟨by have := HJ6.out; first | omega | exact Nat.le_refl _⟩, ⟨by (with_reducible repeat (first | apply Kd.R_alloc | apply Kd.R_drewN | apply Kd.R_drew)); exact Kd.R_mono HO_6.out (fun _ hk => trivial)⟩, ⟨by (with_reducible repeat (first | apply Kd.R_alloc | apply Kd.R_drewN | apply Kd.R_drew)); exact Kd.R_mono HO_8.out (fun _ hk => trivial)⟩, ⟨by (with_reducible repeat (first | apply Kd.R_alloc | apply Kd.R_drewN | apply Kd.R_drew)); exact Kd.R_mono HO_9.out (fun _ hk => trivial)⟩, ⟨by repeat (first | (with_reducible first | exact HB.out | apply below_alloc | apply pw_below_drewN | apply below_drew1) | exact HB.out)⟩⟩
       case rest =>
        clear HC36
        try clear c1
        try clear p2
        try clear c3
        try clear c3b0
        try clear c4
        try clear p6
        try clear c11
        try clear c12
        try clear c12b0
        try clear c12b1
        try clear c12b2
        try clear c14
        try clear c16
        try clear c30
        try clear c32
        try clear c41
        try clear c42
        try clear c44
        try clear c45
        try clear c47
        try clear p2
        try clear p6
        obtain ⟨kq, x138_35, rfl, HA, HJ35, HO_6, HO_8, HO_9, HB⟩ := hcut
        cases kq with
        | zero => exact absurd HA.out (by simp [laws_FnCover.j1])
        | succ kj35 =>
         have H := HA.out
         clear HA
         simp only [laws_FnCover.j1] at H
         by_cases c59 : x138_35 = true
         ·subst c59
          have H1 : (some false) = some r := by rw [if_pos rfl] at H; exact H
          clear H
          have H := H1
          clear H1
          as_aux_lemma =>
           obtain rfl := Option.some.inj H
           exact absurd hr_.out (by simp)
         ·replace c59 := Bool.eq_false_iff.mpr c59
          subst c59
          have H1 : (laws_FnCover.l0 kj35 l1 t363 t364 ([] : List ByteArray) t359 (t359.length : Int) 0) = some r := by rw [if_neg (show ¬ (false = true) by decide)] at H; exact H
          clear H
          have H := H1
          clear H1
          have H' := Aside0.mk H
          clear H
          go_wp2
          repeat (go_quiet (fail); try go_wp2)
          go_loopg [23, 141] kj35 (fun kq v23 v141 w' => ∃ (x23_3 : List ByteArray) (x141_3 : Int), v141 = .int .i64 x141_3 ∧ Aside0 (laws_FnCover.l0 kq l1 t363 t364 x23_3 t359 (t359.length : Int) x141_3 = some r) ∧ Aside0 (kq ≤ kj35) ∧ Aside0 (Kd.R Kd.string 9 w' w.heap.size (fun k_ => some k_ ≠ (v23 : Value).ownBlock) v368 t363) ∧ Aside0 (Kd.R Kd.bool 4 w' w.heap.size (fun _ => True) v370 t364) ∧ Aside0 (Kd.R Kd.string 9 w' w.heap.size (fun k_ => some k_ ≠ (v368 : Value).ownBlock) v23 x23_3) ∧ Aside0 (Kd.R k60 60 w' w.heap.size (fun _ => True) (.slice Ao9 t359.length co9) t359) ∧ Aside0 (Below w.heap.size w w'))
          case atStart => exact ⟨(([] : List ByteArray)), (0), (by first | rfl | (simp; done) | (simp [*]; done)), H', ⟨Nat.le_refl _⟩, ⟨by (with_reducible repeat (first | apply Kd.R_alloc | apply Kd.R_drewN | apply Kd.R_drew)); exact Kd.R_mono HO_8.out (fun _ hk => (by simp [Value.ownBlock]))⟩, ⟨by (with_reducible repeat (first | apply Kd.R_alloc | apply Kd.R_drewN | apply Kd.R_drew)); exact HO_9.out⟩, ⟨by first | exact Kd.R_nil _ _ _ _ _ | exact Kd.N_nil _ _ _ _ _ | exact Kd.V_nil _ _ _ _ _ | exact Kd.Q_nil _ _ _ _ _ | exact Kd.S_nil _ _ _ _ _⟩, ⟨by (with_reducible repeat (first | apply Kd.R_alloc | apply Kd.R_drewN | apply Kd.R_drew)); exact HO_6.out⟩, ⟨by repeat (first | (with_reducible first | exact HB.out | apply below_alloc | apply pw_below_drewN | apply below_drew1) | exact HB.out)⟩⟩
          case round =>
           clear H'
           try clear c1
           try clear p2
           try clear c3
           try clear c3b0
           try clear c4
           try clear c5
           try clear p6
           try clear c11
           try clear c12
           try clear c12b0
           try clear c12b1
           try clear c12b2
           try clear c14
           try clear c16
           try clear c30
           try clear c32
           try clear c41
           try clear c42
           try clear c44
           try clear c45
           try clear c47
           try clear c59
           try clear p2
           try clear p6
           obtain ⟨x23_3, x141_3, rfl, HA, HK3, HO_8, HO_9, HO_23, HO_139, HB⟩ := hrel
           cases gk with
           | zero => exact absurd HA.out (by simp [laws_FnCover.l0])
           | succ k3 =>
            have H := HA.out
            clear HA
            simp only [laws_FnCover.l0] at H
            by_cases c60 : x141_3 < (t359.length : Int)
            ·rw [if_pos c60] at H
             have c60b0 : decide (x141_3 < (t359.length : Int)) = true := decide_eq_true c60
             clear c60
             by_cases c61 : 0 ≤ x141_3
             ·rw [if_pos c61] at H
              have c61b0 : decide (0 ≤ x141_3) = true := decide_eq_true c61
              clear c61
              by_cases c62 : x141_3 < (t359.length : Int)
              ·rw [if_pos c62] at H
               have c62b0 : decide (x141_3 < (t359.length : Int)) = true := decide_eq_true c62
               clear c62
               by_cases c63 : x141_3 < (t364.length : Int)
               ·rw [if_pos c63] at H
                have c63b0 : decide (x141_3 < (t364.length : Int)) = true := decide_eq_true c63
                clear c63
                obtain ⟨bq64, hbq64⟩ : ∃ b_ : Bool, b_ = (rdOf false t364 x141_3) := ⟨_, rfl⟩
                replace H : (if bq64 = true then (if ((rd_T60 t359 x141_3).f0) = 1 then (if x23_3.length < 8796093022208 then (laws_FnCover.l0 k3 l1 t363 t364 (x23_3 ++ [(rd_T60 t359 x141_3).f1]) t359 (t359.length : Int) (wrap64 (x141_3 + 1))) else (none)) else (laws_FnCover.l0 k3 l1 t363 t364 x23_3 t359 (t359.length : Int) (wrap64 (x141_3 + 1)))) else (laws_FnCover.l0 k3 l1 t363 t364 x23_3 t359 (t359.length : Int) (wrap64 (x141_3 + 1)))) = some r := by rw [← hbq64] at H; exact H
                have Nbq64 := Aside0.mk hbq64
                clear hbq64
                by_cases c65 : bq64 = true
                ·subst c65
                 have H1 : (if ((rd_T60 t359 x141_3).f0) = 1 then (if x23_3.length < 8796093022208 then (laws_FnCover.l0 k3 l1 t363 t364 (x23_3 ++ [(rd_T60 t359 x141_3).f1]) t359 (t359.length : Int) (wrap64 (x141_3 + 1))) else (none)) else (laws_FnCover.l0 k3 l1 t363 t364 x23_3 t359 (t359.length : Int) (wrap64 (x141_3 + 1)))) = some r := by rw [if_pos rfl] at H; exact H
                 clear H
                 have H := H1
                 clear H1
                 by_cases c66 : ((rd_T60 t359 x141_3).f0) = 1
                 ·rw [if_pos c66] at H
                  have c66b0 : (((rd_T60 t359 x141_3).f0) == 1) = true := beq_iff_eq.mpr c66
                  have c66b1 : (((rd_T60 t359 x141_3).f0) != 1) = false := bne_eq_false_iff_eq.mpr c66
                  clear c66
                  by_cases c67 : x23_3.length < 8796093022208
                  ·rw [if_pos c67] at H
                   have LMc67 := Aside0.mk c67
                   clear c67
                   obtain ⟨y408, hy408⟩ : ∃ y_ : List ByteArray, y_ = (x23_3 ++ [(rd_T60 t359 x141_3).f1]) := ⟨_, rfl⟩
                   replace H : (laws_FnCover.l0 k3 l1 t363 t364 y408 t359 (t359.length : Int) (wrap64 (x141_3 + 1))) = some r := by first | (rw [hy408]; with_reducible exact H) | (have H2_ := (Option.bind_some _ _).symm.trans H; rw [hy408]; with_reducible exact H2_) | (have H2_ := (Option.bind_some _ _).symm.trans H; with_reducible exact H2_) | with_reducible exact H | (rw [hy408]; exact H) | exact H
                   have Ny408 := Aside0.mk hy408
                   clear hy408
                   as_aux_lemma =>
                    have H' := Aside0.mk H
                    clear H
                    have p405 : 0 ≤ (x141_3 : Int) := of_decide_eq_true (by first | (with_reducible assumption) | assumption)
                    have q405 : x141_3 < (t359.length : Int) := of_decide_eq_true (by first | (with_reducible assumption) | assumption)
                    obtain ⟨ad405, e405, hx405_0, hx405_1⟩ := at_T60 (Kd.R_reads' HO_139.out).2.2 x141_3 p405 q405
                    cases e405
                    replace p405 := eq_true p405
                    replace q405 := eq_true q405
                    go_wp2_with (first | ((with_reducible refine gate_dst (N := 25) rfl ?_); (try (refine gate_guard (by rfl) ?_; dsimp only)); refine box_event ?hg (N := 25) ?hd (cs := #[.int .i64 0, .string (⟨#[]⟩ : ByteArray)]) (t := 60) ?hr ?_; (case hd => rfl); (case hg => rfl); (case hr => first | (go_simp; done) | (go_simp; rfl)); intro gb406 hg w68 hbox hb; have n0_ := Aside0.mk (Kd.R_below (by (with_reducible repeat (first | apply Kd.R_alloc | apply Kd.R_drewN | apply Kd.R_drew)); exact HO_8.out) hb); have n1_ := Aside0.mk (Kd.R_below (by (with_reducible repeat (first | apply Kd.R_alloc | apply Kd.R_drewN | apply Kd.R_drew)); exact HO_9.out) hb); have n2_ := Aside0.mk (Kd.R_below (by (with_reducible repeat (first | apply Kd.R_alloc | apply Kd.R_drewN | apply Kd.R_drew)); exact HO_23.out) hb); have n3_ := Aside0.mk (Kd.R_below (Kd.R_elderB (by (with_reducible repeat (first | apply Kd.R_alloc | apply Kd.R_drewN | apply Kd.R_drew)); exact HO_139.out) gb406 (Nat.le_of_eq hg.symm)) hb); have n4_ := Aside0.mk (below_step (by repeat (first | (with_reducible first | exact HB.out | apply below_alloc | apply pw_below_drewN | apply below_drew1) | exact HB.out)) hb); have n5_ := Aside0.mk (hbox); have n6_ := Aside0.mk ((by rw [hg]; exact (below_size (by repeat (first | (with_reducible first | exact HB.out | apply below_alloc | apply pw_below_drewN | apply below_drew1) | exact HB.out))) : w.heap.size ≤ gb406)); have n7_ := Aside0.mk ((by rw [hg]; exact (below_size (by repeat (first | (with_reducible first | exact HB.out | apply below_alloc | apply pw_below_drewN | apply below_drew1) | exact HB.out))) : w.heap.size ≤ gb406)); clear HO_8; clear HO_9; clear HO_23; clear HO_139; clear HB; have HO_8 := n0_; have HO_9 := n1_; have HO_23 := n2_; have HO_139 := n3_; have HB := n4_; have BK406 := n5_; have GW406 := n6_; have GE406 := n7_; clear n0_ n1_ n2_ n3_ n4_ n5_ n6_ n7_; clear hb hbox hg; have hcz69_0 : w68.cell? ⟨gb406, 0, none⟩ = some (.int .i64 0) := (blk_cell BK406.out 0).trans rfl; have hcz69_1 : w68.cell? ⟨gb406, 1, none⟩ = some (.string (⟨#[]⟩ : ByteArray)) := (blk_cell BK406.out 1).trans rfl; have hfz69_0 := blk_frozen BK406.out 0; have hfz69_1 := blk_frozen BK406.out 1; obtain ⟨Ao70, co70, eo70⟩ := Kd.R_slice HO_9.out; subst eo70; have p407 : 0 ≤ (x141_3 : Int) := of_decide_eq_true (by first | (with_reducible assumption) | assumption); have q407 : x141_3 < (t364.length : Int) := of_decide_eq_true (by first | (with_reducible assumption) | assumption); obtain ⟨ad407, e407, hx407_0⟩ := Kd.at_bool (Kd.R_reads' HO_9.out).2.2 x141_3 p407 q407; (try rw [← Nbq64.out] at hx407_0); cases e407; have hn407_0 : ad407.block ≠ gb406 := Kd.own_blk (Kd.R_ne HO_9.out BK406.out (by decide)); have hn407_1 : ad407.block ≠ gb406 := Kd.own_blk (Kd.R_ne HO_9.out BK406.out (by decide)); replace hx407_0 := (cell_far (p := ⟨gb406, 0, none⟩) (by first | (rw [add_block]; exact hn407_0) | (show (Addr.add _ _).block ≠ _; rw [add_block]; exact hn407_0) | exact hn407_0) (.int .i64 ((rd_T60 t359 x141_3).f0))).trans hx407_0; replace hx407_0 := (cell_far (p := ⟨gb406, 1, none⟩) (by first | (rw [add_block]; exact hn407_1) | (show (Addr.add _ _).block ≠ _; rw [add_block]; exact hn407_1) | exact hn407_1) (.string ((rd_T60 t359 x141_3).f1))).trans hx407_0; (try have hy407_0 := fun (n_ : Nat) => (show ((((w68.drewN n_).setCell ⟨gb406, 0, none⟩ (.int .i64 ((rd_T60 t359 x141_3).f0))).setCell ⟨gb406, 1, none⟩ (.string ((rd_T60 t359 x141_3).f1)))).cell? _ = some _ from hx407_0)); clear hn407_0; clear hn407_1; replace p407 := eq_true p407; replace q407 := eq_true q407) | ((with_reducible refine gate_builtin (b := .append) (xs := #[.tmp 155, .tmp 158]) rfl ?_); (try (refine gate_guard (by rfl) ?_; dsimp only)); at_builtin; refine Kd.R_append Kd.string (w0 := w) w.heap.size rfl (.tmp 155) (.tmp 158) 28 9 (.string ⟨#[]⟩) 16 rfl Try.underlying28 info9 rfl (by decide) (by omega) u23 x23_3 ((rd_T60 t359 x141_3).f1) [.string ((rd_T60 t359 x141_3).f1)] (fun k_ => some k_ ≠ (v368 : Value).ownBlock) (fun _ => False) rfl (by first | (go_simp; done) | (go_simp; rfl)) ?aP (fun _ hk => hk.elim) ?aF ?aO ?aB ?aS ?aL ?_; (case aP => exact rfl); (case aB => exact (by repeat (first | (with_reducible first | exact HB.out | apply below_alloc | apply pw_below_drewN | apply below_drew1 | refine below_set ?_ GE406.out) | exact HB.out))); (case aF => exact (fun k_ hk => Kd.fresh' (Kd.R_lt (by (with_reducible repeat (first | apply Kd.R_alloc | apply Kd.R_drewN | apply Kd.R_drew)); exact (Kd.R_mono (Kd.R_far (p := ⟨gb406, 1, none⟩) (Kd.R_far (p := ⟨gb406, 0, none⟩) (Kd.R_types HO_8.out BK406.out (by decide)) (fun _ hk => hk.2) (.int .i64 ((rd_T60 t359 x141_3).f0))) (fun _ hk => hk.2) (.string ((rd_T60 t359 x141_3).f1))) (fun _ h_ => h_.1)))) k_ hk)); (case aO => exact (by (with_reducible repeat (first | apply Kd.R_alloc | apply Kd.R_drewN | apply Kd.R_drew)); exact Kd.R_mono (Kd.R_far (p := ⟨gb406, 1, none⟩) (Kd.R_far (p := ⟨gb406, 0, none⟩) (Kd.R_types HO_23.out BK406.out (by decide)) (fun _ hk => hk.2) (.int .i64 ((rd_T60 t359 x141_3).f0))) (fun _ hk => hk.2) (.string ((rd_T60 t359 x141_3).f1))) (fun _ hk => hk.1))); (case aS => exact (below_size (by repeat (first | (with_reducible first | exact HB.out | apply below_alloc | apply pw_below_drewN | apply below_drew1 | refine below_set ?_ GE406.out) | exact HB.out)))); (case aL => have := LMc67.out; omega); intro v409 w71 ho hb hg hat; rw [← Ny408.out] at ho; have n0_ := Aside0.mk (Kd.R_after (ok := (fun _ => True)) (by (with_reducible repeat (first | apply Kd.R_alloc | apply Kd.R_drewN | apply Kd.R_drew)); exact Kd.R_mono (Kd.R_far (p := ⟨gb406, 1, none⟩) (Kd.R_far (p := ⟨gb406, 0, none⟩) (Kd.R_types HO_8.out BK406.out (by decide)) (fun _ hk => hk.2) (.int .i64 ((rd_T60 t359 x141_3).f0))) (fun _ hk => hk.2) (.string ((rd_T60 t359 x141_3).f1))) (fun _ hk => ⟨trivial, hk.1⟩)) hg hat); have n1_ := Aside0.mk (Kd.R_over' (by (with_reducible repeat (first | apply Kd.R_alloc | apply Kd.R_drewN | apply Kd.R_drew)); exact (Kd.R_mono (Kd.R_far (p := ⟨gb406, 1, none⟩) (Kd.R_far (p := ⟨gb406, 0, none⟩) (Kd.R_types HO_9.out BK406.out (by decide)) (fun _ hk => hk.2) (.int .i64 ((rd_T60 t359 x141_3).f0))) (fun _ hk => hk.2) (.string ((rd_T60 t359 x141_3).f1))) (fun _ h_ => h_.1))) (Kd.R_typed (by (with_reducible repeat (first | apply Kd.R_alloc | apply Kd.R_drewN | apply Kd.R_drew)); exact (Kd.R_mono (Kd.R_far (p := ⟨gb406, 1, none⟩) (Kd.R_far (p := ⟨gb406, 0, none⟩) (Kd.R_types HO_23.out BK406.out (by decide)) (fun _ hk => hk.2) (.int .i64 ((rd_T60 t359 x141_3).f0))) (fun _ hk => hk.2) (.string ((rd_T60 t359 x141_3).f1))) (fun _ h_ => h_.1)))) (by decide) hg); have n2_ := Aside0.mk (Kd.R_over' (by (with_reducible repeat (first | apply Kd.R_alloc | apply Kd.R_drewN | apply Kd.R_drew)); exact (Kd.R_mono (Kd.R_far (p := ⟨gb406, 1, none⟩) (Kd.R_far (p := ⟨gb406, 0, none⟩) (Kd.R_mono HO_139.out (fun k_ hk => (⟨hk, hk.2⟩ : _ ∧ k_ ≠ gb406))) (fun _ hk => hk.2) (.int .i64 ((rd_T60 t359 x141_3).f0))) (fun _ hk => hk.2) (.string ((rd_T60 t359 x141_3).f1))) (fun _ h_ => h_.1))) (Kd.R_typed (by (with_reducible repeat (first | apply Kd.R_alloc | apply Kd.R_drewN | apply Kd.R_drew)); exact (Kd.R_mono (Kd.R_far (p := ⟨gb406, 1, none⟩) (Kd.R_far (p := ⟨gb406, 0, none⟩) (Kd.R_types HO_23.out BK406.out (by decide)) (fun _ hk => hk.2) (.int .i64 ((rd_T60 t359 x141_3).f0))) (fun _ hk => hk.2) (.string ((rd_T60 t359 x141_3).f1))) (fun _ h_ => h_.1)))) (by decide) hg); have n3_ := Aside0.mk (blk_grown (g := gb406) (o := .cells #[.int .i64 ((rd_T60 t359 x141_3).f0), .string ((rd_T60 t359 x141_3).f1)] 60 (0, 0)) (by (with_reducible repeat (first | refine blk_drewN ?_ _ | refine blk_drew ?_ | refine blk_alloc ?_ _)); refine blk_put (cs := #[.int .i64 ((rd_T60 t359 x141_3).f0), .string (⟨#[]⟩ : ByteArray)]) ?_ 1 _ rfl; (with_reducible repeat (first | refine blk_drewN ?_ _ | refine blk_drew ?_ | refine blk_alloc ?_ _)); refine blk_put (cs := #[.int .i64 0, .string (⟨#[]⟩ : ByteArray)]) ?_ 0 _ rfl; (with_reducible repeat (first | refine blk_drewN ?_ _ | refine blk_drew ?_ | refine blk_alloc ?_ _)); exact BK406.out) hg (Kd.R_ne HO_23.out BK406.out (by decide))); have n4_ := Aside0.mk (hb); have n5_ := Aside0.mk (ho); clear HO_8; clear HO_9; clear HO_139; clear BK406; clear HB; clear HO_23; have HO_8 := n0_; have HO_9 := n1_; have HO_139 := n2_; have BK406 := n3_; have HB := n4_; have HO410 := n5_; clear n0_ n1_ n2_ n3_ n4_ n5_; clear ho hb hg hat))
                    repeat (go_quiet (first | ((with_reducible refine gate_dst (N := 25) rfl ?_); (try (refine gate_guard (by rfl) ?_; dsimp only)); refine box_event ?hg (N := 25) ?hd (cs := #[.int .i64 0, .string (⟨#[]⟩ : ByteArray)]) (t := 60) ?hr ?_; (case hd => rfl); (case hg => rfl); (case hr => first | (go_simp; done) | (go_simp; rfl)); intro gb406 hg w68 hbox hb; have n0_ := Aside0.mk (Kd.R_below (by (with_reducible repeat (first | apply Kd.R_alloc | apply Kd.R_drewN | apply Kd.R_drew)); exact HO_8.out) hb); have n1_ := Aside0.mk (Kd.R_below (by (with_reducible repeat (first | apply Kd.R_alloc | apply Kd.R_drewN | apply Kd.R_drew)); exact HO_9.out) hb); have n2_ := Aside0.mk (Kd.R_below (by (with_reducible repeat (first | apply Kd.R_alloc | apply Kd.R_drewN | apply Kd.R_drew)); exact HO_23.out) hb); have n3_ := Aside0.mk (Kd.R_below (Kd.R_elderB (by (with_reducible repeat (first | apply Kd.R_alloc | apply Kd.R_drewN | apply Kd.R_drew)); exact HO_139.out) gb406 (Nat.le_of_eq hg.symm)) hb); have n4_ := Aside0.mk (below_step (by repeat (first | (with_reducible first | exact HB.out | apply below_alloc | apply pw_below_drewN | apply below_drew1) | exact HB.out)) hb); have n5_ := Aside0.mk (hbox); have n6_ := Aside0.mk ((by rw [hg]; exact (below_size (by repeat (first | (with_reducible first | exact HB.out | apply below_alloc | apply pw_below_drewN | apply below_drew1) | exact HB.out))) : w.heap.size ≤ gb406)); have n7_ := Aside0.mk ((by rw [hg]; exact (below_size (by repeat (first | (with_reducible first | exact HB.out | apply below_alloc | apply pw_below_drewN | apply below_drew1) | exact HB.out))) : w.heap.size ≤ gb406)); clear HO_8; clear HO_9; clear HO_23; clear HO_139; clear HB; have HO_8 := n0_; have HO_9 := n1_; have HO_23 := n2_; have HO_139 := n3_; have HB := n4_; have BK406 := n5_; have GW406 := n6_; have GE406 := n7_; clear n0_ n1_ n2_ n3_ n4_ n5_ n6_ n7_; clear hb hbox hg; have hcz69_0 : w68.cell? ⟨gb406, 0, none⟩ = some (.int .i64 0) := (blk_cell BK406.out 0).trans rfl; have hcz69_1 : w68.cell? ⟨gb406, 1, none⟩ = some (.string (⟨#[]⟩ : ByteArray)) := (blk_cell BK406.out 1).trans rfl; have hfz69_0 := blk_frozen BK406.out 0; have hfz69_1 := blk_frozen BK406.out 1; obtain ⟨Ao70, co70, eo70⟩ := Kd.R_slice HO_9.out; subst eo70; have p407 : 0 ≤ (x141_3 : Int) := of_decide_eq_true (by first | (with_reducible assumption) | assumption); have q407 : x141_3 < (t364.length : Int) := of_decide_eq_true (by first | (with_reducible assumption) | assumption); obtain ⟨ad407, e407, hx407_0⟩ := Kd.at_bool (Kd.R_reads' HO_9.out).2.2 x141_3 p407 q407; (try rw [← Nbq64.out] at hx407_0); cases e407; have hn407_0 : ad407.block ≠ gb406 := Kd.own_blk (Kd.R_ne HO_9.out BK406.out (by decide)); have hn407_1 : ad407.block ≠ gb406 := Kd.own_blk (Kd.R_ne HO_9.out BK406.out (by decide)); replace hx407_0 := (cell_far (p := ⟨gb406, 0, none⟩) (by first | (rw [add_block]; exact hn407_0) | (show (Addr.add _ _).block ≠ _; rw [add_block]; exact hn407_0) | exact hn407_0) (.int .i64 ((rd_T60 t359 x141_3).f0))).trans hx407_0; replace hx407_0 := (cell_far (p := ⟨gb406, 1, none⟩) (by first | (rw [add_block]; exact hn407_1) | (show (Addr.add _ _).block ≠ _; rw [add_block]; exact hn407_1) | exact hn407_1) (.string ((rd_T60 t359 x141_3).f1))).trans hx407_0; (try have hy407_0 := fun (n_ : Nat) => (show ((((w68.drewN n_).setCell ⟨gb406, 0, none⟩ (.int .i64 ((rd_T60 t359 x141_3).f0))).setCell ⟨gb406, 1, none⟩ (.string ((rd_T60 t359 x141_3).f1)))).cell? _ = some _ from hx407_0)); clear hn407_0; clear hn407_1; replace p407 := eq_true p407; replace q407 := eq_true q407) | ((with_reducible refine gate_builtin (b := .append) (xs := #[.tmp 155, .tmp 158]) rfl ?_); (try (refine gate_guard (by rfl) ?_; dsimp only)); at_builtin; refine Kd.R_append Kd.string (w0 := w) w.heap.size rfl (.tmp 155) (.tmp 158) 28 9 (.string ⟨#[]⟩) 16 rfl Try.underlying28 info9 rfl (by decide) (by omega) u23 x23_3 ((rd_T60 t359 x141_3).f1) [.string ((rd_T60 t359 x141_3).f1)] (fun k_ => some k_ ≠ (v368 : Value).ownBlock) (fun _ => False) rfl (by first | (go_simp; done) | (go_simp; rfl)) ?aP (fun _ hk => hk.elim) ?aF ?aO ?aB ?aS ?aL ?_; (case aP => exact rfl); (case aB => exact (by repeat (first | (with_reducible first | exact HB.out | apply below_alloc | apply pw_below_drewN | apply below_drew1 | refine below_set ?_ GE406.out) | exact HB.out))); (case aF => exact (fun k_ hk => Kd.fresh' (Kd.R_lt (by (with_reducible repeat (first | apply Kd.R_alloc | apply Kd.R_drewN | apply Kd.R_drew)); exact (Kd.R_mono (Kd.R_far (p := ⟨gb406, 1, none⟩) (Kd.R_far (p := ⟨gb406, 0, none⟩) (Kd.R_types HO_8.out BK406.out (by decide)) (fun _ hk => hk.2) (.int .i64 ((rd_T60 t359 x141_3).f0))) (fun _ hk => hk.2) (.string ((rd_T60 t359 x141_3).f1))) (fun _ h_ => h_.1)))) k_ hk)); (case aO => exact (by (with_reducible repeat (first | apply Kd.R_alloc | apply Kd.R_drewN | apply Kd.R_drew)); exact Kd.R_mono (Kd.R_far (p := ⟨gb406, 1, none⟩) (Kd.R_far (p := ⟨gb406, 0, none⟩) (Kd.R_types HO_23.out BK406.out (by decide)) (fun _ hk => hk.2) (.int .i64 ((rd_T60 t359 x141_3).f0))) (fun _ hk => hk.2) (.string ((rd_T60 t359 x141_3).f1))) (fun _ hk => hk.1))); (case aS => exact (below_size (by repeat (first | (with_reducible first | exact HB.out | apply below_alloc | apply pw_below_drewN | apply below_drew1 | refine below_set ?_ GE406.out) | exact HB.out)))); (case aL => have := LMc67.out; omega); intro v409 w71 ho hb hg hat; rw [← Ny408.out] at ho; have n0_ := Aside0.mk (Kd.R_after (ok := (fun _ => True)) (by (with_reducible repeat (first | apply Kd.R_alloc | apply Kd.R_drewN | apply Kd.R_drew)); exact Kd.R_mono (Kd.R_far (p := ⟨gb406, 1, none⟩) (Kd.R_far (p := ⟨gb406, 0, none⟩) (Kd.R_types HO_8.out BK406.out (by decide)) (fun _ hk => hk.2) (.int .i64 ((rd_T60 t359 x141_3).f0))) (fun _ hk => hk.2) (.string ((rd_T60 t359 x141_3).f1))) (fun _ hk => ⟨trivial, hk.1⟩)) hg hat); have n1_ := Aside0.mk (Kd.R_over' (by (with_reducible repeat (first | apply Kd.R_alloc | apply Kd.R_drewN | apply Kd.R_drew)); exact (Kd.R_mono (Kd.R_far (p := ⟨gb406, 1, none⟩) (Kd.R_far (p := ⟨gb406, 0, none⟩) (Kd.R_types HO_9.out BK406.out (by decide)) (fun _ hk => hk.2) (.int .i64 ((rd_T60 t359 x141_3).f0))) (fun _ hk => hk.2) (.string ((rd_T60 t359 x141_3).f1))) (fun _ h_ => h_.1))) (Kd.R_typed (by (with_reducible repeat (first | apply Kd.R_alloc | apply Kd.R_drewN | apply Kd.R_drew)); exact (Kd.R_mono (Kd.R_far (p := ⟨gb406, 1, none⟩) (Kd.R_far (p := ⟨gb406, 0, none⟩) (Kd.R_types HO_23.out BK406.out (by decide)) (fun _ hk => hk.2) (.int .i64 ((rd_T60 t359 x141_3).f0))) (fun _ hk => hk.2) (.string ((rd_T60 t359 x141_3).f1))) (fun _ h_ => h_.1)))) (by decide) hg); have n2_ := Aside0.mk (Kd.R_over' (by (with_reducible repeat (first | apply Kd.R_alloc | apply Kd.R_drewN | apply Kd.R_drew)); exact (Kd.R_mono (Kd.R_far (p := ⟨gb406, 1, none⟩) (Kd.R_far (p := ⟨gb406, 0, none⟩) (Kd.R_mono HO_139.out (fun k_ hk => (⟨hk, hk.2⟩ : _ ∧ k_ ≠ gb406))) (fun _ hk => hk.2) (.int .i64 ((rd_T60 t359 x141_3).f0))) (fun _ hk => hk.2) (.string ((rd_T60 t359 x141_3).f1))) (fun _ h_ => h_.1))) (Kd.R_typed (by (with_reducible repeat (first | apply Kd.R_alloc | apply Kd.R_drewN | apply Kd.R_drew)); exact (Kd.R_mono (Kd.R_far (p := ⟨gb406, 1, none⟩) (Kd.R_far (p := ⟨gb406, 0, none⟩) (Kd.R_types HO_23.out BK406.out (by decide)) (fun _ hk => hk.2) (.int .i64 ((rd_T60 t359 x141_3).f0))) (fun _ hk => hk.2) (.string ((rd_T60 t359 x141_3).f1))) (fun _ h_ => h_.1)))) (by decide) hg); have n3_ := Aside0.mk (blk_grown (g := gb406) (o := .cells #[.int .i64 ((rd_T60 t359 x141_3).f0), .string ((rd_T60 t359 x141_3).f1)] 60 (0, 0)) (by (with_reducible repeat (first | refine blk_drewN ?_ _ | refine blk_drew ?_ | refine blk_alloc ?_ _)); refine blk_put (cs := #[.int .i64 ((rd_T60 t359 x141_3).f0), .string (⟨#[]⟩ : ByteArray)]) ?_ 1 _ rfl; (with_reducible repeat (first | refine blk_drewN ?_ _ | refine blk_drew ?_ | refine blk_alloc ?_ _)); refine blk_put (cs := #[.int .i64 0, .string (⟨#[]⟩ : ByteArray)]) ?_ 0 _ rfl; (with_reducible repeat (first | refine blk_drewN ?_ _ | refine blk_drew ?_ | refine blk_alloc ?_ _)); exact BK406.out) hg (Kd.R_ne HO_23.out BK406.out (by decide))); have n4_ := Aside0.mk (hb); have n5_ := Aside0.mk (ho); clear HO_8; clear HO_9; clear HO_139; clear BK406; clear HB; clear HO_23; have HO_8 := n0_; have HO_9 := n1_; have HO_139 := n2_; have BK406 := n3_; have HB := n4_; have HO410 := n5_; clear n0_ n1_ n2_ n3_ n4_ n5_; clear ho hb hg hat)); try go_wp2_with (first | ((with_reducible refine gate_dst (N := 25) rfl ?_); (try (refine gate_guard (by rfl) ?_; dsimp only)); refine box_event ?hg (N := 25) ?hd (cs := #[.int .i64 0, .string (⟨#[]⟩ : ByteArray)]) (t := 60) ?hr ?_; (case hd => rfl); (case hg => rfl); (case hr => first | (go_simp; done) | (go_simp; rfl)); intro gb406 hg w68 hbox hb; have n0_ := Aside0.mk (Kd.R_below (by (with_reducible repeat (first | apply Kd.R_alloc | apply Kd.R_drewN | apply Kd.R_drew)); exact HO_8.out) hb); have n1_ := Aside0.mk (Kd.R_below (by (with_reducible repeat (first | apply Kd.R_alloc | apply Kd.R_drewN | apply Kd.R_drew)); exact HO_9.out) hb); have n2_ := Aside0.mk (Kd.R_below (by (with_reducible repeat (first | apply Kd.R_alloc | apply Kd.R_drewN | apply Kd.R_drew)); exact HO_23.out) hb); have n3_ := Aside0.mk (Kd.R_below (Kd.R_elderB (by (with_reducible repeat (first | apply Kd.R_alloc | apply Kd.R_drewN | apply Kd.R_drew)); exact HO_139.out) gb406 (Nat.le_of_eq hg.symm)) hb); have n4_ := Aside0.mk (below_step (by repeat (first | (with_reducible first | exact HB.out | apply below_alloc | apply pw_below_drewN | apply below_drew1) | exact HB.out)) hb); have n5_ := Aside0.mk (hbox); have n6_ := Aside0.mk ((by rw [hg]; exact (below_size (by repeat (first | (with_reducible first | exact HB.out | apply below_alloc | apply pw_below_drewN | apply below_drew1) | exact HB.out))) : w.heap.size ≤ gb406)); have n7_ := Aside0.mk ((by rw [hg]; exact (below_size (by repeat (first | (with_reducible first | exact HB.out | apply below_alloc | apply pw_below_drewN | apply below_drew1) | exact HB.out))) : w.heap.size ≤ gb406)); clear HO_8; clear HO_9; clear HO_23; clear HO_139; clear HB; have HO_8 := n0_; have HO_9 := n1_; have HO_23 := n2_; have HO_139 := n3_; have HB := n4_; have BK406 := n5_; have GW406 := n6_; have GE406 := n7_; clear n0_ n1_ n2_ n3_ n4_ n5_ n6_ n7_; clear hb hbox hg; have hcz69_0 : w68.cell? ⟨gb406, 0, none⟩ = some (.int .i64 0) := (blk_cell BK406.out 0).trans rfl; have hcz69_1 : w68.cell? ⟨gb406, 1, none⟩ = some (.string (⟨#[]⟩ : ByteArray)) := (blk_cell BK406.out 1).trans rfl; have hfz69_0 := blk_frozen BK406.out 0; have hfz69_1 := blk_frozen BK406.out 1; obtain ⟨Ao70, co70, eo70⟩ := Kd.R_slice HO_9.out; subst eo70; have p407 : 0 ≤ (x141_3 : Int) := of_decide_eq_true (by first | (with_reducible assumption) | assumption); have q407 : x141_3 < (t364.length : Int) := of_decide_eq_true (by first | (with_reducible assumption) | assumption); obtain ⟨ad407, e407, hx407_0⟩ := Kd.at_bool (Kd.R_reads' HO_9.out).2.2 x141_3 p407 q407; (try rw [← Nbq64.out] at hx407_0); cases e407; have hn407_0 : ad407.block ≠ gb406 := Kd.own_blk (Kd.R_ne HO_9.out BK406.out (by decide)); have hn407_1 : ad407.block ≠ gb406 := Kd.own_blk (Kd.R_ne HO_9.out BK406.out (by decide)); replace hx407_0 := (cell_far (p := ⟨gb406, 0, none⟩) (by first | (rw [add_block]; exact hn407_0) | (show (Addr.add _ _).block ≠ _; rw [add_block]; exact hn407_0) | exact hn407_0) (.int .i64 ((rd_T60 t359 x141_3).f0))).trans hx407_0; replace hx407_0 := (cell_far (p := ⟨gb406, 1, none⟩) (by first | (rw [add_block]; exact hn407_1) | (show (Addr.add _ _).block ≠ _; rw [add_block]; exact hn407_1) | exact hn407_1) (.string ((rd_T60 t359 x141_3).f1))).trans hx407_0; (try have hy407_0 := fun (n_ : Nat) => (show ((((w68.drewN n_).setCell ⟨gb406, 0, none⟩ (.int .i64 ((rd_T60 t359 x141_3).f0))).setCell ⟨gb406, 1, none⟩ (.string ((rd_T60 t359 x141_3).f1)))).cell? _ = some _ from hx407_0)); clear hn407_0; clear hn407_1; replace p407 := eq_true p407; replace q407 := eq_true q407) | ((with_reducible refine gate_builtin (b := .append) (xs := #[.tmp 155, .tmp 158]) rfl ?_); (try (refine gate_guard (by rfl) ?_; dsimp only)); at_builtin; refine Kd.R_append Kd.string (w0 := w) w.heap.size rfl (.tmp 155) (.tmp 158) 28 9 (.string ⟨#[]⟩) 16 rfl Try.underlying28 info9 rfl (by decide) (by omega) u23 x23_3 ((rd_T60 t359 x141_3).f1) [.string ((rd_T60 t359 x141_3).f1)] (fun k_ => some k_ ≠ (v368 : Value).ownBlock) (fun _ => False) rfl (by first | (go_simp; done) | (go_simp; rfl)) ?aP (fun _ hk => hk.elim) ?aF ?aO ?aB ?aS ?aL ?_; (case aP => exact rfl); (case aB => exact (by repeat (first | (with_reducible first | exact HB.out | apply below_alloc | apply pw_below_drewN | apply below_drew1 | refine below_set ?_ GE406.out) | exact HB.out))); (case aF => exact (fun k_ hk => Kd.fresh' (Kd.R_lt (by (with_reducible repeat (first | apply Kd.R_alloc | apply Kd.R_drewN | apply Kd.R_drew)); exact (Kd.R_mono (Kd.R_far (p := ⟨gb406, 1, none⟩) (Kd.R_far (p := ⟨gb406, 0, none⟩) (Kd.R_types HO_8.out BK406.out (by decide)) (fun _ hk => hk.2) (.int .i64 ((rd_T60 t359 x141_3).f0))) (fun _ hk => hk.2) (.string ((rd_T60 t359 x141_3).f1))) (fun _ h_ => h_.1)))) k_ hk)); (case aO => exact (by (with_reducible repeat (first | apply Kd.R_alloc | apply Kd.R_drewN | apply Kd.R_drew)); exact Kd.R_mono (Kd.R_far (p := ⟨gb406, 1, none⟩) (Kd.R_far (p := ⟨gb406, 0, none⟩) (Kd.R_types HO_23.out BK406.out (by decide)) (fun _ hk => hk.2) (.int .i64 ((rd_T60 t359 x141_3).f0))) (fun _ hk => hk.2) (.string ((rd_T60 t359 x141_3).f1))) (fun _ hk => hk.1))); (case aS => exact (below_size (by repeat (first | (with_reducible first | exact HB.out | apply below_alloc | apply pw_below_drewN | apply below_drew1 | refine below_set ?_ GE406.out) | exact HB.out)))); (case aL => have := LMc67.out; omega); intro v409 w71 ho hb hg hat; rw [← Ny408.out] at ho; have n0_ := Aside0.mk (Kd.R_after (ok := (fun _ => True)) (by (with_reducible repeat (first | apply Kd.R_alloc | apply Kd.R_drewN | apply Kd.R_drew)); exact Kd.R_mono (Kd.R_far (p := ⟨gb406, 1, none⟩) (Kd.R_far (p := ⟨gb406, 0, none⟩) (Kd.R_types HO_8.out BK406.out (by decide)) (fun _ hk => hk.2) (.int .i64 ((rd_T60 t359 x141_3).f0))) (fun _ hk => hk.2) (.string ((rd_T60 t359 x141_3).f1))) (fun _ hk => ⟨trivial, hk.1⟩)) hg hat); have n1_ := Aside0.mk (Kd.R_over' (by (with_reducible repeat (first | apply Kd.R_alloc | apply Kd.R_drewN | apply Kd.R_drew)); exact (Kd.R_mono (Kd.R_far (p := ⟨gb406, 1, none⟩) (Kd.R_far (p := ⟨gb406, 0, none⟩) (Kd.R_types HO_9.out BK406.out (by decide)) (fun _ hk => hk.2) (.int .i64 ((rd_T60 t359 x141_3).f0))) (fun _ hk => hk.2) (.string ((rd_T60 t359 x141_3).f1))) (fun _ h_ => h_.1))) (Kd.R_typed (by (with_reducible repeat (first | apply Kd.R_alloc | apply Kd.R_drewN | apply Kd.R_drew)); exact (Kd.R_mono (Kd.R_far (p := ⟨gb406, 1, none⟩) (Kd.R_far (p := ⟨gb406, 0, none⟩) (Kd.R_types HO_23.out BK406.out (by decide)) (fun _ hk => hk.2) (.int .i64 ((rd_T60 t359 x141_3).f0))) (fun _ hk => hk.2) (.string ((rd_T60 t359 x141_3).f1))) (fun _ h_ => h_.1)))) (by decide) hg); have n2_ := Aside0.mk (Kd.R_over' (by (with_reducible repeat (first | apply Kd.R_alloc | apply Kd.R_drewN | apply Kd.R_drew)); exact (Kd.R_mono (Kd.R_far (p := ⟨gb406, 1, none⟩) (Kd.R_far (p := ⟨gb406, 0, none⟩) (Kd.R_mono HO_139.out (fun k_ hk => (⟨hk, hk.2⟩ : _ ∧ k_ ≠ gb406))) (fun _ hk => hk.2) (.int .i64 ((rd_T60 t359 x141_3).f0))) (fun _ hk => hk.2) (.string ((rd_T60 t359 x141_3).f1))) (fun _ h_ => h_.1))) (Kd.R_typed (by (with_reducible repeat (first | apply Kd.R_alloc | apply Kd.R_drewN | apply Kd.R_drew)); exact (Kd.R_mono (Kd.R_far (p := ⟨gb406, 1, none⟩) (Kd.R_far (p := ⟨gb406, 0, none⟩) (Kd.R_types HO_23.out BK406.out (by decide)) (fun _ hk => hk.2) (.int .i64 ((rd_T60 t359 x141_3).f0))) (fun _ hk => hk.2) (.string ((rd_T60 t359 x141_3).f1))) (fun _ h_ => h_.1)))) (by decide) hg); have n3_ := Aside0.mk (blk_grown (g := gb406) (o := .cells #[.int .i64 ((rd_T60 t359 x141_3).f0), .string ((rd_T60 t359 x141_3).f1)] 60 (0, 0)) (by (with_reducible repeat (first | refine blk_drewN ?_ _ | refine blk_drew ?_ | refine blk_alloc ?_ _)); refine blk_put (cs := #[.int .i64 ((rd_T60 t359 x141_3).f0), .string (⟨#[]⟩ : ByteArray)]) ?_ 1 _ rfl; (with_reducible repeat (first | refine blk_drewN ?_ _ | refine blk_drew ?_ | refine blk_alloc ?_ _)); refine blk_put (cs := #[.int .i64 0, .string (⟨#[]⟩ : ByteArray)]) ?_ 0 _ rfl; (with_reducible repeat (first | refine blk_drewN ?_ _ | refine blk_drew ?_ | refine blk_alloc ?_ _)); exact BK406.out) hg (Kd.R_ne HO_23.out BK406.out (by decide))); have n4_ := Aside0.mk (hb); have n5_ := Aside0.mk (ho); clear HO_8; clear HO_9; clear HO_139; clear BK406; clear HB; clear HO_23; have HO_8 := n0_; have HO_9 := n1_; have HO_139 := n2_; have BK406 := n3_; have HB := n4_; have HO410 := n5_; clear n0_ n1_ n2_ n3_ n4_ n5_; clear ho hb hg hat)))
                    go_roundg k3
                    case measure => have := HJ6.out; have := HJ35.out; have := HK3.out; omega
                    case rel => exact ⟨(y408), (wrap64 (x141_3 + 1)), (by first | rfl | (simp; done) | (simp [*]; done)), H', ⟨by have := HJ6.out; have := HJ35.out; have := HK3.out; omega⟩, ⟨by (with_reducible repeat (first | apply Kd.R_alloc | apply Kd.R_drewN | apply Kd.R_drew)); exact Kd.R_mono HO_8.out (fun _ hk => hk.2)⟩, ⟨by (with_reducible repeat (first | apply Kd.R_alloc | apply Kd.R_drewN | apply Kd.R_drew)); exact HO_9.out⟩, ⟨by (with_reducible repeat (first | apply Kd.R_alloc | apply Kd.R_drewN | apply Kd.R_drew)); exact HO410.out⟩, ⟨by (with_reducible repeat (first | apply Kd.R_alloc | apply Kd.R_drewN | apply Kd.R_drew)); exact Kd.R_mono HO_139.out (fun _ hk => trivial)⟩, ⟨by repeat (first | (with_reducible first | exact HB.out | apply below_alloc | apply pw_below_drewN | apply below_drew1 | refine below_set ?_ GE406.out) | exact HB.out)⟩⟩
                  ·rw [if_neg c67] at H
                   exact absurd H (by simp)
                 ·rw [if_neg c66] at H
                  have c66b0 : (((rd_T60 t359 x141_3).f0) == 1) = false := beq_eq_false_iff_ne.mpr c66
                  have c66b1 : (((rd_T60 t359 x141_3).f0) != 1) = true := bne_iff_ne.mpr c66
                  as_aux_lemma =>
                   have H' := Aside0.mk H
                   clear H
                   have p405 : 0 ≤ (x141_3 : Int) := of_decide_eq_true (by first | (with_reducible assumption) | assumption)
                   have q405 : x141_3 < (t359.length : Int) := of_decide_eq_true (by first | (with_reducible assumption) | assumption)
                   obtain ⟨ad405, e405, hx405_0, hx405_1⟩ := at_T60 (Kd.R_reads' HO_139.out).2.2 x141_3 p405 q405
                   cases e405
                   replace p405 := eq_true p405
                   replace q405 := eq_true q405
                   go_wp2_with (first | ((with_reducible refine gate_dst (N := 25) rfl ?_); (try (refine gate_guard (by rfl) ?_; dsimp only)); refine box_event ?hg (N := 25) ?hd (cs := #[.int .i64 0, .string (⟨#[]⟩ : ByteArray)]) (t := 60) ?hr ?_; (case hd => rfl); (case hg => rfl); (case hr => first | (go_simp; done) | (go_simp; rfl)); intro gb406 hg w72 hbox hb; have n0_ := Aside0.mk (Kd.R_below (by (with_reducible repeat (first | apply Kd.R_alloc | apply Kd.R_drewN | apply Kd.R_drew)); exact HO_8.out) hb); have n1_ := Aside0.mk (Kd.R_below (by (with_reducible repeat (first | apply Kd.R_alloc | apply Kd.R_drewN | apply Kd.R_drew)); exact HO_9.out) hb); have n2_ := Aside0.mk (Kd.R_below (by (with_reducible repeat (first | apply Kd.R_alloc | apply Kd.R_drewN | apply Kd.R_drew)); exact HO_23.out) hb); have n3_ := Aside0.mk (Kd.R_below (Kd.R_elderB (by (with_reducible repeat (first | apply Kd.R_alloc | apply Kd.R_drewN | apply Kd.R_drew)); exact HO_139.out) gb406 (Nat.le_of_eq hg.symm)) hb); have n4_ := Aside0.mk (below_step (by repeat (first | (with_reducible first | exact HB.out | apply below_alloc | apply pw_below_drewN | apply below_drew1) | exact HB.out)) hb); have n5_ := Aside0.mk (hbox); have n6_ := Aside0.mk ((by rw [hg]; exact (below_size (by repeat (first | (with_reducible first | exact HB.out | apply below_alloc | apply pw_below_drewN | apply below_drew1) | exact HB.out))) : w.heap.size ≤ gb406)); have n7_ := Aside0.mk ((by rw [hg]; exact (below_size (by repeat (first | (with_reducible first | exact HB.out | apply below_alloc | apply pw_below_drewN | apply below_drew1) | exact HB.out))) : w.heap.size ≤ gb406)); clear HO_8; clear HO_9; clear HO_23; clear HO_139; clear HB; have HO_8 := n0_; have HO_9 := n1_; have HO_23 := n2_; have HO_139 := n3_; have HB := n4_; have BK406 := n5_; have GW406 := n6_; have GE406 := n7_; clear n0_ n1_ n2_ n3_ n4_ n5_ n6_ n7_; clear hb hbox hg; have hcz73_0 : w72.cell? ⟨gb406, 0, none⟩ = some (.int .i64 0) := (blk_cell BK406.out 0).trans rfl; have hcz73_1 : w72.cell? ⟨gb406, 1, none⟩ = some (.string (⟨#[]⟩ : ByteArray)) := (blk_cell BK406.out 1).trans rfl; have hfz73_0 := blk_frozen BK406.out 0; have hfz73_1 := blk_frozen BK406.out 1; obtain ⟨Ao74, co74, eo74⟩ := Kd.R_slice HO_9.out; subst eo74; have p407 : 0 ≤ (x141_3 : Int) := of_decide_eq_true (by first | (with_reducible assumption) | assumption); have q407 : x141_3 < (t364.length : Int) := of_decide_eq_true (by first | (with_reducible assumption) | assumption); obtain ⟨ad407, e407, hx407_0⟩ := Kd.at_bool (Kd.R_reads' HO_9.out).2.2 x141_3 p407 q407; (try rw [← Nbq64.out] at hx407_0); cases e407; have hn407_0 : ad407.block ≠ gb406 := Kd.own_blk (Kd.R_ne HO_9.out BK406.out (by decide)); have hn407_1 : ad407.block ≠ gb406 := Kd.own_blk (Kd.R_ne HO_9.out BK406.out (by decide)); replace hx407_0 := (cell_far (p := ⟨gb406, 0, none⟩) (by first | (rw [add_block]; exact hn407_0) | (show (Addr.add _ _).block ≠ _; rw [add_block]; exact hn407_0) | exact hn407_0) (.int .i64 ((rd_T60 t359 x141_3).f0))).trans hx407_0; replace hx407_0 := (cell_far (p := ⟨gb406, 1, none⟩) (by first | (rw [add_block]; exact hn407_1) | (show (Addr.add _ _).block ≠ _; rw [add_block]; exact hn407_1) | exact hn407_1) (.string ((rd_T60 t359 x141_3).f1))).trans hx407_0; (try have hy407_0 := fun (n_ : Nat) => (show ((((w72.drewN n_).setCell ⟨gb406, 0, none⟩ (.int .i64 ((rd_T60 t359 x141_3).f0))).setCell ⟨gb406, 1, none⟩ (.string ((rd_T60 t359 x141_3).f1)))).cell? _ = some _ from hx407_0)); clear hn407_0; clear hn407_1; replace p407 := eq_true p407; replace q407 := eq_true q407))
                   repeat (go_quiet (first | ((with_reducible refine gate_dst (N := 25) rfl ?_); (try (refine gate_guard (by rfl) ?_; dsimp only)); refine box_event ?hg (N := 25) ?hd (cs := #[.int .i64 0, .string (⟨#[]⟩ : ByteArray)]) (t := 60) ?hr ?_; (case hd => rfl); (case hg => rfl); (case hr => first | (go_simp; done) | (go_simp; rfl)); intro gb406 hg w72 hbox hb; have n0_ := Aside0.mk (Kd.R_below (by (with_reducible repeat (first | apply Kd.R_alloc | apply Kd.R_drewN | apply Kd.R_drew)); exact HO_8.out) hb); have n1_ := Aside0.mk (Kd.R_below (by (with_reducible repeat (first | apply Kd.R_alloc | apply Kd.R_drewN | apply Kd.R_drew)); exact HO_9.out) hb); have n2_ := Aside0.mk (Kd.R_below (by (with_reducible repeat (first | apply Kd.R_alloc | apply Kd.R_drewN | apply Kd.R_drew)); exact HO_23.out) hb); have n3_ := Aside0.mk (Kd.R_below (Kd.R_elderB (by (with_reducible repeat (first | apply Kd.R_alloc | apply Kd.R_drewN | apply Kd.R_drew)); exact HO_139.out) gb406 (Nat.le_of_eq hg.symm)) hb); have n4_ := Aside0.mk (below_step (by repeat (first | (with_reducible first | exact HB.out | apply below_alloc | apply pw_below_drewN | apply below_drew1) | exact HB.out)) hb); have n5_ := Aside0.mk (hbox); have n6_ := Aside0.mk ((by rw [hg]; exact (below_size (by repeat (first | (with_reducible first | exact HB.out | apply below_alloc | apply pw_below_drewN | apply below_drew1) | exact HB.out))) : w.heap.size ≤ gb406)); have n7_ := Aside0.mk ((by rw [hg]; exact (below_size (by repeat (first | (with_reducible first | exact HB.out | apply below_alloc | apply pw_below_drewN | apply below_drew1) | exact HB.out))) : w.heap.size ≤ gb406)); clear HO_8; clear HO_9; clear HO_23; clear HO_139; clear HB; have HO_8 := n0_; have HO_9 := n1_; have HO_23 := n2_; have HO_139 := n3_; have HB := n4_; have BK406 := n5_; have GW406 := n6_; have GE406 := n7_; clear n0_ n1_ n2_ n3_ n4_ n5_ n6_ n7_; clear hb hbox hg; have hcz73_0 : w72.cell? ⟨gb406, 0, none⟩ = some (.int .i64 0) := (blk_cell BK406.out 0).trans rfl; have hcz73_1 : w72.cell? ⟨gb406, 1, none⟩ = some (.string (⟨#[]⟩ : ByteArray)) := (blk_cell BK406.out 1).trans rfl; have hfz73_0 := blk_frozen BK406.out 0; have hfz73_1 := blk_frozen BK406.out 1; obtain ⟨Ao74, co74, eo74⟩ := Kd.R_slice HO_9.out; subst eo74; have p407 : 0 ≤ (x141_3 : Int) := of_decide_eq_true (by first | (with_reducible assumption) | assumption); have q407 : x141_3 < (t364.length : Int) := of_decide_eq_true (by first | (with_reducible assumption) | assumption); obtain ⟨ad407, e407, hx407_0⟩ := Kd.at_bool (Kd.R_reads' HO_9.out).2.2 x141_3 p407 q407; (try rw [← Nbq64.out] at hx407_0); cases e407; have hn407_0 : ad407.block ≠ gb406 := Kd.own_blk (Kd.R_ne HO_9.out BK406.out (by decide)); have hn407_1 : ad407.block ≠ gb406 := Kd.own_blk (Kd.R_ne HO_9.out BK406.out (by decide)); replace hx407_0 := (cell_far (p := ⟨gb406, 0, none⟩) (by first | (rw [add_block]; exact hn407_0) | (show (Addr.add _ _).block ≠ _; rw [add_block]; exact hn407_0) | exact hn407_0) (.int .i64 ((rd_T60 t359 x141_3).f0))).trans hx407_0; replace hx407_0 := (cell_far (p := ⟨gb406, 1, none⟩) (by first | (rw [add_block]; exact hn407_1) | (show (Addr.add _ _).block ≠ _; rw [add_block]; exact hn407_1) | exact hn407_1) (.string ((rd_T60 t359 x141_3).f1))).trans hx407_0; (try have hy407_0 := fun (n_ : Nat) => (show ((((w72.drewN n_).setCell ⟨gb406, 0, none⟩ (.int .i64 ((rd_T60 t359 x141_3).f0))).setCell ⟨gb406, 1, none⟩ (.string ((rd_T60 t359 x141_3).f1)))).cell? _ = some _ from hx407_0)); clear hn407_0; clear hn407_1; replace p407 := eq_true p407; replace q407 := eq_true q407)); try go_wp2_with (first | ((with_reducible refine gate_dst (N := 25) rfl ?_); (try (refine gate_guard (by rfl) ?_; dsimp only)); refine box_event ?hg (N := 25) ?hd (cs := #[.int .i64 0, .string (⟨#[]⟩ : ByteArray)]) (t := 60) ?hr ?_; (case hd => rfl); (case hg => rfl); (case hr => first | (go_simp; done) | (go_simp; rfl)); intro gb406 hg w72 hbox hb; have n0_ := Aside0.mk (Kd.R_below (by (with_reducible repeat (first | apply Kd.R_alloc | apply Kd.R_drewN | apply Kd.R_drew)); exact HO_8.out) hb); have n1_ := Aside0.mk (Kd.R_below (by (with_reducible repeat (first | apply Kd.R_alloc | apply Kd.R_drewN | apply Kd.R_drew)); exact HO_9.out) hb); have n2_ := Aside0.mk (Kd.R_below (by (with_reducible repeat (first | apply Kd.R_alloc | apply Kd.R_drewN | apply Kd.R_drew)); exact HO_23.out) hb); have n3_ := Aside0.mk (Kd.R_below (Kd.R_elderB (by (with_reducible repeat (first | apply Kd.R_alloc | apply Kd.R_drewN | apply Kd.R_drew)); exact HO_139.out) gb406 (Nat.le_of_eq hg.symm)) hb); have n4_ := Aside0.mk (below_step (by repeat (first | (with_reducible first | exact HB.out | apply below_alloc | apply pw_below_drewN | apply below_drew1) | exact HB.out)) hb); have n5_ := Aside0.mk (hbox); have n6_ := Aside0.mk ((by rw [hg]; exact (below_size (by repeat (first | (with_reducible first | exact HB.out | apply below_alloc | apply pw_below_drewN | apply below_drew1) | exact HB.out))) : w.heap.size ≤ gb406)); have n7_ := Aside0.mk ((by rw [hg]; exact (below_size (by repeat (first | (with_reducible first | exact HB.out | apply below_alloc | apply pw_below_drewN | apply below_drew1) | exact HB.out))) : w.heap.size ≤ gb406)); clear HO_8; clear HO_9; clear HO_23; clear HO_139; clear HB; have HO_8 := n0_; have HO_9 := n1_; have HO_23 := n2_; have HO_139 := n3_; have HB := n4_; have BK406 := n5_; have GW406 := n6_; have GE406 := n7_; clear n0_ n1_ n2_ n3_ n4_ n5_ n6_ n7_; clear hb hbox hg; have hcz73_0 : w72.cell? ⟨gb406, 0, none⟩ = some (.int .i64 0) := (blk_cell BK406.out 0).trans rfl; have hcz73_1 : w72.cell? ⟨gb406, 1, none⟩ = some (.string (⟨#[]⟩ : ByteArray)) := (blk_cell BK406.out 1).trans rfl; have hfz73_0 := blk_frozen BK406.out 0; have hfz73_1 := blk_frozen BK406.out 1; obtain ⟨Ao74, co74, eo74⟩ := Kd.R_slice HO_9.out; subst eo74; have p407 : 0 ≤ (x141_3 : Int) := of_decide_eq_true (by first | (with_reducible assumption) | assumption); have q407 : x141_3 < (t364.length : Int) := of_decide_eq_true (by first | (with_reducible assumption) | assumption); obtain ⟨ad407, e407, hx407_0⟩ := Kd.at_bool (Kd.R_reads' HO_9.out).2.2 x141_3 p407 q407; (try rw [← Nbq64.out] at hx407_0); cases e407; have hn407_0 : ad407.block ≠ gb406 := Kd.own_blk (Kd.R_ne HO_9.out BK406.out (by decide)); have hn407_1 : ad407.block ≠ gb406 := Kd.own_blk (Kd.R_ne HO_9.out BK406.out (by decide)); replace hx407_0 := (cell_far (p := ⟨gb406, 0, none⟩) (by first | (rw [add_block]; exact hn407_0) | (show (Addr.add _ _).block ≠ _; rw [add_block]; exact hn407_0) | exact hn407_0) (.int .i64 ((rd_T60 t359 x141_3).f0))).trans hx407_0; replace hx407_0 := (cell_far (p := ⟨gb406, 1, none⟩) (by first | (rw [add_block]; exact hn407_1) | (show (Addr.add _ _).block ≠ _; rw [add_block]; exact hn407_1) | exact hn407_1) (.string ((rd_T60 t359 x141_3).f1))).trans hx407_0; (try have hy407_0 := fun (n_ : Nat) => (show ((((w72.drewN n_).setCell ⟨gb406, 0, none⟩ (.int .i64 ((rd_T60 t359 x141_3).f0))).setCell ⟨gb406, 1, none⟩ (.string ((rd_T60 t359 x141_3).f1)))).cell? _ = some _ from hx407_0)); clear hn407_0; clear hn407_1; replace p407 := eq_true p407; replace q407 := eq_true q407)))
                   go_roundg k3
                   case measure => have := HJ6.out; have := HJ35.out; have := HK3.out; omega
                   case rel => exact ⟨(x23_3), (wrap64 (x141_3 + 1)), (by first | rfl | (simp; done) | (simp [*]; done)), H', ⟨by have := HJ6.out; have := HJ35.out; have := HK3.out; omega⟩, ⟨by (with_reducible repeat (first | apply Kd.R_alloc | apply Kd.R_drewN | apply Kd.R_drew)); exact Kd.R_mono (Kd.R_far (p := ⟨gb406, 1, none⟩) (Kd.R_far (p := ⟨gb406, 0, none⟩) (Kd.R_types HO_8.out BK406.out (by decide)) (fun _ hk => hk.2) (.int .i64 ((rd_T60 t359 x141_3).f0))) (fun _ hk => hk.2) (.string ((rd_T60 t359 x141_3).f1))) (fun _ hk => hk.1)⟩, ⟨by (with_reducible repeat (first | apply Kd.R_alloc | apply Kd.R_drewN | apply Kd.R_drew)); exact Kd.R_mono (Kd.R_far (p := ⟨gb406, 1, none⟩) (Kd.R_far (p := ⟨gb406, 0, none⟩) (Kd.R_types HO_9.out BK406.out (by decide)) (fun _ hk => hk.2) (.int .i64 ((rd_T60 t359 x141_3).f0))) (fun _ hk => hk.2) (.string ((rd_T60 t359 x141_3).f1))) (fun _ hk => trivial)⟩, ⟨by (with_reducible repeat (first | apply Kd.R_alloc | apply Kd.R_drewN | apply Kd.R_drew)); exact Kd.R_mono (Kd.R_far (p := ⟨gb406, 1, none⟩) (Kd.R_far (p := ⟨gb406, 0, none⟩) (Kd.R_types HO_23.out BK406.out (by decide)) (fun _ hk => hk.2) (.int .i64 ((rd_T60 t359 x141_3).f0))) (fun _ hk => hk.2) (.string ((rd_T60 t359 x141_3).f1))) (fun _ hk => hk.1)⟩, ⟨by (with_reducible repeat (first | apply Kd.R_alloc | apply Kd.R_drewN | apply Kd.R_drew)); exact Kd.R_mono (Kd.R_far (p := ⟨gb406, 1, none⟩) (Kd.R_far (p := ⟨gb406, 0, none⟩) (Kd.R_mono HO_139.out (fun k_ hk => (⟨hk, hk.2⟩ : _ ∧ k_ ≠ gb406))) (fun _ hk => hk.2) (.int .i64 ((rd_T60 t359 x141_3).f0))) (fun _ hk => hk.2) (.string ((rd_T60 t359 x141_3).f1))) (fun _ hk => trivial)⟩, ⟨by repeat (first | (with_reducible first | exact HB.out | apply below_alloc | apply pw_below_drewN | apply below_drew1 | refine below_set ?_ GE406.out) | exact HB.out)⟩⟩
                ·replace c65 := Bool.eq_false_iff.mpr c65
                 subst c65
                 have H1 : (laws_FnCover.l0 k3 l1 t363 t364 x23_3 t359 (t359.length : Int) (wrap64 (x141_3 + 1))) = some r := by rw [if_neg (show ¬ (false = true) by decide)] at H; exact H
                 clear H
                 have H := H1
                 clear H1
                 as_aux_lemma =>
                  have H' := Aside0.mk H
                  clear H
                  have p405 : 0 ≤ (x141_3 : Int) := of_decide_eq_true (by first | (with_reducible assumption) | assumption)
                  have q405 : x141_3 < (t359.length : Int) := of_decide_eq_true (by first | (with_reducible assumption) | assumption)
                  obtain ⟨ad405, e405, hx405_0, hx405_1⟩ := at_T60 (Kd.R_reads' HO_139.out).2.2 x141_3 p405 q405
                  cases e405
                  replace p405 := eq_true p405
                  replace q405 := eq_true q405
                  go_wp2_with (first | ((with_reducible refine gate_dst (N := 25) rfl ?_); (try (refine gate_guard (by rfl) ?_; dsimp only)); refine box_event ?hg (N := 25) ?hd (cs := #[.int .i64 0, .string (⟨#[]⟩ : ByteArray)]) (t := 60) ?hr ?_; (case hd => rfl); (case hg => rfl); (case hr => first | (go_simp; done) | (go_simp; rfl)); intro gb406 hg w75 hbox hb; have n0_ := Aside0.mk (Kd.R_below (by (with_reducible repeat (first | apply Kd.R_alloc | apply Kd.R_drewN | apply Kd.R_drew)); exact HO_8.out) hb); have n1_ := Aside0.mk (Kd.R_below (by (with_reducible repeat (first | apply Kd.R_alloc | apply Kd.R_drewN | apply Kd.R_drew)); exact HO_9.out) hb); have n2_ := Aside0.mk (Kd.R_below (by (with_reducible repeat (first | apply Kd.R_alloc | apply Kd.R_drewN | apply Kd.R_drew)); exact HO_23.out) hb); have n3_ := Aside0.mk (Kd.R_below (Kd.R_elderB (by (with_reducible repeat (first | apply Kd.R_alloc | apply Kd.R_drewN | apply Kd.R_drew)); exact HO_139.out) gb406 (Nat.le_of_eq hg.symm)) hb); have n4_ := Aside0.mk (below_step (by repeat (first | (with_reducible first | exact HB.out | apply below_alloc | apply pw_below_drewN | apply below_drew1) | exact HB.out)) hb); have n5_ := Aside0.mk (hbox); have n6_ := Aside0.mk ((by rw [hg]; exact (below_size (by repeat (first | (with_reducible first | exact HB.out | apply below_alloc | apply pw_below_drewN | apply below_drew1) | exact HB.out))) : w.heap.size ≤ gb406)); have n7_ := Aside0.mk ((by rw [hg]; exact (below_size (by repeat (first | (with_reducible first | exact HB.out | apply below_alloc | apply pw_below_drewN | apply below_drew1) | exact HB.out))) : w.heap.size ≤ gb406)); clear HO_8; clear HO_9; clear HO_23; clear HO_139; clear HB; have HO_8 := n0_; have HO_9 := n1_; have HO_23 := n2_; have HO_139 := n3_; have HB := n4_; have BK406 := n5_; have GW406 := n6_; have GE406 := n7_; clear n0_ n1_ n2_ n3_ n4_ n5_ n6_ n7_; clear hb hbox hg; have hcz76_0 : w75.cell? ⟨gb406, 0, none⟩ = some (.int .i64 0) := (blk_cell BK406.out 0).trans rfl; have hcz76_1 : w75.cell? ⟨gb406, 1, none⟩ = some (.string (⟨#[]⟩ : ByteArray)) := (blk_cell BK406.out 1).trans rfl; have hfz76_0 := blk_frozen BK406.out 0; have hfz76_1 := blk_frozen BK406.out 1; obtain ⟨Ao77, co77, eo77⟩ := Kd.R_slice HO_9.out; subst eo77; have p407 : 0 ≤ (x141_3 : Int) := of_decide_eq_true (by first | (with_reducible assumption) | assumption); have q407 : x141_3 < (t364.length : Int) := of_decide_eq_true (by first | (with_reducible assumption) | assumption); obtain ⟨ad407, e407, hx407_0⟩ := Kd.at_bool (Kd.R_reads' HO_9.out).2.2 x141_3 p407 q407; (try rw [← Nbq64.out] at hx407_0); cases e407; have hn407_0 : ad407.block ≠ gb406 := Kd.own_blk (Kd.R_ne HO_9.out BK406.out (by decide)); have hn407_1 : ad407.block ≠ gb406 := Kd.own_blk (Kd.R_ne HO_9.out BK406.out (by decide)); replace hx407_0 := (cell_far (p := ⟨gb406, 0, none⟩) (by first | (rw [add_block]; exact hn407_0) | (show (Addr.add _ _).block ≠ _; rw [add_block]; exact hn407_0) | exact hn407_0) (.int .i64 ((rd_T60 t359 x141_3).f0))).trans hx407_0; replace hx407_0 := (cell_far (p := ⟨gb406, 1, none⟩) (by first | (rw [add_block]; exact hn407_1) | (show (Addr.add _ _).block ≠ _; rw [add_block]; exact hn407_1) | exact hn407_1) (.string ((rd_T60 t359 x141_3).f1))).trans hx407_0; (try have hy407_0 := fun (n_ : Nat) => (show ((((w75.drewN n_).setCell ⟨gb406, 0, none⟩ (.int .i64 ((rd_T60 t359 x141_3).f0))).setCell ⟨gb406, 1, none⟩ (.string ((rd_T60 t359 x141_3).f1)))).cell? _ = some _ from hx407_0)); clear hn407_0; clear hn407_1; replace p407 := eq_true p407; replace q407 := eq_true q407))
                  repeat (go_quiet (first | ((with_reducible refine gate_dst (N := 25) rfl ?_); (try (refine gate_guard (by rfl) ?_; dsimp only)); refine box_event ?hg (N := 25) ?hd (cs := #[.int .i64 0, .string (⟨#[]⟩ : ByteArray)]) (t := 60) ?hr ?_; (case hd => rfl); (case hg => rfl); (case hr => first | (go_simp; done) | (go_simp; rfl)); intro gb406 hg w75 hbox hb; have n0_ := Aside0.mk (Kd.R_below (by (with_reducible repeat (first | apply Kd.R_alloc | apply Kd.R_drewN | apply Kd.R_drew)); exact HO_8.out) hb); have n1_ := Aside0.mk (Kd.R_below (by (with_reducible repeat (first | apply Kd.R_alloc | apply Kd.R_drewN | apply Kd.R_drew)); exact HO_9.out) hb); have n2_ := Aside0.mk (Kd.R_below (by (with_reducible repeat (first | apply Kd.R_alloc | apply Kd.R_drewN | apply Kd.R_drew)); exact HO_23.out) hb); have n3_ := Aside0.mk (Kd.R_below (Kd.R_elderB (by (with_reducible repeat (first | apply Kd.R_alloc | apply Kd.R_drewN | apply Kd.R_drew)); exact HO_139.out) gb406 (Nat.le_of_eq hg.symm)) hb); have n4_ := Aside0.mk (below_step (by repeat (first | (with_reducible first | exact HB.out | apply below_alloc | apply pw_below_drewN | apply below_drew1) | exact HB.out)) hb); have n5_ := Aside0.mk (hbox); have n6_ := Aside0.mk ((by rw [hg]; exact (below_size (by repeat (first | (with_reducible first | exact HB.out | apply below_alloc | apply pw_below_drewN | apply below_drew1) | exact HB.out))) : w.heap.size ≤ gb406)); have n7_ := Aside0.mk ((by rw [hg]; exact (below_size (by repeat (first | (with_reducible first | exact HB.out | apply below_alloc | apply pw_below_drewN | apply below_drew1) | exact HB.out))) : w.heap.size ≤ gb406)); clear HO_8; clear HO_9; clear HO_23; clear HO_139; clear HB; have HO_8 := n0_; have HO_9 := n1_; have HO_23 := n2_; have HO_139 := n3_; have HB := n4_; have BK406 := n5_; have GW406 := n6_; have GE406 := n7_; clear n0_ n1_ n2_ n3_ n4_ n5_ n6_ n7_; clear hb hbox hg; have hcz76_0 : w75.cell? ⟨gb406, 0, none⟩ = some (.int .i64 0) := (blk_cell BK406.out 0).trans rfl; have hcz76_1 : w75.cell? ⟨gb406, 1, none⟩ = some (.string (⟨#[]⟩ : ByteArray)) := (blk_cell BK406.out 1).trans rfl; have hfz76_0 := blk_frozen BK406.out 0; have hfz76_1 := blk_frozen BK406.out 1; obtain ⟨Ao77, co77, eo77⟩ := Kd.R_slice HO_9.out; subst eo77; have p407 : 0 ≤ (x141_3 : Int) := of_decide_eq_true (by first | (with_reducible assumption) | assumption); have q407 : x141_3 < (t364.length : Int) := of_decide_eq_true (by first | (with_reducible assumption) | assumption); obtain ⟨ad407, e407, hx407_0⟩ := Kd.at_bool (Kd.R_reads' HO_9.out).2.2 x141_3 p407 q407; (try rw [← Nbq64.out] at hx407_0); cases e407; have hn407_0 : ad407.block ≠ gb406 := Kd.own_blk (Kd.R_ne HO_9.out BK406.out (by decide)); have hn407_1 : ad407.block ≠ gb406 := Kd.own_blk (Kd.R_ne HO_9.out BK406.out (by decide)); replace hx407_0 := (cell_far (p := ⟨gb406, 0, none⟩) (by first | (rw [add_block]; exact hn407_0) | (show (Addr.add _ _).block ≠ _; rw [add_block]; exact hn407_0) | exact hn407_0) (.int .i64 ((rd_T60 t359 x141_3).f0))).trans hx407_0; replace hx407_0 := (cell_far (p := ⟨gb406, 1, none⟩) (by first | (rw [add_block]; exact hn407_1) | (show (Addr.add _ _).block ≠ _; rw [add_block]; exact hn407_1) | exact hn407_1) (.string ((rd_T60 t359 x141_3).f1))).trans hx407_0; (try have hy407_0 := fun (n_ : Nat) => (show ((((w75.drewN n_).setCell ⟨gb406, 0, none⟩ (.int .i64 ((rd_T60 t359 x141_3).f0))).setCell ⟨gb406, 1, none⟩ (.string ((rd_T60 t359 x141_3).f1)))).cell? _ = some _ from hx407_0)); clear hn407_0; clear hn407_1; replace p407 := eq_true p407; replace q407 := eq_true q407)); try go_wp2_with (first | ((with_reducible refine gate_dst (N := 25) rfl ?_); (try (refine gate_guard (by rfl) ?_; dsimp only)); refine box_event ?hg (N := 25) ?hd (cs := #[.int .i64 0, .string (⟨#[]⟩ : ByteArray)]) (t := 60) ?hr ?_; (case hd => rfl); (case hg => rfl); (case hr => first | (go_simp; done) | (go_simp; rfl)); intro gb406 hg w75 hbox hb; have n0_ := Aside0.mk (Kd.R_below (by (with_reducible repeat (first | apply Kd.R_alloc | apply Kd.R_drewN | apply Kd.R_drew)); exact HO_8.out) hb); have n1_ := Aside0.mk (Kd.R_below (by (with_reducible repeat (first | apply Kd.R_alloc | apply Kd.R_drewN | apply Kd.R_drew)); exact HO_9.out) hb); have n2_ := Aside0.mk (Kd.R_below (by (with_reducible repeat (first | apply Kd.R_alloc | apply Kd.R_drewN | apply Kd.R_drew)); exact HO_23.out) hb); have n3_ := Aside0.mk (Kd.R_below (Kd.R_elderB (by (with_reducible repeat (first | apply Kd.R_alloc | apply Kd.R_drewN | apply Kd.R_drew)); exact HO_139.out) gb406 (Nat.le_of_eq hg.symm)) hb); have n4_ := Aside0.mk (below_step (by repeat (first | (with_reducible first | exact HB.out | apply below_alloc | apply pw_below_drewN | apply below_drew1) | exact HB.out)) hb); have n5_ := Aside0.mk (hbox); have n6_ := Aside0.mk ((by rw [hg]; exact (below_size (by repeat (first | (with_reducible first | exact HB.out | apply below_alloc | apply pw_below_drewN | apply below_drew1) | exact HB.out))) : w.heap.size ≤ gb406)); have n7_ := Aside0.mk ((by rw [hg]; exact (below_size (by repeat (first | (with_reducible first | exact HB.out | apply below_alloc | apply pw_below_drewN | apply below_drew1) | exact HB.out))) : w.heap.size ≤ gb406)); clear HO_8; clear HO_9; clear HO_23; clear HO_139; clear HB; have HO_8 := n0_; have HO_9 := n1_; have HO_23 := n2_; have HO_139 := n3_; have HB := n4_; have BK406 := n5_; have GW406 := n6_; have GE406 := n7_; clear n0_ n1_ n2_ n3_ n4_ n5_ n6_ n7_; clear hb hbox hg; have hcz76_0 : w75.cell? ⟨gb406, 0, none⟩ = some (.int .i64 0) := (blk_cell BK406.out 0).trans rfl; have hcz76_1 : w75.cell? ⟨gb406, 1, none⟩ = some (.string (⟨#[]⟩ : ByteArray)) := (blk_cell BK406.out 1).trans rfl; have hfz76_0 := blk_frozen BK406.out 0; have hfz76_1 := blk_frozen BK406.out 1; obtain ⟨Ao77, co77, eo77⟩ := Kd.R_slice HO_9.out; subst eo77; have p407 : 0 ≤ (x141_3 : Int) := of_decide_eq_true (by first | (with_reducible assumption) | assumption); have q407 : x141_3 < (t364.length : Int) := of_decide_eq_true (by first | (with_reducible assumption) | assumption); obtain ⟨ad407, e407, hx407_0⟩ := Kd.at_bool (Kd.R_reads' HO_9.out).2.2 x141_3 p407 q407; (try rw [← Nbq64.out] at hx407_0); cases e407; have hn407_0 : ad407.block ≠ gb406 := Kd.own_blk (Kd.R_ne HO_9.out BK406.out (by decide)); have hn407_1 : ad407.block ≠ gb406 := Kd.own_blk (Kd.R_ne HO_9.out BK406.out (by decide)); replace hx407_0 := (cell_far (p := ⟨gb406, 0, none⟩) (by first | (rw [add_block]; exact hn407_0) | (show (Addr.add _ _).block ≠ _; rw [add_block]; exact hn407_0) | exact hn407_0) (.int .i64 ((rd_T60 t359 x141_3).f0))).trans hx407_0; replace hx407_0 := (cell_far (p := ⟨gb406, 1, none⟩) (by first | (rw [add_block]; exact hn407_1) | (show (Addr.add _ _).block ≠ _; rw [add_block]; exact hn407_1) | exact hn407_1) (.string ((rd_T60 t359 x141_3).f1))).trans hx407_0; (try have hy407_0 := fun (n_ : Nat) => (show ((((w75.drewN n_).setCell ⟨gb406, 0, none⟩ (.int .i64 ((rd_T60 t359 x141_3).f0))).setCell ⟨gb406, 1, none⟩ (.string ((rd_T60 t359 x141_3).f1)))).cell? _ = some _ from hx407_0)); clear hn407_0; clear hn407_1; replace p407 := eq_true p407; replace q407 := eq_true q407)))
                  go_roundg k3
                  case measure => have := HJ6.out; have := HJ35.out; have := HK3.out; omega
                  case rel => exact ⟨(x23_3), (wrap64 (x141_3 + 1)), (by first | rfl | (simp; done) | (simp [*]; done)), H', ⟨by have := HJ6.out; have := HJ35.out; have := HK3.out; omega⟩, ⟨by (with_reducible repeat (first | apply Kd.R_alloc | apply Kd.R_drewN | apply Kd.R_drew)); exact Kd.R_mono (Kd.R_far (p := ⟨gb406, 1, none⟩) (Kd.R_far (p := ⟨gb406, 0, none⟩) (Kd.R_types HO_8.out BK406.out (by decide)) (fun _ hk => hk.2) (.int .i64 ((rd_T60 t359 x141_3).f0))) (fun _ hk => hk.2) (.string ((rd_T60 t359 x141_3).f1))) (fun _ hk => hk.1)⟩, ⟨by (with_reducible repeat (first | apply Kd.R_alloc | apply Kd.R_drewN | apply Kd.R_drew)); exact Kd.R_mono (Kd.R_far (p := ⟨gb406, 1, none⟩) (Kd.R_far (p := ⟨gb406, 0, none⟩) (Kd.R_types HO_9.out BK406.out (by decide)) (fun _ hk => hk.2) (.int .i64 ((rd_T60 t359 x141_3).f0))) (fun _ hk => hk.2) (.string ((rd_T60 t359 x141_3).f1))) (fun _ hk => trivial)⟩, ⟨by (with_reducible repeat (first | apply Kd.R_alloc | apply Kd.R_drewN | apply Kd.R_drew)); exact Kd.R_mono (Kd.R_far (p := ⟨gb406, 1, none⟩) (Kd.R_far (p := ⟨gb406, 0, none⟩) (Kd.R_types HO_23.out BK406.out (by decide)) (fun _ hk => hk.2) (.int .i64 ((rd_T60 t359 x141_3).f0))) (fun _ hk => hk.2) (.string ((rd_T60 t359 x141_3).f1))) (fun _ hk => hk.1)⟩, ⟨by (with_reducible repeat (first | apply Kd.R_alloc | apply Kd.R_drewN | apply Kd.R_drew)); exact Kd.R_mono (Kd.R_far (p := ⟨gb406, 1, none⟩) (Kd.R_far (p := ⟨gb406, 0, none⟩) (Kd.R_mono HO_139.out (fun k_ hk => (⟨hk, hk.2⟩ : _ ∧ k_ ≠ gb406))) (fun _ hk => hk.2) (.int .i64 ((rd_T60 t359 x141_3).f0))) (fun _ hk => hk.2) (.string ((rd_T60 t359 x141_3).f1))) (fun _ hk => trivial)⟩, ⟨by repeat (first | (with_reducible first | exact HB.out | apply below_alloc | apply pw_below_drewN | apply below_drew1 | refine below_set ?_ GE406.out) | exact HB.out)⟩⟩
               ·rw [if_neg c63] at H
                exact absurd H (by simp)
              ·rw [if_neg c62] at H
               exact absurd H (by simp)
             ·rw [if_neg c61] at H
              exact absurd H (by simp)
            ·rw [if_neg c60] at H
             have c60b0 : decide (x141_3 < (t359.length : Int)) = false := decide_eq_false c60
             clear c60
             have H' := Aside0.mk H
             clear H
             obtain ⟨Ao78, co78, eo78⟩ := Kd.R_slice HO_8.out
             subst eo78
             go_wp2
             repeat (go_quiet (fail); try go_wp2)
             go_loopg [26, 163] k3 (fun kq v26 v163 w' => ∃ (x26_4 : Int) (x163_4 : Int), v26 = .int .i64 x26_4 ∧ v163 = .int .i64 x163_4 ∧ Aside0 (laws_FnCover.l1 kq l1 x23_3 x26_4 t363 (t363.length : Int) x163_4 = some r) ∧ Aside0 (kq ≤ k3) ∧ Aside0 (Kd.R Kd.string 9 w' w.heap.size (fun k_ => some k_ ≠ ((.slice Ao78 t363.length co78) : Value).ownBlock) u23 x23_3) ∧ Aside0 (Kd.R Kd.string 9 w' w.heap.size (fun k_ => some k_ ≠ (u23 : Value).ownBlock) (.slice Ao78 t363.length co78) t363) ∧ Aside0 (Below w.heap.size w w'))
             case atStart => exact ⟨(0), (0), (by first | rfl | (simp; done) | (simp [*]; done)), (by first | rfl | (simp; done) | (simp [*]; done)), H', ⟨Nat.le_refl _⟩, ⟨by (with_reducible repeat (first | apply Kd.R_alloc | apply Kd.R_drewN | apply Kd.R_drew)); exact HO_23.out⟩, ⟨by (with_reducible repeat (first | apply Kd.R_alloc | apply Kd.R_drewN | apply Kd.R_drew)); exact HO_8.out⟩, ⟨by repeat (first | (with_reducible first | exact HB.out | apply below_alloc | apply pw_below_drewN | apply below_drew1) | exact HB.out)⟩⟩
             case round =>
              clear H'
              try clear c1
              try clear p2
              try clear c3
              try clear c3b0
              try clear c4
              try clear p4
              try clear q4
              try clear hx4
              try clear c5
              try clear c6
              try clear p6
              try clear q6
              try clear c11
              try clear c12
              try clear c12b0
              try clear c12b1
              try clear c12b2
              try clear c14
              try clear c16
              try clear c30
              try clear c32
              try clear p40
              try clear q40
              try clear hx40
              try clear c41
              try clear c42
              try clear c44
              try clear c45
              try clear c47
              try clear c59
              try clear c60
              try clear c60b0
              try clear c61
              try clear c61b0
              try clear c62
              try clear c62b0
              try clear c63
              try clear c63b0
              try clear p64
              try clear q64
              try clear c65
              try clear c66
              try clear c66b0
              try clear c66b1
              try clear c67
              try clear hcz69_0
              try clear hcz69_1
              try clear hcz73_0
              try clear hcz73_1
              try clear hcz76_0
              try clear hcz76_1
              try clear hfz69_0
              try clear hfz69_1
              try clear hfz73_0
              try clear hfz73_1
              try clear hfz76_0
              try clear hfz76_1
              try clear hx405_0
              try clear hx405_1
              try clear hx407_0
              try clear p2
              try clear p405
              try clear p407
              try clear p6
              try clear q405
              try clear q407
              obtain ⟨x26_4, x163_4, rfl, rfl, HA, HK4, HO_23, HO_161, HB⟩ := hrel
              cases gk with
              | zero => exact absurd HA.out (by simp [laws_FnCover.l1])
              | succ k4 =>
               have H := HA.out
               clear HA
               simp only [laws_FnCover.l1] at H
               by_cases c79 : x163_4 < (t363.length : Int)
               ·rw [if_pos c79] at H
                have c79b0 : decide (x163_4 < (t363.length : Int)) = true := decide_eq_true c79
                clear c79
                by_cases c80 : 0 ≤ x163_4
                ·rw [if_pos c80] at H
                 have c80b0 : decide (0 ≤ x163_4) = true := decide_eq_true c80
                 clear c80
                 by_cases c81 : x163_4 < (t363.length : Int)
                 ·rw [if_pos c81] at H
                  have c81b0 : decide (x163_4 < (t363.length : Int)) = true := decide_eq_true c81
                  clear c81
                  have HC82 := Aside0.mk H
                  clear H
                  have p411 : 0 ≤ (x163_4 : Int) := of_decide_eq_true (by first | (with_reducible assumption) | assumption)
                  have q411 : x163_4 < (t363.length : Int) := of_decide_eq_true (by first | (with_reducible assumption) | assumption)
                  obtain ⟨ad411, e411, hx411_0⟩ := Kd.at_string (Kd.R_reads' HO_161.out).2.2 x163_4 p411 q411
                  cases e411
                  replace p411 := eq_true p411
                  replace q411 := eq_true q411
                  go_upto_region 25 with (fail)
                  repeat (go_quiet (fail); go_upto_region 25 with (fail))
                  go_cut [178] (fun v178 wc => ∃ (kq : Nat) (x178_81 : Bool), v178 = .bool x178_81 ∧ Aside0 (laws_FnCover.j4 kq l1 x23_3 x26_4 (rdOf ByteArray.empty t363 x163_4) t363 (t363.length : Int) x163_4 x178_81 = some r) ∧ Aside0 (kq ≤ k4) ∧ Aside0 (Kd.R Kd.string 9 wc w.heap.size (fun k_ => some k_ ≠ ((.slice (some ad411) t363.length co78) : Value).ownBlock) u23 x23_3) ∧ Aside0 (Kd.R Kd.string 9 wc w.heap.size (fun k_ => some k_ ≠ (u23 : Value).ownBlock) (.slice (some ad411) t363.length co78) t363) ∧ Aside0 (Below w.heap.size w wc))
                  case first =>
                   have H := HC82.out
                   clear HC82
                   by_cases c83 : x26_4 < (x23_3.length : Int)
                   ·rw [if_pos c83] at H
                    have c83b0 : decide (x26_4 < (x23_3.length : Int)) = true := decide_eq_true c83
                    clear c83
                    (first | rw [c83b0] | (simp only [i64_w, i32_w]; rw [c83b0]) | skip)
                    by_cases c84 : 0 ≤ x26_4
                    ·rw [if_pos c84] at H
                     have c84b0 : decide (0 ≤ x26_4) = true := decide_eq_true c84
                     clear c84
                     as_aux_lemma =>
                      have H' := Aside0.mk H
                      clear H
                      obtain ⟨Ao85, co85, eo85⟩ := Kd.R_slice HO_23.out
                      subst eo85
                      have p412 : 0 ≤ (x26_4 : Int) := of_decide_eq_true (by first | (with_reducible assumption) | assumption)
                      have q412 : x26_4 < (x23_3.length : Int) := of_decide_eq_true (by first | (with_reducible assumption) | assumption)
                      obtain ⟨ad412, e412, hx412_0⟩ := Kd.at_string (Kd.R_reads' HO_23.out).2.2 x26_4 p412 q412
                      cases e412
                      replace p412 := eq_true p412
                      replace q412 := eq_true q412
                      go_wp2
                      repeat (go_quiet (fail); try go_wp2)
                      go_meet
                      case rel => exact ⟨_, (((rdOf ByteArray.empty x23_3 x26_4).toList == (rdOf ByteArray.empty t363 x163_4).toList)), (by first | rfl | (simp; done) | (simp [*]; done)), H', ⟨by have := HJ6.out; have := HJ35.out; have := HK3.out; have := HK4.out; first | omega | exact Nat.le_refl _⟩, ⟨by (with_reducible repeat (first | apply Kd.R_alloc | apply Kd.R_drewN | apply Kd.R_drew)); exact HO_23.out⟩, ⟨by (with_reducible repeat (first | apply Kd.R_alloc | apply Kd.R_drewN | apply Kd.R_drew)); exact HO_161.out⟩, ⟨by repeat (first | (with_reducible first | exact HB.out | apply below_alloc | apply pw_below_drewN | apply below_drew1) | exact HB.out)⟩⟩
                    ·rw [if_neg c84] at H
                     exact absurd H (by simp)
                   ·rw [if_neg c83] at H
                    have c83b0 : decide (x26_4 < (x23_3.length : Int)) = false := decide_eq_false c83
                    clear c83
                    (first | rw [c83b0] | (simp only [i64_w, i32_w]; rw [c83b0]) | skip)
                    as_aux_lemma =>
                     have H' := Aside0.mk H
                     clear H
                     obtain ⟨Ao86, co86, eo86⟩ := Kd.R_slice HO_23.out
                     subst eo86
                     go_wp2
                     repeat (go_quiet (fail); try go_wp2)
                     go_meet
                     case rel => exact ⟨_, (false), (by first | rfl | (simp; done) | (simp [*]; done)), H', ⟨by have := HJ6.out; have := HJ35.out; have := HK3.out; have := HK4.out; first | omega | exact Nat.le_refl _⟩, ⟨by (with_reducible repeat (first | apply Kd.R_alloc | apply Kd.R_drewN | apply Kd.R_drew)); exact HO_23.out⟩, ⟨by (with_reducible repeat (first | apply Kd.R_alloc | apply Kd.R_drewN | apply Kd.R_drew)); exact HO_161.out⟩, ⟨by repeat (first | (with_reducible first | exact HB.out | apply below_alloc | apply pw_below_drewN | apply below_drew1) | exact HB.out)⟩⟩
                  case rest =>
                   clear HC82
                   try clear c1
                   try clear p2
                   try clear c3
                   try clear c3b0
                   try clear c4
                   try clear p4
                   try clear q4
                   try clear hx4
                   try clear c5
                   try clear c6
                   try clear p6
                   try clear q6
                   try clear c7
                   try clear c8
                   try clear c11
                   try clear c12
                   try clear c12b0
                   try clear c12b1
                   try clear c12b2
                   try clear c14
                   try clear c16
                   try clear c30
                   try clear c32
                   try clear p40
                   try clear q40
                   try clear hx40
                   try clear c41
                   try clear p41
                   try clear q41
                   try clear hx41
                   try clear c42
                   try clear c44
                   try clear c45
                   try clear c47
                   try clear c59
                   try clear c60
                   try clear c60b0
                   try clear c61
                   try clear c61b0
                   try clear c62
                   try clear c62b0
                   try clear c63
                   try clear c63b0
                   try clear p64
                   try clear q64
                   try clear c65
                   try clear c66
                   try clear c66b0
                   try clear c66b1
                   try clear c67
                   try clear c79
                   try clear c79b0
                   try clear c80
                   try clear c80b0
                   try clear c81
                   try clear c81b0
                   try clear c83
                   try clear c83b0
                   try clear c84
                   try clear c84b0
                   try clear hcz69_0
                   try clear hcz69_1
                   try clear hcz73_0
                   try clear hcz73_1
                   try clear hcz76_0
                   try clear hcz76_1
                   try clear hfz69_0
                   try clear hfz69_1
                   try clear hfz73_0
                   try clear hfz73_1
                   try clear hfz76_0
                   try clear hfz76_1
                   try clear hx405_0
                   try clear hx405_1
                   try clear hx407_0
                   try clear hx411_0
                   try clear hx412_0
                   try clear p2
                   try clear p4
                   try clear p40
                   try clear p405
                   try clear p407
                   try clear p411
                   try clear p412
                   try clear p6
                   try clear p64
                   try clear q4
                   try clear q40
                   try clear q405
                   try clear q407
                   try clear q411
                   try clear q412
                   try clear q6
                   try clear q64
                   obtain ⟨kq, x178_81, rfl, HA, HJ81, HO_23, HO_161, HB⟩ := hcut
                   cases kq with
                   | zero => exact absurd HA.out (by simp [laws_FnCover.j4])
                   | succ kj81 =>
                    have H := HA.out
                    clear HA
                    simp only [laws_FnCover.j4] at H
                    by_cases c87 : x178_81 = true
                    ·subst c87
                     have H1 : (laws_FnCover.l1 kj81 l1 x23_3 (wrap64 (x26_4 + 1)) t363 (t363.length : Int) (wrap64 (x163_4 + 1))) = some r := by rw [if_pos rfl] at H; exact H
                     clear H
                     have H := H1
                     clear H1
                     as_aux_lemma =>
                      have H' := Aside0.mk H
                      clear H
                      go_wp2
                      repeat (go_quiet (fail); try go_wp2)
                      go_roundg kj81
                      case measure => have := HJ6.out; have := HJ35.out; have := HK3.out; have := HK4.out; have := HJ81.out; omega
                      case rel => exact ⟨(wrap64 (x26_4 + 1)), (wrap64 (x163_4 + 1)), (by first | rfl | (simp; done) | (simp [*]; done)), (by first | rfl | (simp; done) | (simp [*]; done)), H', ⟨by have := HJ6.out; have := HJ35.out; have := HK3.out; have := HK4.out; have := HJ81.out; omega⟩, ⟨by (with_reducible repeat (first | apply Kd.R_alloc | apply Kd.R_drewN | apply Kd.R_drew)); exact HO_23.out⟩, ⟨by (with_reducible repeat (first | apply Kd.R_alloc | apply Kd.R_drewN | apply Kd.R_drew)); exact HO_161.out⟩, ⟨by repeat (first | (with_reducible first | exact HB.out | apply below_alloc | apply pw_below_drewN | apply below_drew1) | exact HB.out)⟩⟩
                    ·replace c87 := Bool.eq_false_iff.mpr c87
                     subst c87
                     have H1 : (if (rdOf ByteArray.empty t363 x163_4).toList = ([] : List UInt8) then (laws_FnCover.l1 kj81 l1 x23_3 x26_4 t363 (t363.length : Int) (wrap64 (x163_4 + 1))) else (some false)) = some r := by rw [if_neg (show ¬ (false = true) by decide)] at H; exact H
                     clear H
                     have H := H1
                     clear H1
                     by_cases c88 : (rdOf ByteArray.empty t363 x163_4).toList = ([] : List UInt8)
                     ·rw [if_pos c88] at H
                      have c88b0 : ((rdOf ByteArray.empty t363 x163_4).toList == ([] : List UInt8)) = true := beq_iff_eq.mpr c88
                      have c88b1 : ((rdOf ByteArray.empty t363 x163_4).toList != ([] : List UInt8)) = false := bne_eq_false_iff_eq.mpr c88
                      clear c88
                      as_aux_lemma =>
                       have H' := Aside0.mk H
                       clear H
                       go_wp2
                       repeat (go_quiet (fail); try go_wp2)
                       go_roundg kj81
                       case measure => have := HJ6.out; have := HJ35.out; have := HK3.out; have := HK4.out; have := HJ81.out; omega
                       case rel => exact ⟨(x26_4), (wrap64 (x163_4 + 1)), (by first | rfl | (simp; done) | (simp [*]; done)), (by first | rfl | (simp; done) | (simp [*]; done)), H', ⟨by have := HJ6.out; have := HJ35.out; have := HK3.out; have := HK4.out; have := HJ81.out; omega⟩, ⟨by (with_reducible repeat (first | apply Kd.R_alloc | apply Kd.R_drewN | apply Kd.R_drew)); exact HO_23.out⟩, ⟨by (with_reducible repeat (first | apply Kd.R_alloc | apply Kd.R_drewN | apply Kd.R_drew)); exact HO_161.out⟩, ⟨by repeat (first | (with_reducible first | exact HB.out | apply below_alloc | apply pw_below_drewN | apply below_drew1) | exact HB.out)⟩⟩
                     ·rw [if_neg c88] at H
                      have c88b0 : ((rdOf ByteArray.empty t363 x163_4).toList == ([] : List UInt8)) = false := beq_eq_false_iff_ne.mpr c88
                      have c88b1 : ((rdOf ByteArray.empty t363 x163_4).toList != ([] : List UInt8)) = true := bne_iff_ne.mpr c88
                      as_aux_lemma =>
                       obtain rfl := Option.some.inj H
                       exact absurd hr_.out (by simp)
                 ·rw [if_neg c81] at H
                  exact absurd H (by simp)
                ·rw [if_neg c80] at H
                 exact absurd H (by simp)
               ·rw [if_neg c79] at H
                have c79b0 : decide (x163_4 < (t363.length : Int)) = false := decide_eq_false c79
                clear c79
                as_aux_lemma =>
                 have H' := Aside0.mk H
                 clear H
                 go_wp2
                 repeat (go_quiet (fail); try go_wp2)
                 go_meet
                 case rel => exact ⟨_, H', ⟨by have := HJ6.out; have := HJ35.out; have := HK3.out; have := HK4.out; first | omega | exact Nat.le_refl _⟩, ⟨by repeat (first | (with_reducible first | exact HB.out | apply below_alloc | apply pw_below_drewN | apply below_drew1) | exact HB.out)⟩⟩
      ·replace c32 := Bool.eq_false_iff.mpr c32
       subst c32
       have H1 : (laws_FnCover.j5 kj6 l1) = some r := by rw [if_neg (show ¬ (false = true) by decide)] at H; exact H
       clear H
       have H := H1
       clear H1
       as_aux_lemma =>
        have H' := Aside0.mk H
        clear H
        go_wp2
        repeat (go_quiet (fail); try go_wp2)
        go_meet
        case rel => exact ⟨_, H', ⟨by have := HJ6.out; first | omega | exact Nat.le_refl _⟩, ⟨by repeat (first | (with_reducible first | exact HB.out | apply below_alloc | apply pw_below_drewN | apply below_drew1) | exact HB.out)⟩⟩
     case rest =>
      clear HC31
      try clear c1
      try clear p2
      try clear c3
      try clear c3b0
      try clear c4
      try clear p4
      try clear q4
      try clear hx4
      try clear c5
      try clear c6
      try clear p6
      try clear q6
      try clear c7
      try clear c8
      try clear c11
      try clear c12
      try clear c12b0
      try clear c12b1
      try clear c12b2
      try clear c14
      try clear c16
      try clear c30
      try clear c32
      try clear p40
      try clear q40
      try clear hx40
      try clear c41
      try clear p41
      try clear q41
      try clear hx41
      try clear c42
      try clear c44
      try clear c45
      try clear c47
      try clear c59
      try clear c60
      try clear c60b0
      try clear c61
      try clear c61b0
      try clear c62
      try clear c62b0
      try clear c63
      try clear c63b0
      try clear p64
      try clear q64
      try clear c65
      try clear c66
      try clear c66b0
      try clear c66b1
      try clear c67
      try clear c79
      try clear c79b0
      try clear c80
      try clear c80b0
      try clear c81
      try clear c81b0
      try clear c83
      try clear c83b0
      try clear c84
      try clear c84b0
      try clear c87
      try clear c88
      try clear c88b0
      try clear c88b1
      try clear hcz69_0
      try clear hcz69_1
      try clear hcz73_0
      try clear hcz73_1
      try clear hcz76_0
      try clear hcz76_1
      try clear hfz69_0
      try clear hfz69_1
      try clear hfz73_0
      try clear hfz73_1
      try clear hfz76_0
      try clear hfz76_1
      try clear hx405_0
      try clear hx405_1
      try clear hx407_0
      try clear hx411_0
      try clear hx412_0
      try clear p2
      try clear p4
      try clear p40
      try clear p405
      try clear p407
      try clear p41
      try clear p411
      try clear p412
      try clear p6
      try clear p64
      try clear q4
      try clear q40
      try clear q405
      try clear q407
      try clear q41
      try clear q411
      try clear q412
      try clear q6
      try clear q64
      obtain ⟨kq, HA, HJ30, HB⟩ := hcut
      cases kq with
      | zero => exact absurd HA.out (by simp [laws_FnCover.j5])
      | succ kj30 =>
       have H := HA.out
       clear HA
       simp only [laws_FnCover.j5] at H
       replace H := Option.bind_eq_some_iff.mp H
       obtain ⟨t413, A890, H⟩ := H
       replace H : ((impl_EraseSays.f kj30 t413).bind fun bt416 => ((spec_EraseSays.f kj30 t413).bind fun bt420 => ((spec_DrawTraceOf.f l1).bind fun bt424 => ((impl_TraceOf.f kj30 bt424.1 bt424.2).bind fun bt426 => ((spec_TraceOf.f kj30 bt424.1 bt424.2).bind fun bt430 => (if (bt416.2 != bt420.2) = true then (laws_FnCover.j6 kj30 bt416.1 bt420.1 true) else (if (bt416.1.length : Int) = (bt420.1.length : Int) then (if (bt426.2 != bt430.2) = true then (laws_FnCover.j6 kj30 bt416.1 bt420.1 true) else ((laws_sameTrace.f kj30 bt426.1 bt430.1).bind fun t434 => (laws_FnCover.j6 kj30 bt416.1 bt420.1 (!t434)))) else (laws_FnCover.j6 kj30 bt416.1 bt420.1 true)))))))) = some r := H
       have A89 := Aside0.mk A890
       clear A890
       replace H := Option.bind_eq_some_iff.mp H
       obtain ⟨⟨t416, t417⟩, A900, H⟩ := H
       replace H : ((spec_EraseSays.f kj30 t413).bind fun bt420 => ((spec_DrawTraceOf.f l1).bind fun bt424 => ((impl_TraceOf.f kj30 bt424.1 bt424.2).bind fun bt426 => ((spec_TraceOf.f kj30 bt424.1 bt424.2).bind fun bt430 => (if (t417 != bt420.2) = true then (laws_FnCover.j6 kj30 t416 bt420.1 true) else (if (t416.length : Int) = (bt420.1.length : Int) then (if (bt426.2 != bt430.2) = true then (laws_FnCover.j6 kj30 t416 bt420.1 true) else ((laws_sameTrace.f kj30 bt426.1 bt430.1).bind fun t434 => (laws_FnCover.j6 kj30 t416 bt420.1 (!t434)))) else (laws_FnCover.j6 kj30 t416 bt420.1 true))))))) = some r := H
       have A90 := Aside0.mk A900
       clear A900
       replace H := Option.bind_eq_some_iff.mp H
       obtain ⟨⟨t420, t421⟩, A910, H⟩ := H
       replace H : ((spec_DrawTraceOf.f l1).bind fun bt424 => ((impl_TraceOf.f kj30 bt424.1 bt424.2).bind fun bt426 => ((spec_TraceOf.f kj30 bt424.1 bt424.2).bind fun bt430 => (if (t417 != t421) = true then (laws_FnCover.j6 kj30 t416 t420 true) else (if (t416.length : Int) = (t420.length : Int) then (if (bt426.2 != bt430.2) = true then (laws_FnCover.j6 kj30 t416 t420 true) else ((laws_sameTrace.f kj30 bt426.1 bt430.1).bind fun t434 => (laws_FnCover.j6 kj30 t416 t420 (!t434)))) else (laws_FnCover.j6 kj30 t416 t420 true)))))) = some r := H
       have A91 := Aside0.mk A910
       clear A910
       replace H := Option.bind_eq_some_iff.mp H
       obtain ⟨⟨t424, t425⟩, A920, H⟩ := H
       replace H : ((impl_TraceOf.f kj30 t424 t425).bind fun bt426 => ((spec_TraceOf.f kj30 t424 t425).bind fun bt430 => (if (t417 != t421) = true then (laws_FnCover.j6 kj30 t416 t420 true) else (if (t416.length : Int) = (t420.length : Int) then (if (bt426.2 != bt430.2) = true then (laws_FnCover.j6 kj30 t416 t420 true) else ((laws_sameTrace.f kj30 bt426.1 bt430.1).bind fun t434 => (laws_FnCover.j6 kj30 t416 t420 (!t434)))) else (laws_FnCover.j6 kj30 t416 t420 true))))) = some r := H
       have A92 := Aside0.mk A920
       clear A920
       replace H := Option.bind_eq_some_iff.mp H
       obtain ⟨⟨t426, t427⟩, A930, H⟩ := H
       replace H : ((spec_TraceOf.f kj30 t424 t425).bind fun bt430 => (if (t417 != t421) = true then (laws_FnCover.j6 kj30 t416 t420 true) else (if (t416.length : Int) = (t420.length : Int) then (if (t427 != bt430.2) = true then (laws_FnCover.j6 kj30 t416 t420 true) else ((laws_sameTrace.f kj30 t426 bt430.1).bind fun t434 => (laws_FnCover.j6 kj30 t416 t420 (!t434)))) else (laws_FnCover.j6 kj30 t416 t420 true)))) = some r := H
       have A93 := Aside0.mk A930
       clear A930
       replace H := Option.bind_eq_some_iff.mp H
       obtain ⟨⟨t430, t431⟩, A940, H⟩ := H
       replace H : (if (t417 != t421) = true then (laws_FnCover.j6 kj30 t416 t420 true) else (if (t416.length : Int) = (t420.length : Int) then (if (t427 != t431) = true then (laws_FnCover.j6 kj30 t416 t420 true) else ((laws_sameTrace.f kj30 t426 t430).bind fun t434 => (laws_FnCover.j6 kj30 t416 t420 (!t434)))) else (laws_FnCover.j6 kj30 t416 t420 true))) = some r := H
       have A94 := Aside0.mk A940
       clear A940
       have HC95 := Aside0.mk H
       clear H
       go_upto_region 36 with (first | (go_at_call 56; (with_reducible refine (spec_DrawEraseSays.calls kj30 _ _ l1 t413 _ ?side1 ?side2 A89.out).mono ?_); (case side1 => repeat (first | exact (Kd.C_below HR1.out HB.out) | (with_reducible refine Kd.C_alloc ?_ _) | (with_reducible refine Kd.C_drewN ?_ _) | (with_reducible refine Kd.C_drew ?_))); (case side2 => exact HC1.out); rintro e w96 ⟨v414, rfl, ho0, hb⟩; have n0_ := Aside0.mk (Kd.R_lower ho0 (below_size (by repeat (first | (with_reducible first | exact HB.out | apply below_alloc | apply pw_below_drewN | apply below_drew1) | exact HB.out)))); have n1_ := Aside0.mk (below_step (by repeat (first | (with_reducible first | exact HB.out | apply below_alloc | apply pw_below_drewN | apply below_drew1) | exact HB.out)) hb); clear HB; have HO415 := n0_; have HB := n1_; clear n0_ n1_; (try clear hb); (try clear hb2); (try clear hk); (try clear hi); (try clear ho0); obtain ⟨Ao97, co97, eo97⟩ := Kd.R_slice HO415.out; subst eo97) | (go_at_call 29; (with_reducible refine (impl_EraseSays.calls kj30 _ _ t413 t416 t417 _ ?side1 ?side2 A90.out).mono ?_); (case side1 => repeat (first | exact (Kd.R_reads' HO415.out).2.2 | (with_reducible refine Kd.C_alloc ?_ _) | (with_reducible refine Kd.C_drewN ?_ _) | (with_reducible refine Kd.C_drew ?_))); (case side2 => exact (Kd.R_reads' HO415.out).2.1); rintro e w98 ⟨v418, rfl, ho0, hb⟩; have n0_ := Aside0.mk (Kd.R_elder' (by (with_reducible repeat (first | apply Kd.R_alloc | apply Kd.R_drewN | apply Kd.R_drew)); exact HO415.out) (Kd.R_base ho0) hb); have n1_ := Aside0.mk (Kd.R_lower (Kd.R_new' ho0 (Kd.R_lt (by (with_reducible repeat (first | apply Kd.R_alloc | apply Kd.R_drewN | apply Kd.R_drew)); exact HO415.out))) (below_size (by repeat (first | (with_reducible first | exact HB.out | apply below_alloc | apply pw_below_drewN | apply below_drew1) | exact HB.out)))); have n2_ := Aside0.mk (below_step (by repeat (first | (with_reducible first | exact HB.out | apply below_alloc | apply pw_below_drewN | apply below_drew1) | exact HB.out)) hb); clear HO415; clear HB; have HO415 := n0_; have HO419 := n1_; have HB := n2_; clear n0_ n1_ n2_; (try clear hb); (try clear hb2); (try clear hk); (try clear hi); (try clear ho0)) | (go_at_call 27; (with_reducible refine (spec_EraseSays.calls kj30 _ _ t413 t420 t421 _ ?side1 ?side2 A91.out).mono ?_); (case side1 => repeat (first | exact (Kd.R_reads' HO415.out).2.2 | (with_reducible refine Kd.C_alloc ?_ _) | (with_reducible refine Kd.C_drewN ?_ _) | (with_reducible refine Kd.C_drew ?_))); (case side2 => exact (Kd.R_reads' HO415.out).2.1); rintro e w99 ⟨v422, rfl, ho0, hb⟩; have n0_ := Aside0.mk (Kd.R_elder' (by (with_reducible repeat (first | apply Kd.R_alloc | apply Kd.R_drewN | apply Kd.R_drew)); exact HO415.out) (Kd.R_base ho0) hb); have n1_ := Aside0.mk (Kd.R_elder' (by (with_reducible repeat (first | apply Kd.R_alloc | apply Kd.R_drewN | apply Kd.R_drew)); exact HO419.out) (Kd.R_base ho0) hb); have n2_ := Aside0.mk (Kd.R_lower (Kd.R_new' (Kd.R_new' ho0 (Kd.R_lt (by (with_reducible repeat (first | apply Kd.R_alloc | apply Kd.R_drewN | apply Kd.R_drew)); exact HO415.out))) (Kd.R_lt (by (with_reducible repeat (first | apply Kd.R_alloc | apply Kd.R_drewN | apply Kd.R_drew)); exact HO419.out))) (below_size (by repeat (first | (with_reducible first | exact HB.out | apply below_alloc | apply pw_below_drewN | apply below_drew1) | exact HB.out)))); have n3_ := Aside0.mk (below_step (by repeat (first | (with_reducible first | exact HB.out | apply below_alloc | apply pw_below_drewN | apply below_drew1) | exact HB.out)) hb); clear HO415; clear HO419; clear HB; have HO415 := n0_; have HO419 := n1_; have HO423 := n2_; have HB := n3_; clear n0_ n1_ n2_ n3_; (try clear hb); (try clear hb2); (try clear hk); (try clear hi); (try clear ho0)) | (go_at_call 57; (with_reducible refine (spec_DrawTraceOf.calls _ _ l1 t424 t425 _ ?side1 ?side2 A92.out).mono ?_); (case side1 => repeat (first | exact (Kd.C_below HR1.out HB.out) | (with_reducible refine Kd.C_alloc ?_ _) | (with_reducible refine Kd.C_drewN ?_ _) | (with_reducible refine Kd.C_drew ?_))); (case side2 => exact HC1.out); rintro e w100 ⟨rfl, hb⟩; have n0_ := Aside0.mk (Kd.R_below (by (with_reducible repeat (first | apply Kd.R_alloc | apply Kd.R_drewN | apply Kd.R_drew)); exact HO415.out) hb); have n1_ := Aside0.mk (Kd.R_below (by (with_reducible repeat (first | apply Kd.R_alloc | apply Kd.R_drewN | apply Kd.R_drew)); exact HO419.out) hb); have n2_ := Aside0.mk (Kd.R_below (by (with_reducible repeat (first | apply Kd.R_alloc | apply Kd.R_drewN | apply Kd.R_drew)); exact HO423.out) hb); have n3_ := Aside0.mk (below_step (by repeat (first | (with_reducible first | exact HB.out | apply below_alloc | apply pw_below_drewN | apply below_drew1) | exact HB.out)) hb); clear HO415; clear HO419; clear HO423; clear HB; have HO415 := n0_; have HO419 := n1_; have HO423 := n2_; have HB := n3_; clear n0_ n1_ n2_ n3_; (try clear hb); (try clear hb2); (try clear hk); (try clear hi)) | (go_at_call 13; (with_reducible refine (impl_TraceOf.calls kj30 t424 t425 t426 t427 _ A93.out).mono ?_); rintro e w101 ⟨v428, rfl, ho0, hb⟩; have n0_ := Aside0.mk (Kd.R_below (by (with_reducible repeat (first | apply Kd.R_alloc | apply Kd.R_drewN | apply Kd.R_drew)); exact HO415.out) hb); have n1_ := Aside0.mk (Kd.R_below (by (with_reducible repeat (first | apply Kd.R_alloc | apply Kd.R_drewN | apply Kd.R_drew)); exact HO419.out) hb); have n2_ := Aside0.mk (Kd.R_below (by (with_reducible repeat (first | apply Kd.R_alloc | apply Kd.R_drewN | apply Kd.R_drew)); exact HO423.out) hb); have n3_ := Aside0.mk (Kd.R_lower ho0 (below_size (by repeat (first | (with_reducible first | exact HB.out | apply below_alloc | apply pw_below_drewN | apply below_drew1) | exact HB.out)))); have n4_ := Aside0.mk (below_step (by repeat (first | (with_reducible first | exact HB.out | apply below_alloc | apply pw_below_drewN | apply below_drew1) | exact HB.out)) hb); clear HO415; clear HO419; clear HO423; clear HB; have HO415 := n0_; have HO419 := n1_; have HO423 := n2_; have HO429 := n3_; have HB := n4_; clear n0_ n1_ n2_ n3_ n4_; (try clear hb); (try clear hb2); (try clear hk); (try clear hi); (try clear ho0)) | (go_at_call 12; (with_reducible refine (spec_TraceOf.calls kj30 t424 t425 t430 t431 _ A94.out).mono ?_); rintro e w102 ⟨v432, rfl, ho0, hb⟩; have n0_ := Aside0.mk (Kd.R_below (by (with_reducible repeat (first | apply Kd.R_alloc | apply Kd.R_drewN | apply Kd.R_drew)); exact HO415.out) hb); have n1_ := Aside0.mk (Kd.R_below (by (with_reducible repeat (first | apply Kd.R_alloc | apply Kd.R_drewN | apply Kd.R_drew)); exact HO419.out) hb); have n2_ := Aside0.mk (Kd.R_below (by (with_reducible repeat (first | apply Kd.R_alloc | apply Kd.R_drewN | apply Kd.R_drew)); exact HO423.out) hb); have n3_ := Aside0.mk (Kd.R_elder' (by (with_reducible repeat (first | apply Kd.R_alloc | apply Kd.R_drewN | apply Kd.R_drew)); exact HO429.out) (Kd.R_base ho0) hb); have n4_ := Aside0.mk (Kd.R_lower (Kd.R_new' ho0 (Kd.R_lt (by (with_reducible repeat (first | apply Kd.R_alloc | apply Kd.R_drewN | apply Kd.R_drew)); exact HO429.out))) (below_size (by repeat (first | (with_reducible first | exact HB.out | apply below_alloc | apply pw_below_drewN | apply below_drew1) | exact HB.out)))); have n5_ := Aside0.mk (below_step (by repeat (first | (with_reducible first | exact HB.out | apply below_alloc | apply pw_below_drewN | apply below_drew1) | exact HB.out)) hb); clear HO415; clear HO419; clear HO423; clear HO429; clear HB; have HO415 := n0_; have HO419 := n1_; have HO423 := n2_; have HO429 := n3_; have HO433 := n4_; have HB := n5_; clear n0_ n1_ n2_ n3_ n4_ n5_; (try clear hb); (try clear hb2); (try clear hk); (try clear hi); (try clear ho0)))
       repeat (go_quiet (first | (go_at_call 56; (with_reducible refine (spec_DrawEraseSays.calls kj30 _ _ l1 t413 _ ?side1 ?side2 A89.out).mono ?_); (case side1 => repeat (first | exact (Kd.C_below HR1.out HB.out) | (with_reducible refine Kd.C_alloc ?_ _) | (with_reducible refine Kd.C_drewN ?_ _) | (with_reducible refine Kd.C_drew ?_))); (case side2 => exact HC1.out); rintro e w96 ⟨v414, rfl, ho0, hb⟩; have n0_ := Aside0.mk (Kd.R_lower ho0 (below_size (by repeat (first | (with_reducible first | exact HB.out | apply below_alloc | apply pw_below_drewN | apply below_drew1) | exact HB.out)))); have n1_ := Aside0.mk (below_step (by repeat (first | (with_reducible first | exact HB.out | apply below_alloc | apply pw_below_drewN | apply below_drew1) | exact HB.out)) hb); clear HB; have HO415 := n0_; have HB := n1_; clear n0_ n1_; (try clear hb); (try clear hb2); (try clear hk); (try clear hi); (try clear ho0); obtain ⟨Ao97, co97, eo97⟩ := Kd.R_slice HO415.out; subst eo97) | (go_at_call 29; (with_reducible refine (impl_EraseSays.calls kj30 _ _ t413 t416 t417 _ ?side1 ?side2 A90.out).mono ?_); (case side1 => repeat (first | exact (Kd.R_reads' HO415.out).2.2 | (with_reducible refine Kd.C_alloc ?_ _) | (with_reducible refine Kd.C_drewN ?_ _) | (with_reducible refine Kd.C_drew ?_))); (case side2 => exact (Kd.R_reads' HO415.out).2.1); rintro e w98 ⟨v418, rfl, ho0, hb⟩; have n0_ := Aside0.mk (Kd.R_elder' (by (with_reducible repeat (first | apply Kd.R_alloc | apply Kd.R_drewN | apply Kd.R_drew)); exact HO415.out) (Kd.R_base ho0) hb); have n1_ := Aside0.mk (Kd.R_lower (Kd.R_new' ho0 (Kd.R_lt (by (with_reducible repeat (first | apply Kd.R_alloc | apply Kd.R_drewN | apply Kd.R_drew)); exact HO415.out))) (below_size (by repeat (first | (with_reducible first | exact HB.out | apply below_alloc | apply pw_below_drewN | apply below_drew1) | exact HB.out)))); have n2_ := Aside0.mk (below_step (by repeat (first | (with_reducible first | exact HB.out | apply below_alloc | apply pw_below_drewN | apply below_drew1) | exact HB.out)) hb); clear HO415; clear HB; have HO415 := n0_; have HO419 := n1_; have HB := n2_; clear n0_ n1_ n2_; (try clear hb); (try clear hb2); (try clear hk); (try clear hi); (try clear ho0)) | (go_at_call 27; (with_reducible refine (spec_EraseSays.calls kj30 _ _ t413 t420 t421 _ ?side1 ?side2 A91.out).mono ?_); (case side1 => repeat (first | exact (Kd.R_reads' HO415.out).2.2 | (with_reducible refine Kd.C_alloc ?_ _) | (with_reducible refine Kd.C_drewN ?_ _) | (with_reducible refine Kd.C_drew ?_))); (case side2 => exact (Kd.R_reads' HO415.out).2.1); rintro e w99 ⟨v422, rfl, ho0, hb⟩; have n0_ := Aside0.mk (Kd.R_elder' (by (with_reducible repeat (first | apply Kd.R_alloc | apply Kd.R_drewN | apply Kd.R_drew)); exact HO415.out) (Kd.R_base ho0) hb); have n1_ := Aside0.mk (Kd.R_elder' (by (with_reducible repeat (first | apply Kd.R_alloc | apply Kd.R_drewN | apply Kd.R_drew)); exact HO419.out) (Kd.R_base ho0) hb); have n2_ := Aside0.mk (Kd.R_lower (Kd.R_new' (Kd.R_new' ho0 (Kd.R_lt (by (with_reducible repeat (first | apply Kd.R_alloc | apply Kd.R_drewN | apply Kd.R_drew)); exact HO415.out))) (Kd.R_lt (by (with_reducible repeat (first | apply Kd.R_alloc | apply Kd.R_drewN | apply Kd.R_drew)); exact HO419.out))) (below_size (by repeat (first | (with_reducible first | exact HB.out | apply below_alloc | apply pw_below_drewN | apply below_drew1) | exact HB.out)))); have n3_ := Aside0.mk (below_step (by repeat (first | (with_reducible first | exact HB.out | apply below_alloc | apply pw_below_drewN | apply below_drew1) | exact HB.out)) hb); clear HO415; clear HO419; clear HB; have HO415 := n0_; have HO419 := n1_; have HO423 := n2_; have HB := n3_; clear n0_ n1_ n2_ n3_; (try clear hb); (try clear hb2); (try clear hk); (try clear hi); (try clear ho0)) | (go_at_call 57; (with_reducible refine (spec_DrawTraceOf.calls _ _ l1 t424 t425 _ ?side1 ?side2 A92.out).mono ?_); (case side1 => repeat (first | exact (Kd.C_below HR1.out HB.out) | (with_reducible refine Kd.C_alloc ?_ _) | (with_reducible refine Kd.C_drewN ?_ _) | (with_reducible refine Kd.C_drew ?_))); (case side2 => exact HC1.out); rintro e w100 ⟨rfl, hb⟩; have n0_ := Aside0.mk (Kd.R_below (by (with_reducible repeat (first | apply Kd.R_alloc | apply Kd.R_drewN | apply Kd.R_drew)); exact HO415.out) hb); have n1_ := Aside0.mk (Kd.R_below (by (with_reducible repeat (first | apply Kd.R_alloc | apply Kd.R_drewN | apply Kd.R_drew)); exact HO419.out) hb); have n2_ := Aside0.mk (Kd.R_below (by (with_reducible repeat (first | apply Kd.R_alloc | apply Kd.R_drewN | apply Kd.R_drew)); exact HO423.out) hb); have n3_ := Aside0.mk (below_step (by repeat (first | (with_reducible first | exact HB.out | apply below_alloc | apply pw_below_drewN | apply below_drew1) | exact HB.out)) hb); clear HO415; clear HO419; clear HO423; clear HB; have HO415 := n0_; have HO419 := n1_; have HO423 := n2_; have HB := n3_; clear n0_ n1_ n2_ n3_; (try clear hb); (try clear hb2); (try clear hk); (try clear hi)) | (go_at_call 13; (with_reducible refine (impl_TraceOf.calls kj30 t424 t425 t426 t427 _ A93.out).mono ?_); rintro e w101 ⟨v428, rfl, ho0, hb⟩; have n0_ := Aside0.mk (Kd.R_below (by (with_reducible repeat (first | apply Kd.R_alloc | apply Kd.R_drewN | apply Kd.R_drew)); exact HO415.out) hb); have n1_ := Aside0.mk (Kd.R_below (by (with_reducible repeat (first | apply Kd.R_alloc | apply Kd.R_drewN | apply Kd.R_drew)); exact HO419.out) hb); have n2_ := Aside0.mk (Kd.R_below (by (with_reducible repeat (first | apply Kd.R_alloc | apply Kd.R_drewN | apply Kd.R_drew)); exact HO423.out) hb); have n3_ := Aside0.mk (Kd.R_lower ho0 (below_size (by repeat (first | (with_reducible first | exact HB.out | apply below_alloc | apply pw_below_drewN | apply below_drew1) | exact HB.out)))); have n4_ := Aside0.mk (below_step (by repeat (first | (with_reducible first | exact HB.out | apply below_alloc | apply pw_below_drewN | apply below_drew1) | exact HB.out)) hb); clear HO415; clear HO419; clear HO423; clear HB; have HO415 := n0_; have HO419 := n1_; have HO423 := n2_; have HO429 := n3_; have HB := n4_; clear n0_ n1_ n2_ n3_ n4_; (try clear hb); (try clear hb2); (try clear hk); (try clear hi); (try clear ho0)) | (go_at_call 12; (with_reducible refine (spec_TraceOf.calls kj30 t424 t425 t430 t431 _ A94.out).mono ?_); rintro e w102 ⟨v432, rfl, ho0, hb⟩; have n0_ := Aside0.mk (Kd.R_below (by (with_reducible repeat (first | apply Kd.R_alloc | apply Kd.R_drewN | apply Kd.R_drew)); exact HO415.out) hb); have n1_ := Aside0.mk (Kd.R_below (by (with_reducible repeat (first | apply Kd.R_alloc | apply Kd.R_drewN | apply Kd.R_drew)); exact HO419.out) hb); have n2_ := Aside0.mk (Kd.R_below (by (with_reducible repeat (first | apply Kd.R_alloc | apply Kd.R_drewN | apply Kd.R_drew)); exact HO423.out) hb); have n3_ := Aside0.mk (Kd.R_elder' (by (with_reducible repeat (first | apply Kd.R_alloc | apply Kd.R_drewN | apply Kd.R_drew)); exact HO429.out) (Kd.R_base ho0) hb); have n4_ := Aside0.mk (Kd.R_lower (Kd.R_new' ho0 (Kd.R_lt (by (with_reducible repeat (first | apply Kd.R_alloc | apply Kd.R_drewN | apply Kd.R_drew)); exact HO429.out))) (below_size (by repeat (first | (with_reducible first | exact HB.out | apply below_alloc | apply pw_below_drewN | apply below_drew1) | exact HB.out)))); have n5_ := Aside0.mk (below_step (by repeat (first | (with_reducible first | exact HB.out | apply below_alloc | apply pw_below_drewN | apply below_drew1) | exact HB.out)) hb); clear HO415; clear HO419; clear HO423; clear HO429; clear HB; have HO415 := n0_; have HO419 := n1_; have HO423 := n2_; have HO429 := n3_; have HO433 := n4_; have HB := n5_; clear n0_ n1_ n2_ n3_ n4_ n5_; (try clear hb); (try clear hb2); (try clear hk); (try clear hi); (try clear ho0))); go_upto_region 36 with (first | (go_at_call 56; (with_reducible refine (spec_DrawEraseSays.calls kj30 _ _ l1 t413 _ ?side1 ?side2 A89.out).mono ?_); (case side1 => repeat (first | exact (Kd.C_below HR1.out HB.out) | (with_reducible refine Kd.C_alloc ?_ _) | (with_reducible refine Kd.C_drewN ?_ _) | (with_reducible refine Kd.C_drew ?_))); (case side2 => exact HC1.out); rintro e w96 ⟨v414, rfl, ho0, hb⟩; have n0_ := Aside0.mk (Kd.R_lower ho0 (below_size (by repeat (first | (with_reducible first | exact HB.out | apply below_alloc | apply pw_below_drewN | apply below_drew1) | exact HB.out)))); have n1_ := Aside0.mk (below_step (by repeat (first | (with_reducible first | exact HB.out | apply below_alloc | apply pw_below_drewN | apply below_drew1) | exact HB.out)) hb); clear HB; have HO415 := n0_; have HB := n1_; clear n0_ n1_; (try clear hb); (try clear hb2); (try clear hk); (try clear hi); (try clear ho0); obtain ⟨Ao97, co97, eo97⟩ := Kd.R_slice HO415.out; subst eo97) | (go_at_call 29; (with_reducible refine (impl_EraseSays.calls kj30 _ _ t413 t416 t417 _ ?side1 ?side2 A90.out).mono ?_); (case side1 => repeat (first | exact (Kd.R_reads' HO415.out).2.2 | (with_reducible refine Kd.C_alloc ?_ _) | (with_reducible refine Kd.C_drewN ?_ _) | (with_reducible refine Kd.C_drew ?_))); (case side2 => exact (Kd.R_reads' HO415.out).2.1); rintro e w98 ⟨v418, rfl, ho0, hb⟩; have n0_ := Aside0.mk (Kd.R_elder' (by (with_reducible repeat (first | apply Kd.R_alloc | apply Kd.R_drewN | apply Kd.R_drew)); exact HO415.out) (Kd.R_base ho0) hb); have n1_ := Aside0.mk (Kd.R_lower (Kd.R_new' ho0 (Kd.R_lt (by (with_reducible repeat (first | apply Kd.R_alloc | apply Kd.R_drewN | apply Kd.R_drew)); exact HO415.out))) (below_size (by repeat (first | (with_reducible first | exact HB.out | apply below_alloc | apply pw_below_drewN | apply below_drew1) | exact HB.out)))); have n2_ := Aside0.mk (below_step (by repeat (first | (with_reducible first | exact HB.out | apply below_alloc | apply pw_below_drewN | apply below_drew1) | exact HB.out)) hb); clear HO415; clear HB; have HO415 := n0_; have HO419 := n1_; have HB := n2_; clear n0_ n1_ n2_; (try clear hb); (try clear hb2); (try clear hk); (try clear hi); (try clear ho0)) | (go_at_call 27; (with_reducible refine (spec_EraseSays.calls kj30 _ _ t413 t420 t421 _ ?side1 ?side2 A91.out).mono ?_); (case side1 => repeat (first | exact (Kd.R_reads' HO415.out).2.2 | (with_reducible refine Kd.C_alloc ?_ _) | (with_reducible refine Kd.C_drewN ?_ _) | (with_reducible refine Kd.C_drew ?_))); (case side2 => exact (Kd.R_reads' HO415.out).2.1); rintro e w99 ⟨v422, rfl, ho0, hb⟩; have n0_ := Aside0.mk (Kd.R_elder' (by (with_reducible repeat (first | apply Kd.R_alloc | apply Kd.R_drewN | apply Kd.R_drew)); exact HO415.out) (Kd.R_base ho0) hb); have n1_ := Aside0.mk (Kd.R_elder' (by (with_reducible repeat (first | apply Kd.R_alloc | apply Kd.R_drewN | apply Kd.R_drew)); exact HO419.out) (Kd.R_base ho0) hb); have n2_ := Aside0.mk (Kd.R_lower (Kd.R_new' (Kd.R_new' ho0 (Kd.R_lt (by (with_reducible repeat (first | apply Kd.R_alloc | apply Kd.R_drewN | apply Kd.R_drew)); exact HO415.out))) (Kd.R_lt (by (with_reducible repeat (first | apply Kd.R_alloc | apply Kd.R_drewN | apply Kd.R_drew)); exact HO419.out))) (below_size (by repeat (first | (with_reducible first | exact HB.out | apply below_alloc | apply pw_below_drewN | apply below_drew1) | exact HB.out)))); have n3_ := Aside0.mk (below_step (by repeat (first | (with_reducible first | exact HB.out | apply below_alloc | apply pw_below_drewN | apply below_drew1) | exact HB.out)) hb); clear HO415; clear HO419; clear HB; have HO415 := n0_; have HO419 := n1_; have HO423 := n2_; have HB := n3_; clear n0_ n1_ n2_ n3_; (try clear hb); (try clear hb2); (try clear hk); (try clear hi); (try clear ho0)) | (go_at_call 57; (with_reducible refine (spec_DrawTraceOf.calls _ _ l1 t424 t425 _ ?side1 ?side2 A92.out).mono ?_); (case side1 => repeat (first | exact (Kd.C_below HR1.out HB.out) | (with_reducible refine Kd.C_alloc ?_ _) | (with_reducible refine Kd.C_drewN ?_ _) | (with_reducible refine Kd.C_drew ?_))); (case side2 => exact HC1.out); rintro e w100 ⟨rfl, hb⟩; have n0_ := Aside0.mk (Kd.R_below (by (with_reducible repeat (first | apply Kd.R_alloc | apply Kd.R_drewN | apply Kd.R_drew)); exact HO415.out) hb); have n1_ := Aside0.mk (Kd.R_below (by (with_reducible repeat (first | apply Kd.R_alloc | apply Kd.R_drewN | apply Kd.R_drew)); exact HO419.out) hb); have n2_ := Aside0.mk (Kd.R_below (by (with_reducible repeat (first | apply Kd.R_alloc | apply Kd.R_drewN | apply Kd.R_drew)); exact HO423.out) hb); have n3_ := Aside0.mk (below_step (by repeat (first | (with_reducible first | exact HB.out | apply below_alloc | apply pw_below_drewN | apply below_drew1) | exact HB.out)) hb); clear HO415; clear HO419; clear HO423; clear HB; have HO415 := n0_; have HO419 := n1_; have HO423 := n2_; have HB := n3_; clear n0_ n1_ n2_ n3_; (try clear hb); (try clear hb2); (try clear hk); (try clear hi)) | (go_at_call 13; (with_reducible refine (impl_TraceOf.calls kj30 t424 t425 t426 t427 _ A93.out).mono ?_); rintro e w101 ⟨v428, rfl, ho0, hb⟩; have n0_ := Aside0.mk (Kd.R_below (by (with_reducible repeat (first | apply Kd.R_alloc | apply Kd.R_drewN | apply Kd.R_drew)); exact HO415.out) hb); have n1_ := Aside0.mk (Kd.R_below (by (with_reducible repeat (first | apply Kd.R_alloc | apply Kd.R_drewN | apply Kd.R_drew)); exact HO419.out) hb); have n2_ := Aside0.mk (Kd.R_below (by (with_reducible repeat (first | apply Kd.R_alloc | apply Kd.R_drewN | apply Kd.R_drew)); exact HO423.out) hb); have n3_ := Aside0.mk (Kd.R_lower ho0 (below_size (by repeat (first | (with_reducible first | exact HB.out | apply below_alloc | apply pw_below_drewN | apply below_drew1) | exact HB.out)))); have n4_ := Aside0.mk (below_step (by repeat (first | (with_reducible first | exact HB.out | apply below_alloc | apply pw_below_drewN | apply below_drew1) | exact HB.out)) hb); clear HO415; clear HO419; clear HO423; clear HB; have HO415 := n0_; have HO419 := n1_; have HO423 := n2_; have HO429 := n3_; have HB := n4_; clear n0_ n1_ n2_ n3_ n4_; (try clear hb); (try clear hb2); (try clear hk); (try clear hi); (try clear ho0)) | (go_at_call 12; (with_reducible refine (spec_TraceOf.calls kj30 t424 t425 t430 t431 _ A94.out).mono ?_); rintro e w102 ⟨v432, rfl, ho0, hb⟩; have n0_ := Aside0.mk (Kd.R_below (by (with_reducible repeat (first | apply Kd.R_alloc | apply Kd.R_drewN | apply Kd.R_drew)); exact HO415.out) hb); have n1_ := Aside0.mk (Kd.R_below (by (with_reducible repeat (first | apply Kd.R_alloc | apply Kd.R_drewN | apply Kd.R_drew)); exact HO419.out) hb); have n2_ := Aside0.mk (Kd.R_below (by (with_reducible repeat (first | apply Kd.R_alloc | apply Kd.R_drewN | apply Kd.R_drew)); exact HO423.out) hb); have n3_ := Aside0.mk (Kd.R_elder' (by (with_reducible repeat (first | apply Kd.R_alloc | apply Kd.R_drewN | apply Kd.R_drew)); exact HO429.out) (Kd.R_base ho0) hb); have n4_ := Aside0.mk (Kd.R_lower (Kd.R_new' ho0 (Kd.R_lt (by (with_reducible repeat (first | apply Kd.R_alloc | apply Kd.R_drewN | apply Kd.R_drew)); exact HO429.out))) (below_size (by repeat (first | (with_reducible first | exact HB.out | apply below_alloc | apply pw_below_drewN | apply below_drew1) | exact HB.out)))); have n5_ := Aside0.mk (below_step (by repeat (first | (with_reducible first | exact HB.out | apply below_alloc | apply pw_below_drewN | apply below_drew1) | exact HB.out)) hb); clear HO415; clear HO419; clear HO423; clear HO429; clear HB; have HO415 := n0_; have HO419 := n1_; have HO423 := n2_; have HO429 := n3_; have HO433 := n4_; have HB := n5_; clear n0_ n1_ n2_ n3_ n4_ n5_; (try clear hb); (try clear hb2); (try clear hk); (try clear hi); (try clear ho0))))
       (try simp only [Act.put, List.setIfInBounds_toArray, List.set_cons_zero, List.set_cons_succ])
       go_cut [233] (fun v233 wc => ∃ (kq : Nat) (x233_94 : Bool), v233 = .bool x233_94 ∧ Aside0 (laws_FnCover.j6 kq t416 t420 x233_94 = some r) ∧ Aside0 (kq ≤ kj30) ∧ Aside0 (Kd.R k60 60 wc w.heap.size (fun k_ => some k_ ≠ (v422 : Value).ownBlock) v418 t416) ∧ Aside0 (Kd.R k60 60 wc w.heap.size (fun k_ => some k_ ≠ (v418 : Value).ownBlock) v422 t420) ∧ Aside0 (Below w.heap.size w wc))
       case first =>
        have H := HC95.out
        clear HC95
        by_cases c103 : (t417 != t421) = true
        ·rw [if_pos c103] at H
         have c103b0 : (t417 != t421) = true := c103
         (try (have c103b1 : decide (t417 = t421) = false := by simpa using c103))
         (try (have c103b2 : (t417 == t421) = false := by simpa using c103))
         (try (have c103b3 : ¬ (t417 = t421) := by simpa using c103))
         clear c103
         (first | rw [c103b0] | (simp only [i64_w, i32_w]; rw [c103b0]) | skip)
         as_aux_lemma =>
          have H' := Aside0.mk H
          clear H
          go_wp2
          repeat (go_quiet (fail); try go_wp2)
          go_meet
          case rel => exact ⟨_, (true), (by first | rfl | (simp; done) | (simp [*]; done)), H', ⟨by have := HJ6.out; have := HJ30.out; first | omega | exact Nat.le_refl _⟩, ⟨by (with_reducible repeat (first | apply Kd.R_alloc | apply Kd.R_drewN | apply Kd.R_drew)); exact Kd.R_mono HO419.out (fun _ hk => hk.2)⟩, ⟨by (with_reducible repeat (first | apply Kd.R_alloc | apply Kd.R_drewN | apply Kd.R_drew)); exact Kd.R_mono HO423.out (fun _ hk => hk.2)⟩, ⟨by repeat (first | (with_reducible first | exact HB.out | apply below_alloc | apply pw_below_drewN | apply below_drew1) | exact HB.out)⟩⟩
        ·rw [if_neg c103] at H
         have c103b0 : (t417 != t421) = false := by simpa using c103
         (try (have c103b1 : decide (t417 = t421) = true := by simpa using c103))
         (try (have c103b2 : (t417 == t421) = true := by simpa using c103))
         clear c103
         (first | rw [c103b0] | (simp only [i64_w, i32_w]; rw [c103b0]) | skip)
         by_cases c104 : (t416.length : Int) = (t420.length : Int)
         ·rw [if_pos c104] at H
          have c104b0 : ((t416.length : Int) == (t420.length : Int)) = true := beq_iff_eq.mpr c104
          have c104b1 : ((t416.length : Int) != (t420.length : Int)) = false := bne_eq_false_iff_eq.mpr c104
          have c104b2 : (t416.length == t420.length) = true := by first | simpa using c104 | (simp at c104 ⊢; omega)
          clear c104
          by_cases c105 : (t427 != t431) = true
          ·rw [if_pos c105] at H
           have c105b0 : (t427 != t431) = true := c105
           (try (have c105b1 : decide (t427 = t431) = false := by simpa using c105))
           (try (have c105b2 : (t427 == t431) = false := by simpa using c105))
           (try (have c105b3 : ¬ (t427 = t431) := by simpa using c105))
           clear c105
           as_aux_lemma =>
            have H' := Aside0.mk H
            clear H
            obtain ⟨Ao106, co106, eo106⟩ := Kd.R_slice HO419.out
            subst eo106
            obtain ⟨Ao107, co107, eo107⟩ := Kd.R_slice HO423.out
            subst eo107
            go_wp2
            repeat (go_quiet (fail); try go_wp2)
            go_meet
            case rel => exact ⟨_, (true), (by first | rfl | (simp; done) | (simp [*]; done)), H', ⟨by have := HJ6.out; have := HJ30.out; first | omega | exact Nat.le_refl _⟩, ⟨by (with_reducible repeat (first | apply Kd.R_alloc | apply Kd.R_drewN | apply Kd.R_drew)); exact Kd.R_mono HO419.out (fun _ hk => hk.2)⟩, ⟨by (with_reducible repeat (first | apply Kd.R_alloc | apply Kd.R_drewN | apply Kd.R_drew)); exact Kd.R_mono HO423.out (fun _ hk => hk.2)⟩, ⟨by repeat (first | (with_reducible first | exact HB.out | apply below_alloc | apply pw_below_drewN | apply below_drew1) | exact HB.out)⟩⟩
          ·rw [if_neg c105] at H
           have c105b0 : (t427 != t431) = false := by simpa using c105
           (try (have c105b1 : decide (t427 = t431) = true := by simpa using c105))
           (try (have c105b2 : (t427 == t431) = true := by simpa using c105))
           clear c105
           replace H := Option.bind_eq_some_iff.mp H
           obtain ⟨t434, A1080, H⟩ := H
           replace H : (laws_FnCover.j6 kj30 t416 t420 (!t434)) = some r := H
           have A108 := Aside0.mk A1080
           clear A1080
           as_aux_lemma =>
            have H' := Aside0.mk H
            clear H
            obtain ⟨Ao109, co109, eo109⟩ := Kd.R_slice HO419.out
            subst eo109
            obtain ⟨Ao110, co110, eo110⟩ := Kd.R_slice HO423.out
            subst eo110
            obtain ⟨Ao111, co111, eo111⟩ := Kd.R_slice HO429.out
            subst eo111
            obtain ⟨Ao112, co112, eo112⟩ := Kd.R_slice HO433.out
            subst eo112
            go_wp2_with (first | (go_at_call 53; (with_reducible refine (laws_sameTrace.calls kj30 _ _ t426 _ _ t430 t434 _ ?side1 ?side2 ?side3 ?side4 A108.out).mono ?_); (case side1 => repeat (first | exact (Kd.R_reads' HO429.out).2.2 | (with_reducible refine Kd.C_alloc ?_ _) | (with_reducible refine Kd.C_drewN ?_ _) | (with_reducible refine Kd.C_drew ?_))); (case side2 => exact (Kd.R_reads' HO429.out).2.1); (case side3 => repeat (first | exact (Kd.R_reads' HO433.out).2.2 | (with_reducible refine Kd.C_alloc ?_ _) | (with_reducible refine Kd.C_drewN ?_ _) | (with_reducible refine Kd.C_drew ?_))); (case side4 => exact (Kd.R_reads' HO433.out).2.1); rintro e w' ⟨rfl, ⟨nd, rfl⟩⟩; (try first | exact ⟨rfl, _, World.drewN_drewN _ _ _⟩ | exact ⟨rfl, _, Eq.trans (World.drewN_drewN _ _ _) (congrArg (World.drewN _) (Nat.add_assoc _ _ _))⟩)))
            repeat (go_quiet (first | (go_at_call 53; (with_reducible refine (laws_sameTrace.calls kj30 _ _ t426 _ _ t430 t434 _ ?side1 ?side2 ?side3 ?side4 A108.out).mono ?_); (case side1 => repeat (first | exact (Kd.R_reads' HO429.out).2.2 | (with_reducible refine Kd.C_alloc ?_ _) | (with_reducible refine Kd.C_drewN ?_ _) | (with_reducible refine Kd.C_drew ?_))); (case side2 => exact (Kd.R_reads' HO429.out).2.1); (case side3 => repeat (first | exact (Kd.R_reads' HO433.out).2.2 | (with_reducible refine Kd.C_alloc ?_ _) | (with_reducible refine Kd.C_drewN ?_ _) | (with_reducible refine Kd.C_drew ?_))); (case side4 => exact (Kd.R_reads' HO433.out).2.1); rintro e w' ⟨rfl, ⟨nd, rfl⟩⟩; (try first | exact ⟨rfl, _, World.drewN_drewN _ _ _⟩ | exact ⟨rfl, _, Eq.trans (World.drewN_drewN _ _ _) (congrArg (World.drewN _) (Nat.add_assoc _ _ _))⟩))); try go_wp2_with (first | (go_at_call 53; (with_reducible refine (laws_sameTrace.calls kj30 _ _ t426 _ _ t430 t434 _ ?side1 ?side2 ?side3 ?side4 A108.out).mono ?_); (case side1 => repeat (first | exact (Kd.R_reads' HO429.out).2.2 | (with_reducible refine Kd.C_alloc ?_ _) | (with_reducible refine Kd.C_drewN ?_ _) | (with_reducible refine Kd.C_drew ?_))); (case side2 => exact (Kd.R_reads' HO429.out).2.1); (case side3 => repeat (first | exact (Kd.R_reads' HO433.out).2.2 | (with_reducible refine Kd.C_alloc ?_ _) | (with_reducible refine Kd.C_drewN ?_ _) | (with_reducible refine Kd.C_drew ?_))); (case side4 => exact (Kd.R_reads' HO433.out).2.1); rintro e w' ⟨rfl, ⟨nd, rfl⟩⟩; (try first | exact ⟨rfl, _, World.drewN_drewN _ _ _⟩ | exact ⟨rfl, _, Eq.trans (World.drewN_drewN _ _ _) (congrArg (World.drewN _) (Nat.add_assoc _ _ _))⟩))))
            go_meet
            case rel => exact ⟨_, (!t434), (by first | rfl | (simp; done) | (simp [*]; done)), H', ⟨by have := HJ6.out; have := HJ30.out; first | omega | exact Nat.le_refl _⟩, ⟨by (with_reducible repeat (first | apply Kd.R_alloc | apply Kd.R_drewN | apply Kd.R_drew)); exact Kd.R_mono HO419.out (fun _ hk => hk.2)⟩, ⟨by (with_reducible repeat (first | apply Kd.R_alloc | apply Kd.R_drewN | apply Kd.R_drew)); exact Kd.R_mono HO423.out (fun _ hk => hk.2)⟩, ⟨by repeat (first | (with_reducible first | exact HB.out | apply below_alloc | apply pw_below_drewN | apply below_drew1) | exact HB.out)⟩⟩
         ·rw [if_neg c104] at H
          have c104b0 : ((t416.length : Int) == (t420.length : Int)) = false := beq_eq_false_iff_ne.mpr c104
          have c104b1 : ((t416.length : Int) != (t420.length : Int)) = true := bne_iff_ne.mpr c104
          have c104b2 : (t416.length == t420.length) = false := by first | simpa using c104 | (simp at c104 ⊢; omega)
          as_aux_lemma =>
           have H' := Aside0.mk H
           clear H
           obtain ⟨Ao113, co113, eo113⟩ := Kd.R_slice HO419.out
           subst eo113
           obtain ⟨Ao114, co114, eo114⟩ := Kd.R_slice HO423.out
           subst eo114
           go_wp2
           repeat (go_quiet (fail); try go_wp2)
           go_meet
           case rel => exact ⟨_, (true), (by first | rfl | (simp; done) | (simp [*]; done)), H', ⟨by have := HJ6.out; have := HJ30.out; first | omega | exact Nat.le_refl _⟩, ⟨by (with_reducible repeat (first | apply Kd.R_alloc | apply Kd.R_drewN | apply Kd.R_drew)); exact Kd.R_mono HO419.out (fun _ hk => hk.2)⟩, ⟨by (with_reducible repeat (first | apply Kd.R_alloc | apply Kd.R_drewN | apply Kd.R_drew)); exact Kd.R_mono HO423.out (fun _ hk => hk.2)⟩, ⟨by repeat (first | (with_reducible first | exact HB.out | apply below_alloc | apply pw_below_drewN | apply below_drew1) | exact HB.out)⟩⟩
       case rest =>
        clear HC95
        try clear c1
        try clear p2
        try clear c3
        try clear c3b0
        try clear c4
        try clear p4
        try clear q4
        try clear hx4
        try clear c5
        try clear c6
        try clear p6
        try clear q6
        try clear c7
        try clear c8
        try clear c10
        try clear c11
        try clear c12
        try clear c12b0
        try clear c12b1
        try clear c12b2
        try clear c14
        try clear c16
        try clear c30
        try clear c32
        try clear p40
        try clear q40
        try clear hx40
        try clear c41
        try clear p41
        try clear q41
        try clear hx41
        try clear c42
        try clear c44
        try clear c45
        try clear c47
        try clear c59
        try clear c60
        try clear c60b0
        try clear c61
        try clear c61b0
        try clear c62
        try clear c62b0
        try clear c63
        try clear c63b0
        try clear p64
        try clear q64
        try clear c65
        try clear c66
        try clear c66b0
        try clear c66b1
        try clear c67
        try clear c79
        try clear c79b0
        try clear c80
        try clear c80b0
        try clear c81
        try clear c81b0
        try clear c83
        try clear c83b0
        try clear c84
        try clear c84b0
        try clear c87
        try clear c88
        try clear c88b0
        try clear c88b1
        try clear c103
        try clear c103b0
        try clear c103b1
        try clear c103b2
        try clear c104
        try clear c104b0
        try clear c104b1
        try clear c104b2
        try clear c105
        try clear c105b0
        try clear c105b1
        try clear c105b2
        try clear hcz69_0
        try clear hcz69_1
        try clear hcz73_0
        try clear hcz73_1
        try clear hcz76_0
        try clear hcz76_1
        try clear hfz69_0
        try clear hfz69_1
        try clear hfz73_0
        try clear hfz73_1
        try clear hfz76_0
        try clear hfz76_1
        try clear hx405_0
        try clear hx405_1
        try clear hx407_0
        try clear hx411_0
        try clear hx412_0
        try clear p2
        try clear p4
        try clear p40
        try clear p405
        try clear p407
        try clear p41
        try clear p411
        try clear p412
        try clear p6
        try clear p64
        try clear q4
        try clear q40
        try clear q405
        try clear q407
        try clear q41
        try clear q411
        try clear q412
        try clear q6
        try clear q64
        obtain ⟨kq, x233_94, rfl, HA, HJ94, HO_30, HO_32, HB⟩ := hcut
        cases kq with
        | zero => exact absurd HA.out (by simp [laws_FnCover.j6])
        | succ kj94 =>
         have H := HA.out
         clear HA
         simp only [laws_FnCover.j6] at H
         by_cases c115 : x233_94 = true
         ·subst c115
          have H1 : (some false) = some r := by rw [if_pos rfl] at H; exact H
          clear H
          have H := H1
          clear H1
          as_aux_lemma =>
           obtain rfl := Option.some.inj H
           exact absurd hr_.out (by simp)
         ·replace c115 := Bool.eq_false_iff.mpr c115
          subst c115
          have H1 : (laws_FnCover.l2 kj94 t416 t420 (t416.length : Int) 0) = some r := by rw [if_neg (show ¬ (false = true) by decide)] at H; exact H
          clear H
          have H := H1
          clear H1
          have H' := Aside0.mk H
          clear H
          obtain ⟨Ao116, co116, eo116⟩ := Kd.R_slice HO_30.out
          subst eo116
          go_wp2
          repeat (go_quiet (fail); try go_wp2)
          go_loopg [236] kj94 (fun kq v236 w' => ∃ (x236_4 : Int), v236 = .int .i64 x236_4 ∧ Aside0 (laws_FnCover.l2 kq t416 t420 (t416.length : Int) x236_4 = some r) ∧ Aside0 (kq ≤ kj94) ∧ Aside0 (Kd.R k60 60 w' w.heap.size (fun k_ => some k_ ≠ (v422 : Value).ownBlock) (.slice Ao116 t416.length co116) t416) ∧ Aside0 (Kd.R k60 60 w' w.heap.size (fun k_ => some k_ ≠ ((.slice Ao116 t416.length co116) : Value).ownBlock) v422 t420) ∧ Aside0 (Below w.heap.size w w'))
          case atStart => exact ⟨(0), (by first | rfl | (simp; done) | (simp [*]; done)), H', ⟨Nat.le_refl _⟩, ⟨by (with_reducible repeat (first | apply Kd.R_alloc | apply Kd.R_drewN | apply Kd.R_drew)); exact HO_30.out⟩, ⟨by (with_reducible repeat (first | apply Kd.R_alloc | apply Kd.R_drewN | apply Kd.R_drew)); exact HO_32.out⟩, ⟨by repeat (first | (with_reducible first | exact HB.out | apply below_alloc | apply pw_below_drewN | apply below_drew1) | exact HB.out)⟩⟩
          case round =>
           clear H'
           try clear c1
           try clear p2
           try clear c3
           try clear c3b0
           try clear c4
           try clear p4
           try clear q4
           try clear hx4
           try clear c5
           try clear c6
           try clear p6
           try clear q6
           try clear c7
           try clear c8
           try clear c10
           try clear c11
           try clear c12
           try clear c12b0
           try clear c12b1
           try clear c12b2
           try clear c14
           try clear c16
           try clear c30
           try clear c32
           try clear p40
           try clear q40
           try clear hx40
           try clear c41
           try clear p41
           try clear q41
           try clear hx41
           try clear c42
           try clear c44
           try clear c45
           try clear c47
           try clear c59
           try clear c60
           try clear c60b0
           try clear c61
           try clear c61b0
           try clear c62
           try clear c62b0
           try clear c63
           try clear c63b0
           try clear p64
           try clear q64
           try clear c65
           try clear c66
           try clear c66b0
           try clear c66b1
           try clear c67
           try clear c79
           try clear c79b0
           try clear c80
           try clear c80b0
           try clear c81
           try clear c81b0
           try clear c83
           try clear c83b0
           try clear c84
           try clear c84b0
           try clear c87
           try clear c88
           try clear c88b0
           try clear c88b1
           try clear c103
           try clear c103b0
           try clear c103b1
           try clear c103b2
           try clear c104
           try clear c104b0
           try clear c104b1
           try clear c104b2
           try clear c105
           try clear c105b0
           try clear c105b1
           try clear c105b2
           try clear c115
           try clear hcz69_0
           try clear hcz69_1
           try clear hcz73_0
           try clear hcz73_1
           try clear hcz76_0
           try clear hcz76_1
           try clear hfz69_0
           try clear hfz69_1
           try clear hfz73_0
           try clear hfz73_1
           try clear hfz76_0
           try clear hfz76_1
           try clear hx405_0
           try clear hx405_1
           try clear hx407_0
           try clear hx411_0
           try clear hx412_0
           try clear p2
           try clear p4
           try clear p40
           try clear p405
           try clear p407
           try clear p41
           try clear p411
           try clear p412
           try clear p6
           try clear p64
           try clear q4
           try clear q40
           try clear q405
           try clear q407
           try clear q41
           try clear q411
           try clear q412
           try clear q6
           try clear q64
           obtain ⟨x236_4, rfl, HA, HK4, HO_30, HO_32, HB⟩ := hrel
           cases gk with
           | zero => exact absurd HA.out (by simp [laws_FnCover.l2])
           | succ k4 =>
            have H := HA.out
            clear HA
            simp only [laws_FnCover.l2] at H
            by_cases c117 : x236_4 < (t416.length : Int)
            ·rw [if_pos c117] at H
             have c117b0 : decide (x236_4 < (t416.length : Int)) = true := decide_eq_true c117
             clear c117
             by_cases c118 : 0 ≤ x236_4
             ·rw [if_pos c118] at H
              have c118b0 : decide (0 ≤ x236_4) = true := decide_eq_true c118
              clear c118
              by_cases c119 : x236_4 < (t416.length : Int)
              ·rw [if_pos c119] at H
               have c119b0 : decide (x236_4 < (t416.length : Int)) = true := decide_eq_true c119
               clear c119
               by_cases c120 : x236_4 < (t420.length : Int)
               ·rw [if_pos c120] at H
                have c120b0 : decide (x236_4 < (t420.length : Int)) = true := decide_eq_true c120
                clear c120
                by_cases c121 : (!(((rd_T60 t416 x236_4).f0) == ((rd_T60 t420 x236_4).f0)) || (!((((rd_T60 t416 x236_4).f1).toList) == (((rd_T60 t420 x236_4).f1).toList)))) = true
                ·rw [if_pos c121] at H
                 have c121b0 : (!(((rd_T60 t416 x236_4).f0) == ((rd_T60 t420 x236_4).f0)) || (!((((rd_T60 t416 x236_4).f1).toList) == (((rd_T60 t420 x236_4).f1).toList)))) = true := c121
                 clear c121
                 as_aux_lemma =>
                  obtain rfl := Option.some.inj H
                  exact absurd hr_.out (by simp)
                ·rw [if_neg c121] at H
                 have c121b0 : (!(((rd_T60 t416 x236_4).f0) == ((rd_T60 t420 x236_4).f0)) || (!((((rd_T60 t416 x236_4).f1).toList) == (((rd_T60 t420 x236_4).f1).toList)))) = false := by simpa using c121
                 clear c121
                 as_aux_lemma =>
                  have H' := Aside0.mk H
                  clear H
                  have p435 : 0 ≤ (x236_4 : Int) := of_decide_eq_true (by first | (with_reducible assumption) | assumption)
                  have q435 : x236_4 < (t416.length : Int) := of_decide_eq_true (by first | (with_reducible assumption) | assumption)
                  obtain ⟨ad435, e435, hx435_0, hx435_1⟩ := at_T60 (Kd.R_reads' HO_30.out).2.2 x236_4 p435 q435
                  cases e435
                  replace p435 := eq_true p435
                  replace q435 := eq_true q435
                  obtain ⟨Ao122, co122, eo122⟩ := Kd.R_slice HO_32.out
                  subst eo122
                  have p436 : 0 ≤ (x236_4 : Int) := of_decide_eq_true (by first | (with_reducible assumption) | assumption)
                  have q436 : x236_4 < (t420.length : Int) := of_decide_eq_true (by first | (with_reducible assumption) | assumption)
                  obtain ⟨ad436, e436, hx436_0, hx436_1⟩ := at_T60 (Kd.R_reads' HO_32.out).2.2 x236_4 p436 q436
                  cases e436
                  replace p436 := eq_true p436
                  replace q436 := eq_true q436
                  go_wp2
                  repeat (go_quiet (fail); try go_wp2)
                  go_roundg k4
                  case measure => have := HJ6.out; have := HJ30.out; have := HJ94.out; have := HK4.out; omega
                  case rel => exact ⟨(wrap64 (x236_4 + 1)), (by first | rfl | (simp; done) | (simp [*]; done)), H', ⟨by have := HJ6.out; have := HJ30.out; have := HJ94.out; have := HK4.out; omega⟩, ⟨by (with_reducible repeat (first | apply Kd.R_alloc | apply Kd.R_drewN | apply Kd.R_drew)); exact HO_30.out⟩, ⟨by (with_reducible repeat (first | apply Kd.R_alloc | apply Kd.R_drewN | apply Kd.R_drew)); exact HO_32.out⟩, ⟨by repeat (first | (with_reducible first | exact HB.out | apply below_alloc | apply pw_below_drewN | apply below_drew1) | exact HB.out)⟩⟩
               ·rw [if_neg c120] at H
                exact absurd H (by simp)
              ·rw [if_neg c119] at H
               exact absurd H (by simp)
             ·rw [if_neg c118] at H
              exact absurd H (by simp)
            ·rw [if_neg c117] at H
             have c117b0 : decide (x236_4 < (t416.length : Int)) = false := decide_eq_false c117
             clear c117
             as_aux_lemma =>
              obtain rfl := Option.some.inj H
              simp only [Option.some.injEq, Prod.mk.injEq] at H
              obtain ⟨rfl⟩ := H
              go_wp2
              repeat (go_quiet (fail); try go_wp2)
              go_ret
              exact ⟨by first | rfl | (simp [errW_none, errW_some] <;> rfl) | (simp [*, errW_none, errW_some] <;> rfl), by repeat (first | (with_reducible first | exact HB.out | apply below_alloc | apply pw_below_drewN | apply below_drew1) | exact HB.out)⟩
def laws_FnCover.Pure : Prop := ∀ (l0 : List Int) (l1 : List Int), l0.length ≤ maxLen → l0.length * 1 ≤ 140737488351232 → (∀ x ∈ l0, (Lit.int .u8 x).wf = true) → l1.length ≤ maxLen → l1.length * 1 ≤ 140737488351232 → (∀ x ∈ l1, (Lit.int .u8 x).wf = true) → ∃ k, laws_FnCover.f k l0 l1 = some true
theorem laws_FnCover.walk (P : laws_FnCover.Pure) (a0 : Option Addr) (len0 cap0 : Nat) (z0 : List Int) (a1 : Option Addr) (len1 cap1 : Nat) (z1 : List Int) (w : World) (w0 : (a0 = none ∧ len0 = 0 ∧ cap0 = 0 ∧ z0 = []) ∨ ∃ x, a0 = some x ∧ len0 ≤ cap0 ∧ cap0 ≤ maxLen ∧ z0.length = cap0 ∧ (∀ i, i < z0.length → w.cell? (x.add i) = some (.int .u8 (z0.getD i 0))) ∧ ∀ n ∈ z0, (Lit.int .u8 n).wf = true) (y0 : len0 * 1 ≤ 140737488351232) (w1 : (a1 = none ∧ len1 = 0 ∧ cap1 = 0 ∧ z1 = []) ∨ ∃ x, a1 = some x ∧ len1 ≤ cap1 ∧ cap1 ≤ maxLen ∧ z1.length = cap1 ∧ (∀ i, i < z1.length → w.cell? (x.add i) = some (.int .u8 (z1.getD i 0))) ∧ ∀ n ∈ z1, (Lit.int .u8 n).wf = true) (y1 : len1 * 1 ≤ 140737488351232) :
  Calls Try.prog 11 #[.slice a0 len0 cap0, .slice a1 len1 cap1] w fun e w' => e = .returned (.bool true) ∧ Below w.heap.size w w' := by
 obtain ⟨l0, rfl, hr0, hm0, hw0, hc0⟩ := ReadsInt.ofRowC w0
 obtain ⟨l1, rfl, hr1, hm1, hw1, hc1⟩ := ReadsInt.ofRowC w1
 obtain ⟨k, h⟩ := P l0 l1 hm0 y0 hw0 hm1 y1 hw1
 refine (laws_FnCover.calls k _ _ l0 _ _ l1 true w (Kd.C_of_reads (d := (0 : Int)) (h1 := fun _ => rfl) hr0) hc0 (Kd.C_of_reads (d := (0 : Int)) (h1 := fun _ => rfl) hr1) hc1 h ⟨rfl⟩).mono ?_
 rintro e w' ⟨rfl, hd⟩
 exact ⟨rfl, hd⟩
end Go.Proofs.Ytdiehchbbhlfgaa.PFnCover
