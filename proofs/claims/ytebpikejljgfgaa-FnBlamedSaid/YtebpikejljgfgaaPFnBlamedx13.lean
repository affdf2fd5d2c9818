-- Written by a program of this session, after the kit's print (changed in some places; see NOTES.md). Lean checks it.
import Derived.Test.YtebpikejljgfgaaAbb
import Derived.Test.YtebpikejljgfgaaPFnBlamedx0
import Derived.Test.YtebpikejljgfgaaPFnBlamedx2
import Derived.Test.YtebpikejljgfgaaPFnBlamedx3
import Derived.Test.YtebpikejljgfgaaPFnBlamedx5
import Derived.Test.YtebpikejljgfgaaPFnBlamedx6
import Derived.Test.YtebpikejljgfgaaPFnBlamedx7
import Derived.Test.YtebpikejljgfgaaPFnBlamedx8
import Derived.Test.YtebpikejljgfgaaPFnBlamedx9
import Derived.Test.YtebpikejljgfgaaPFnBlamedx12
namespace Go.Proofs.Ytebpikejljgfgaa.PFnBlamed
open Go.Proofs.Ytebpikejljgfgaa.Abb Go.RowKit Go.Proofs.YtebpikejljgfgaaW.PrintWords Go.Proofs.YtebpikejljgfgaaW.PrintLast Go.Proofs.YtebpikejljgfgaaW.PrintMore
attribute [local go_sem] max2_int min2_int max_two min_two max_three min_three max_four min_four   -- for this text's walks alone
set_option linter.unusedVariables false
set_option linter.unusedSimpArgs false
mutual
def laws_FnBlamed.j2 : Nat → List Int → Option (Bool)
 | 0, _ => none
 | k + 1, x1 => (spec_DrawBlameOf.f k x1).bind fun bt384 => ((impl_BlameOf.f k bt384.1 bt384.2.1 bt384.2.2).bind fun bt391 => ((spec_BlameOf.f k bt384.1 bt384.2.1 bt384.2.2).bind fun bt393 => ((impl_WholeTrip.f k bt384.1 bt384.2.1 bt384.2.2).bind fun bt395 => ((spec_WholeTrip.f k bt384.1 bt384.2.1 bt384.2.2).bind fun bt397 => (if (bt391.2 != bt393.2) = true then (some false) else (if bt391.1 = bt393.1 then (if (bt395.2 != bt397.2) = true then (some false) else (if (bt395.1 != bt397.1) = true then (some false) else (if bt395.2 = true then (if bt391.1 = (wrap64 ((bt384.1.length : Int) - 1)) then (if (bt395.1 == bt395.1) = true then (if bt395.1 = true then (some true) else (some (decide (bt391.1 < (wrap64 ((bt384.1.length : Int) - 1)))))) else (some false)) else (if (bt395.1 == false) = true then (if bt395.1 = true then (some true) else (some (decide (bt391.1 < (wrap64 ((bt384.1.length : Int) - 1)))))) else (some false))) else (some true)))) else (some false)))))))
def laws_FnBlamed.j0 : Nat → List Int → List Int → Int → Bool → List Int → Int → Int → List (S71) → Int → Option (Bool)
 | 0, _, _, _, _, _, _, _, _, _ => none
 | k + 1, x1, x12, x16, x188, x350000, x350001, x350002, x350003, x350004 => if x188 = true then (some false) else (laws_FnBlamed.l0 k x1 x12 x16 0 x350000 x350001 x350002 x350003 x350004)
def laws_FnBlamed.l0 : Nat → List Int → List Int → Int → Int → List Int → Int → Int → List (S71) → Int → Option (Bool)
 | 0, _, _, _, _, _, _, _, _, _ => none
 | k + 1, x1, x12, x16, x21, x350000, x350001, x350002, x350003, x350004 => if x21 < x16 then ((impl_ProofFor.f k x350000 x350001 x350002 x350003 x350004 x21).bind fun bt376 => (if bt376.2 = true then (if (bt376.1.length : Int) = 1 then (if 0 ≤ (wrap64 (x21 + 1)) then (if (wrap64 (x21 + 1)) < (x12.length : Int) then (if 0 < (bt376.1.length : Int) then ((impl_CheckReceipt.f k (rd x12 (wrap64 (x21 + 1))) ((rd_T71 bt376.1 0).f0) ((rd_T71 bt376.1 0).f1) ((rd_T71 bt376.1 0).f2) ((rd_T71 bt376.1 0).f3)).bind fun bt382 => (if bt382.2 = true then (if bt382.1 = true then (laws_FnBlamed.l0 k x1 x12 x16 (wrap64 (x21 + 1)) x350000 x350001 x350002 x350003 x350004) else (some false)) else (some false))) else (none)) else (none)) else (none)) else (some false)) else (some false))) else (laws_FnBlamed.j2 k x1)
end
def laws_FnBlamed.f (k : Nat) (l0 : List Int) (l1 : List Int) : Option (Bool) := if (wrap64 ((l0.length : Int) + (l1.length : Int))) > 1048576 then (some true) else ((spec_DrawRunTrip.f k l0).bind fun bt334 => ((impl_RunTrip.f k bt334.1 bt334.2.1 bt334.2.2).bind fun bt339 => ((spec_RunTrip.f k bt334.1 bt334.2.1 bt334.2.2).bind fun bt350 => ((impl_PublicsOf.f k bt334.1).bind fun bt361 => ((spec_PublicsOf.f k bt334.1).bind fun bt365 => (if (bt339.2.2.2.2.2 != bt350.2.2.2.2.2) = true then (some false) else ((laws_sameInts.f k bt339.1 bt350.1).bind fun t369 => (if t369 = true then (if bt339.2.1 = bt350.2.1 then (if bt339.2.2.1 = bt350.2.2.1 then ((laws_sameReceipts.f k bt339.2.2.2.1 bt350.2.2.2.1).bind fun t370 => (if t370 = true then (if bt339.2.2.2.2.1 = bt350.2.2.2.2.1 then (if (bt361.2 != bt365.2) = true then (some false) else ((laws_sameInts.f k bt361.1 bt365.1).bind fun t371 => (if t371 = true then (if bt339.2.2.2.2.2 = true then ((impl_BlameOf.f k bt361.1 bt334.2.1 bt339.2.2.2.1).bind fun bt372 => ((impl_WholeTrip.f k bt361.1 bt334.2.1 bt339.2.2.2.1).bind fun bt374 => (if bt361.2 = true then (if bt372.2 = true then (if bt374.2 = true then (if bt334.2.2 < 0 then (if (bt374.1 != true) = true then (some false) else (if bt334.2.2 ≥ 0 then (if bt372.1 = bt334.2.2 then (if bt372.1 = (wrap64 ((bt334.1.length : Int) - 1)) then (laws_FnBlamed.j0 k l1 bt361.1 bt372.1 (bt339.2.2.1 != bt372.1) bt339.1 bt339.2.1 bt339.2.2.1 bt339.2.2.2.1 bt339.2.2.2.2.1) else (some false)) else (some false)) else (if bt372.1 = (wrap64 ((bt334.1.length : Int) - 1)) then (laws_FnBlamed.j0 k l1 bt361.1 bt372.1 (bt339.2.2.1 != bt372.1) bt339.1 bt339.2.1 bt339.2.2.1 bt339.2.2.2.1 bt339.2.2.2.2.1) else (some false)))) else (if (bt374.1 != (bt334.2.2 == (wrap64 ((bt334.1.length : Int) - 1)))) = true then (some false) else (if bt334.2.2 ≥ 0 then (if bt372.1 = bt334.2.2 then (laws_FnBlamed.j0 k l1 bt361.1 bt372.1 (bt339.2.2.1 != bt372.1) bt339.1 bt339.2.1 bt339.2.2.1 bt339.2.2.2.1 bt339.2.2.2.2.1) else (some false)) else (laws_FnBlamed.j0 k l1 bt361.1 bt372.1 (bt339.2.2.1 != bt372.1) bt339.1 bt339.2.1 bt339.2.2.1 bt339.2.2.2.1 bt339.2.2.2.2.1)))) else (some false)) else (some false)) else (some false)))) else (laws_FnBlamed.j2 k l1)) else (some false)))) else (some false)) else (some false))) else (some false)) else (some false)) else (some false)))))))))
theorem laws_FnBlamed.mono_l : ∀ k, (∀ y0, LeO (laws_FnBlamed.j2 k y0) (laws_FnBlamed.j2 (k + 1) y0)) ∧ (∀ y0 y1 y2 y3 y4 y5 y6 y7 y8, LeO (laws_FnBlamed.j0 k y0 y1 y2 y3 y4 y5 y6 y7 y8) (laws_FnBlamed.j0 (k + 1) y0 y1 y2 y3 y4 y5 y6 y7 y8)) ∧ (∀ y0 y1 y2 y3 y4 y5 y6 y7 y8, LeO (laws_FnBlamed.l0 k y0 y1 y2 y3 y4 y5 y6 y7 y8) (laws_FnBlamed.l0 (k + 1) y0 y1 y2 y3 y4 y5 y6 y7 y8))
 | 0 => ⟨fun _ r h => by simp [laws_FnBlamed.j2] at h, fun _ _ _ _ _ _ _ _ _ r h => by simp [laws_FnBlamed.j0] at h, fun _ _ _ _ _ _ _ _ _ r h => by simp [laws_FnBlamed.l0] at h⟩
 | k + 1 => by
  obtain ⟨ih0, ih1, ih2⟩ := laws_FnBlamed.mono_l k
  refine ⟨?_, ?_, ?_⟩
  ·intro y0
   unfold laws_FnBlamed.j2
   repeat' first
   | (with_reducible exact ih0 _)
   | (with_reducible exact ih1 _ _ _ _ _ _ _ _ _)
   | (with_reducible exact ih2 _ _ _ _ _ _ _ _ _)
   | (with_reducible exact impl_BlameOf.mono _ _ _ _)
   | (with_reducible exact impl_CheckReceipt.mono _ _ _ _ _ _)
   | (with_reducible exact impl_ProofFor.mono _ _ _ _ _ _ _)
   | (with_reducible exact impl_PublicsOf.mono _ _)
   | (with_reducible exact impl_RunTrip.mono _ _ _ _)
   | (with_reducible exact impl_WholeTrip.mono _ _ _ _)
   | (with_reducible exact laws_sameInts.mono _ _ _)
   | (with_reducible exact laws_sameReceipts.mono _ _ _)
   | (with_reducible exact spec_BlameOf.mono _ _ _ _)
   | (with_reducible exact spec_DrawBlameOf.mono _ _)
   | (with_reducible exact spec_DrawRunTrip.mono _ _)
   | (with_reducible exact spec_PublicsOf.mono _ _)
   | (with_reducible exact spec_RunTrip.mono _ _ _ _)
   | (with_reducible exact spec_WholeTrip.mono _ _ _ _)
   | (with_reducible exact LeO.refl _)
   | (with_reducible exact LeO.none _)
   | (with_reducible refine LeO.ite ?_ ?_)
   | (with_reducible refine LeO.bind ?_ (fun _ => ?_))
   | exact ih0 _
   | exact ih1 _ _ _ _ _ _ _ _ _
   | exact ih2 _ _ _ _ _ _ _ _ _
   | exact impl_BlameOf.mono _ _ _ _
   | exact impl_CheckReceipt.mono _ _ _ _ _ _
   | exact impl_ProofFor.mono _ _ _ _ _ _ _
   | exact impl_PublicsOf.mono _ _
   | exact impl_RunTrip.mono _ _ _ _
   | exact impl_WholeTrip.mono _ _ _ _
   | exact laws_sameInts.mono _ _ _
   | exact laws_sameReceipts.mono _ _ _
   | exact spec_BlameOf.mono _ _ _ _
   | exact spec_DrawBlameOf.mono _ _
   | exact spec_DrawRunTrip.mono _ _
   | exact spec_PublicsOf.mono _ _
   | exact spec_RunTrip.mono _ _ _ _
   | exact spec_WholeTrip.mono _ _ _ _
   | exact LeO.none _
   | refine LeO.ite ?_ ?_
   | refine LeO.bind ?_ (fun _ => ?_)
  ·intro y0 y1 y2 y3 y4 y5 y6 y7 y8
   unfold laws_FnBlamed.j0
   repeat' first
   | (with_reducible exact ih0 _)
   | (with_reducible exact ih1 _ _ _ _ _ _ _ _ _)
   | (with_reducible exact ih2 _ _ _ _ _ _ _ _ _)
   | (with_reducible exact impl_BlameOf.mono _ _ _ _)
   | (with_reducible exact impl_CheckReceipt.mono _ _ _ _ _ _)
   | (with_reducible exact impl_ProofFor.mono _ _ _ _ _ _ _)
   | (with_reducible exact impl_PublicsOf.mono _ _)
   | (with_reducible exact impl_RunTrip.mono _ _ _ _)
   | (with_reducible exact impl_WholeTrip.mono _ _ _ _)
   | (with_reducible exact laws_sameInts.mono _ _ _)
   | (with_reducible exact laws_sameReceipts.mono _ _ _)
   | (with_reducible exact spec_BlameOf.mono _ _ _ _)
   | (with_reducible exact spec_DrawBlameOf.mono _ _)
   | (with_reducible exact spec_DrawRunTrip.mono _ _)
   | (with_reducible exact spec_PublicsOf.mono _ _)
   | (with_reducible exact spec_RunTrip.mono _ _ _ _)
   | (with_reducible exact spec_WholeTrip.mono _ _ _ _)
   | (with_reducible exact LeO.refl _)
   | (with_reducible exact LeO.none _)
   | (with_reducible refine LeO.ite ?_ ?_)
   | (with_reducible refine LeO.bind ?_ (fun _ => ?_))
   | exact ih0 _
   | exact ih1 _ _ _ _ _ _ _ _ _
   | exact ih2 _ _ _ _ _ _ _ _ _
   | exact impl_BlameOf.mono _ _ _ _
   | exact impl_CheckReceipt.mono _ _ _ _ _ _
   | exact impl_ProofFor.mono _ _ _ _ _ _ _
   | exact impl_PublicsOf.mono _ _
   | exact impl_RunTrip.mono _ _ _ _
   | exact impl_WholeTrip.mono _ _ _ _
   | exact laws_sameInts.mono _ _ _
   | exact laws_sameReceipts.mono _ _ _
   | exact spec_BlameOf.mono _ _ _ _
   | exact spec_DrawBlameOf.mono _ _
   | exact spec_DrawRunTrip.mono _ _
   | exact spec_PublicsOf.mono _ _
   | exact spec_RunTrip.mono _ _ _ _
   | exact spec_WholeTrip.mono _ _ _ _
   | exact LeO.none _
   | refine LeO.ite ?_ ?_
   | refine LeO.bind ?_ (fun _ => ?_)
  ·intro y0 y1 y2 y3 y4 y5 y6 y7 y8
   unfold laws_FnBlamed.l0
   repeat' first
   | (with_reducible exact ih0 _)
   | (with_reducible exact ih1 _ _ _ _ _ _ _ _ _)
   | (with_reducible exact ih2 _ _ _ _ _ _ _ _ _)
   | (with_reducible exact impl_BlameOf.mono _ _ _ _)
   | (with_reducible exact impl_CheckReceipt.mono _ _ _ _ _ _)
   | (with_reducible exact impl_ProofFor.mono _ _ _ _ _ _ _)
   | (with_reducible exact impl_PublicsOf.mono _ _)
   | (with_reducible exact impl_RunTrip.mono _ _ _ _)
   | (with_reducible exact impl_WholeTrip.mono _ _ _ _)
   | (with_reducible exact laws_sameInts.mono _ _ _)
   | (with_reducible exact laws_sameReceipts.mono _ _ _)
   | (with_reducible exact spec_BlameOf.mono _ _ _ _)
   | (with_reducible exact spec_DrawBlameOf.mono _ _)
   | (with_reducible exact spec_DrawRunTrip.mono _ _)
   | (with_reducible exact spec_PublicsOf.mono _ _)
   | (with_reducible exact spec_RunTrip.mono _ _ _ _)
   | (with_reducible exact spec_WholeTrip.mono _ _ _ _)
   | (with_reducible exact LeO.refl _)
   | (with_reducible exact LeO.none _)
   | (with_reducible refine LeO.ite ?_ ?_)
   | (with_reducible refine LeO.bind ?_ (fun _ => ?_))
   | exact ih0 _
   | exact ih1 _ _ _ _ _ _ _ _ _
   | exact ih2 _ _ _ _ _ _ _ _ _
   | exact impl_BlameOf.mono _ _ _ _
   | exact impl_CheckReceipt.mono _ _ _ _ _ _
   | exact impl_ProofFor.mono _ _ _ _ _ _ _
   | exact impl_PublicsOf.mono _ _
   | exact impl_RunTrip.mono _ _ _ _
   | exact impl_WholeTrip.mono _ _ _ _
   | exact laws_sameInts.mono _ _ _
   | exact laws_sameReceipts.mono _ _ _
   | exact spec_BlameOf.mono _ _ _ _
   | exact spec_DrawBlameOf.mono _ _
   | exact spec_DrawRunTrip.mono _ _
   | exact spec_PublicsOf.mono _ _
   | exact spec_RunTrip.mono _ _ _ _
   | exact spec_WholeTrip.mono _ _ _ _
   | exact LeO.none _
   | refine LeO.ite ?_ ?_
   | refine LeO.bind ?_ (fun _ => ?_)
theorem laws_FnBlamed.mono : ∀ a0 a1 k, LeO (laws_FnBlamed.f k a0 a1) (laws_FnBlamed.f (k + 1) a0 a1) := by
 intro a0 a1 k
 obtain ⟨ih0, ih1, ih2⟩ := laws_FnBlamed.mono_l k
 unfold laws_FnBlamed.f
 repeat' first
   | (with_reducible exact ih0 _)
   | (with_reducible exact ih1 _ _ _ _ _ _ _ _ _)
   | (with_reducible exact ih2 _ _ _ _ _ _ _ _ _)
   | (with_reducible exact impl_BlameOf.mono _ _ _ _)
   | (with_reducible exact impl_CheckReceipt.mono _ _ _ _ _ _)
   | (with_reducible exact impl_ProofFor.mono _ _ _ _ _ _ _)
   | (with_reducible exact impl_PublicsOf.mono _ _)
   | (with_reducible exact impl_RunTrip.mono _ _ _ _)
   | (with_reducible exact impl_WholeTrip.mono _ _ _ _)
   | (with_reducible exact laws_sameInts.mono _ _ _)
   | (with_reducible exact laws_sameReceipts.mono _ _ _)
   | (with_reducible exact spec_BlameOf.mono _ _ _ _)
   | (with_reducible exact spec_DrawBlameOf.mono _ _)
   | (with_reducible exact spec_DrawRunTrip.mono _ _)
   | (with_reducible exact spec_PublicsOf.mono _ _)
   | (with_reducible exact spec_RunTrip.mono _ _ _ _)
   | (with_reducible exact spec_WholeTrip.mono _ _ _ _)
   | (with_reducible exact LeO.refl _)
   | (with_reducible exact LeO.none _)
   | (with_reducible refine LeO.ite ?_ ?_)
   | (with_reducible refine LeO.bind ?_ (fun _ => ?_))
   | exact ih0 _
   | exact ih1 _ _ _ _ _ _ _ _ _
   | exact ih2 _ _ _ _ _ _ _ _ _
   | exact impl_BlameOf.mono _ _ _ _
   | exact impl_CheckReceipt.mono _ _ _ _ _ _
   | exact impl_ProofFor.mono _ _ _ _ _ _ _
   | exact impl_PublicsOf.mono _ _
   | exact impl_RunTrip.mono _ _ _ _
   | exact impl_WholeTrip.mono _ _ _ _
   | exact laws_sameInts.mono _ _ _
   | exact laws_sameReceipts.mono _ _ _
   | exact spec_BlameOf.mono _ _ _ _
   | exact spec_DrawBlameOf.mono _ _
   | exact spec_DrawRunTrip.mono _ _
   | exact spec_PublicsOf.mono _ _
   | exact spec_RunTrip.mono _ _ _ _
   | exact spec_WholeTrip.mono _ _ _ _
   | exact LeO.none _
   | refine LeO.ite ?_ ?_
   | refine LeO.bind ?_ (fun _ => ?_)
def laws_FnBlamed.T22 : Bool × List (List Nat × List Nat) := (true, [([], []), ([], []), ([1], [1]), ([0, 2], [0, 2]), ([3], [3]), ([], []), ([5], [5]), ([6], [6]), ([4, 7], [4, 7]), ([8], [8]), ([9], [9]), ([9], [9]), ([10, 8, 0, 1, 2, 3, 4, 5, 6, 7, 8, 9, 10], [10]), ([11, 12, 0, 1, 2, 3, 4, 5, 6, 7, 8, 9, 10, 11, 12], [11])])
def laws_FnBlamed.B22 : List Nat := [0, 0, 2, 7, 15, 0, 32, 96, 255, 511, 1023, 1023, 2047, 8191]
theorem laws_FnBlamed.tab22 : rtab .any (opsOf Try.f6 22) = laws_FnBlamed.T22 := by kernel_rfl
theorem laws_FnBlamed.bits22 : waitsOk laws_FnBlamed.T22.2 laws_FnBlamed.B22 = true := by kernel_rfl
set_option maxHeartbeats 8000000 in
set_option maxRecDepth 100000 in
theorem laws_FnBlamed.calls (k : Nat) (A0 : Option Addr) (c0 : Nat) (l0 : List Int) (A1 : Option Addr) (c1 : Nat) (l1 : List Int) (r : Bool) (w : World) (hr0 : Kd.C (Kd.int .u8) w A0 l0.length l0) (hc0 : l0.length ≤ c0) (hr1 : Kd.C (Kd.int .u8) w A1 l1.length l1) (hc1 : l1.length ≤ c1) (h : laws_FnBlamed.f k l0 l1 = some r) (hr_ : Aside0 (r = true)) :
  Calls Try.prog 6 #[.slice A0 l0.length c0, .slice A1 l1.length c1] w fun e w' => e = .returned (.bool r) ∧ Below w.heap.size w w' := by
 have hu60 := Try.underlying60
 have hu71 := Try.underlying71
 have HR0 := Aside0.mk hr0
 have HC0 := Aside0.mk hc0
 clear hr0 hc0
 have HR1 := Aside0.mk hr1
 have HC1 := Aside0.mk hc1
 clear hr1 hc1
 have HB := Aside0.mk (Below.refl w.heap.size w)
 have H : (if (wrap64 ((l0.length : Int) + (l1.length : Int))) > 1048576 then (some true) else ((spec_DrawRunTrip.f k l0).bind fun bt334 => ((impl_RunTrip.f k bt334.1 bt334.2.1 bt334.2.2).bind fun bt339 => ((spec_RunTrip.f k bt334.1 bt334.2.1 bt334.2.2).bind fun bt350 => ((impl_PublicsOf.f k bt334.1).bind fun bt361 => ((spec_PublicsOf.f k bt334.1).bind fun bt365 => (if (bt339.2.2.2.2.2 != bt350.2.2.2.2.2) = true then (some false) else ((laws_sameInts.f k bt339.1 bt350.1).bind fun t369 => (if t369 = true then (if bt339.2.1 = bt350.2.1 then (if bt339.2.2.1 = bt350.2.2.1 then ((laws_sameReceipts.f k bt339.2.2.2.1 bt350.2.2.2.1).bind fun t370 => (if t370 = true then (if bt339.2.2.2.2.1 = bt350.2.2.2.2.1 then (if (bt361.2 != bt365.2) = true then (some false) else ((laws_sameInts.f k bt361.1 bt365.1).bind fun t371 => (if t371 = true then (if bt339.2.2.2.2.2 = true then ((impl_BlameOf.f k bt361.1 bt334.2.1 bt339.2.2.2.1).bind fun bt372 => ((impl_WholeTrip.f k bt361.1 bt334.2.1 bt339.2.2.2.1).bind fun bt374 => (if bt361.2 = true then (if bt372.2 = true then (if bt374.2 = true then (if bt334.2.2 < 0 then (if (bt374.1 != true) = true then (some false) else (if bt334.2.2 ≥ 0 then (if bt372.1 = bt334.2.2 then (if bt372.1 = (wrap64 ((bt334.1.length : Int) - 1)) then (laws_FnBlamed.j0 k l1 bt361.1 bt372.1 (bt339.2.2.1 != bt372.1) bt339.1 bt339.2.1 bt339.2.2.1 bt339.2.2.2.1 bt339.2.2.2.2.1) else (some false)) else (some false)) else (if bt372.1 = (wrap64 ((bt334.1.length : Int) - 1)) then (laws_FnBlamed.j0 k l1 bt361.1 bt372.1 (bt339.2.2.1 != bt372.1) bt339.1 bt339.2.1 bt339.2.2.1 bt339.2.2.2.1 bt339.2.2.2.2.1) else (some false)))) else (if (bt374.1 != (bt334.2.2 == (wrap64 ((bt334.1.length : Int) - 1)))) = true then (some false) else (if bt334.2.2 ≥ 0 then (if bt372.1 = bt334.2.2 then (laws_FnBlamed.j0 k l1 bt361.1 bt372.1 (bt339.2.2.1 != bt372.1) bt339.1 bt339.2.1 bt339.2.2.1 bt339.2.2.2.1 bt339.2.2.2.2.1) else (some false)) else (laws_FnBlamed.j0 k l1 bt361.1 bt372.1 (bt339.2.2.1 != bt372.1) bt339.1 bt339.2.1 bt339.2.2.1 bt339.2.2.2.1 bt339.2.2.2.2.1)))) else (some false)) else (some false)) else (some false)))) else (laws_FnBlamed.j2 k l1)) else (some false)))) else (some false)) else (some false))) else (some false)) else (some false)) else (some false)))))))))) = some r := h
 clear h
 by_cases c3 : (wrap64 ((l0.length : Int) + (l1.length : Int))) > 1048576
 ·rw [if_pos c3] at H
  have c3b0 : decide (1048576 < (wrap64 ((l0.length : Int) + (l1.length : Int)))) = true := decide_eq_true c3
  clear c3
  obtain rfl := Option.some.inj H
  simp only [Option.some.injEq, Prod.mk.injEq] at H
  obtain ⟨rfl⟩ := H
  go_enter Try.func6, Try.ntmps6
  go_wp2
  go_ret
  exact ⟨by first | rfl | (simp [errW_none, errW_some] <;> rfl) | (simp [*, errW_none, errW_some] <;> rfl), by repeat (first | (with_reducible first | exact HB.out | apply bA | apply bN | apply bD) | exact HB.out)⟩
 ·rw [if_neg c3] at H
  have c3b0 : decide (1048576 < (wrap64 ((l0.length : Int) + (l1.length : Int)))) = false := decide_eq_false c3
  clear c3
  replace H := oB H
  obtain ⟨⟨t334, t335, t336⟩, A40, H⟩ := H
  replace H : ((impl_RunTrip.f k t334 t335 t336).bind fun bt339 => ((spec_RunTrip.f k t334 t335 t336).bind fun bt350 => ((impl_PublicsOf.f k t334).bind fun bt361 => ((spec_PublicsOf.f k t334).bind fun bt365 => (if (bt339.2.2.2.2.2 != bt350.2.2.2.2.2) = true then (some false) else ((laws_sameInts.f k bt339.1 bt350.1).bind fun t369 => (if t369 = true then (if bt339.2.1 = bt350.2.1 then (if bt339.2.2.1 = bt350.2.2.1 then ((laws_sameReceipts.f k bt339.2.2.2.1 bt350.2.2.2.1).bind fun t370 => (if t370 = true then (if bt339.2.2.2.2.1 = bt350.2.2.2.2.1 then (if (bt361.2 != bt365.2) = true then (some false) else ((laws_sameInts.f k bt361.1 bt365.1).bind fun t371 => (if t371 = true then (if bt339.2.2.2.2.2 = true then ((impl_BlameOf.f k bt361.1 t335 bt339.2.2.2.1).bind fun bt372 => ((impl_WholeTrip.f k bt361.1 t335 bt339.2.2.2.1).bind fun bt374 => (if bt361.2 = true then (if bt372.2 = true then (if bt374.2 = true then (if t336 < 0 then (if (bt374.1 != true) = true then (some false) else (if t336 ≥ 0 then (if bt372.1 = t336 then (if bt372.1 = (wrap64 ((t334.length : Int) - 1)) then (laws_FnBlamed.j0 k l1 bt361.1 bt372.1 (bt339.2.2.1 != bt372.1) bt339.1 bt339.2.1 bt339.2.2.1 bt339.2.2.2.1 bt339.2.2.2.2.1) else (some false)) else (some false)) else (if bt372.1 = (wrap64 ((t334.length : Int) - 1)) then (laws_FnBlamed.j0 k l1 bt361.1 bt372.1 (bt339.2.2.1 != bt372.1) bt339.1 bt339.2.1 bt339.2.2.1 bt339.2.2.2.1 bt339.2.2.2.2.1) else (some false)))) else (if (bt374.1 != (t336 == (wrap64 ((t334.length : Int) - 1)))) = true then (some false) else (if t336 ≥ 0 then (if bt372.1 = t336 then (laws_FnBlamed.j0 k l1 bt361.1 bt372.1 (bt339.2.2.1 != bt372.1) bt339.1 bt339.2.1 bt339.2.2.1 bt339.2.2.2.1 bt339.2.2.2.2.1) else (some false)) else (laws_FnBlamed.j0 k l1 bt361.1 bt372.1 (bt339.2.2.1 != bt372.1) bt339.1 bt339.2.1 bt339.2.2.1 bt339.2.2.2.1 bt339.2.2.2.2.1)))) else (some false)) else (some false)) else (some false)))) else (laws_FnBlamed.j2 k l1)) else (some false)))) else (some false)) else (some false))) else (some false)) else (some false)) else (some false)))))))) = some r := H
  have A4 := Aside0.mk A40
  clear A40
  replace H := oB H
  obtain ⟨⟨t339, t342, t343, t344, t347, t348⟩, A50, H⟩ := H
  replace H : ((spec_RunTrip.f k t334 t335 t336).bind fun bt350 => ((impl_PublicsOf.f k t334).bind fun bt361 => ((spec_PublicsOf.f k t334).bind fun bt365 => (if (t348 != bt350.2.2.2.2.2) = true then (some false) else ((laws_sameInts.f k t339 bt350.1).bind fun t369 => (if t369 = true then (if t342 = bt350.2.1 then (if t343 = bt350.2.2.1 then ((laws_sameReceipts.f k t344 bt350.2.2.2.1).bind fun t370 => (if t370 = true then (if t347 = bt350.2.2.2.2.1 then (if (bt361.2 != bt365.2) = true then (some false) else ((laws_sameInts.f k bt361.1 bt365.1).bind fun t371 => (if t371 = true then (if t348 = true then ((impl_BlameOf.f k bt361.1 t335 t344).bind fun bt372 => ((impl_WholeTrip.f k bt361.1 t335 t344).bind fun bt374 => (if bt361.2 = true then (if bt372.2 = true then (if bt374.2 = true then (if t336 < 0 then (if (bt374.1 != true) = true then (some false) else (if t336 ≥ 0 then (if bt372.1 = t336 then (if bt372.1 = (wrap64 ((t334.length : Int) - 1)) then (laws_FnBlamed.j0 k l1 bt361.1 bt372.1 (t343 != bt372.1) t339 t342 t343 t344 t347) else (some false)) else (some false)) else (if bt372.1 = (wrap64 ((t334.length : Int) - 1)) then (laws_FnBlamed.j0 k l1 bt361.1 bt372.1 (t343 != bt372.1) t339 t342 t343 t344 t347) else (some false)))) else (if (bt374.1 != (t336 == (wrap64 ((t334.length : Int) - 1)))) = true then (some false) else (if t336 ≥ 0 then (if bt372.1 = t336 then (laws_FnBlamed.j0 k l1 bt361.1 bt372.1 (t343 != bt372.1) t339 t342 t343 t344 t347) else (some false)) else (laws_FnBlamed.j0 k l1 bt361.1 bt372.1 (t343 != bt372.1) t339 t342 t343 t344 t347)))) else (some false)) else (some false)) else (some false)))) else (laws_FnBlamed.j2 k l1)) else (some false)))) else (some false)) else (some false))) else (some false)) else (some false)) else (some false))))))) = some r := H
  have A5 := Aside0.mk A50
  clear A50
  replace H := oB H
  obtain ⟨⟨t350, t353, t354, t355, t358, t359⟩, A60, H⟩ := H
  replace H : ((impl_PublicsOf.f k t334).bind fun bt361 => ((spec_PublicsOf.f k t334).bind fun bt365 => (if (t348 != t359) = true then (some false) else ((laws_sameInts.f k t339 t350).bind fun t369 => (if t369 = true then (if t342 = t353 then (if t343 = t354 then ((laws_sameReceipts.f k t344 t355).bind fun t370 => (if t370 = true then (if t347 = t358 then (if (bt361.2 != bt365.2) = true then (some false) else ((laws_sameInts.f k bt361.1 bt365.1).bind fun t371 => (if t371 = true then (if t348 = true then ((impl_BlameOf.f k bt361.1 t335 t344).bind fun bt372 => ((impl_WholeTrip.f k bt361.1 t335 t344).bind fun bt374 => (if bt361.2 = true then (if bt372.2 = true then (if bt374.2 = true then (if t336 < 0 then (if (bt374.1 != true) = true then (some false) else (if t336 ≥ 0 then (if bt372.1 = t336 then (if bt372.1 = (wrap64 ((t334.length : Int) - 1)) then (laws_FnBlamed.j0 k l1 bt361.1 bt372.1 (t343 != bt372.1) t339 t342 t343 t344 t347) else (some false)) else (some false)) else (if bt372.1 = (wrap64 ((t334.length : Int) - 1)) then (laws_FnBlamed.j0 k l1 bt361.1 bt372.1 (t343 != bt372.1) t339 t342 t343 t344 t347) else (some false)))) else (if (bt374.1 != (t336 == (wrap64 ((t334.length : Int) - 1)))) = true then (some false) else (if t336 ≥ 0 then (if bt372.1 = t336 then (laws_FnBlamed.j0 k l1 bt361.1 bt372.1 (t343 != bt372.1) t339 t342 t343 t344 t347) else (some false)) else (laws_FnBlamed.j0 k l1 bt361.1 bt372.1 (t343 != bt372.1) t339 t342 t343 t344 t347)))) else (some false)) else (some false)) else (some false)))) else (laws_FnBlamed.j2 k l1)) else (some false)))) else (some false)) else (some false))) else (some false)) else (some false)) else (some false)))))) = some r := H
  have A6 := Aside0.mk A60
  clear A60
  replace H := oB H
  obtain ⟨⟨t361, t362⟩, A70, H⟩ := H
  replace H : ((spec_PublicsOf.f k t334).bind fun bt365 => (if (t348 != t359) = true then (some false) else ((laws_sameInts.f k t339 t350).bind fun t369 => (if t369 = true then (if t342 = t353 then (if t343 = t354 then ((laws_sameReceipts.f k t344 t355).bind fun t370 => (if t370 = true then (if t347 = t358 then (if (t362 != bt365.2) = true then (some false) else ((laws_sameInts.f k t361 bt365.1).bind fun t371 => (if t371 = true then (if t348 = true then ((impl_BlameOf.f k t361 t335 t344).bind fun bt372 => ((impl_WholeTrip.f k t361 t335 t344).bind fun bt374 => (if t362 = true then (if bt372.2 = true then (if bt374.2 = true then (if t336 < 0 then (if (bt374.1 != true) = true then (some false) else (if t336 ≥ 0 then (if bt372.1 = t336 then (if bt372.1 = (wrap64 ((t334.length : Int) - 1)) then (laws_FnBlamed.j0 k l1 t361 bt372.1 (t343 != bt372.1) t339 t342 t343 t344 t347) else (some false)) else (some false)) else (if bt372.1 = (wrap64 ((t334.length : Int) - 1)) then (laws_FnBlamed.j0 k l1 t361 bt372.1 (t343 != bt372.1) t339 t342 t343 t344 t347) else (some false)))) else (if (bt374.1 != (t336 == (wrap64 ((t334.length : Int) - 1)))) = true then (some false) else (if t336 ≥ 0 then (if bt372.1 = t336 then (laws_FnBlamed.j0 k l1 t361 bt372.1 (t343 != bt372.1) t339 t342 t343 t344 t347) else (some false)) else (laws_FnBlamed.j0 k l1 t361 bt372.1 (t343 != bt372.1) t339 t342 t343 t344 t347)))) else (some false)) else (some false)) else (some false)))) else (laws_FnBlamed.j2 k l1)) else (some false)))) else (some false)) else (some false))) else (some false)) else (some false)) else (some false))))) = some r := H
  have A7 := Aside0.mk A70
  clear A70
  replace H := oB H
  obtain ⟨⟨t365, t366⟩, A80, H⟩ := H
  replace H : (if (t348 != t359) = true then (some false) else ((laws_sameInts.f k t339 t350).bind fun t369 => (if t369 = true then (if t342 = t353 then (if t343 = t354 then ((laws_sameReceipts.f k t344 t355).bind fun t370 => (if t370 = true then (if t347 = t358 then (if (t362 != t366) = true then (some false) else ((laws_sameInts.f k t361 t365).bind fun t371 => (if t371 = true then (if t348 = true then ((impl_BlameOf.f k t361 t335 t344).bind fun bt372 => ((impl_WholeTrip.f k t361 t335 t344).bind fun bt374 => (if t362 = true then (if bt372.2 = true then (if bt374.2 = true then (if t336 < 0 then (if (bt374.1 != true) = true then (some false) else (if t336 ≥ 0 then (if bt372.1 = t336 then (if bt372.1 = (wrap64 ((t334.length : Int) - 1)) then (laws_FnBlamed.j0 k l1 t361 bt372.1 (t343 != bt372.1) t339 t342 t343 t344 t347) else (some false)) else (some false)) else (if bt372.1 = (wrap64 ((t334.length : Int) - 1)) then (laws_FnBlamed.j0 k l1 t361 bt372.1 (t343 != bt372.1) t339 t342 t343 t344 t347) else (some false)))) else (if (bt374.1 != (t336 == (wrap64 ((t334.length : Int) - 1)))) = true then (some false) else (if t336 ≥ 0 then (if bt372.1 = t336 then (laws_FnBlamed.j0 k l1 t361 bt372.1 (t343 != bt372.1) t339 t342 t343 t344 t347) else (some false)) else (laws_FnBlamed.j0 k l1 t361 bt372.1 (t343 != bt372.1) t339 t342 t343 t344 t347)))) else (some false)) else (some false)) else (some false)))) else (laws_FnBlamed.j2 k l1)) else (some false)))) else (some false)) else (some false))) else (some false)) else (some false)) else (some false)))) = some r := H
  have A8 := Aside0.mk A80
  clear A80
  by_cases c9 : (t348 != t359) = true
  ·rw [if_pos c9] at H
   have c9b0 : (t348 != t359) = true := c9
   (try (have c9b1 : decide (t348 = t359) = false := by simpa using c9))
   (try (have c9b2 : (t348 == t359) = false := by simpa using c9))
   (try (have c9b3 : ¬ (t348 = t359) := by simpa using c9))
   clear c9
   obtain rfl := Option.some.inj H
   exact absurd hr_.out (by simp)
  ·rw [if_neg c9] at H
   have c9b0 : (t348 != t359) = false := by simpa using c9
   (try (have c9b1 : decide (t348 = t359) = true := by simpa using c9))
   (try (have c9b2 : (t348 == t359) = true := by simpa using c9))
   clear c9
   replace H := oB H
   obtain ⟨t369, A100, H⟩ := H
   replace H : (if t369 = true then (if t342 = t353 then (if t343 = t354 then ((laws_sameReceipts.f k t344 t355).bind fun t370 => (if t370 = true then (if t347 = t358 then (if (t362 != t366) = true then (some false) else ((laws_sameInts.f k t361 t365).bind fun t371 => (if t371 = true then (if t348 = true then ((impl_BlameOf.f k t361 t335 t344).bind fun bt372 => ((impl_WholeTrip.f k t361 t335 t344).bind fun bt374 => (if t362 = true then (if bt372.2 = true then (if bt374.2 = true then (if t336 < 0 then (if (bt374.1 != true) = true then (some false) else (if t336 ≥ 0 then (if bt372.1 = t336 then (if bt372.1 = (wrap64 ((t334.length : Int) - 1)) then (laws_FnBlamed.j0 k l1 t361 bt372.1 (t343 != bt372.1) t339 t342 t343 t344 t347) else (some false)) else (some false)) else (if bt372.1 = (wrap64 ((t334.length : Int) - 1)) then (laws_FnBlamed.j0 k l1 t361 bt372.1 (t343 != bt372.1) t339 t342 t343 t344 t347) else (some false)))) else (if (bt374.1 != (t336 == (wrap64 ((t334.length : Int) - 1)))) = true then (some false) else (if t336 ≥ 0 then (if bt372.1 = t336 then (laws_FnBlamed.j0 k l1 t361 bt372.1 (t343 != bt372.1) t339 t342 t343 t344 t347) else (some false)) else (laws_FnBlamed.j0 k l1 t361 bt372.1 (t343 != bt372.1) t339 t342 t343 t344 t347)))) else (some false)) else (some false)) else (some false)))) else (laws_FnBlamed.j2 k l1)) else (some false)))) else (some false)) else (some false))) else (some false)) else (some false)) else (some false)) = some r := H
   have A10 := Aside0.mk A100
   clear A100
   by_cases c11 : t369 = true
   ·subst c11
    have H1 : (if t342 = t353 then (if t343 = t354 then ((laws_sameReceipts.f k t344 t355).bind fun t370 => (if t370 = true then (if t347 = t358 then (if (t362 != t366) = true then (some false) else ((laws_sameInts.f k t361 t365).bind fun t371 => (if t371 = true then (if t348 = true then ((impl_BlameOf.f k t361 t335 t344).bind fun bt372 => ((impl_WholeTrip.f k t361 t335 t344).bind fun bt374 => (if t362 = true then (if bt372.2 = true then (if bt374.2 = true then (if t336 < 0 then (if (bt374.1 != true) = true then (some false) else (if t336 ≥ 0 then (if bt372.1 = t336 then (if bt372.1 = (wrap64 ((t334.length : Int) - 1)) then (laws_FnBlamed.j0 k l1 t361 bt372.1 (t343 != bt372.1) t339 t342 t343 t344 t347) else (some false)) else (some false)) else (if bt372.1 = (wrap64 ((t334.length : Int) - 1)) then (laws_FnBlamed.j0 k l1 t361 bt372.1 (t343 != bt372.1) t339 t342 t343 t344 t347) else (some false)))) else (if (bt374.1 != (t336 == (wrap64 ((t334.length : Int) - 1)))) = true then (some false) else (if t336 ≥ 0 then (if bt372.1 = t336 then (laws_FnBlamed.j0 k l1 t361 bt372.1 (t343 != bt372.1) t339 t342 t343 t344 t347) else (some false)) else (laws_FnBlamed.j0 k l1 t361 bt372.1 (t343 != bt372.1) t339 t342 t343 t344 t347)))) else (some false)) else (some false)) else (some false)))) else (laws_FnBlamed.j2 k l1)) else (some false)))) else (some false)) else (some false))) else (some false)) else (some false)) = some r := by rw [if_pos rfl] at H; exact H
    clear H
    have H := H1
    clear H1
    by_cases c12 : t342 = t353
    ·rw [if_pos c12] at H
     have c12b0 : (t342 == t353) = true := beq_iff_eq.mpr c12
     have c12b1 : (t342 != t353) = false := bne_eq_false_iff_eq.mpr c12
     clear c12
     by_cases c13 : t343 = t354
     ·rw [if_pos c13] at H
      have c13b0 : (t343 == t354) = true := beq_iff_eq.mpr c13
      have c13b1 : (t343 != t354) = false := bne_eq_false_iff_eq.mpr c13
      clear c13
      replace H := oB H
      obtain ⟨t370, A140, H⟩ := H
      replace H : (if t370 = true then (if t347 = t358 then (if (t362 != t366) = true then (some false) else ((laws_sameInts.f k t361 t365).bind fun t371 => (if t371 = true then (if t348 = true then ((impl_BlameOf.f k t361 t335 t344).bind fun bt372 => ((impl_WholeTrip.f k t361 t335 t344).bind fun bt374 => (if t362 = true then (if bt372.2 = true then (if bt374.2 = true then (if t336 < 0 then (if (bt374.1 != true) = true then (some false) else (if t336 ≥ 0 then (if bt372.1 = t336 then (if bt372.1 = (wrap64 ((t334.length : Int) - 1)) then (laws_FnBlamed.j0 k l1 t361 bt372.1 (t343 != bt372.1) t339 t342 t343 t344 t347) else (some false)) else (some false)) else (if bt372.1 = (wrap64 ((t334.length : Int) - 1)) then (laws_FnBlamed.j0 k l1 t361 bt372.1 (t343 != bt372.1) t339 t342 t343 t344 t347) else (some false)))) else (if (bt374.1 != (t336 == (wrap64 ((t334.length : Int) - 1)))) = true then (some false) else (if t336 ≥ 0 then (if bt372.1 = t336 then (laws_FnBlamed.j0 k l1 t361 bt372.1 (t343 != bt372.1) t339 t342 t343 t344 t347) else (some false)) else (laws_FnBlamed.j0 k l1 t361 bt372.1 (t343 != bt372.1) t339 t342 t343 t344 t347)))) else (some false)) else (some false)) else (some false)))) else (laws_FnBlamed.j2 k l1)) else (some false)))) else (some false)) else (some false)) = some r := H
      have A14 := Aside0.mk A140
      clear A140
      by_cases c15 : t370 = true
      ·subst c15
       have H1 : (if t347 = t358 then (if (t362 != t366) = true then (some false) else ((laws_sameInts.f k t361 t365).bind fun t371 => (if t371 = true then (if t348 = true then ((impl_BlameOf.f k t361 t335 t344).bind fun bt372 => ((impl_WholeTrip.f k t361 t335 t344).bind fun bt374 => (if t362 = true then (if bt372.2 = true then (if bt374.2 = true then (if t336 < 0 then (if (bt374.1 != true) = true then (some false) else (if t336 ≥ 0 then (if bt372.1 = t336 then (if bt372.1 = (wrap64 ((t334.length : Int) - 1)) then (laws_FnBlamed.j0 k l1 t361 bt372.1 (t343 != bt372.1) t339 t342 t343 t344 t347) else (some false)) else (some false)) else (if bt372.1 = (wrap64 ((t334.length : Int) - 1)) then (laws_FnBlamed.j0 k l1 t361 bt372.1 (t343 != bt372.1) t339 t342 t343 t344 t347) else (some false)))) else (if (bt374.1 != (t336 == (wrap64 ((t334.length : Int) - 1)))) = true then (some false) else (if t336 ≥ 0 then (if bt372.1 = t336 then (laws_FnBlamed.j0 k l1 t361 bt372.1 (t343 != bt372.1) t339 t342 t343 t344 t347) else (some false)) else (laws_FnBlamed.j0 k l1 t361 bt372.1 (t343 != bt372.1) t339 t342 t343 t344 t347)))) else (some false)) else (some false)) else (some false)))) else (laws_FnBlamed.j2 k l1)) else (some false)))) else (some false)) = some r := by rw [if_pos rfl] at H; exact H
       clear H
       have H := H1
       clear H1
       by_cases c16 : t347 = t358
       ·rw [if_pos c16] at H
        have c16b0 : (t347 == t358) = true := beq_iff_eq.mpr c16
        have c16b1 : (t347 != t358) = false := bne_eq_false_iff_eq.mpr c16
        clear c16
        by_cases c17 : (t362 != t366) = true
        ·rw [if_pos c17] at H
         have c17b0 : (t362 != t366) = true := c17
         (try (have c17b1 : decide (t362 = t366) = false := by simpa using c17))
         (try (have c17b2 : (t362 == t366) = false := by simpa using c17))
         (try (have c17b3 : ¬ (t362 = t366) := by simpa using c17))
         clear c17
         obtain rfl := Option.some.inj H
         exact absurd hr_.out (by simp)
        ·rw [if_neg c17] at H
         have c17b0 : (t362 != t366) = false := by simpa using c17
         (try (have c17b1 : decide (t362 = t366) = true := by simpa using c17))
         (try (have c17b2 : (t362 == t366) = true := by simpa using c17))
         clear c17
         replace H := oB H
         obtain ⟨t371, A180, H⟩ := H
         replace H : (if t371 = true then (if t348 = true then ((impl_BlameOf.f k t361 t335 t344).bind fun bt372 => ((impl_WholeTrip.f k t361 t335 t344).bind fun bt374 => (if t362 = true then (if bt372.2 = true then (if bt374.2 = true then (if t336 < 0 then (if (bt374.1 != true) = true then (some false) else (if t336 ≥ 0 then (if bt372.1 = t336 then (if bt372.1 = (wrap64 ((t334.length : Int) - 1)) then (laws_FnBlamed.j0 k l1 t361 bt372.1 (t343 != bt372.1) t339 t342 t343 t344 t347) else (some false)) else (some false)) else (if bt372.1 = (wrap64 ((t334.length : Int) - 1)) then (laws_FnBlamed.j0 k l1 t361 bt372.1 (t343 != bt372.1) t339 t342 t343 t344 t347) else (some false)))) else (if (bt374.1 != (t336 == (wrap64 ((t334.length : Int) - 1)))) = true then (some false) else (if t336 ≥ 0 then (if bt372.1 = t336 then (laws_FnBlamed.j0 k l1 t361 bt372.1 (t343 != bt372.1) t339 t342 t343 t344 t347) else (some false)) else (laws_FnBlamed.j0 k l1 t361 bt372.1 (t343 != bt372.1) t339 t342 t343 t344 t347)))) else (some false)) else (some false)) else (some false)))) else (laws_FnBlamed.j2 k l1)) else (some false)) = some r := H
         have A18 := Aside0.mk A180
         clear A180
         by_cases c19 : t371 = true
         ·subst c19
          have H1 : (if t348 = true then ((impl_BlameOf.f k t361 t335 t344).bind fun bt372 => ((impl_WholeTrip.f k t361 t335 t344).bind fun bt374 => (if t362 = true then (if bt372.2 = true then (if bt374.2 = true then (if t336 < 0 then (if (bt374.1 != true) = true then (some false) else (if t336 ≥ 0 then (if bt372.1 = t336 then (if bt372.1 = (wrap64 ((t334.length : Int) - 1)) then (laws_FnBlamed.j0 k l1 t361 bt372.1 (t343 != bt372.1) t339 t342 t343 t344 t347) else (some false)) else (some false)) else (if bt372.1 = (wrap64 ((t334.length : Int) - 1)) then (laws_FnBlamed.j0 k l1 t361 bt372.1 (t343 != bt372.1) t339 t342 t343 t344 t347) else (some false)))) else (if (bt374.1 != (t336 == (wrap64 ((t334.length : Int) - 1)))) = true then (some false) else (if t336 ≥ 0 then (if bt372.1 = t336 then (laws_FnBlamed.j0 k l1 t361 bt372.1 (t343 != bt372.1) t339 t342 t343 t344 t347) else (some false)) else (laws_FnBlamed.j0 k l1 t361 bt372.1 (t343 != bt372.1) t339 t342 t343 t344 t347)))) else (some false)) else (some false)) else (some false)))) else (laws_FnBlamed.j2 k l1)) = some r := by rw [if_pos rfl] at H; exact H
          clear H
          have H := H1
          clear H1
          have HC20 := Aside0.mk H
          clear H
          go_enter Try.func6, Try.ntmps6
          go_upto_if 124 with (first | ((with_reducible refine gate_callee (f := 48) rfl ?_); refine goesL_ (some 45) rfl rfl Try.func48 (by kernel_rfl) rfl #[.slice A0 l0.length c0] rfl (by (try simp only [List.map_toArray, List.map_cons, List.map_nil]); first | done | rfl | (simp only [List.length_drop, List.length_take]; rfl)) ?_; (with_reducible refine (spec_DrawRunTrip.calls k _ _ l0 t334 t335 t336 _ ?side1 ?side2 A4.out).mono ?_); (case side1 => repeat (first | exact HR0.out | (with_reducible first | refine cA ?_ _ | refine cN ?_ _ | refine cD ?_))); (case side2 => exact HC0.out); rintro e w21 ⟨v337, rfl, ho0, hb⟩; refine ⟨_, rfl, ?_⟩; have n0_ := Aside0.mk (Kd.R_lower ho0 (below_size (by repeat (first | (with_reducible first | exact HB.out | apply bA | apply bN | apply bD) | exact HB.out)))); have n1_ := Aside0.mk (below_step (by repeat (first | (with_reducible first | exact HB.out | apply bA | apply bN | apply bD) | exact HB.out)) hb); clear HB; have HO338 := n0_; have HB := n1_; clear n0_ n1_; (try clear hb); (try clear hb2); (try clear hk); (try clear hi); (try clear ho0); obtain ⟨Ao22, co22, eo22⟩ := rS HO338.out; subst eo22) | ((with_reducible refine gate_callee (f := 49) rfl ?_); refine goesL_ (some 53) rfl rfl Try.func49 (by kernel_rfl) rfl #[.slice Ao22 t334.length co22, .int .i64 t335, .int .i64 t336] rfl (by (try simp only [List.map_toArray, List.map_cons, List.map_nil]); first | done | rfl | (simp only [List.length_drop, List.length_take]; rfl)) ?_; (with_reducible refine (impl_RunTrip.calls k _ _ t334 t335 t336 t339 t342 t343 t344 t347 t348 _ ?side1 ?side2 A5.out).mono ?_); (case side1 => repeat (first | exact (rR HO338.out).2.2 | (with_reducible first | refine cA ?_ _ | refine cN ?_ _ | refine cD ?_))); (case side2 => exact (rR HO338.out).2.1); rintro e w23 ⟨v340, v345, rfl, ho0, ho1, hb⟩; refine ⟨_, rfl, ?_⟩; have n0_ := Aside0.mk (rF (by (with_reducible repeat (first | apply rA | apply rN | apply rD)); exact HO338.out) (rE ho0) hb); have n1_ := Aside0.mk (Kd.R_lower (Kd.R_new' ho0 (Kd.R_lt (by (with_reducible repeat (first | apply rA | apply rN | apply rD)); exact HO338.out))) (below_size (by repeat (first | (with_reducible first | exact HB.out | apply bA | apply bN | apply bD) | exact HB.out)))); have n2_ := Aside0.mk (Kd.R_lower ho1 (below_size (by repeat (first | (with_reducible first | exact HB.out | apply bA | apply bN | apply bD) | exact HB.out)))); have n3_ := Aside0.mk (below_step (by repeat (first | (with_reducible first | exact HB.out | apply bA | apply bN | apply bD) | exact HB.out)) hb); clear HO338; clear HB; have HO338 := n0_; have HO341 := n1_; have HO346 := n2_; have HB := n3_; clear n0_ n1_ n2_ n3_; (try clear hb); (try clear hb2); (try clear hk); (try clear hi); (try clear ho0); (try clear ho1)) | ((with_reducible refine gate_dst (N := 8) rfl ?_); (try (refine gate_guard (by rfl) ?_; dsimp only)); refine box_event ?hg (N := 8) ?hd (cs := #[.slice none 0 0, .int .i64 0, .int .i64 0, .slice none 0 0, .int .i64 0]) (t := 60) ?hr ?_; (case hd => rfl); (case hg => rfl); (case hr => first | (go_simp; done) | (go_simp; rfl)); intro gb349 hg w24 hbox hb; have n0_ := Aside0.mk (rB (by (with_reducible repeat (first | apply rA | apply rN | apply rD)); exact HO338.out) hb); have n1_ := Aside0.mk (rB (by (with_reducible repeat (first | apply rA | apply rN | apply rD)); exact HO341.out) hb); have n2_ := Aside0.mk (rB (by (with_reducible repeat (first | apply rA | apply rN | apply rD)); exact HO346.out) hb); have n3_ := Aside0.mk (below_step (by repeat (first | (with_reducible first | exact HB.out | apply bA | apply bN | apply bD) | exact HB.out)) hb); have n4_ := Aside0.mk (hbox); have n5_ := Aside0.mk ((by rw [hg]; exact (below_size (by repeat (first | (with_reducible first | exact HB.out | apply bA | apply bN | apply bD) | exact HB.out))) : w.heap.size ≤ gb349)); have n6_ := Aside0.mk ((by rw [hg]; exact (below_size (by repeat (first | (with_reducible first | exact HB.out | apply bA | apply bN | apply bD) | exact HB.out))) : w.heap.size ≤ gb349)); clear HO338; clear HO341; clear HO346; clear HB; have HO338 := n0_; have HO341 := n1_; have HO346 := n2_; have HB := n3_; have BK349 := n4_; have GW349 := n5_; have GE349 := n6_; clear n0_ n1_ n2_ n3_ n4_ n5_ n6_; clear hb hbox hg; obtain ⟨Ao25, co25, eo25⟩ := rS HO341.out; subst eo25; have hcz26_0 : w24.cell? ⟨gb349, 0, none⟩ = some (.slice none 0 0) := (lC BK349.out 0).trans rfl; have hcz26_1 : w24.cell? ⟨gb349, 1, none⟩ = some (.int .i64 0) := (lC BK349.out 1).trans rfl; have hcz26_2 : w24.cell? ⟨gb349, 2, none⟩ = some (.int .i64 0) := (lC BK349.out 2).trans rfl; have hcz26_3 : w24.cell? ⟨gb349, 3, none⟩ = some (.slice none 0 0) := (lC BK349.out 3).trans rfl; have hcz26_4 : w24.cell? ⟨gb349, 4, none⟩ = some (.int .i64 0) := (lC BK349.out 4).trans rfl; have hfz26_0 := lF BK349.out 0; have hfz26_1 := lF BK349.out 1; have hfz26_2 := lF BK349.out 2; have hfz26_3 := lF BK349.out 3; have hfz26_4 := lF BK349.out 4; obtain ⟨Ao27, co27, eo27⟩ := rS HO346.out; subst eo27) | ((with_reducible refine gate_callee (f := 50) rfl ?_); refine goesL_ (some 60) rfl rfl Try.func50 (by kernel_rfl) rfl #[.slice Ao22 t334.length co22, .int .i64 t335, .int .i64 t336] rfl (by (try simp only [List.map_toArray, List.map_cons, List.map_nil]); first | done | rfl | (simp only [List.length_drop, List.length_take]; rfl)) ?_; (with_reducible refine (spec_RunTrip.calls k _ _ t334 t335 t336 t350 t353 t354 t355 t358 t359 _ ?side1 ?side2 A6.out).mono ?_); (case side1 => refine (rR (e := 3) (base := w.heap.size) (ok := fun k_ => (True ∧ some k_ ≠ (.slice Ao25 t339.length co25 : Value).ownBlock)) (n := t334.length) (c := co22) ?_).2.2; exact (by (with_reducible repeat (first | apply rA | apply rN | apply rD)); exact (rM (Kd.R_far (p := ⟨gb349, 4, none⟩) (Kd.R_far (p := ⟨gb349, 3, none⟩) (Kd.R_far (p := ⟨gb349, 2, none⟩) (Kd.R_far (p := ⟨gb349, 1, none⟩) (Kd.R_far (p := ⟨gb349, 0, none⟩) (Kd.R_types HO338.out BK349.out (by decide)) (fun _ hk => hk.2) (.slice Ao25 t339.length co25)) (fun _ hk => hk.2) (.int .i64 t342)) (fun _ hk => hk.2) (.int .i64 t343)) (fun _ hk => hk.2) (.slice Ao27 t344.length co27)) (fun _ hk => hk.2) (.int .i64 t347)) (fun _ h_ => h_.1)))); (case side2 => exact (rR HO338.out).2.1); rintro e w28 ⟨v351, v356, rfl, ho0, ho1, hb⟩; refine ⟨_, rfl, ?_⟩; have n0_ := Aside0.mk (rF (by (with_reducible repeat (first | apply rA | apply rN | apply rD)); exact (rM (Kd.R_far (p := ⟨gb349, 4, none⟩) (Kd.R_far (p := ⟨gb349, 3, none⟩) (Kd.R_far (p := ⟨gb349, 2, none⟩) (Kd.R_far (p := ⟨gb349, 1, none⟩) (Kd.R_far (p := ⟨gb349, 0, none⟩) (Kd.R_types HO338.out BK349.out (by decide)) (fun _ hk => hk.2) (.slice Ao25 t339.length co25)) (fun _ hk => hk.2) (.int .i64 t342)) (fun _ hk => hk.2) (.int .i64 t343)) (fun _ hk => hk.2) (.slice Ao27 t344.length co27)) (fun _ hk => hk.2) (.int .i64 t347)) (fun _ h_ => h_.1))) (rE ho0) hb); have n1_ := Aside0.mk (rF (by (with_reducible repeat (first | apply rA | apply rN | apply rD)); exact (rM (Kd.R_far (p := ⟨gb349, 4, none⟩) (Kd.R_far (p := ⟨gb349, 3, none⟩) (Kd.R_far (p := ⟨gb349, 2, none⟩) (Kd.R_far (p := ⟨gb349, 1, none⟩) (Kd.R_far (p := ⟨gb349, 0, none⟩) (Kd.R_types HO341.out BK349.out (by decide)) (fun _ hk => hk.2) (.slice Ao25 t339.length co25)) (fun _ hk => hk.2) (.int .i64 t342)) (fun _ hk => hk.2) (.int .i64 t343)) (fun _ hk => hk.2) (.slice Ao27 t344.length co27)) (fun _ hk => hk.2) (.int .i64 t347)) (fun _ h_ => h_.1))) (rE ho0) hb); have n2_ := Aside0.mk (rF (by (with_reducible repeat (first | apply rA | apply rN | apply rD)); exact (rM (Kd.R_far (p := ⟨gb349, 4, none⟩) (Kd.R_far (p := ⟨gb349, 3, none⟩) (Kd.R_far (p := ⟨gb349, 2, none⟩) (Kd.R_far (p := ⟨gb349, 1, none⟩) (Kd.R_far (p := ⟨gb349, 0, none⟩) (Kd.R_types HO346.out BK349.out (by decide)) (fun _ hk => hk.2) (.slice Ao25 t339.length co25)) (fun _ hk => hk.2) (.int .i64 t342)) (fun _ hk => hk.2) (.int .i64 t343)) (fun _ hk => hk.2) (.slice Ao27 t344.length co27)) (fun _ hk => hk.2) (.int .i64 t347)) (fun _ h_ => h_.1))) (rE ho1) hb); have n3_ := Aside0.mk (Kd.R_lower (Kd.R_new' (Kd.R_new' ho0 (Kd.R_lt (by (with_reducible repeat (first | apply rA | apply rN | apply rD)); exact (rM (Kd.R_far (p := ⟨gb349, 4, none⟩) (Kd.R_far (p := ⟨gb349, 3, none⟩) (Kd.R_far (p := ⟨gb349, 2, none⟩) (Kd.R_far (p := ⟨gb349, 1, none⟩) (Kd.R_far (p := ⟨gb349, 0, none⟩) (Kd.R_types HO338.out BK349.out (by decide)) (fun _ hk => hk.2) (.slice Ao25 t339.length co25)) (fun _ hk => hk.2) (.int .i64 t342)) (fun _ hk => hk.2) (.int .i64 t343)) (fun _ hk => hk.2) (.slice Ao27 t344.length co27)) (fun _ hk => hk.2) (.int .i64 t347)) (fun _ h_ => h_.1))))) (Kd.R_lt (by (with_reducible repeat (first | apply rA | apply rN | apply rD)); exact (rM (Kd.R_far (p := ⟨gb349, 4, none⟩) (Kd.R_far (p := ⟨gb349, 3, none⟩) (Kd.R_far (p := ⟨gb349, 2, none⟩) (Kd.R_far (p := ⟨gb349, 1, none⟩) (Kd.R_far (p := ⟨gb349, 0, none⟩) (Kd.R_types HO341.out BK349.out (by decide)) (fun _ hk => hk.2) (.slice Ao25 t339.length co25)) (fun _ hk => hk.2) (.int .i64 t342)) (fun _ hk => hk.2) (.int .i64 t343)) (fun _ hk => hk.2) (.slice Ao27 t344.length co27)) (fun _ hk => hk.2) (.int .i64 t347)) (fun _ h_ => h_.1))))) (below_size (by repeat (first | (with_reducible first | exact HB.out | apply bA | apply bN | apply bD | refine bS ?_ GE349.out) | exact HB.out)))); have n4_ := Aside0.mk (Kd.R_lower (Kd.R_new' ho1 (Kd.R_lt (by (with_reducible repeat (first | apply rA | apply rN | apply rD)); exact (rM (Kd.R_far (p := ⟨gb349, 4, none⟩) (Kd.R_far (p := ⟨gb349, 3, none⟩) (Kd.R_far (p := ⟨gb349, 2, none⟩) (Kd.R_far (p := ⟨gb349, 1, none⟩) (Kd.R_far (p := ⟨gb349, 0, none⟩) (Kd.R_types HO346.out BK349.out (by decide)) (fun _ hk => hk.2) (.slice Ao25 t339.length co25)) (fun _ hk => hk.2) (.int .i64 t342)) (fun _ hk => hk.2) (.int .i64 t343)) (fun _ hk => hk.2) (.slice Ao27 t344.length co27)) (fun _ hk => hk.2) (.int .i64 t347)) (fun _ h_ => h_.1))))) (below_size (by repeat (first | (with_reducible first | exact HB.out | apply bA | apply bN | apply bD | refine bS ?_ GE349.out) | exact HB.out)))); have n5_ := Aside0.mk (blk_below (g := gb349) (o := .cells #[.slice Ao25 t339.length co25, .int .i64 t342, .int .i64 t343, .slice Ao27 t344.length co27, .int .i64 t347] 60 (0, 0)) (by (with_reducible repeat (first | refine lN ?_ _ | refine lD ?_ | refine lA ?_ _)); refine lP (cs := #[.slice Ao25 t339.length co25, .int .i64 t342, .int .i64 t343, .slice Ao27 t344.length co27, .int .i64 0]) ?_ 4 _ rfl; (with_reducible repeat (first | refine lN ?_ _ | refine lD ?_ | refine lA ?_ _)); refine lP (cs := #[.slice Ao25 t339.length co25, .int .i64 t342, .int .i64 t343, .slice none 0 0, .int .i64 0]) ?_ 3 _ rfl; (with_reducible repeat (first | refine lN ?_ _ | refine lD ?_ | refine lA ?_ _)); refine lP (cs := #[.slice Ao25 t339.length co25, .int .i64 t342, .int .i64 0, .slice none 0 0, .int .i64 0]) ?_ 2 _ rfl; (with_reducible repeat (first | refine lN ?_ _ | refine lD ?_ | refine lA ?_ _)); refine lP (cs := #[.slice Ao25 t339.length co25, .int .i64 0, .int .i64 0, .slice none 0 0, .int .i64 0]) ?_ 1 _ rfl; (with_reducible repeat (first | refine lN ?_ _ | refine lD ?_ | refine lA ?_ _)); refine lP (cs := #[.slice none 0 0, .int .i64 0, .int .i64 0, .slice none 0 0, .int .i64 0]) ?_ 0 _ rfl; (with_reducible repeat (first | refine lN ?_ _ | refine lD ?_ | refine lA ?_ _)); exact BK349.out) hb); have n6_ := Aside0.mk (below_step (by repeat (first | (with_reducible first | exact HB.out | apply bA | apply bN | apply bD | refine bS ?_ GE349.out) | exact HB.out)) hb); clear HO338; clear HO341; clear HO346; clear BK349; clear HB; have HO338 := n0_; have HO341 := n1_; have HO346 := n2_; have HO352 := n3_; have HO357 := n4_; have BK349 := n5_; have HB := n6_; clear n0_ n1_ n2_ n3_ n4_ n5_ n6_; (try clear hb); (try clear hb2); (try clear hk); (try clear hi); (try clear ho0); (try clear ho1)) | ((with_reducible refine gate_dst (N := 10) rfl ?_); (try (refine gate_guard (by rfl) ?_; dsimp only)); refine box_event ?hg (N := 10) ?hd (cs := #[.slice none 0 0, .int .i64 0, .int .i64 0, .slice none 0 0, .int .i64 0]) (t := 60) ?hr ?_; (case hd => rfl); (case hg => rfl); (case hr => first | (go_simp; done) | (go_simp; rfl)); intro gb360 hg w29 hbox hb; have n0_ := Aside0.mk (rB (by (with_reducible repeat (first | apply rA | apply rN | apply rD)); exact HO338.out) hb); have n1_ := Aside0.mk (rB (by (with_reducible repeat (first | apply rA | apply rN | apply rD)); exact HO341.out) hb); have n2_ := Aside0.mk (rB (by (with_reducible repeat (first | apply rA | apply rN | apply rD)); exact HO346.out) hb); have n3_ := Aside0.mk (rB (by (with_reducible repeat (first | apply rA | apply rN | apply rD)); exact HO352.out) hb); have n4_ := Aside0.mk (rB (by (with_reducible repeat (first | apply rA | apply rN | apply rD)); exact HO357.out) hb); have n5_ := Aside0.mk (blk_below (g := gb349) (o := .cells #[.slice Ao25 t339.length co25, .int .i64 t342, .int .i64 t343, .slice Ao27 t344.length co27, .int .i64 t347] 60 (0, 0)) (by (with_reducible repeat (first | refine lN ?_ _ | refine lD ?_ | refine lA ?_ _)); exact BK349.out) hb); have n6_ := Aside0.mk (below_step (by repeat (first | (with_reducible first | exact HB.out | apply bA | apply bN | apply bD | refine bS ?_ GE349.out) | exact HB.out)) hb); have n7_ := Aside0.mk (hbox); have n8_ := Aside0.mk ((by rw [hg]; exact (below_size (by repeat (first | (with_reducible first | exact HB.out | apply bA | apply bN | apply bD | refine bS ?_ GE349.out) | exact HB.out))) : w.heap.size ≤ gb360)); have n9_ := Aside0.mk ((by rw [hg]; exact (below_size (by repeat (first | (with_reducible first | exact HB.out | apply bA | apply bN | apply bD | refine bS ?_ GE349.out) | exact HB.out))) : w.heap.size ≤ gb360)); have n10_ := Aside0.mk ((by rw [hg]; exact Nat.ne_of_lt (blk_lt (g := gb349) (o := .cells #[.slice Ao25 t339.length co25, .int .i64 t342, .int .i64 t343, .slice Ao27 t344.length co27, .int .i64 t347] 60 (0, 0)) (by (with_reducible repeat (first | refine lN ?_ _ | refine lD ?_ | refine lA ?_ _)); exact BK349.out)) : gb349 ≠ gb360)); have n11_ := Aside0.mk ((by rw [hg]; exact Nat.ne_of_gt (blk_lt (g := gb349) (o := .cells #[.slice Ao25 t339.length co25, .int .i64 t342, .int .i64 t343, .slice Ao27 t344.length co27, .int .i64 t347] 60 (0, 0)) (by (with_reducible repeat (first | refine lN ?_ _ | refine lD ?_ | refine lA ?_ _)); exact BK349.out)) : gb360 ≠ gb349)); clear HO338; clear HO341; clear HO346; clear HO352; clear HO357; clear BK349; clear HB; have HO338 := n0_; have HO341 := n1_; have HO346 := n2_; have HO352 := n3_; have HO357 := n4_; have BK349 := n5_; have HB := n6_; have BK360 := n7_; have GW360 := n8_; have GE360 := n9_; have NB349_360 := n10_; have NB360_349 := n11_; clear n0_ n1_ n2_ n3_ n4_ n5_ n6_ n7_ n8_ n9_ n10_ n11_; clear hb hbox hg; obtain ⟨Ao30, co30, eo30⟩ := rS HO352.out; subst eo30; have hnb31 := NB360_349.out; have hnc31 := NB349_360.out; have hcz32_0 : w29.cell? ⟨gb360, 0, none⟩ = some (.slice none 0 0) := (lC BK360.out 0).trans rfl; have hcz32_1 : w29.cell? ⟨gb360, 1, none⟩ = some (.int .i64 0) := (lC BK360.out 1).trans rfl; have hcz32_2 : w29.cell? ⟨gb360, 2, none⟩ = some (.int .i64 0) := (lC BK360.out 2).trans rfl; have hcz32_3 : w29.cell? ⟨gb360, 3, none⟩ = some (.slice none 0 0) := (lC BK360.out 3).trans rfl; have hcz32_4 : w29.cell? ⟨gb360, 4, none⟩ = some (.int .i64 0) := (lC BK360.out 4).trans rfl; have hfz32_0 := lF BK360.out 0; have hfz32_1 := lF BK360.out 1; have hfz32_2 := lF BK360.out 2; have hfz32_3 := lF BK360.out 3; have hfz32_4 := lF BK360.out 4; obtain ⟨Ao33, co33, eo33⟩ := rS HO357.out; subst eo33) | ((with_reducible refine gate_callee (f := 51) rfl ?_); refine goesL_ (some 65) rfl rfl Try.func51 (by kernel_rfl) rfl #[.slice Ao22 t334.length co22] rfl (by (try simp only [List.map_toArray, List.map_cons, List.map_nil]); first | done | rfl | (simp only [List.length_drop, List.length_take]; rfl)) ?_; (with_reducible refine (impl_PublicsOf.calls k _ _ t334 t361 t362 _ ?side1 ?side2 A7.out).mono ?_); (case side1 => refine (rR (e := 3) (base := w.heap.size) (ok := fun k_ => ((True ∧ some k_ ≠ (.slice Ao25 t339.length co25 : Value).ownBlock) ∧ some k_ ≠ (.slice Ao30 t350.length co30 : Value).ownBlock)) (n := t334.length) (c := co22) ?_).2.2; exact (by (with_reducible repeat (first | apply rA | apply rN | apply rD)); exact (rM (Kd.R_far (p := ⟨gb360, 4, none⟩) (Kd.R_far (p := ⟨gb360, 3, none⟩) (Kd.R_far (p := ⟨gb360, 2, none⟩) (Kd.R_far (p := ⟨gb360, 1, none⟩) (Kd.R_far (p := ⟨gb360, 0, none⟩) (Kd.R_types HO338.out BK360.out (by decide)) (fun _ hk => hk.2) (.slice Ao30 t350.length co30)) (fun _ hk => hk.2) (.int .i64 t353)) (fun _ hk => hk.2) (.int .i64 t354)) (fun _ hk => hk.2) (.slice Ao33 t355.length co33)) (fun _ hk => hk.2) (.int .i64 t358)) (fun _ h_ => h_.1)))); (case side2 => exact (rR HO338.out).2.1); rintro e w34 ⟨v363, rfl, ho0, hb⟩; refine ⟨_, rfl, ?_⟩; have n0_ := Aside0.mk (rF (by (with_reducible repeat (first | apply rA | apply rN | apply rD)); exact (rM (Kd.R_far (p := ⟨gb360, 4, none⟩) (Kd.R_far (p := ⟨gb360, 3, none⟩) (Kd.R_far (p := ⟨gb360, 2, none⟩) (Kd.R_far (p := ⟨gb360, 1, none⟩) (Kd.R_far (p := ⟨gb360, 0, none⟩) (Kd.R_types HO338.out BK360.out (by decide)) (fun _ hk => hk.2) (.slice Ao30 t350.length co30)) (fun _ hk => hk.2) (.int .i64 t353)) (fun _ hk => hk.2) (.int .i64 t354)) (fun _ hk => hk.2) (.slice Ao33 t355.length co33)) (fun _ hk => hk.2) (.int .i64 t358)) (fun _ h_ => h_.1))) (rE ho0) hb); have n1_ := Aside0.mk (rF (by (with_reducible repeat (first | apply rA | apply rN | apply rD)); exact (rM (Kd.R_far (p := ⟨gb360, 4, none⟩) (Kd.R_far (p := ⟨gb360, 3, none⟩) (Kd.R_far (p := ⟨gb360, 2, none⟩) (Kd.R_far (p := ⟨gb360, 1, none⟩) (Kd.R_far (p := ⟨gb360, 0, none⟩) (Kd.R_types HO341.out BK360.out (by decide)) (fun _ hk => hk.2) (.slice Ao30 t350.length co30)) (fun _ hk => hk.2) (.int .i64 t353)) (fun _ hk => hk.2) (.int .i64 t354)) (fun _ hk => hk.2) (.slice Ao33 t355.length co33)) (fun _ hk => hk.2) (.int .i64 t358)) (fun _ h_ => h_.1))) (rE ho0) hb); have n2_ := Aside0.mk (rB (by (with_reducible repeat (first | apply rA | apply rN | apply rD)); exact (rM (Kd.R_far (p := ⟨gb360, 4, none⟩) (Kd.R_far (p := ⟨gb360, 3, none⟩) (Kd.R_far (p := ⟨gb360, 2, none⟩) (Kd.R_far (p := ⟨gb360, 1, none⟩) (Kd.R_far (p := ⟨gb360, 0, none⟩) (Kd.R_types HO346.out BK360.out (by decide)) (fun _ hk => hk.2) (.slice Ao30 t350.length co30)) (fun _ hk => hk.2) (.int .i64 t353)) (fun _ hk => hk.2) (.int .i64 t354)) (fun _ hk => hk.2) (.slice Ao33 t355.length co33)) (fun _ hk => hk.2) (.int .i64 t358)) (fun _ h_ => h_.1))) hb); have n3_ := Aside0.mk (rF (by (with_reducible repeat (first | apply rA | apply rN | apply rD)); exact (rM (Kd.R_far (p := ⟨gb360, 4, none⟩) (Kd.R_far (p := ⟨gb360, 3, none⟩) (Kd.R_far (p := ⟨gb360, 2, none⟩) (Kd.R_far (p := ⟨gb360, 1, none⟩) (Kd.R_far (p := ⟨gb360, 0, none⟩) (Kd.R_types HO352.out BK360.out (by decide)) (fun _ hk => hk.2) (.slice Ao30 t350.length co30)) (fun _ hk => hk.2) (.int .i64 t353)) (fun _ hk => hk.2) (.int .i64 t354)) (fun _ hk => hk.2) (.slice Ao33 t355.length co33)) (fun _ hk => hk.2) (.int .i64 t358)) (fun _ h_ => h_.1))) (rE ho0) hb); have n4_ := Aside0.mk (rB (by (with_reducible repeat (first | apply rA | apply rN | apply rD)); exact (rM (Kd.R_far (p := ⟨gb360, 4, none⟩) (Kd.R_far (p := ⟨gb360, 3, none⟩) (Kd.R_far (p := ⟨gb360, 2, none⟩) (Kd.R_far (p := ⟨gb360, 1, none⟩) (Kd.R_far (p := ⟨gb360, 0, none⟩) (Kd.R_types HO357.out BK360.out (by decide)) (fun _ hk => hk.2) (.slice Ao30 t350.length co30)) (fun _ hk => hk.2) (.int .i64 t353)) (fun _ hk => hk.2) (.int .i64 t354)) (fun _ hk => hk.2) (.slice Ao33 t355.length co33)) (fun _ hk => hk.2) (.int .i64 t358)) (fun _ h_ => h_.1))) hb); have n5_ := Aside0.mk (Kd.R_lower (Kd.R_new' (Kd.R_new' (Kd.R_new' ho0 (Kd.R_lt (by (with_reducible repeat (first | apply rA | apply rN | apply rD)); exact (rM (Kd.R_far (p := ⟨gb360, 4, none⟩) (Kd.R_far (p := ⟨gb360, 3, none⟩) (Kd.R_far (p := ⟨gb360, 2, none⟩) (Kd.R_far (p := ⟨gb360, 1, none⟩) (Kd.R_far (p := ⟨gb360, 0, none⟩) (Kd.R_types HO338.out BK360.out (by decide)) (fun _ hk => hk.2) (.slice Ao30 t350.length co30)) (fun _ hk => hk.2) (.int .i64 t353)) (fun _ hk => hk.2) (.int .i64 t354)) (fun _ hk => hk.2) (.slice Ao33 t355.length co33)) (fun _ hk => hk.2) (.int .i64 t358)) (fun _ h_ => h_.1))))) (Kd.R_lt (by (with_reducible repeat (first | apply rA | apply rN | apply rD)); exact (rM (Kd.R_far (p := ⟨gb360, 4, none⟩) (Kd.R_far (p := ⟨gb360, 3, none⟩) (Kd.R_far (p := ⟨gb360, 2, none⟩) (Kd.R_far (p := ⟨gb360, 1, none⟩) (Kd.R_far (p := ⟨gb360, 0, none⟩) (Kd.R_types HO341.out BK360.out (by decide)) (fun _ hk => hk.2) (.slice Ao30 t350.length co30)) (fun _ hk => hk.2) (.int .i64 t353)) (fun _ hk => hk.2) (.int .i64 t354)) (fun _ hk => hk.2) (.slice Ao33 t355.length co33)) (fun _ hk => hk.2) (.int .i64 t358)) (fun _ h_ => h_.1))))) (Kd.R_lt (by (with_reducible repeat (first | apply rA | apply rN | apply rD)); exact (rM (Kd.R_far (p := ⟨gb360, 4, none⟩) (Kd.R_far (p := ⟨gb360, 3, none⟩) (Kd.R_far (p := ⟨gb360, 2, none⟩) (Kd.R_far (p := ⟨gb360, 1, none⟩) (Kd.R_far (p := ⟨gb360, 0, none⟩) (Kd.R_types HO352.out BK360.out (by decide)) (fun _ hk => hk.2) (.slice Ao30 t350.length co30)) (fun _ hk => hk.2) (.int .i64 t353)) (fun _ hk => hk.2) (.int .i64 t354)) (fun _ hk => hk.2) (.slice Ao33 t355.length co33)) (fun _ hk => hk.2) (.int .i64 t358)) (fun _ h_ => h_.1))))) (below_size (by repeat (first | (with_reducible first | exact HB.out | apply bA | apply bN | apply bD | refine bS ?_ GE349.out | refine bS ?_ GE360.out) | exact HB.out)))); have n6_ := Aside0.mk (blk_below (g := gb349) (o := .cells #[.slice Ao25 t339.length co25, .int .i64 t342, .int .i64 t343, .slice Ao27 t344.length co27, .int .i64 t347] 60 (0, 0)) (by (with_reducible repeat (first | refine lN ?_ _ | refine lD ?_ | refine lA ?_ _)); refine lX ?_ NB349_360.out _; (with_reducible repeat (first | refine lN ?_ _ | refine lD ?_ | refine lA ?_ _)); refine lX ?_ NB349_360.out _; (with_reducible repeat (first | refine lN ?_ _ | refine lD ?_ | refine lA ?_ _)); refine lX ?_ NB349_360.out _; (with_reducible repeat (first | refine lN ?_ _ | refine lD ?_ | refine lA ?_ _)); refine lX ?_ NB349_360.out _; (with_reducible repeat (first | refine lN ?_ _ | refine lD ?_ | refine lA ?_ _)); refine lX ?_ NB349_360.out _; (with_reducible repeat (first | refine lN ?_ _ | refine lD ?_ | refine lA ?_ _)); exact BK349.out) hb); have n7_ := Aside0.mk (blk_below (g := gb360) (o := .cells #[.slice Ao30 t350.length co30, .int .i64 t353, .int .i64 t354, .slice Ao33 t355.length co33, .int .i64 t358] 60 (0, 0)) (by (with_reducible repeat (first | refine lN ?_ _ | refine lD ?_ | refine lA ?_ _)); refine lP (cs := #[.slice Ao30 t350.length co30, .int .i64 t353, .int .i64 t354, .slice Ao33 t355.length co33, .int .i64 0]) ?_ 4 _ rfl; (with_reducible repeat (first | refine lN ?_ _ | refine lD ?_ | refine lA ?_ _)); refine lP (cs := #[.slice Ao30 t350.length co30, .int .i64 t353, .int .i64 t354, .slice none 0 0, .int .i64 0]) ?_ 3 _ rfl; (with_reducible repeat (first | refine lN ?_ _ | refine lD ?_ | refine lA ?_ _)); refine lP (cs := #[.slice Ao30 t350.length co30, .int .i64 t353, .int .i64 0, .slice none 0 0, .int .i64 0]) ?_ 2 _ rfl; (with_reducible repeat (first | refine lN ?_ _ | refine lD ?_ | refine lA ?_ _)); refine lP (cs := #[.slice Ao30 t350.length co30, .int .i64 0, .int .i64 0, .slice none 0 0, .int .i64 0]) ?_ 1 _ rfl; (with_reducible repeat (first | refine lN ?_ _ | refine lD ?_ | refine lA ?_ _)); refine lP (cs := #[.slice none 0 0, .int .i64 0, .int .i64 0, .slice none 0 0, .int .i64 0]) ?_ 0 _ rfl; (with_reducible repeat (first | refine lN ?_ _ | refine lD ?_ | refine lA ?_ _)); exact BK360.out) hb); have n8_ := Aside0.mk (below_step (by repeat (first | (with_reducible first | exact HB.out | apply bA | apply bN | apply bD | refine bS ?_ GE349.out | refine bS ?_ GE360.out) | exact HB.out)) hb); clear HO338; clear HO341; clear HO346; clear HO352; clear HO357; clear BK349; clear BK360; clear HB; have HO338 := n0_; have HO341 := n1_; have HO346 := n2_; have HO352 := n3_; have HO357 := n4_; have HO364 := n5_; have BK349 := n6_; have BK360 := n7_; have HB := n8_; clear n0_ n1_ n2_ n3_ n4_ n5_ n6_ n7_ n8_; (try clear hb); (try clear hb2); (try clear hk); (try clear hi); (try clear ho0)) | ((with_reducible refine gate_callee (f := 52) rfl ?_); refine goesL_ (some 70) rfl rfl Try.func52 (by kernel_rfl) rfl #[.slice Ao22 t334.length co22] rfl (by (try simp only [List.map_toArray, List.map_cons, List.map_nil]); first | done | rfl | (simp only [List.length_drop, List.length_take]; rfl)) ?_; (with_reducible refine (spec_PublicsOf.calls k _ _ t334 t365 t366 _ ?side1 ?side2 A8.out).mono ?_); (case side1 => repeat (first | exact (rR HO338.out).2.2 | (with_reducible first | refine cA ?_ _ | refine cN ?_ _ | refine cD ?_))); (case side2 => exact (rR HO338.out).2.1); rintro e w35 ⟨v367, rfl, ho0, hb⟩; refine ⟨_, rfl, ?_⟩; have n0_ := Aside0.mk (rF (by (with_reducible repeat (first | apply rA | apply rN | apply rD)); exact HO338.out) (rE ho0) hb); have n1_ := Aside0.mk (rF (by (with_reducible repeat (first | apply rA | apply rN | apply rD)); exact HO341.out) (rE ho0) hb); have n2_ := Aside0.mk (rB (by (with_reducible repeat (first | apply rA | apply rN | apply rD)); exact HO346.out) hb); have n3_ := Aside0.mk (rF (by (with_reducible repeat (first | apply rA | apply rN | apply rD)); exact HO352.out) (rE ho0) hb); have n4_ := Aside0.mk (rB (by (with_reducible repeat (first | apply rA | apply rN | apply rD)); exact HO357.out) hb); have n5_ := Aside0.mk (rF (by (with_reducible repeat (first | apply rA | apply rN | apply rD)); exact HO364.out) (rE ho0) hb); have n6_ := Aside0.mk (Kd.R_lower (Kd.R_new' (Kd.R_new' (Kd.R_new' (Kd.R_new' ho0 (Kd.R_lt (by (with_reducible repeat (first | apply rA | apply rN | apply rD)); exact HO338.out))) (Kd.R_lt (by (with_reducible repeat (first | apply rA | apply rN | apply rD)); exact HO341.out))) (Kd.R_lt (by (with_reducible repeat (first | apply rA | apply rN | apply rD)); exact HO352.out))) (Kd.R_lt (by (with_reducible repeat (first | apply rA | apply rN | apply rD)); exact HO364.out))) (below_size (by repeat (first | (with_reducible first | exact HB.out | apply bA | apply bN | apply bD | refine bS ?_ GE349.out | refine bS ?_ GE360.out) | exact HB.out)))); have n7_ := Aside0.mk (blk_below (g := gb349) (o := .cells #[.slice Ao25 t339.length co25, .int .i64 t342, .int .i64 t343, .slice Ao27 t344.length co27, .int .i64 t347] 60 (0, 0)) (by (with_reducible repeat (first | refine lN ?_ _ | refine lD ?_ | refine lA ?_ _)); exact BK349.out) hb); have n8_ := Aside0.mk (blk_below (g := gb360) (o := .cells #[.slice Ao30 t350.length co30, .int .i64 t353, .int .i64 t354, .slice Ao33 t355.length co33, .int .i64 t358] 60 (0, 0)) (by (with_reducible repeat (first | refine lN ?_ _ | refine lD ?_ | refine lA ?_ _)); exact BK360.out) hb); have n9_ := Aside0.mk (below_step (by repeat (first | (with_reducible first | exact HB.out | apply bA | apply bN | apply bD | refine bS ?_ GE349.out | refine bS ?_ GE360.out) | exact HB.out)) hb); clear HO338; clear HO341; clear HO346; clear HO352; clear HO357; clear HO364; clear BK349; clear BK360; clear HB; have HO338 := n0_; have HO341 := n1_; have HO346 := n2_; have HO352 := n3_; have HO357 := n4_; have HO364 := n5_; have HO368 := n6_; have BK349 := n7_; have BK360 := n8_; have HB := n9_; clear n0_ n1_ n2_ n3_ n4_ n5_ n6_ n7_ n8_ n9_; (try clear hb); (try clear hb2); (try clear hk); (try clear hi); (try clear ho0); have hcz36_0 : w35.cell? ⟨gb349, 0, none⟩ = some (.slice Ao25 t339.length co25) := (lC BK349.out 0).trans rfl; have hcz36_1 : w35.cell? ⟨gb349, 1, none⟩ = some (.int .i64 t342) := (lC BK349.out 1).trans rfl; have hcz36_2 : w35.cell? ⟨gb349, 2, none⟩ = some (.int .i64 t343) := (lC BK349.out 2).trans rfl; have hcz36_3 : w35.cell? ⟨gb349, 3, none⟩ = some (.slice Ao27 t344.length co27) := (lC BK349.out 3).trans rfl; have hcz36_4 : w35.cell? ⟨gb349, 4, none⟩ = some (.int .i64 t347) := (lC BK349.out 4).trans rfl; have hfz36_0 := lF BK349.out 0; have hfz36_1 := lF BK349.out 1; have hfz36_2 := lF BK349.out 2; have hfz36_3 := lF BK349.out 3; have hfz36_4 := lF BK349.out 4; have hcz37_0 : w35.cell? ⟨gb360, 0, none⟩ = some (.slice Ao30 t350.length co30) := (lC BK360.out 0).trans rfl; have hcz37_1 : w35.cell? ⟨gb360, 1, none⟩ = some (.int .i64 t353) := (lC BK360.out 1).trans rfl; have hcz37_2 : w35.cell? ⟨gb360, 2, none⟩ = some (.int .i64 t354) := (lC BK360.out 2).trans rfl; have hcz37_3 : w35.cell? ⟨gb360, 3, none⟩ = some (.slice Ao33 t355.length co33) := (lC BK360.out 3).trans rfl; have hcz37_4 : w35.cell? ⟨gb360, 4, none⟩ = some (.int .i64 t358) := (lC BK360.out 4).trans rfl; have hfz37_0 := lF BK360.out 0; have hfz37_1 := lF BK360.out 1; have hfz37_2 := lF BK360.out 2; have hfz37_3 := lF BK360.out 3; have hfz37_4 := lF BK360.out 4) | (go_at_call 10; (with_reducible refine (laws_sameInts.calls k _ _ t339 _ _ t350 true _ ?side1 ?side2 ?side3 ?side4 A10.out).mono ?_); (case side1 => repeat (first | exact (rR HO341.out).2.2 | (with_reducible first | refine cA ?_ _ | refine cN ?_ _ | refine cD ?_))); (case side2 => exact (rR HO341.out).2.1); (case side3 => repeat (first | exact (rR HO352.out).2.2 | (with_reducible first | refine cA ?_ _ | refine cN ?_ _ | refine cD ?_))); (case side4 => exact (rR HO352.out).2.1); rintro e w' ⟨rfl, ⟨nd, rfl⟩⟩) | (go_at_call 53; (with_reducible refine (laws_sameReceipts.calls k _ _ t344 _ _ t355 true _ ?side1 ?side2 ?side3 ?side4 A14.out).mono ?_); (case side1 => repeat (first | exact (rR HO346.out).2.2 | (with_reducible first | refine cA ?_ _ | refine cN ?_ _ | refine cD ?_))); (case side2 => exact (rR HO346.out).2.1); (case side3 => repeat (first | exact (rR HO357.out).2.2 | (with_reducible first | refine cA ?_ _ | refine cN ?_ _ | refine cD ?_))); (case side4 => exact (rR HO357.out).2.1); rintro e w' ⟨rfl, ⟨nd, rfl⟩⟩; obtain ⟨Ao38, co38, eo38⟩ := rS HO364.out; subst eo38; obtain ⟨Ao39, co39, eo39⟩ := rS HO368.out; subst eo39) | (go_at_call 10; (with_reducible refine (laws_sameInts.calls k _ _ t361 _ _ t365 true _ ?side1 ?side2 ?side3 ?side4 A18.out).mono ?_); (case side1 => repeat (first | exact (rR HO364.out).2.2 | (with_reducible first | refine cA ?_ _ | refine cN ?_ _ | refine cD ?_))); (case side2 => exact (rR HO364.out).2.1); (case side3 => repeat (first | exact (rR HO368.out).2.2 | (with_reducible first | refine cA ?_ _ | refine cN ?_ _ | refine cD ?_))); (case side4 => exact (rR HO368.out).2.1); rintro e w' ⟨rfl, ⟨nd, rfl⟩⟩))
          (try simp only [Act.put, List.setIfInBounds_toArray, List.set_cons_zero, List.set_cons_succ])
          go_cut [] from 99999 (fun wc => ∃ (kq : Nat), Aside0 (laws_FnBlamed.j2 kq l1 = some r) ∧ Aside0 (kq ≤ k) ∧ Aside0 (Kd.R (Kd.int .i64) 3 wc w.heap.size (fun k_ => some k_ ≠ ((.slice Ao30 t350.length co30) : Value).ownBlock) (.slice Ao25 t339.length co25) t339) ∧ Aside0 (Kd.R k71 71 wc w.heap.size (fun k_ => some k_ ≠ ((.slice Ao33 t355.length co33) : Value).ownBlock) (.slice Ao27 t344.length co27) t344) ∧ Aside0 (Kd.R (Kd.int .i64) 3 wc w.heap.size (fun k_ => some k_ ≠ ((.slice Ao25 t339.length co25) : Value).ownBlock) (.slice Ao30 t350.length co30) t350) ∧ Aside0 (Kd.R k71 71 wc w.heap.size (fun k_ => some k_ ≠ ((.slice Ao27 t344.length co27) : Value).ownBlock) (.slice Ao33 t355.length co33) t355) ∧ Aside0 (wc.heap[gb349]? = some (.cells #[(.slice Ao25 t339.length co25), .int .i64 t342, .int .i64 t343, (.slice Ao27 t344.length co27), .int .i64 t347] 60 (0, 0))) ∧ Aside0 (wc.heap[gb360]? = some (.cells #[(.slice Ao30 t350.length co30), .int .i64 t353, .int .i64 t354, (.slice Ao33 t355.length co33), .int .i64 t358] 60 (0, 0))) ∧ Aside0 (Below w.heap.size w wc))
          case first =>
           have H := HC20.out
           clear HC20
           by_cases c40 : t348 = true
           ·subst c40
            have H1 : ((impl_BlameOf.f k t361 t335 t344).bind fun bt372 => ((impl_WholeTrip.f k t361 t335 t344).bind fun bt374 => (if t362 = true then (if bt372.2 = true then (if bt374.2 = true then (if t336 < 0 then (if (bt374.1 != true) = true then (some false) else (if t336 ≥ 0 then (if bt372.1 = t336 then (if bt372.1 = (wrap64 ((t334.length : Int) - 1)) then (laws_FnBlamed.j0 k l1 t361 bt372.1 (t343 != bt372.1) t339 t342 t343 t344 t347) else (some false)) else (some false)) else (if bt372.1 = (wrap64 ((t334.length : Int) - 1)) then (laws_FnBlamed.j0 k l1 t361 bt372.1 (t343 != bt372.1) t339 t342 t343 t344 t347) else (some false)))) else (if (bt374.1 != (t336 == (wrap64 ((t334.length : Int) - 1)))) = true then (some false) else (if t336 ≥ 0 then (if bt372.1 = t336 then (laws_FnBlamed.j0 k l1 t361 bt372.1 (t343 != bt372.1) t339 t342 t343 t344 t347) else (some false)) else (laws_FnBlamed.j0 k l1 t361 bt372.1 (t343 != bt372.1) t339 t342 t343 t344 t347)))) else (some false)) else (some false)) else (some false)))) = some r := by rw [if_pos rfl] at H; exact H
            clear H
            have H := H1
            clear H1
            replace H := oB H
            obtain ⟨⟨t372, t373⟩, A410, H⟩ := H
            replace H : ((impl_WholeTrip.f k t361 t335 t344).bind fun bt374 => (if t362 = true then (if t373 = true then (if bt374.2 = true then (if t336 < 0 then (if (bt374.1 != true) = true then (some false) else (if t336 ≥ 0 then (if t372 = t336 then (if t372 = (wrap64 ((t334.length : Int) - 1)) then (laws_FnBlamed.j0 k l1 t361 t372 (t343 != t372) t339 t342 t343 t344 t347) else (some false)) else (some false)) else (if t372 = (wrap64 ((t334.length : Int) - 1)) then (laws_FnBlamed.j0 k l1 t361 t372 (t343 != t372) t339 t342 t343 t344 t347) else (some false)))) else (if (bt374.1 != (t336 == (wrap64 ((t334.length : Int) - 1)))) = true then (some false) else (if t336 ≥ 0 then (if t372 = t336 then (laws_FnBlamed.j0 k l1 t361 t372 (t343 != t372) t339 t342 t343 t344 t347) else (some false)) else (laws_FnBlamed.j0 k l1 t361 t372 (t343 != t372) t339 t342 t343 t344 t347)))) else (some false)) else (some false)) else (some false))) = some r := H
            have A41 := Aside0.mk A410
            clear A410
            replace H := oB H
            obtain ⟨⟨t374, t375⟩, A420, H⟩ := H
            replace H : (if t362 = true then (if t373 = true then (if t375 = true then (if t336 < 0 then (if (t374 != true) = true then (some false) else (if t336 ≥ 0 then (if t372 = t336 then (if t372 = (wrap64 ((t334.length : Int) - 1)) then (laws_FnBlamed.j0 k l1 t361 t372 (t343 != t372) t339 t342 t343 t344 t347) else (some false)) else (some false)) else (if t372 = (wrap64 ((t334.length : Int) - 1)) then (laws_FnBlamed.j0 k l1 t361 t372 (t343 != t372) t339 t342 t343 t344 t347) else (some false)))) else (if (t374 != (t336 == (wrap64 ((t334.length : Int) - 1)))) = true then (some false) else (if t336 ≥ 0 then (if t372 = t336 then (laws_FnBlamed.j0 k l1 t361 t372 (t343 != t372) t339 t342 t343 t344 t347) else (some false)) else (laws_FnBlamed.j0 k l1 t361 t372 (t343 != t372) t339 t342 t343 t344 t347)))) else (some false)) else (some false)) else (some false)) = some r := H
            have A42 := Aside0.mk A420
            clear A420
            have HC43 := Aside0.mk H
            clear H
            have hnb44 := NB349_360.out
            have hnc44 := NB360_349.out
            have hcz45_0 : w35.cell? ⟨gb349, 0, none⟩ = some (.slice Ao25 t339.length co25) := (lC BK349.out 0).trans rfl
            have hcz45_1 : w35.cell? ⟨gb349, 1, none⟩ = some (.int .i64 t342) := (lC BK349.out 1).trans rfl
            have hcz45_2 : w35.cell? ⟨gb349, 2, none⟩ = some (.int .i64 t343) := (lC BK349.out 2).trans rfl
            have hcz45_3 : w35.cell? ⟨gb349, 3, none⟩ = some (.slice Ao27 t344.length co27) := (lC BK349.out 3).trans rfl
            have hcz45_4 : w35.cell? ⟨gb349, 4, none⟩ = some (.int .i64 t347) := (lC BK349.out 4).trans rfl
            have hfz45_0 := lF BK349.out 0
            have hfz45_1 := lF BK349.out 1
            have hfz45_2 := lF BK349.out 2
            have hfz45_3 := lF BK349.out 3
            have hfz45_4 := lF BK349.out 4
            go_upto_region 14 with (first | ((with_reducible refine gate_callee (f := 54) rfl ?_); refine goesL_ (some 130) rfl rfl Try.func54 (by kernel_rfl) rfl #[.slice Ao38 t361.length co38, .int .i64 t335, .slice Ao27 t344.length co27] rfl (by (try simp only [List.map_toArray, List.map_cons, List.map_nil]); first | done | rfl | (simp only [List.length_drop, List.length_take]; rfl)) ?_; (with_reducible refine (impl_BlameOf.calls k _ _ t361 t335 _ _ t344 t372 t373 _ ?side1 ?side2 ?side3 ?side4 A41.out).mono ?_); (case side1 => repeat (first | exact (rR HO364.out).2.2 | (with_reducible first | refine cA ?_ _ | refine cN ?_ _ | refine cD ?_))); (case side2 => exact (rR HO364.out).2.1); (case side3 => repeat (first | exact (rR HO346.out).2.2 | (with_reducible first | refine cA ?_ _ | refine cN ?_ _ | refine cD ?_))); (case side4 => exact (rR HO346.out).2.1); rintro e w46 ⟨rfl, hb⟩; refine ⟨_, rfl, ?_⟩; have n0_ := Aside0.mk (rB (by (with_reducible repeat (first | apply rA | apply rN | apply rD)); exact HO338.out) hb); have n1_ := Aside0.mk (rB (by (with_reducible repeat (first | apply rA | apply rN | apply rD)); exact HO341.out) hb); have n2_ := Aside0.mk (rB (by (with_reducible repeat (first | apply rA | apply rN | apply rD)); exact HO346.out) hb); have n3_ := Aside0.mk (rB (by (with_reducible repeat (first | apply rA | apply rN | apply rD)); exact HO352.out) hb); have n4_ := Aside0.mk (rB (by (with_reducible repeat (first | apply rA | apply rN | apply rD)); exact HO357.out) hb); have n5_ := Aside0.mk (rB (by (with_reducible repeat (first | apply rA | apply rN | apply rD)); exact HO364.out) hb); have n6_ := Aside0.mk (rB (by (with_reducible repeat (first | apply rA | apply rN | apply rD)); exact HO368.out) hb); have n7_ := Aside0.mk (blk_below (g := gb349) (o := .cells #[.slice Ao25 t339.length co25, .int .i64 t342, .int .i64 t343, .slice Ao27 t344.length co27, .int .i64 t347] 60 (0, 0)) (by (with_reducible repeat (first | refine lN ?_ _ | refine lD ?_ | refine lA ?_ _)); exact BK349.out) hb); have n8_ := Aside0.mk (blk_below (g := gb360) (o := .cells #[.slice Ao30 t350.length co30, .int .i64 t353, .int .i64 t354, .slice Ao33 t355.length co33, .int .i64 t358] 60 (0, 0)) (by (with_reducible repeat (first | refine lN ?_ _ | refine lD ?_ | refine lA ?_ _)); exact BK360.out) hb); have n9_ := Aside0.mk (below_step (by repeat (first | (with_reducible first | exact HB.out | apply bA | apply bN | apply bD | refine bS ?_ GE349.out | refine bS ?_ GE360.out) | exact HB.out)) hb); clear HO338; clear HO341; clear HO346; clear HO352; clear HO357; clear HO364; clear HO368; clear BK349; clear BK360; clear HB; have HO338 := n0_; have HO341 := n1_; have HO346 := n2_; have HO352 := n3_; have HO357 := n4_; have HO364 := n5_; have HO368 := n6_; have BK349 := n7_; have BK360 := n8_; have HB := n9_; clear n0_ n1_ n2_ n3_ n4_ n5_ n6_ n7_ n8_ n9_; (try clear hb); (try clear hb2); (try clear hk); (try clear hi); have hcz47_0 : w46.cell? ⟨gb349, 0, none⟩ = some (.slice Ao25 t339.length co25) := (lC BK349.out 0).trans rfl; have hcz47_1 : w46.cell? ⟨gb349, 1, none⟩ = some (.int .i64 t342) := (lC BK349.out 1).trans rfl; have hcz47_2 : w46.cell? ⟨gb349, 2, none⟩ = some (.int .i64 t343) := (lC BK349.out 2).trans rfl; have hcz47_3 : w46.cell? ⟨gb349, 3, none⟩ = some (.slice Ao27 t344.length co27) := (lC BK349.out 3).trans rfl; have hcz47_4 : w46.cell? ⟨gb349, 4, none⟩ = some (.int .i64 t347) := (lC BK349.out 4).trans rfl; have hfz47_0 := lF BK349.out 0; have hfz47_1 := lF BK349.out 1; have hfz47_2 := lF BK349.out 2; have hfz47_3 := lF BK349.out 3; have hfz47_4 := lF BK349.out 4) | ((with_reducible refine gate_callee (f := 55) rfl ?_); refine goesL_ (some 138) rfl rfl Try.func55 (by kernel_rfl) rfl #[.slice Ao38 t361.length co38, .int .i64 t335, .slice Ao27 t344.length co27] rfl (by (try simp only [List.map_toArray, List.map_cons, List.map_nil]); first | done | rfl | (simp only [List.length_drop, List.length_take]; rfl)) ?_; (with_reducible refine (impl_WholeTrip.calls k _ _ t361 t335 _ _ t344 t374 t375 _ ?side1 ?side2 ?side3 ?side4 A42.out).mono ?_); (case side1 => repeat (first | exact (rR HO364.out).2.2 | (with_reducible first | refine cA ?_ _ | refine cN ?_ _ | refine cD ?_))); (case side2 => exact (rR HO364.out).2.1); (case side3 => repeat (first | exact (rR HO346.out).2.2 | (with_reducible first | refine cA ?_ _ | refine cN ?_ _ | refine cD ?_))); (case side4 => exact (rR HO346.out).2.1); rintro e w48 ⟨rfl, hb⟩; refine ⟨_, rfl, ?_⟩; have n0_ := Aside0.mk (rB (by (with_reducible repeat (first | apply rA | apply rN | apply rD)); exact HO338.out) hb); have n1_ := Aside0.mk (rB (by (with_reducible repeat (first | apply rA | apply rN | apply rD)); exact HO341.out) hb); have n2_ := Aside0.mk (rB (by (with_reducible repeat (first | apply rA | apply rN | apply rD)); exact HO346.out) hb); have n3_ := Aside0.mk (rB (by (with_reducible repeat (first | apply rA | apply rN | apply rD)); exact HO352.out) hb); have n4_ := Aside0.mk (rB (by (with_reducible repeat (first | apply rA | apply rN | apply rD)); exact HO357.out) hb); have n5_ := Aside0.mk (rB (by (with_reducible repeat (first | apply rA | apply rN | apply rD)); exact HO364.out) hb); have n6_ := Aside0.mk (rB (by (with_reducible repeat (first | apply rA | apply rN | apply rD)); exact HO368.out) hb); have n7_ := Aside0.mk (blk_below (g := gb349) (o := .cells #[.slice Ao25 t339.length co25, .int .i64 t342, .int .i64 t343, .slice Ao27 t344.length co27, .int .i64 t347] 60 (0, 0)) (by (with_reducible repeat (first | refine lN ?_ _ | refine lD ?_ | refine lA ?_ _)); exact BK349.out) hb); have n8_ := Aside0.mk (blk_below (g := gb360) (o := .cells #[.slice Ao30 t350.length co30, .int .i64 t353, .int .i64 t354, .slice Ao33 t355.length co33, .int .i64 t358] 60 (0, 0)) (by (with_reducible repeat (first | refine lN ?_ _ | refine lD ?_ | refine lA ?_ _)); exact BK360.out) hb); have n9_ := Aside0.mk (below_step (by repeat (first | (with_reducible first | exact HB.out | apply bA | apply bN | apply bD | refine bS ?_ GE349.out | refine bS ?_ GE360.out) | exact HB.out)) hb); clear HO338; clear HO341; clear HO346; clear HO352; clear HO357; clear HO364; clear HO368; clear BK349; clear BK360; clear HB; have HO338 := n0_; have HO341 := n1_; have HO346 := n2_; have HO352 := n3_; have HO357 := n4_; have HO364 := n5_; have HO368 := n6_; have BK349 := n7_; have BK360 := n8_; have HB := n9_; clear n0_ n1_ n2_ n3_ n4_ n5_ n6_ n7_ n8_ n9_; (try clear hb); (try clear hb2); (try clear hk); (try clear hi)))
            (try simp only [Act.put, List.setIfInBounds_toArray, List.set_cons_zero, List.set_cons_succ])
            go_cut [188] from 99999 (fun v188 wc => ∃ (kq : Nat) (x188_42 : Bool), v188 = .bool x188_42 ∧ Aside0 (laws_FnBlamed.j0 kq l1 t361 t372 x188_42 t339 t342 t343 t344 t347 = some r) ∧ Aside0 (kq ≤ k) ∧ Aside0 (Kd.R (Kd.int .i64) 3 wc w.heap.size (fun k_ => some k_ ≠ ((.slice Ao25 t339.length co25) : Value).ownBlock ∧ some k_ ≠ ((.slice Ao30 t350.length co30) : Value).ownBlock) (.slice Ao38 t361.length co38) t361) ∧ Aside0 (Kd.R (Kd.int .i64) 3 wc w.heap.size (fun k_ => some k_ ≠ ((.slice Ao38 t361.length co38) : Value).ownBlock ∧ some k_ ≠ ((.slice Ao30 t350.length co30) : Value).ownBlock) (.slice Ao25 t339.length co25) t339) ∧ Aside0 (Kd.R k71 71 wc w.heap.size (fun k_ => some k_ ≠ ((.slice Ao33 t355.length co33) : Value).ownBlock) (.slice Ao27 t344.length co27) t344) ∧ Aside0 (Kd.R (Kd.int .i64) 3 wc w.heap.size (fun k_ => some k_ ≠ ((.slice Ao38 t361.length co38) : Value).ownBlock ∧ some k_ ≠ ((.slice Ao25 t339.length co25) : Value).ownBlock) (.slice Ao30 t350.length co30) t350) ∧ Aside0 (Kd.R k71 71 wc w.heap.size (fun k_ => some k_ ≠ ((.slice Ao27 t344.length co27) : Value).ownBlock) (.slice Ao33 t355.length co33) t355) ∧ Aside0 (wc.heap[gb349]? = some (.cells #[(.slice Ao25 t339.length co25), .int .i64 t342, .int .i64 t343, (.slice Ao27 t344.length co27), .int .i64 t347] 60 (0, 0))) ∧ Aside0 (wc.heap[gb360]? = some (.cells #[(.slice Ao30 t350.length co30), .int .i64 t353, .int .i64 t354, (.slice Ao33 t355.length co33), .int .i64 t358] 60 (0, 0))) ∧ Aside0 (Below w.heap.size w wc))
            case first =>
             have H := HC43.out
             clear HC43
             by_cases c49 : t362 = true
             ·subst c49
              have H1 : (if t373 = true then (if t375 = true then (if t336 < 0 then (if (t374 != true) = true then (some false) else (if t336 ≥ 0 then (if t372 = t336 then (if t372 = (wrap64 ((t334.length : Int) - 1)) then (laws_FnBlamed.j0 k l1 t361 t372 (t343 != t372) t339 t342 t343 t344 t347) else (some false)) else (some false)) else (if t372 = (wrap64 ((t334.length : Int) - 1)) then (laws_FnBlamed.j0 k l1 t361 t372 (t343 != t372) t339 t342 t343 t344 t347) else (some false)))) else (if (t374 != (t336 == (wrap64 ((t334.length : Int) - 1)))) = true then (some false) else (if t336 ≥ 0 then (if t372 = t336 then (laws_FnBlamed.j0 k l1 t361 t372 (t343 != t372) t339 t342 t343 t344 t347) else (some false)) else (laws_FnBlamed.j0 k l1 t361 t372 (t343 != t372) t339 t342 t343 t344 t347)))) else (some false)) else (some false)) = some r := by rw [if_pos rfl] at H; exact H
              clear H
              have H := H1
              clear H1
              by_cases c50 : t373 = true
              ·subst c50
               have H1 : (if t375 = true then (if t336 < 0 then (if (t374 != true) = true then (some false) else (if t336 ≥ 0 then (if t372 = t336 then (if t372 = (wrap64 ((t334.length : Int) - 1)) then (laws_FnBlamed.j0 k l1 t361 t372 (t343 != t372) t339 t342 t343 t344 t347) else (some false)) else (some false)) else (if t372 = (wrap64 ((t334.length : Int) - 1)) then (laws_FnBlamed.j0 k l1 t361 t372 (t343 != t372) t339 t342 t343 t344 t347) else (some false)))) else (if (t374 != (t336 == (wrap64 ((t334.length : Int) - 1)))) = true then (some false) else (if t336 ≥ 0 then (if t372 = t336 then (laws_FnBlamed.j0 k l1 t361 t372 (t343 != t372) t339 t342 t343 t344 t347) else (some false)) else (laws_FnBlamed.j0 k l1 t361 t372 (t343 != t372) t339 t342 t343 t344 t347)))) else (some false)) = some r := by rw [if_pos rfl] at H; exact H
               clear H
               have H := H1
               clear H1
               by_cases c51 : t375 = true
               ·subst c51
                have H1 : (if t336 < 0 then (if (t374 != true) = true then (some false) else (if t336 ≥ 0 then (if t372 = t336 then (if t372 = (wrap64 ((t334.length : Int) - 1)) then (laws_FnBlamed.j0 k l1 t361 t372 (t343 != t372) t339 t342 t343 t344 t347) else (some false)) else (some false)) else (if t372 = (wrap64 ((t334.length : Int) - 1)) then (laws_FnBlamed.j0 k l1 t361 t372 (t343 != t372) t339 t342 t343 t344 t347) else (some false)))) else (if (t374 != (t336 == (wrap64 ((t334.length : Int) - 1)))) = true then (some false) else (if t336 ≥ 0 then (if t372 = t336 then (laws_FnBlamed.j0 k l1 t361 t372 (t343 != t372) t339 t342 t343 t344 t347) else (some false)) else (laws_FnBlamed.j0 k l1 t361 t372 (t343 != t372) t339 t342 t343 t344 t347)))) = some r := by rw [if_pos rfl] at H; exact H
                clear H
                have H := H1
                clear H1
                by_cases c52 : t336 < 0
                ·rw [if_pos c52] at H
                 have c52b0 : decide (t336 < 0) = true := decide_eq_true c52
                 clear c52
                 (first | rw [c52b0] | (simp only [i64_w, i32_w]; rw [c52b0]) | skip)
                 by_cases c53 : (t374 != true) = true
                 ·rw [if_pos c53] at H
                  have c53b0 : (t374 != true) = true := c53
                  (try (have c53b1 : decide (t374 = true) = false := by simpa using c53))
                  (try (have c53b2 : (t374 == true) = false := by simpa using c53))
                  (try (have c53b3 : ¬ (t374 = true) := by simpa using c53))
                  clear c53
                  obtain rfl := Option.some.inj H
                  exact absurd hr_.out (by simp)
                 ·rw [if_neg c53] at H
                  have c53b0 : (t374 != true) = false := by simpa using c53
                  (try (have c53b1 : decide (t374 = true) = true := by simpa using c53))
                  (try (have c53b2 : (t374 == true) = true := by simpa using c53))
                  clear c53
                  by_cases c54 : t336 ≥ 0
                  ·rw [if_pos c54] at H
                   have c54b0 : decide (0 ≤ t336) = true := decide_eq_true c54
                   clear c54
                   by_cases c55 : t372 = t336
                   ·rw [if_pos c55] at H
                    have c55b0 : (t372 == t336) = true := beq_iff_eq.mpr c55
                    have c55b1 : (t372 != t336) = false := bne_eq_false_iff_eq.mpr c55
                    clear c55
                    by_cases c56 : t372 = (wrap64 ((t334.length : Int) - 1))
                    ·rw [if_pos c56] at H
                     have c56b0 : (t372 == (wrap64 ((t334.length : Int) - 1))) = true := beq_iff_eq.mpr c56
                     have c56b1 : (t372 != (wrap64 ((t334.length : Int) - 1))) = false := bne_eq_false_iff_eq.mpr c56
                     clear c56
                     have H' := Aside0.mk H
                     clear H
                     have hnb57 := NB349_360.out
                     have hnc57 := NB360_349.out
                     have hcz58_0 : w48.cell? ⟨gb349, 0, none⟩ = some (.slice Ao25 t339.length co25) := (lC BK349.out 0).trans rfl
                     have hcz58_1 : w48.cell? ⟨gb349, 1, none⟩ = some (.int .i64 t342) := (lC BK349.out 1).trans rfl
                     have hcz58_2 : w48.cell? ⟨gb349, 2, none⟩ = some (.int .i64 t343) := (lC BK349.out 2).trans rfl
                     have hcz58_3 : w48.cell? ⟨gb349, 3, none⟩ = some (.slice Ao27 t344.length co27) := (lC BK349.out 3).trans rfl
                     have hcz58_4 : w48.cell? ⟨gb349, 4, none⟩ = some (.int .i64 t347) := (lC BK349.out 4).trans rfl
                     have hfz58_0 := lF BK349.out 0
                     have hfz58_1 := lF BK349.out 1
                     have hfz58_2 := lF BK349.out 2
                     have hfz58_3 := lF BK349.out 3
                     have hfz58_4 := lF BK349.out 4
                     go_wp2
                     go_meet
                     case rel => exact ⟨_, ((t343 != t372)), (by first | rfl | (simp; done) | (simp [*]; done)), H', ⟨by first | omega | exact Nat.le_refl _⟩, ⟨by (with_reducible repeat (first | apply rA | apply rN | apply rD)); exact rM HO364.out (fun _ hk => ⟨hk.1.1.2, hk.1.2⟩)⟩, ⟨by (with_reducible repeat (first | apply rA | apply rN | apply rD)); exact rM HO341.out (fun _ hk => ⟨hk.1.2, hk.1.1.2⟩)⟩, ⟨by (with_reducible repeat (first | apply rA | apply rN | apply rD)); exact rM HO346.out (fun _ hk => hk.2)⟩, ⟨by (with_reducible repeat (first | apply rA | apply rN | apply rD)); exact rM HO352.out (fun _ hk => ⟨hk.1.2, hk.1.1.2⟩)⟩, ⟨by (with_reducible repeat (first | apply rA | apply rN | apply rD)); exact rM HO357.out (fun _ hk => hk.2)⟩, ⟨by (with_reducible repeat (first | refine lN ?_ _ | refine lD ?_ | refine lA ?_ _)); exact BK349.out⟩, ⟨by (with_reducible repeat (first | refine lN ?_ _ | refine lD ?_ | refine lA ?_ _)); exact BK360.out⟩, ⟨by repeat (first | (with_reducible first | exact HB.out | apply bA | apply bN | apply bD | refine bS ?_ GE349.out | refine bS ?_ GE360.out) | exact HB.out)⟩⟩
                    ·rw [if_neg c56] at H
                     have c56b0 : (t372 == (wrap64 ((t334.length : Int) - 1))) = false := beq_eq_false_iff_ne.mpr c56
                     have c56b1 : (t372 != (wrap64 ((t334.length : Int) - 1))) = true := bne_iff_ne.mpr c56
                     obtain rfl := Option.some.inj H
                     exact absurd hr_.out (by simp)
                   ·rw [if_neg c55] at H
                    have c55b0 : (t372 == t336) = false := beq_eq_false_iff_ne.mpr c55
                    have c55b1 : (t372 != t336) = true := bne_iff_ne.mpr c55
                    obtain rfl := Option.some.inj H
                    exact absurd hr_.out (by simp)
                  ·rw [if_neg c54] at H
                   have c54b0 : decide (0 ≤ t336) = false := decide_eq_false c54
                   clear c54
                   by_cases c59 : t372 = (wrap64 ((t334.length : Int) - 1))
                   ·rw [if_pos c59] at H
                    have c59b0 : (t372 == (wrap64 ((t334.length : Int) - 1))) = true := beq_iff_eq.mpr c59
                    have c59b1 : (t372 != (wrap64 ((t334.length : Int) - 1))) = false := bne_eq_false_iff_eq.mpr c59
                    clear c59
                    have H' := Aside0.mk H
                    clear H
                    have hnb60 := NB349_360.out
                    have hnc60 := NB360_349.out
                    have hcz61_0 : w48.cell? ⟨gb349, 0, none⟩ = some (.slice Ao25 t339.length co25) := (lC BK349.out 0).trans rfl
                    have hcz61_1 : w48.cell? ⟨gb349, 1, none⟩ = some (.int .i64 t342) := (lC BK349.out 1).trans rfl
                    have hcz61_2 : w48.cell? ⟨gb349, 2, none⟩ = some (.int .i64 t343) := (lC BK349.out 2).trans rfl
                    have hcz61_3 : w48.cell? ⟨gb349, 3, none⟩ = some (.slice Ao27 t344.length co27) := (lC BK349.out 3).trans rfl
                    have hcz61_4 : w48.cell? ⟨gb349, 4, none⟩ = some (.int .i64 t347) := (lC BK349.out 4).trans rfl
                    have hfz61_0 := lF BK349.out 0
                    have hfz61_1 := lF BK349.out 1
                    have hfz61_2 := lF BK349.out 2
                    have hfz61_3 := lF BK349.out 3
                    have hfz61_4 := lF BK349.out 4
                    go_wp2
                    go_meet
                    case rel => exact ⟨_, ((t343 != t372)), (by first | rfl | (simp; done) | (simp [*]; done)), H', ⟨by first | omega | exact Nat.le_refl _⟩, ⟨by (with_reducible repeat (first | apply rA | apply rN | apply rD)); exact rM HO364.out (fun _ hk => ⟨hk.1.1.2, hk.1.2⟩)⟩, ⟨by (with_reducible repeat (first | apply rA | apply rN | apply rD)); exact rM HO341.out (fun _ hk => ⟨hk.1.2, hk.1.1.2⟩)⟩, ⟨by (with_reducible repeat (first | apply rA | apply rN | apply rD)); exact rM HO346.out (fun _ hk => hk.2)⟩, ⟨by (with_reducible repeat (first | apply rA | apply rN | apply rD)); exact rM HO352.out (fun _ hk => ⟨hk.1.2, hk.1.1.2⟩)⟩, ⟨by (with_reducible repeat (first | apply rA | apply rN | apply rD)); exact rM HO357.out (fun _ hk => hk.2)⟩, ⟨by (with_reducible repeat (first | refine lN ?_ _ | refine lD ?_ | refine lA ?_ _)); exact BK349.out⟩, ⟨by (with_reducible repeat (first | refine lN ?_ _ | refine lD ?_ | refine lA ?_ _)); exact BK360.out⟩, ⟨by repeat (first | (with_reducible first | exact HB.out | apply bA | apply bN | apply bD | refine bS ?_ GE349.out | refine bS ?_ GE360.out) | exact HB.out)⟩⟩
                   ·rw [if_neg c59] at H
                    have c59b0 : (t372 == (wrap64 ((t334.length : Int) - 1))) = false := beq_eq_false_iff_ne.mpr c59
                    have c59b1 : (t372 != (wrap64 ((t334.length : Int) - 1))) = true := bne_iff_ne.mpr c59
                    obtain rfl := Option.some.inj H
                    exact absurd hr_.out (by simp)
                ·rw [if_neg c52] at H
                 have c52b0 : decide (t336 < 0) = false := decide_eq_false c52
                 clear c52
                 (first | rw [c52b0] | (simp only [i64_w, i32_w]; rw [c52b0]) | skip)
                 by_cases c62 : (t374 != (t336 == (wrap64 ((t334.length : Int) - 1)))) = true
                 ·rw [if_pos c62] at H
                  have c62b0 : (t374 != (t336 == (wrap64 ((t334.length : Int) - 1)))) = true := c62
                  (try (have c62b1 : decide (t374 = (t336 == (wrap64 ((t334.length : Int) - 1)))) = false := by simpa using c62))
                  (try (have c62b2 : (t374 == (t336 == (wrap64 ((t334.length : Int) - 1)))) = false := by simpa using c62))
                  (try (have c62b3 : ¬ (t374 = (t336 == (wrap64 ((t334.length : Int) - 1)))) := by simpa using c62))
                  clear c62
                  obtain rfl := Option.some.inj H
                  exact absurd hr_.out (by simp)
                 ·rw [if_neg c62] at H
                  have c62b0 : (t374 != (t336 == (wrap64 ((t334.length : Int) - 1)))) = false := by simpa using c62
                  (try (have c62b1 : decide (t374 = (t336 == (wrap64 ((t334.length : Int) - 1)))) = true := by simpa using c62))
                  (try (have c62b2 : (t374 == (t336 == (wrap64 ((t334.length : Int) - 1)))) = true := by simpa using c62))
                  clear c62
                  by_cases c63 : t336 ≥ 0
                  ·rw [if_pos c63] at H
                   have c63b0 : decide (0 ≤ t336) = true := decide_eq_true c63
                   clear c63
                   by_cases c64 : t372 = t336
                   ·rw [if_pos c64] at H
                    have c64b0 : (t372 == t336) = true := beq_iff_eq.mpr c64
                    have c64b1 : (t372 != t336) = false := bne_eq_false_iff_eq.mpr c64
                    clear c64
                    have H' := Aside0.mk H
                    clear H
                    have hnb65 := NB349_360.out
                    have hnc65 := NB360_349.out
                    have hcz66_0 : w48.cell? ⟨gb349, 0, none⟩ = some (.slice Ao25 t339.length co25) := (lC BK349.out 0).trans rfl
                    have hcz66_1 : w48.cell? ⟨gb349, 1, none⟩ = some (.int .i64 t342) := (lC BK349.out 1).trans rfl
                    have hcz66_2 : w48.cell? ⟨gb349, 2, none⟩ = some (.int .i64 t343) := (lC BK349.out 2).trans rfl
                    have hcz66_3 : w48.cell? ⟨gb349, 3, none⟩ = some (.slice Ao27 t344.length co27) := (lC BK349.out 3).trans rfl
                    have hcz66_4 : w48.cell? ⟨gb349, 4, none⟩ = some (.int .i64 t347) := (lC BK349.out 4).trans rfl
                    have hfz66_0 := lF BK349.out 0
                    have hfz66_1 := lF BK349.out 1
                    have hfz66_2 := lF BK349.out 2
                    have hfz66_3 := lF BK349.out 3
                    have hfz66_4 := lF BK349.out 4
                    go_wp2
                    go_meet
                    case rel => exact ⟨_, ((t343 != t372)), (by first | rfl | (simp; done) | (simp [*]; done)), H', ⟨by first | omega | exact Nat.le_refl _⟩, ⟨by (with_reducible repeat (first | apply rA | apply rN | apply rD)); exact rM HO364.out (fun _ hk => ⟨hk.1.1.2, hk.1.2⟩)⟩, ⟨by (with_reducible repeat (first | apply rA | apply rN | apply rD)); exact rM HO341.out (fun _ hk => ⟨hk.1.2, hk.1.1.2⟩)⟩, ⟨by (with_reducible repeat (first | apply rA | apply rN | apply rD)); exact rM HO346.out (fun _ hk => hk.2)⟩, ⟨by (with_reducible repeat (first | apply rA | apply rN | apply rD)); exact rM HO352.out (fun _ hk => ⟨hk.1.2, hk.1.1.2⟩)⟩, ⟨by (with_reducible repeat (first | apply rA | apply rN | apply rD)); exact rM HO357.out (fun _ hk => hk.2)⟩, ⟨by (with_reducible repeat (first | refine lN ?_ _ | refine lD ?_ | refine lA ?_ _)); exact BK349.out⟩, ⟨by (with_reducible repeat (first | refine lN ?_ _ | refine lD ?_ | refine lA ?_ _)); exact BK360.out⟩, ⟨by repeat (first | (with_reducible first | exact HB.out | apply bA | apply bN | apply bD | refine bS ?_ GE349.out | refine bS ?_ GE360.out) | exact HB.out)⟩⟩
                   ·rw [if_neg c64] at H
                    have c64b0 : (t372 == t336) = false := beq_eq_false_iff_ne.mpr c64
                    have c64b1 : (t372 != t336) = true := bne_iff_ne.mpr c64
                    obtain rfl := Option.some.inj H
                    exact absurd hr_.out (by simp)
                  ·rw [if_neg c63] at H
                   have c63b0 : decide (0 ≤ t336) = false := decide_eq_false c63
                   clear c63
                   have H' := Aside0.mk H
                   clear H
                   have hnb67 := NB349_360.out
                   have hnc67 := NB360_349.out
                   have hcz68_0 : w48.cell? ⟨gb349, 0, none⟩ = some (.slice Ao25 t339.length co25) := (lC BK349.out 0).trans rfl
                   have hcz68_1 : w48.cell? ⟨gb349, 1, none⟩ = some (.int .i64 t342) := (lC BK349.out 1).trans rfl
                   have hcz68_2 : w48.cell? ⟨gb349, 2, none⟩ = some (.int .i64 t343) := (lC BK349.out 2).trans rfl
                   have hcz68_3 : w48.cell? ⟨gb349, 3, none⟩ = some (.slice Ao27 t344.length co27) := (lC BK349.out 3).trans rfl
                   have hcz68_4 : w48.cell? ⟨gb349, 4, none⟩ = some (.int .i64 t347) := (lC BK349.out 4).trans rfl
                   have hfz68_0 := lF BK349.out 0
                   have hfz68_1 := lF BK349.out 1
                   have hfz68_2 := lF BK349.out 2
                   have hfz68_3 := lF BK349.out 3
                   have hfz68_4 := lF BK349.out 4
                   go_wp2
                   go_meet
                   case rel => exact ⟨_, ((t343 != t372)), (by first | rfl | (simp; done) | (simp [*]; done)), H', ⟨by first | omega | exact Nat.le_refl _⟩, ⟨by (with_reducible repeat (first | apply rA | apply rN | apply rD)); exact rM HO364.out (fun _ hk => ⟨hk.1.1.2, hk.1.2⟩)⟩, ⟨by (with_reducible repeat (first | apply rA | apply rN | apply rD)); exact rM HO341.out (fun _ hk => ⟨hk.1.2, hk.1.1.2⟩)⟩, ⟨by (with_reducible repeat (first | apply rA | apply rN | apply rD)); exact rM HO346.out (fun _ hk => hk.2)⟩, ⟨by (with_reducible repeat (first | apply rA | apply rN | apply rD)); exact rM HO352.out (fun _ hk => ⟨hk.1.2, hk.1.1.2⟩)⟩, ⟨by (with_reducible repeat (first | apply rA | apply rN | apply rD)); exact rM HO357.out (fun _ hk => hk.2)⟩, ⟨by (with_reducible repeat (first | refine lN ?_ _ | refine lD ?_ | refine lA ?_ _)); exact BK349.out⟩, ⟨by (with_reducible repeat (first | refine lN ?_ _ | refine lD ?_ | refine lA ?_ _)); exact BK360.out⟩, ⟨by repeat (first | (with_reducible first | exact HB.out | apply bA | apply bN | apply bD | refine bS ?_ GE349.out | refine bS ?_ GE360.out) | exact HB.out)⟩⟩
               ·replace c51 := fB c51
                subst c51
                have H1 : (some false) = some r := by rw [if_neg (show ¬ (false = true) by decide)] at H; exact H
                clear H
                have H := H1
                clear H1
                obtain rfl := Option.some.inj H
                exact absurd hr_.out (by simp)
              ·replace c50 := fB c50
               subst c50
               have H1 : (some false) = some r := by rw [if_neg (show ¬ (false = true) by decide)] at H; exact H
               clear H
               have H := H1
               clear H1
               obtain rfl := Option.some.inj H
               exact absurd hr_.out (by simp)
             ·replace c49 := fB c49
              subst c49
              have H1 : (some false) = some r := by rw [if_neg (show ¬ (false = true) by decide)] at H; exact H
              clear H
              have H := H1
              clear H1
              obtain rfl := Option.some.inj H
              exact absurd hr_.out (by simp)
            case rest =>
             clear HC43
             try clear c1
             try clear p2
             try clear c3
             try clear c3b0
             try clear c4
             try clear c5
             try clear c6
             try clear p6
             try clear c9
             try clear c9b0
             try clear c9b1
             try clear c9b2
             try clear c11
             try clear c12
             try clear c12b0
             try clear c12b1
             try clear c13
             try clear c13b0
             try clear c13b1
             try clear c15
             try clear c16
             try clear c16b0
             try clear c16b1
             try clear c17
             try clear c17b0
             try clear c17b1
             try clear c17b2
             try clear c19
             try clear c31
             try clear c40
             try clear c44
             try clear c48
             try clear c49
             try clear c50
             try clear c51
             try clear c52
             try clear c52b0
             try clear c53
             try clear c53b0
             try clear c53b1
             try clear c53b2
             try clear c54
             try clear c54b0
             try clear c55
             try clear c55b0
             try clear c55b1
             try clear c56
             try clear c56b0
             try clear c56b1
             try clear c57
             try clear c59
             try clear c59b0
             try clear c59b1
             try clear c60
             try clear c62
             try clear c62b0
             try clear c62b1
             try clear c62b2
             try clear c63
             try clear c63b0
             try clear c64
             try clear c64b0
             try clear c64b1
             try clear p64
             try clear c65
             try clear c67
             try clear hcz26_0
             try clear hcz26_1
             try clear hcz26_2
             try clear hcz26_3
             try clear hcz26_4
             try clear hcz32_0
             try clear hcz32_1
             try clear hcz32_2
             try clear hcz32_3
             try clear hcz32_4
             try clear hcz36_0
             try clear hcz36_1
             try clear hcz36_2
             try clear hcz36_3
             try clear hcz36_4
             try clear hcz37_0
             try clear hcz37_1
             try clear hcz37_2
             try clear hcz37_3
             try clear hcz37_4
             try clear hcz45_0
             try clear hcz45_1
             try clear hcz45_2
             try clear hcz45_3
             try clear hcz45_4
             try clear hcz47_0
             try clear hcz47_1
             try clear hcz47_2
             try clear hcz47_3
             try clear hcz47_4
             try clear hcz58_0
             try clear hcz58_1
             try clear hcz58_2
             try clear hcz58_3
             try clear hcz58_4
             try clear hcz61_0
             try clear hcz61_1
             try clear hcz61_2
             try clear hcz61_3
             try clear hcz61_4
             try clear hcz66_0
             try clear hcz66_1
             try clear hcz66_2
             try clear hcz66_3
             try clear hcz66_4
             try clear hcz68_0
             try clear hcz68_1
             try clear hcz68_2
             try clear hcz68_3
             try clear hcz68_4
             try clear hfz26_0
             try clear hfz26_1
             try clear hfz26_2
             try clear hfz26_3
             try clear hfz26_4
             try clear hfz32_0
             try clear hfz32_1
             try clear hfz32_2
             try clear hfz32_3
             try clear hfz32_4
             try clear hfz36_0
             try clear hfz36_1
             try clear hfz36_2
             try clear hfz36_3
             try clear hfz36_4
             try clear hfz37_0
             try clear hfz37_1
             try clear hfz37_2
             try clear hfz37_3
             try clear hfz37_4
             try clear hfz45_0
             try clear hfz45_1
             try clear hfz45_2
             try clear hfz45_3
             try clear hfz45_4
             try clear hfz47_0
             try clear hfz47_1
             try clear hfz47_2
             try clear hfz47_3
             try clear hfz47_4
             try clear hfz58_0
             try clear hfz58_1
             try clear hfz58_2
             try clear hfz58_3
             try clear hfz58_4
             try clear hfz61_0
             try clear hfz61_1
             try clear hfz61_2
             try clear hfz61_3
             try clear hfz61_4
             try clear hfz66_0
             try clear hfz66_1
             try clear hfz66_2
             try clear hfz66_3
             try clear hfz66_4
             try clear hfz68_0
             try clear hfz68_1
             try clear hfz68_2
             try clear hfz68_3
             try clear hfz68_4
             obtain ⟨kq, x188_42, rfl, HA, HJ42, HO_12, HO_350000, HO_350003, HO_361000, HO_361003, BK349, BK360, HB⟩ := hcut
             cases kq with
             | zero => exact absurd HA.out (by simp [laws_FnBlamed.j0])
             | succ kj42 =>
              have H := HA.out
              clear HA
              simp only [laws_FnBlamed.j0] at H
              by_cases c69 : x188_42 = true
              ·subst c69
               have H1 : (some false) = some r := by rw [if_pos rfl] at H; exact H
               clear H
               have H := H1
               clear H1
               obtain rfl := Option.some.inj H
               exact absurd hr_.out (by simp)
              ·replace c69 := fB c69
               subst c69
               have H1 : (laws_FnBlamed.l0 kj42 l1 t361 t372 0 t339 t342 t343 t344 t347) = some r := by rw [if_neg (show ¬ (false = true) by decide)] at H; exact H
               clear H
               have H := H1
               clear H1
               have H' := Aside0.mk H
               clear H
               go_wp2
               go_loopg [21] kj42 (fun kq v21 w' => ∃ (x21_2 : Int), v21 = .int .i64 x21_2 ∧ Aside0 (laws_FnBlamed.l0 kq l1 t361 t372 x21_2 t339 t342 t343 t344 t347 = some r) ∧ Aside0 (kq ≤ kj42) ∧ Aside0 (Kd.R (Kd.int .i64) 3 w' w.heap.size (fun k_ => some k_ ≠ ((.slice Ao25 t339.length co25) : Value).ownBlock ∧ some k_ ≠ ((.slice Ao30 t350.length co30) : Value).ownBlock) (.slice Ao38 t361.length co38) t361) ∧ Aside0 (Kd.R (Kd.int .i64) 3 w' w.heap.size (fun k_ => some k_ ≠ ((.slice Ao38 t361.length co38) : Value).ownBlock ∧ some k_ ≠ ((.slice Ao30 t350.length co30) : Value).ownBlock) (.slice Ao25 t339.length co25) t339) ∧ Aside0 (Kd.R k71 71 w' w.heap.size (fun k_ => some k_ ≠ ((.slice Ao33 t355.length co33) : Value).ownBlock) (.slice Ao27 t344.length co27) t344) ∧ Aside0 (Kd.R (Kd.int .i64) 3 w' w.heap.size (fun k_ => some k_ ≠ ((.slice Ao38 t361.length co38) : Value).ownBlock ∧ some k_ ≠ ((.slice Ao25 t339.length co25) : Value).ownBlock) (.slice Ao30 t350.length co30) t350) ∧ Aside0 (Kd.R k71 71 w' w.heap.size (fun k_ => some k_ ≠ ((.slice Ao27 t344.length co27) : Value).ownBlock) (.slice Ao33 t355.length co33) t355) ∧ Aside0 (w'.heap[gb349]? = some (.cells #[(.slice Ao25 t339.length co25), .int .i64 t342, .int .i64 t343, (.slice Ao27 t344.length co27), .int .i64 t347] 60 (0, 0))) ∧ Aside0 (w'.heap[gb360]? = some (.cells #[(.slice Ao30 t350.length co30), .int .i64 t353, .int .i64 t354, (.slice Ao33 t355.length co33), .int .i64 t358] 60 (0, 0))) ∧ Aside0 (Below w.heap.size w w'))
               case atStart => exact ⟨(0), (by first | rfl | (simp; done) | (simp [*]; done)), H', ⟨Nat.le_refl _⟩, ⟨by (with_reducible repeat (first | apply rA | apply rN | apply rD)); exact HO_12.out⟩, ⟨by (with_reducible repeat (first | apply rA | apply rN | apply rD)); exact HO_350000.out⟩, ⟨by (with_reducible repeat (first | apply rA | apply rN | apply rD)); exact HO_350003.out⟩, ⟨by (with_reducible repeat (first | apply rA | apply rN | apply rD)); exact HO_361000.out⟩, ⟨by (with_reducible repeat (first | apply rA | apply rN | apply rD)); exact HO_361003.out⟩, ⟨by (with_reducible repeat (first | refine lN ?_ _ | refine lD ?_ | refine lA ?_ _)); exact BK349.out⟩, ⟨by (with_reducible repeat (first | refine lN ?_ _ | refine lD ?_ | refine lA ?_ _)); exact BK360.out⟩, ⟨by repeat (first | (with_reducible first | exact HB.out | apply bA | apply bN | apply bD | refine bS ?_ GE349.out | refine bS ?_ GE360.out) | exact HB.out)⟩⟩
               case round =>
                clear H'
                try clear c1
                try clear p2
                try clear c3
                try clear c3b0
                try clear c4
                try clear c5
                try clear c6
                try clear p6
                try clear c9
                try clear c9b0
                try clear c9b1
                try clear c9b2
                try clear c11
                try clear c12
                try clear c12b0
                try clear c12b1
                try clear c13
                try clear c13b0
                try clear c13b1
                try clear c15
                try clear c16
                try clear c16b0
                try clear c16b1
                try clear c17
                try clear c17b0
                try clear c17b1
                try clear c17b2
                try clear c19
                try clear c31
                try clear c40
                try clear c44
                try clear c48
                try clear c49
                try clear c50
                try clear c51
                try clear c52
                try clear c52b0
                try clear c53
                try clear c53b0
                try clear c53b1
                try clear c53b2
                try clear c54
                try clear c54b0
                try clear c55
                try clear c55b0
                try clear c55b1
                try clear c56
                try clear c56b0
                try clear c56b1
                try clear c57
                try clear c59
                try clear c59b0
                try clear c59b1
                try clear c60
                try clear c62
                try clear c62b0
                try clear c62b1
                try clear c62b2
                try clear c63
                try clear c63b0
                try clear c64
                try clear c64b0
                try clear c64b1
                try clear p64
                try clear c65
                try clear c67
                try clear c69
                try clear hcz26_0
                try clear hcz26_1
                try clear hcz26_2
                try clear hcz26_3
                try clear hcz26_4
                try clear hcz32_0
                try clear hcz32_1
                try clear hcz32_2
                try clear hcz32_3
                try clear hcz32_4
                try clear hcz36_0
                try clear hcz36_1
                try clear hcz36_2
                try clear hcz36_3
                try clear hcz36_4
                try clear hcz37_0
                try clear hcz37_1
                try clear hcz37_2
                try clear hcz37_3
                try clear hcz37_4
                try clear hcz45_0
                try clear hcz45_1
                try clear hcz45_2
                try clear hcz45_3
                try clear hcz45_4
                try clear hcz47_0
                try clear hcz47_1
                try clear hcz47_2
                try clear hcz47_3
                try clear hcz47_4
                try clear hcz58_0
                try clear hcz58_1
                try clear hcz58_2
                try clear hcz58_3
                try clear hcz58_4
                try clear hcz61_0
                try clear hcz61_1
                try clear hcz61_2
                try clear hcz61_3
                try clear hcz61_4
                try clear hcz66_0
                try clear hcz66_1
                try clear hcz66_2
                try clear hcz66_3
                try clear hcz66_4
                try clear hcz68_0
                try clear hcz68_1
                try clear hcz68_2
                try clear hcz68_3
                try clear hcz68_4
                try clear hfz26_0
                try clear hfz26_1
                try clear hfz26_2
                try clear hfz26_3
                try clear hfz26_4
                try clear hfz32_0
                try clear hfz32_1
                try clear hfz32_2
                try clear hfz32_3
                try clear hfz32_4
                try clear hfz36_0
                try clear hfz36_1
                try clear hfz36_2
                try clear hfz36_3
                try clear hfz36_4
                try clear hfz37_0
                try clear hfz37_1
                try clear hfz37_2
                try clear hfz37_3
                try clear hfz37_4
                try clear hfz45_0
                try clear hfz45_1
                try clear hfz45_2
                try clear hfz45_3
                try clear hfz45_4
                try clear hfz47_0
                try clear hfz47_1
                try clear hfz47_2
                try clear hfz47_3
                try clear hfz47_4
                try clear hfz58_0
                try clear hfz58_1
                try clear hfz58_2
                try clear hfz58_3
                try clear hfz58_4
                try clear hfz61_0
                try clear hfz61_1
                try clear hfz61_2
                try clear hfz61_3
                try clear hfz61_4
                try clear hfz66_0
                try clear hfz66_1
                try clear hfz66_2
                try clear hfz66_3
                try clear hfz66_4
                try clear hfz68_0
                try clear hfz68_1
                try clear hfz68_2
                try clear hfz68_3
                try clear hfz68_4
                try clear p2
                try clear p6
                try clear p64
                obtain ⟨x21_2, rfl, HA, HK2, HO_12, HO_350000, HO_350003, HO_361000, HO_361003, BK349, BK360, HB⟩ := hrel
                cases gk with
                | zero => exact absurd HA.out (by simp [laws_FnBlamed.l0])
                | succ k2 =>
                 have H := HA.out
                 clear HA
                 simp only [laws_FnBlamed.l0] at H
                 by_cases c70 : x21_2 < t372
                 ·rw [if_pos c70] at H
                  have c70b0 : decide (x21_2 < t372) = true := decide_eq_true c70
                  clear c70
                  replace H := oB H
                  obtain ⟨⟨t376, t379⟩, A710, H⟩ := H
                  replace H : (if t379 = true then (if (t376.length : Int) = 1 then (if 0 ≤ (wrap64 (x21_2 + 1)) then (if (wrap64 (x21_2 + 1)) < (t361.length : Int) then (if 0 < (t376.length : Int) then ((impl_CheckReceipt.f k2 (rd t361 (wrap64 (x21_2 + 1))) ((rd_T71 t376 0).f0) ((rd_T71 t376 0).f1) ((rd_T71 t376 0).f2) ((rd_T71 t376 0).f3)).bind fun bt382 => (if bt382.2 = true then (if bt382.1 = true then (laws_FnBlamed.l0 k2 l1 t361 t372 (wrap64 (x21_2 + 1)) t339 t342 t343 t344 t347) else (some false)) else (some false))) else (none)) else (none)) else (none)) else (some false)) else (some false)) = some r := H
                  have A71 := Aside0.mk A710
                  clear A710
                  by_cases c72 : t379 = true
                  ·subst c72
                   have H1 : (if (t376.length : Int) = 1 then (if 0 ≤ (wrap64 (x21_2 + 1)) then (if (wrap64 (x21_2 + 1)) < (t361.length : Int) then (if 0 < (t376.length : Int) then ((impl_CheckReceipt.f k2 (rd t361 (wrap64 (x21_2 + 1))) ((rd_T71 t376 0).f0) ((rd_T71 t376 0).f1) ((rd_T71 t376 0).f2) ((rd_T71 t376 0).f3)).bind fun bt382 => (if bt382.2 = true then (if bt382.1 = true then (laws_FnBlamed.l0 k2 l1 t361 t372 (wrap64 (x21_2 + 1)) t339 t342 t343 t344 t347) else (some false)) else (some false))) else (none)) else (none)) else (none)) else (some false)) = some r := by rw [if_pos rfl] at H; exact H
                   clear H
                   have H := H1
                   clear H1
                   by_cases c73 : (t376.length : Int) = 1
                   ·rw [if_pos c73] at H
                    have c73b0 : ((t376.length : Int) == 1) = true := beq_iff_eq.mpr c73
                    have c73b1 : ((t376.length : Int) != 1) = false := bne_eq_false_iff_eq.mpr c73
                    clear c73
                    obtain ⟨ji74, hji74⟩ : ∃ j_ : Int, (wrap64 (x21_2 + 1)) = j_ := ⟨_, rfl⟩
                    replace H : (if 0 ≤ (ji74) then (if (ji74) < (t361.length : Int) then (if 0 < (t376.length : Int) then ((impl_CheckReceipt.f k2 (rd t361 (ji74)) ((rd_T71 t376 0).f0) ((rd_T71 t376 0).f1) ((rd_T71 t376 0).f2) ((rd_T71 t376 0).f3)).bind fun bt382 => (if bt382.2 = true then (if bt382.1 = true then (laws_FnBlamed.l0 k2 l1 t361 t372 ji74 t339 t342 t343 t344 t347) else (some false)) else (some false))) else (none)) else (none)) else (none)) = some r := by first | (rw [hji74] at H; exact H) | (simp only [hji74] at H ⊢; exact H)
                    (try rw [hji74] at A71)
                    have hji74w : (IntKind.i64.wrap (x21_2 + 1)) = ji74 := (i64_w _).trans hji74
                    by_cases c75 : 0 ≤ (ji74)
                    ·rw [if_pos c75] at H
                     have c75b0 : decide (0 ≤ (ji74)) = true := decide_eq_true c75
                     clear c75
                     by_cases c76 : (ji74) < (t361.length : Int)
                     ·rw [if_pos c76] at H
                      have c76b0 : decide ((ji74) < (t361.length : Int)) = true := decide_eq_true c76
                      clear c76
                      by_cases c77 : 0 < (t376.length : Int)
                      ·rw [if_pos c77] at H
                       have c77b0 : decide (0 < (t376.length : Int)) = true := decide_eq_true c77
                       have c77b1 : decide (0 < t376.length) = true := decide_eq_true (by omega)
                       clear c77
                       replace H := oB H
                       obtain ⟨⟨t382, t383⟩, A780, H⟩ := H
                       replace H : (if t383 = true then (if t382 = true then (laws_FnBlamed.l0 k2 l1 t361 t372 ji74 t339 t342 t343 t344 t347) else (some false)) else (some false)) = some r := H
                       have A78 := Aside0.mk A780
                       clear A780
                       by_cases c79 : t383 = true
                       ·subst c79
                        have H1 : (if t382 = true then (laws_FnBlamed.l0 k2 l1 t361 t372 ji74 t339 t342 t343 t344 t347) else (some false)) = some r := by rw [if_pos rfl] at H; exact H
                        clear H
                        have H := H1
                        clear H1
                        by_cases c80 : t382 = true
                        ·subst c80
                         have H1 : (laws_FnBlamed.l0 k2 l1 t361 t372 ji74 t339 t342 t343 t344 t347) = some r := by rw [if_pos rfl] at H; exact H
                         clear H
                         have H := H1
                         clear H1
                         have H' := Aside0.mk H
                         clear H
                         have hnb81 := NB349_360.out
                         have hnc81 := NB360_349.out
                         have hcz82_0 : wr.cell? ⟨gb349, 0, none⟩ = some (.slice Ao25 t339.length co25) := (lC BK349.out 0).trans rfl
                         have hcz82_1 : wr.cell? ⟨gb349, 1, none⟩ = some (.int .i64 t342) := (lC BK349.out 1).trans rfl
                         have hcz82_2 : wr.cell? ⟨gb349, 2, none⟩ = some (.int .i64 t343) := (lC BK349.out 2).trans rfl
                         have hcz82_3 : wr.cell? ⟨gb349, 3, none⟩ = some (.slice Ao27 t344.length co27) := (lC BK349.out 3).trans rfl
                         have hcz82_4 : wr.cell? ⟨gb349, 4, none⟩ = some (.int .i64 t347) := (lC BK349.out 4).trans rfl
                         have hfz82_0 := lF BK349.out 0
                         have hfz82_1 := lF BK349.out 1
                         have hfz82_2 := lF BK349.out 2
                         have hfz82_3 := lF BK349.out 3
                         have hfz82_4 := lF BK349.out 4
                         try go_wp2_with (first | ((with_reducible refine gate_callee (f := 56) rfl ?_); refine goesL_ (some 197) rfl rfl Try.func56 (by kernel_rfl) rfl #[.agg #[.slice Ao25 t339.length co25, .int .i64 t342, .int .i64 t343, .slice Ao27 t344.length co27, .int .i64 t347], .int .i64 x21_2] rfl (by (try simp only [List.map_toArray, List.map_cons, List.map_nil]); first | done | rfl | (simp only [List.length_drop, List.length_take]; rfl)) ?_; (with_reducible refine (impl_ProofFor.calls k2 _ _ t339 t342 t343 _ _ t344 t347 x21_2 t376 true _ ?side1 ?side2 ?side3 ?side4 A71.out).mono ?_); (case side1 => repeat (first | exact (rR HO_350000.out).2.2 | (with_reducible first | refine cA ?_ _ | refine cN ?_ _ | refine cD ?_))); (case side2 => exact (rR HO_350000.out).2.1); (case side3 => repeat (first | exact (rR HO_350003.out).2.2 | (with_reducible first | refine cA ?_ _ | refine cN ?_ _ | refine cD ?_))); (case side4 => exact (rR HO_350003.out).2.1); rintro e w83 ⟨v377, rfl, ho0, hb⟩; refine ⟨_, rfl, ?_⟩; have n0_ := Aside0.mk (rB (by (with_reducible repeat (first | apply rA | apply rN | apply rD)); exact HO_12.out) hb); have n1_ := Aside0.mk (rB (by (with_reducible repeat (first | apply rA | apply rN | apply rD)); exact HO_350000.out) hb); have n2_ := Aside0.mk (rF (by (with_reducible repeat (first | apply rA | apply rN | apply rD)); exact HO_350003.out) (rE ho0) hb); have n3_ := Aside0.mk (rB (by (with_reducible repeat (first | apply rA | apply rN | apply rD)); exact HO_361000.out) hb); have n4_ := Aside0.mk (rF (by (with_reducible repeat (first | apply rA | apply rN | apply rD)); exact HO_361003.out) (rE ho0) hb); have n5_ := Aside0.mk (Kd.R_lower (Kd.R_new' (Kd.R_new' ho0 (Kd.R_lt (by (with_reducible repeat (first | apply rA | apply rN | apply rD)); exact HO_350003.out))) (Kd.R_lt (by (with_reducible repeat (first | apply rA | apply rN | apply rD)); exact HO_361003.out))) (below_size (by repeat (first | (with_reducible first | exact HB.out | apply bA | apply bN | apply bD | refine bS ?_ GE349.out | refine bS ?_ GE360.out) | exact HB.out)))); have n6_ := Aside0.mk (blk_below (g := gb349) (o := .cells #[.slice Ao25 t339.length co25, .int .i64 t342, .int .i64 t343, .slice Ao27 t344.length co27, .int .i64 t347] 60 (0, 0)) (by (with_reducible repeat (first | refine lN ?_ _ | refine lD ?_ | refine lA ?_ _)); exact BK349.out) hb); have n7_ := Aside0.mk (blk_below (g := gb360) (o := .cells #[.slice Ao30 t350.length co30, .int .i64 t353, .int .i64 t354, .slice Ao33 t355.length co33, .int .i64 t358] 60 (0, 0)) (by (with_reducible repeat (first | refine lN ?_ _ | refine lD ?_ | refine lA ?_ _)); exact BK360.out) hb); have n8_ := Aside0.mk (below_step (by repeat (first | (with_reducible first | exact HB.out | apply bA | apply bN | apply bD | refine bS ?_ GE349.out | refine bS ?_ GE360.out) | exact HB.out)) hb); clear HO_12; clear HO_350000; clear HO_350003; clear HO_361000; clear HO_361003; clear BK349; clear BK360; clear HB; have HO_12 := n0_; have HO_350000 := n1_; have HO_350003 := n2_; have HO_361000 := n3_; have HO_361003 := n4_; have HO378 := n5_; have BK349 := n6_; have BK360 := n7_; have HB := n8_; clear n0_ n1_ n2_ n3_ n4_ n5_ n6_ n7_ n8_; (try clear hb); (try clear hb2); (try clear hk); (try clear hi); (try clear ho0); obtain ⟨Ao84, co84, eo84⟩ := rS HO378.out; subst eo84))
                         have n0_ := Aside0.mk (rD HO_12.out)
                         have n1_ := Aside0.mk (rD HO_350000.out)
                         have n2_ := Aside0.mk (rD HO_350003.out)
                         have n3_ := Aside0.mk (rD HO_361000.out)
                         have n4_ := Aside0.mk (rD HO_361003.out)
                         have n5_ := Aside0.mk (rD HO378.out)
                         have n6_ := Aside0.mk (lD BK349.out)
                         have n7_ := Aside0.mk (lD BK360.out)
                         have n8_ := Aside0.mk (bD HB.out)
                         clear HO_12
                         clear HO_350000
                         clear HO_350003
                         clear HO_361000
                         clear HO_361003
                         clear HO378
                         clear BK349
                         clear BK360
                         clear HB
                         have HO_12 := n0_
                         have HO_350000 := n1_
                         have HO_350003 := n2_
                         have HO_361000 := n3_
                         have HO_361003 := n4_
                         have HO378 := n5_
                         have BK349 := n6_
                         have BK360 := n7_
                         have HB := n8_
                         clear n0_ n1_ n2_ n3_ n4_ n5_ n6_ n7_ n8_
                         have p380 : 0 ≤ ((ji74) : Int) := of_decide_eq_true (by first | (with_reducible assumption) | assumption)
                         have q380 : (ji74) < (t361.length : Int) := of_decide_eq_true (by first | (with_reducible assumption) | assumption)
                         obtain ⟨ad380, e380, hx380_0⟩ := Kd.at_int (rR HO_12.out).2.2 (ji74) p380 q380
                         cases e380
                         replace p380 := eq_true p380
                         replace q380 := eq_true q380
                         have p381 : 0 ≤ (0 : Int) := (by omega)
                         have q381 : 0 < (t376.length : Int) := of_decide_eq_true (by first | (with_reducible assumption) | assumption)
                         obtain ⟨ad381, e381, hx381_0, hx381_1, hx381_2, hx381_3⟩ := at_T71 (rR HO378.out).2.2 0 p381 q381
                         cases e381
                         have qi381 : (0 < t376.length) = True := eq_true (by omega)
                         (try rw [show ((0 : Int)).toNat = 0 from rfl] at hx381_0)
                         (try rw [show 0 * 4 = 0 from rfl] at hx381_0)
                         (try rw [Addr.add_zero'] at hx381_0)
                         (try rw [show ((0 : Int)).toNat = 0 from rfl] at hx381_1)
                         (try rw [show 0 * 4 = 0 from rfl] at hx381_1)
                         (try rw [Addr.add_zero'] at hx381_1)
                         (try rw [show ((0 : Int)).toNat = 0 from rfl] at hx381_2)
                         (try rw [show 0 * 4 = 0 from rfl] at hx381_2)
                         (try rw [Addr.add_zero'] at hx381_2)
                         (try rw [show ((0 : Int)).toNat = 0 from rfl] at hx381_3)
                         (try rw [show 0 * 4 = 0 from rfl] at hx381_3)
                         (try rw [Addr.add_zero'] at hx381_3)
                         replace p381 := eq_true p381
                         replace q381 := eq_true q381
                         refine start_ (n := 14) (S := fun w' => w'.cell? (ad380.add ((ji74)).toNat) = some (.int .i64 (rd t361 (ji74))) ∧ w'.cell? ad381 = some (.int .i64 ((rd_T71 t376 0).f0)) ∧ w'.cell? ⟨ad381.block, ad381.off + 1, none⟩ = some (.int .i64 ((rd_T71 t376 0).f1)) ∧ w'.cell? ⟨ad381.block, ad381.off + 2, none⟩ = some (.int .i64 ((rd_T71 t376 0).f2)) ∧ w'.cell? ⟨ad381.block, ad381.off + 3, none⟩ = some (.int .i64 ((rd_T71 t376 0).f3))) (ds := []) #[false, false, false, false, false, false, false, false, false, false, false, false, false, false] (by kernel_rfl) rfl rfl ⟨hx380_0, hx381_0, hx381_1, hx381_2, hx381_3⟩ (fun hHeld => ?_); refine with_tabW laws_FnBlamed.tab22 laws_FnBlamed.bits22 (fun HT_ HW_ => ?_)
                         generalize w83.drew = w85 at HO_12 HO_350000 HO_350003 HO_361000 HO_361003 HO378 BK349 BK360 HB hx380_0 hx381_0 hx381_1 hx381_2 hx381_3 hHeld ⊢
                         refine pure_ (i := 0) (N := some 208) (v := ?_) (a' := ?_) #[true, false, false, false, false, false, false, false, false, false, false, false, false, false] rfl rfl (any_of HT_.out (by kernel_rfl)) (fun _ _ _ h => h) (Or.inl ⟨by rfl, ?_⟩) ?_ ?_
                         rotate_left
                         ·intro w'
                          go_simp
                          with_reducible rfl
                         rotate_left
                         ·simp only [Act.put, List.setIfInBounds_toArray, List.set_cons_zero, List.set_cons_succ, i64_w, i32_w]
                          rfl
                         refine pure_ (i := 1) (N := some 209) (v := ?_) (a' := ?_) #[true, true, false, false, false, false, false, false, false, false, false, false, false, false] rfl rfl (any_of HT_.out (by kernel_rfl)) (fun _ _ _ h => h) (Or.inl ⟨by rfl, ?_⟩) ?_ ?_
                         rotate_left
                         ·intro w'
                          go_simp
                          with_reducible rfl
                         rotate_left
                         ·simp only [Act.put, List.setIfInBounds_toArray, List.set_cons_zero, List.set_cons_succ, i64_w, i32_w]
                          rfl
                         refine pure_ (i := 2) (N := some 210) (v := ?_) (a' := ?_) #[true, true, true, false, false, false, false, false, false, false, false, false, false, false] rfl rfl (any_of HT_.out (by kernel_rfl)) (fun _ _ _ h => h) (Or.inl ⟨by rfl, ?_⟩) ?_ ?_
                         rotate_left
                         ·intro w'
                          go_simp
                          with_reducible rfl
                         rotate_left
                         ·simp only [Act.put, List.setIfInBounds_toArray, List.set_cons_zero, List.set_cons_succ, i64_w, i32_w]
                          rfl
                         refine pure_ (i := 3) (N := some 211) (v := ?_) (a' := ?_) #[true, true, true, true, false, false, false, false, false, false, false, false, false, false] rfl rfl (any_of HT_.out (by kernel_rfl)) (fun _ _ _ h => h) (Or.inl ⟨by rfl, ?_⟩) ?_ ?_
                         rotate_left
                         ·intro w'
                          go_simp
                          with_reducible rfl
                         rotate_left
                         ·simp only [Act.put, List.setIfInBounds_toArray, List.set_cons_zero, List.set_cons_succ, i64_w, i32_w]
                          rfl
                         refine pure_ (i := 5) (N := some 213) (v := ?_) (a' := ?_) #[true, true, true, true, false, true, false, false, false, false, false, false, false, false] rfl rfl (any_of HT_.out (by kernel_rfl)) (fun _ _ _ h => h) (Or.inl ⟨by rfl, ?_⟩) ?_ ?_
                         rotate_left
                         ·intro w'
                          go_simp
                          with_reducible rfl
                         rotate_left
                         ·simp only [Act.put, List.setIfInBounds_toArray, List.set_cons_zero, List.set_cons_succ, i64_w, i32_w]
                          rfl
                         refine pure_ (i := 6) (N := some 214) (v := ?_) (a' := ?_) #[true, true, true, true, false, true, true, false, false, false, false, false, false, false] rfl rfl (any_of HT_.out (by kernel_rfl)) (fun _ _ _ h => h) (Or.inl ⟨by rfl, ?_⟩) ?_ ?_
                         rotate_left
                         ·intro w'
                          go_simp
                          with_reducible rfl
                         rotate_left
                         ·simp only [Act.put, List.setIfInBounds_toArray, List.set_cons_zero, List.set_cons_succ, i64_w, i32_w]
                          rfl
                         refine take_ (i := 4) (N := some 212) (v := ?_) (a' := ?_) #[true, true, true, true, true, true, true, false, false, false, false, false, false, false] rfl rfl (take_ofW HT_.out HW_.out (by kernel_rfl)) (fun _ _ _ h => h) (Or.inl ⟨by rfl, ?_⟩) hHeld ?_ ?_
                         rotate_left
                         ·rintro w' ⟨s0, s1, s2, s3, s4⟩
                          go_simp
                          with_reducible rfl
                         rotate_left
                         ·simp only [Act.put, List.setIfInBounds_toArray, List.set_cons_zero, List.set_cons_succ, i64_w, i32_w]
                          rfl
                         refine take_ (i := 7) (N := some 215) (v := ?_) (a' := ?_) #[true, true, true, true, true, true, true, true, false, false, false, false, false, false] rfl rfl (take_ofW HT_.out HW_.out (by kernel_rfl)) (fun _ _ _ h => h) (Or.inl ⟨by rfl, ?_⟩) hHeld ?_ ?_
                         rotate_left
                         ·rintro w' ⟨s0, s1, s2, s3, s4⟩
                          go_simp
                          with_reducible rfl
                         rotate_left
                         ·simp only [Act.put, List.setIfInBounds_toArray, List.set_cons_zero, List.set_cons_succ, i64_w, i32_w]
                          rfl
                         refine one_ (i := 8) (N := some 216) #[true, true, true, true, true, true, true, true, true, false, false, false, false, false] rfl rfl (one_of HT_.out (by kernel_rfl)) (by decide) (fun K hK => ?_)
                         refine goes_ Try.func57 (by kernel_rfl) rfl #[.int .i64 (rd t361 (ji74)), .agg #[.int .i64 ((rd_T71 t376 0).f0), .int .i64 ((rd_T71 t376 0).f1), .int .i64 ((rd_T71 t376 0).f2), .int .i64 ((rd_T71 t376 0).f3)]] (by rfl) rfl rfl (by (try simp only [List.map_toArray, List.map_cons, List.map_nil]); first | done | (simp only [hji74]; rfl) | rfl | (simp only [List.length_drop, List.length_take]; rfl)) ?_
                         with_reducible refine (impl_CheckReceipt.calls k2 (rd t361 (ji74)) ((rd_T71 t376 0).f0) ((rd_T71 t376 0).f1) ((rd_T71 t376 0).f2) ((rd_T71 t376 0).f3) true true _ A78.out).mono ?_
                         rintro e w86 ⟨rfl, hb⟩
                         have HS0_ := (hb.cell (World.block_lt_of_cell? _ _ (hHeld.1))).trans (hHeld.1)
                         have HS1_ := (hb.cell (World.block_lt_of_cell? _ _ (hHeld.2.1))).trans (hHeld.2.1)
                         have HS2_ := (hb.cell (World.block_lt_of_cell? _ _ (hHeld.2.2.1))).trans (hHeld.2.2.1)
                         have HS3_ := (hb.cell (World.block_lt_of_cell? _ _ (hHeld.2.2.2.1))).trans (hHeld.2.2.2.1)
                         have HS4_ := (hb.cell (World.block_lt_of_cell? _ _ (hHeld.2.2.2.2))).trans (hHeld.2.2.2.2)
                         refine ⟨_, rfl, ?_⟩
                         have n0_ := Aside0.mk (rB (by (with_reducible repeat (first | apply rA | apply rN | apply rD)); exact HO_12.out) hb)
                         have n1_ := Aside0.mk (rB (by (with_reducible repeat (first | apply rA | apply rN | apply rD)); exact HO_350000.out) hb)
                         have n2_ := Aside0.mk (rB (by (with_reducible repeat (first | apply rA | apply rN | apply rD)); exact HO_350003.out) hb)
                         have n3_ := Aside0.mk (rB (by (with_reducible repeat (first | apply rA | apply rN | apply rD)); exact HO_361000.out) hb)
                         have n4_ := Aside0.mk (rB (by (with_reducible repeat (first | apply rA | apply rN | apply rD)); exact HO_361003.out) hb)
                         have n5_ := Aside0.mk (rB (by (with_reducible repeat (first | apply rA | apply rN | apply rD)); exact HO378.out) hb)
                         have n6_ := Aside0.mk (blk_below (g := gb349) (o := .cells #[.slice Ao25 t339.length co25, .int .i64 t342, .int .i64 t343, .slice Ao27 t344.length co27, .int .i64 t347] 60 (0, 0)) (by (with_reducible repeat (first | refine lN ?_ _ | refine lD ?_ | refine lA ?_ _)); exact BK349.out) hb)
                         have n7_ := Aside0.mk (blk_below (g := gb360) (o := .cells #[.slice Ao30 t350.length co30, .int .i64 t353, .int .i64 t354, .slice Ao33 t355.length co33, .int .i64 t358] 60 (0, 0)) (by (with_reducible repeat (first | refine lN ?_ _ | refine lD ?_ | refine lA ?_ _)); exact BK360.out) hb)
                         have n8_ := Aside0.mk (below_step (by repeat (first | (with_reducible first | exact HB.out | apply bA | apply bN | apply bD | refine bS ?_ GE349.out | refine bS ?_ GE360.out) | exact HB.out)) hb)
                         clear HO_12
                         clear HO_350000
                         clear HO_350003
                         clear HO_361000
                         clear HO_361003
                         clear HO378
                         clear BK349
                         clear BK360
                         clear HB
                         have HO_12 := n0_
                         have HO_350000 := n1_
                         have HO_350003 := n2_
                         have HO_361000 := n3_
                         have HO_361003 := n4_
                         have HO378 := n5_
                         have BK349 := n6_
                         have BK360 := n7_
                         have HB := n8_
                         clear n0_ n1_ n2_ n3_ n4_ n5_ n6_ n7_ n8_
                         (try clear hb)
                         (try clear hb2)
                         (try clear hk)
                         (try clear hi)
                         refine hK.out _ _ ⟨HS0_, HS1_, HS2_, HS3_, HS4_⟩ (fun hHeld => ?_)
                         clear hK K
                         refine norm_ (a' := ?_) ?_ ?_
                         rotate_left
                         ·show Act.put _ (some 216) _ = _
                          simp only [Act.put, List.setIfInBounds_toArray, List.set_cons_zero, List.set_cons_succ, i64_w, i32_w]
                          rfl
                         refine pure_ (i := 9) (N := some 207) (v := ?_) (a' := ?_) #[true, true, true, true, true, true, true, true, true, true, false, false, false, false] rfl rfl (any_of HT_.out (by kernel_rfl)) (fun _ _ _ h => h) (Or.inl ⟨by rfl, ?_⟩) ?_ ?_
                         rotate_left
                         ·intro w'
                          go_simp
                          with_reducible rfl
                         rotate_left
                         ·simp only [Act.put, List.setIfInBounds_toArray, List.set_cons_zero, List.set_cons_succ, i64_w, i32_w]
                          rfl
                         refine pure_ (i := 10) (N := some 217) (v := ?_) (a' := ?_) #[true, true, true, true, true, true, true, true, true, true, true, false, false, false] rfl rfl (any_of HT_.out (by kernel_rfl)) (fun _ _ _ h => h) (Or.inl ⟨by rfl, ?_⟩) ?_ ?_
                         rotate_left
                         ·intro w'
                          go_simp
                          with_reducible rfl
                         rotate_left
                         ·simp only [Act.put, List.setIfInBounds_toArray, List.set_cons_zero, List.set_cons_succ, i64_w, i32_w]
                          rfl
                         refine pure_ (i := 11) (N := some 218) (v := ?_) (a' := ?_) #[true, true, true, true, true, true, true, true, true, true, true, true, false, false] rfl rfl (any_of HT_.out (by kernel_rfl)) (fun _ _ _ h => h) (Or.inl ⟨by rfl, ?_⟩) ?_ ?_
                         rotate_left
                         ·intro w'
                          go_simp
                          with_reducible rfl
                         rotate_left
                         ·simp only [Act.put, List.setIfInBounds_toArray, List.set_cons_zero, List.set_cons_succ, i64_w, i32_w]
                          rfl
                         refine pure_ (i := 12) (N := some 24) (v := ?_) (a' := ?_) #[true, true, true, true, true, true, true, true, true, true, true, true, true, false] rfl rfl (any_of HT_.out (by kernel_rfl)) (fun _ _ _ h => h) (Or.inl ⟨by rfl, ?_⟩) ?_ ?_
                         rotate_left
                         ·intro w'
                          go_simp
                          with_reducible rfl
                         rotate_left
                         ·simp only [Act.put, List.setIfInBounds_toArray, List.set_cons_zero, List.set_cons_succ, i64_w, i32_w]
                          rfl
                         refine pure_ (i := 13) (N := some 25) (v := ?_) (a' := ?_) #[true, true, true, true, true, true, true, true, true, true, true, true, true, true] rfl rfl (any_of HT_.out (by kernel_rfl)) (fun _ _ _ h => h) (Or.inl ⟨by rfl, ?_⟩) ?_ ?_
                         rotate_left
                         ·intro w'
                          go_simp
                          with_reducible rfl
                         rotate_left
                         ·simp only [Act.put, List.setIfInBounds_toArray, List.set_cons_zero, List.set_cons_succ, i64_w, i32_w]
                          rfl
                         refine done_ (done_of HT_.out (by kernel_rfl)) ?_
                         try go_wp2
                         go_roundg k2
                         case measure => have := HJ42.out; have := HK2.out; omega
                         case rel => exact ⟨(ji74), (by first | rfl | (simp; done) | (simp only [← hji74] <;> (first | rfl | simp)) | (simp [*]; done)), H', ⟨by have := HJ42.out; have := HK2.out; omega⟩, ⟨by (with_reducible repeat (first | apply rA | apply rN | apply rD)); exact HO_12.out⟩, ⟨by (with_reducible repeat (first | apply rA | apply rN | apply rD)); exact HO_350000.out⟩, ⟨by (with_reducible repeat (first | apply rA | apply rN | apply rD)); exact rM HO_350003.out (fun _ hk => hk.1)⟩, ⟨by (with_reducible repeat (first | apply rA | apply rN | apply rD)); exact HO_361000.out⟩, ⟨by (with_reducible repeat (first | apply rA | apply rN | apply rD)); exact rM HO_361003.out (fun _ hk => hk.1)⟩, ⟨by (with_reducible repeat (first | refine lN ?_ _ | refine lD ?_ | refine lA ?_ _)); exact BK349.out⟩, ⟨by (with_reducible repeat (first | refine lN ?_ _ | refine lD ?_ | refine lA ?_ _)); exact BK360.out⟩, ⟨by repeat (first | (with_reducible first | exact HB.out | apply bA | apply bN | apply bD | refine bS ?_ GE349.out | refine bS ?_ GE360.out) | exact HB.out)⟩⟩
                        ·replace c80 := fB c80
                         subst c80
                         have H1 : (some false) = some r := by rw [if_neg (show ¬ (false = true) by decide)] at H; exact H
                         clear H
                         have H := H1
                         clear H1
                         obtain rfl := Option.some.inj H
                         exact absurd hr_.out (by simp)
                       ·replace c79 := fB c79
                        subst c79
                        have H1 : (some false) = some r := by rw [if_neg (show ¬ (false = true) by decide)] at H; exact H
                        clear H
                        have H := H1
                        clear H1
                        obtain rfl := Option.some.inj H
                        exact absurd hr_.out (by simp)
                      ·rw [if_neg c77] at H
                       exact absurd H (by simp)
                     ·rw [if_neg c76] at H
                      exact absurd H (by simp)
                    ·rw [if_neg c75] at H
                     exact absurd H (by simp)
                   ·rw [if_neg c73] at H
                    have c73b0 : ((t376.length : Int) == 1) = false := beq_eq_false_iff_ne.mpr c73
                    have c73b1 : ((t376.length : Int) != 1) = true := bne_iff_ne.mpr c73
                    obtain rfl := Option.some.inj H
                    exact absurd hr_.out (by simp)
                  ·replace c72 := fB c72
                   subst c72
                   have H1 : (some false) = some r := by rw [if_neg (show ¬ (false = true) by decide)] at H; exact H
                   clear H
                   have H := H1
                   clear H1
                   obtain rfl := Option.some.inj H
                   exact absurd hr_.out (by simp)
                 ·rw [if_neg c70] at H
                  have c70b0 : decide (x21_2 < t372) = false := decide_eq_false c70
                  clear c70
                  have H' := Aside0.mk H
                  clear H
                  go_wp2
                  go_meet
                  case rel => exact ⟨_, H', ⟨by have := HJ42.out; have := HK2.out; first | omega | exact Nat.le_refl _⟩, ⟨by (with_reducible repeat (first | apply rA | apply rN | apply rD)); exact rM HO_350000.out (fun _ hk => hk.2)⟩, ⟨by (with_reducible repeat (first | apply rA | apply rN | apply rD)); exact HO_350003.out⟩, ⟨by (with_reducible repeat (first | apply rA | apply rN | apply rD)); exact rM HO_361000.out (fun _ hk => hk.2)⟩, ⟨by (with_reducible repeat (first | apply rA | apply rN | apply rD)); exact HO_361003.out⟩, ⟨by (with_reducible repeat (first | refine lN ?_ _ | refine lD ?_ | refine lA ?_ _)); exact BK349.out⟩, ⟨by (with_reducible repeat (first | refine lN ?_ _ | refine lD ?_ | refine lA ?_ _)); exact BK360.out⟩, ⟨by repeat (first | (with_reducible first | exact HB.out | apply bA | apply bN | apply bD | refine bS ?_ GE349.out | refine bS ?_ GE360.out) | exact HB.out)⟩⟩
           ·replace c40 := fB c40
            subst c40
            have H1 : (laws_FnBlamed.j2 k l1) = some r := by rw [if_neg (show ¬ (false = true) by decide)] at H; exact H
            clear H
            have H := H1
            clear H1
            have H' := Aside0.mk H
            clear H
            go_wp2
            go_meet
            case rel => exact ⟨_, H', ⟨by first | omega | exact Nat.le_refl _⟩, ⟨by (with_reducible repeat (first | apply rA | apply rN | apply rD)); exact rM HO341.out (fun _ hk => hk.1.1.2)⟩, ⟨by (with_reducible repeat (first | apply rA | apply rN | apply rD)); exact rM HO346.out (fun _ hk => hk.2)⟩, ⟨by (with_reducible repeat (first | apply rA | apply rN | apply rD)); exact rM HO352.out (fun _ hk => hk.1.1.2)⟩, ⟨by (with_reducible repeat (first | apply rA | apply rN | apply rD)); exact rM HO357.out (fun _ hk => hk.2)⟩, ⟨by (with_reducible repeat (first | refine lN ?_ _ | refine lD ?_ | refine lA ?_ _)); exact BK349.out⟩, ⟨by (with_reducible repeat (first | refine lN ?_ _ | refine lD ?_ | refine lA ?_ _)); exact BK360.out⟩, ⟨by repeat (first | (with_reducible first | exact HB.out | apply bA | apply bN | apply bD | refine bS ?_ GE349.out | refine bS ?_ GE360.out) | exact HB.out)⟩⟩
          case rest =>
           clear HC20
           try clear c1
           try clear p2
           try clear c3
           try clear c3b0
           try clear p3
           try clear q3
           try clear hx3
           try clear qi3
           try clear c4
           try clear c5
           try clear c6
           try clear p6
           try clear c7
           try clear c8
           try clear c9
           try clear c9b0
           try clear c9b1
           try clear c9b2
           try clear c11
           try clear c12
           try clear c12b0
           try clear c12b1
           try clear c13
           try clear c13b0
           try clear c13b1
           try clear c15
           try clear c16
           try clear c16b0
           try clear c16b1
           try clear c17
           try clear c17b0
           try clear c17b1
           try clear c17b2
           try clear c19
           try clear c31
           try clear p38
           try clear q38
           try clear hx38
           try clear qi38
           try clear c40
           try clear c44
           try clear c48
           try clear c49
           try clear c50
           try clear c51
           try clear c52
           try clear c52b0
           try clear c53
           try clear c53b0
           try clear c53b1
           try clear c53b2
           try clear c54
           try clear c54b0
           try clear c55
           try clear c55b0
           try clear c55b1
           try clear c56
           try clear c56b0
           try clear c56b1
           try clear c57
           try clear c59
           try clear c59b0
           try clear c59b1
           try clear c60
           try clear c62
           try clear c62b0
           try clear c62b1
           try clear c62b2
           try clear c63
           try clear c63b0
           try clear c64
           try clear c64b0
           try clear c64b1
           try clear p64
           try clear c65
           try clear c67
           try clear c69
           try clear c70
           try clear c70b0
           try clear c72
           try clear c73
           try clear c73b0
           try clear c73b1
           try clear c75
           try clear c75b0
           try clear c76
           try clear c76b0
           try clear c77
           try clear c77b0
           try clear c77b1
           try clear c79
           try clear c80
           try clear c81
           try clear hcz26_0
           try clear hcz26_1
           try clear hcz26_2
           try clear hcz26_3
           try clear hcz26_4
           try clear hcz32_0
           try clear hcz32_1
           try clear hcz32_2
           try clear hcz32_3
           try clear hcz32_4
           try clear hcz36_0
           try clear hcz36_1
           try clear hcz36_2
           try clear hcz36_3
           try clear hcz36_4
           try clear hcz37_0
           try clear hcz37_1
           try clear hcz37_2
           try clear hcz37_3
           try clear hcz37_4
           try clear hcz45_0
           try clear hcz45_1
           try clear hcz45_2
           try clear hcz45_3
           try clear hcz45_4
           try clear hcz47_0
           try clear hcz47_1
           try clear hcz47_2
           try clear hcz47_3
           try clear hcz47_4
           try clear hcz58_0
           try clear hcz58_1
           try clear hcz58_2
           try clear hcz58_3
           try clear hcz58_4
           try clear hcz61_0
           try clear hcz61_1
           try clear hcz61_2
           try clear hcz61_3
           try clear hcz61_4
           try clear hcz66_0
           try clear hcz66_1
           try clear hcz66_2
           try clear hcz66_3
           try clear hcz66_4
           try clear hcz68_0
           try clear hcz68_1
           try clear hcz68_2
           try clear hcz68_3
           try clear hcz68_4
           try clear hcz82_0
           try clear hcz82_1
           try clear hcz82_2
           try clear hcz82_3
           try clear hcz82_4
           try clear hfz26_0
           try clear hfz26_1
           try clear hfz26_2
           try clear hfz26_3
           try clear hfz26_4
           try clear hfz32_0
           try clear hfz32_1
           try clear hfz32_2
           try clear hfz32_3
           try clear hfz32_4
           try clear hfz36_0
           try clear hfz36_1
           try clear hfz36_2
           try clear hfz36_3
           try clear hfz36_4
           try clear hfz37_0
           try clear hfz37_1
           try clear hfz37_2
           try clear hfz37_3
           try clear hfz37_4
           try clear hfz45_0
           try clear hfz45_1
           try clear hfz45_2
           try clear hfz45_3
           try clear hfz45_4
           try clear hfz47_0
           try clear hfz47_1
           try clear hfz47_2
           try clear hfz47_3
           try clear hfz47_4
           try clear hfz58_0
           try clear hfz58_1
           try clear hfz58_2
           try clear hfz58_3
           try clear hfz58_4
           try clear hfz61_0
           try clear hfz61_1
           try clear hfz61_2
           try clear hfz61_3
           try clear hfz61_4
           try clear hfz66_0
           try clear hfz66_1
           try clear hfz66_2
           try clear hfz66_3
           try clear hfz66_4
           try clear hfz68_0
           try clear hfz68_1
           try clear hfz68_2
           try clear hfz68_3
           try clear hfz68_4
           try clear hfz82_0
           try clear hfz82_1
           try clear hfz82_2
           try clear hfz82_3
           try clear hfz82_4
           try clear hx380_0
           try clear hx381_0
           try clear hx381_1
           try clear hx381_2
           try clear hx381_3
           try clear p2
           try clear p380
           try clear p381
           try clear p6
           try clear p64
           try clear q380
           try clear q381
           obtain ⟨kq, HA, HJ19, HO_350000, HO_350003, HO_361000, HO_361003, BK349, BK360, HB⟩ := hcut
           cases kq with
           | zero => exact absurd HA.out (by simp [laws_FnBlamed.j2])
           | succ kj19 =>
            have H := HA.out
            clear HA
            simp only [laws_FnBlamed.j2] at H
            replace H := oB H
            obtain ⟨⟨t384, t385, t386⟩, A870, H⟩ := H
            replace H : ((impl_BlameOf.f kj19 t384 t385 t386).bind fun bt391 => ((spec_BlameOf.f kj19 t384 t385 t386).bind fun bt393 => ((impl_WholeTrip.f kj19 t384 t385 t386).bind fun bt395 => ((spec_WholeTrip.f kj19 t384 t385 t386).bind fun bt397 => (if (bt391.2 != bt393.2) = true then (some false) else (if bt391.1 = bt393.1 then (if (bt395.2 != bt397.2) = true then (some false) else (if (bt395.1 != bt397.1) = true then (some false) else (if bt395.2 = true then (if bt391.1 = (wrap64 ((t384.length : Int) - 1)) then (if (bt395.1 == bt395.1) = true then (if bt395.1 = true then (some true) else (some (decide (bt391.1 < (wrap64 ((t384.length : Int) - 1)))))) else (some false)) else (if (bt395.1 == false) = true then (if bt395.1 = true then (some true) else (some (decide (bt391.1 < (wrap64 ((t384.length : Int) - 1)))))) else (some false))) else (some true)))) else (some false))))))) = some r := H
            have A87 := Aside0.mk A870
            clear A870
            replace H := oB H
            obtain ⟨⟨t391, t392⟩, A880, H⟩ := H
            replace H : ((spec_BlameOf.f kj19 t384 t385 t386).bind fun bt393 => ((impl_WholeTrip.f kj19 t384 t385 t386).bind fun bt395 => ((spec_WholeTrip.f kj19 t384 t385 t386).bind fun bt397 => (if (t392 != bt393.2) = true then (some false) else (if t391 = bt393.1 then (if (bt395.2 != bt397.2) = true then (some false) else (if (bt395.1 != bt397.1) = true then (some false) else (if bt395.2 = true then (if t391 = (wrap64 ((t384.length : Int) - 1)) then (if (bt395.1 == bt395.1) = true then (if bt395.1 = true then (some true) else (some (decide (t391 < (wrap64 ((t384.length : Int) - 1)))))) else (some false)) else (if (bt395.1 == false) = true then (if bt395.1 = true then (some true) else (some (decide (t391 < (wrap64 ((t384.length : Int) - 1)))))) else (some false))) else (some true)))) else (some false)))))) = some r := H
            have A88 := Aside0.mk A880
            clear A880
            replace H := oB H
            obtain ⟨⟨t393, t394⟩, A890, H⟩ := H
            replace H : ((impl_WholeTrip.f kj19 t384 t385 t386).bind fun bt395 => ((spec_WholeTrip.f kj19 t384 t385 t386).bind fun bt397 => (if (t392 != t394) = true then (some false) else (if t391 = t393 then (if (bt395.2 != bt397.2) = true then (some false) else (if (bt395.1 != bt397.1) = true then (some false) else (if bt395.2 = true then (if t391 = (wrap64 ((t384.length : Int) - 1)) then (if (bt395.1 == bt395.1) = true then (if bt395.1 = true then (some true) else (some (decide (t391 < (wrap64 ((t384.length : Int) - 1)))))) else (some false)) else (if (bt395.1 == false) = true then (if bt395.1 = true then (some true) else (some (decide (t391 < (wrap64 ((t384.length : Int) - 1)))))) else (some false))) else (some true)))) else (some false))))) = some r := H
            have A89 := Aside0.mk A890
            clear A890
            replace H := oB H
            obtain ⟨⟨t395, t396⟩, A900, H⟩ := H
            replace H : ((spec_WholeTrip.f kj19 t384 t385 t386).bind fun bt397 => (if (t392 != t394) = true then (some false) else (if t391 = t393 then (if (t396 != bt397.2) = true then (some false) else (if (t395 != bt397.1) = true then (some false) else (if t396 = true then (if t391 = (wrap64 ((t384.length : Int) - 1)) then (if (t395 == t395) = true then (if t395 = true then (some true) else (some (decide (t391 < (wrap64 ((t384.length : Int) - 1)))))) else (some false)) else (if (t395 == false) = true then (if t395 = true then (some true) else (some (decide (t391 < (wrap64 ((t384.length : Int) - 1)))))) else (some false))) else (some true)))) else (some false)))) = some r := H
            have A90 := Aside0.mk A900
            clear A900
            replace H := oB H
            obtain ⟨⟨t397, t398⟩, A910, H⟩ := H
            replace H : (if (t392 != t394) = true then (some false) else (if t391 = t393 then (if (t396 != t398) = true then (some false) else (if (t395 != t397) = true then (some false) else (if t396 = true then (if t391 = (wrap64 ((t384.length : Int) - 1)) then (if (t395 == t395) = true then (if t395 = true then (some true) else (some (decide (t391 < (wrap64 ((t384.length : Int) - 1)))))) else (some false)) else (if (t395 == false) = true then (if t395 = true then (some true) else (some (decide (t391 < (wrap64 ((t384.length : Int) - 1)))))) else (some false))) else (some true)))) else (some false))) = some r := H
            have A91 := Aside0.mk A910
            clear A910
            by_cases c92 : (t392 != t394) = true
            ·rw [if_pos c92] at H
             have c92b0 : (t392 != t394) = true := c92
             (try (have c92b1 : decide (t392 = t394) = false := by simpa using c92))
             (try (have c92b2 : (t392 == t394) = false := by simpa using c92))
             (try (have c92b3 : ¬ (t392 = t394) := by simpa using c92))
             clear c92
             obtain rfl := Option.some.inj H
             exact absurd hr_.out (by simp)
            ·rw [if_neg c92] at H
             have c92b0 : (t392 != t394) = false := by simpa using c92
             (try (have c92b1 : decide (t392 = t394) = true := by simpa using c92))
             (try (have c92b2 : (t392 == t394) = true := by simpa using c92))
             clear c92
             by_cases c93 : t391 = t393
             ·rw [if_pos c93] at H
              have c93b0 : (t391 == t393) = true := beq_iff_eq.mpr c93
              have c93b1 : (t391 != t393) = false := bne_eq_false_iff_eq.mpr c93
              clear c93
              by_cases c94 : (t396 != t398) = true
              ·rw [if_pos c94] at H
               have c94b0 : (t396 != t398) = true := c94
               (try (have c94b1 : decide (t396 = t398) = false := by simpa using c94))
               (try (have c94b2 : (t396 == t398) = false := by simpa using c94))
               (try (have c94b3 : ¬ (t396 = t398) := by simpa using c94))
               clear c94
               obtain rfl := Option.some.inj H
               exact absurd hr_.out (by simp)
              ·rw [if_neg c94] at H
               have c94b0 : (t396 != t398) = false := by simpa using c94
               (try (have c94b1 : decide (t396 = t398) = true := by simpa using c94))
               (try (have c94b2 : (t396 == t398) = true := by simpa using c94))
               clear c94
               by_cases c95 : (t395 != t397) = true
               ·rw [if_pos c95] at H
                have c95b0 : (t395 != t397) = true := c95
                (try (have c95b1 : decide (t395 = t397) = false := by simpa using c95))
                (try (have c95b2 : (t395 == t397) = false := by simpa using c95))
                (try (have c95b3 : ¬ (t395 = t397) := by simpa using c95))
                clear c95
                obtain rfl := Option.some.inj H
                exact absurd hr_.out (by simp)
               ·rw [if_neg c95] at H
                have c95b0 : (t395 != t397) = false := by simpa using c95
                (try (have c95b1 : decide (t395 = t397) = true := by simpa using c95))
                (try (have c95b2 : (t395 == t397) = true := by simpa using c95))
                clear c95
                by_cases c96 : t396 = true
                ·subst c96
                 have H1 : (if t391 = (wrap64 ((t384.length : Int) - 1)) then (if (t395 == t395) = true then (if t395 = true then (some true) else (some (decide (t391 < (wrap64 ((t384.length : Int) - 1)))))) else (some false)) else (if (t395 == false) = true then (if t395 = true then (some true) else (some (decide (t391 < (wrap64 ((t384.length : Int) - 1)))))) else (some false))) = some r := by rw [if_pos rfl] at H; exact H
                 clear H
                 have H := H1
                 clear H1
                 by_cases c97 : t391 = (wrap64 ((t384.length : Int) - 1))
                 ·rw [if_pos c97] at H
                  have c97b0 : (t391 == (wrap64 ((t384.length : Int) - 1))) = true := beq_iff_eq.mpr c97
                  have c97b1 : (t391 != (wrap64 ((t384.length : Int) - 1))) = false := bne_eq_false_iff_eq.mpr c97
                  clear c97
                  by_cases c98 : (t395 == t395) = true
                  ·rw [if_pos c98] at H
                   have c98b0 : (t395 == t395) = true := c98
                   (try (have c98b1 : decide (t395 = t395) = true := by simp))
                   (try (have c98b2 : (t395 == t395) = true := by simp))
                   clear c98
                   by_cases c99 : t395 = true
                   ·subst c99
                    have H1 : (some true) = some r := by rw [if_pos rfl] at H; exact H
                    clear H
                    have H := H1
                    clear H1
                    obtain rfl := Option.some.inj H
                    simp only [Option.some.injEq, Prod.mk.injEq] at H
                    obtain ⟨rfl⟩ := H
                    go_wp2_with (first | ((with_reducible refine gate_callee (f := 58) rfl ?_); refine goesL_ (some 227) rfl rfl Try.func58 (by kernel_rfl) rfl #[.slice A1 l1.length c1] rfl (by (try simp only [List.map_toArray, List.map_cons, List.map_nil]); first | done | rfl | (simp only [List.length_drop, List.length_take]; rfl)) ?_; (with_reducible refine (spec_DrawBlameOf.calls kj19 _ _ l1 t384 t385 t386 _ ?side1 ?side2 A87.out).mono ?_); (case side1 => repeat (first | exact (Kd.C_below HR1.out HB.out) | (with_reducible first | refine cA ?_ _ | refine cN ?_ _ | refine cD ?_))); (case side2 => exact HC1.out); rintro e w100 ⟨v387, v389, rfl, ho0, ho1, hb⟩; refine ⟨_, rfl, ?_⟩; have n0_ := Aside0.mk (rF (by (with_reducible repeat (first | apply rA | apply rN | apply rD)); exact HO_350000.out) (rE ho0) hb); have n1_ := Aside0.mk (rF (by (with_reducible repeat (first | apply rA | apply rN | apply rD)); exact HO_350003.out) (rE ho1) hb); have n2_ := Aside0.mk (rF (by (with_reducible repeat (first | apply rA | apply rN | apply rD)); exact HO_361000.out) (rE ho0) hb); have n3_ := Aside0.mk (rF (by (with_reducible repeat (first | apply rA | apply rN | apply rD)); exact HO_361003.out) (rE ho1) hb); have n4_ := Aside0.mk (Kd.R_lower (Kd.R_new' (Kd.R_new' ho0 (Kd.R_lt (by (with_reducible repeat (first | apply rA | apply rN | apply rD)); exact HO_350000.out))) (Kd.R_lt (by (with_reducible repeat (first | apply rA | apply rN | apply rD)); exact HO_361000.out))) (below_size (by repeat (first | (with_reducible first | exact HB.out | apply bA | apply bN | apply bD | refine bS ?_ GE349.out | refine bS ?_ GE360.out) | exact HB.out)))); have n5_ := Aside0.mk (Kd.R_lower (Kd.R_new' (Kd.R_new' ho1 (Kd.R_lt (by (with_reducible repeat (first | apply rA | apply rN | apply rD)); exact HO_350003.out))) (Kd.R_lt (by (with_reducible repeat (first | apply rA | apply rN | apply rD)); exact HO_361003.out))) (below_size (by repeat (first | (with_reducible first | exact HB.out | apply bA | apply bN | apply bD | refine bS ?_ GE349.out | refine bS ?_ GE360.out) | exact HB.out)))); have n6_ := Aside0.mk (blk_below (g := gb349) (o := .cells #[.slice Ao25 t339.length co25, .int .i64 t342, .int .i64 t343, .slice Ao27 t344.length co27, .int .i64 t347] 60 (0, 0)) (by (with_reducible repeat (first | refine lN ?_ _ | refine lD ?_ | refine lA ?_ _)); exact BK349.out) hb); have n7_ := Aside0.mk (blk_below (g := gb360) (o := .cells #[.slice Ao30 t350.length co30, .int .i64 t353, .int .i64 t354, .slice Ao33 t355.length co33, .int .i64 t358] 60 (0, 0)) (by (with_reducible repeat (first | refine lN ?_ _ | refine lD ?_ | refine lA ?_ _)); exact BK360.out) hb); have n8_ := Aside0.mk (below_step (by repeat (first | (with_reducible first | exact HB.out | apply bA | apply bN | apply bD | refine bS ?_ GE349.out | refine bS ?_ GE360.out) | exact HB.out)) hb); clear HO_350000; clear HO_350003; clear HO_361000; clear HO_361003; clear BK349; clear BK360; clear HB; have HO_350000 := n0_; have HO_350003 := n1_; have HO_361000 := n2_; have HO_361003 := n3_; have HO388 := n4_; have HO390 := n5_; have BK349 := n6_; have BK360 := n7_; have HB := n8_; clear n0_ n1_ n2_ n3_ n4_ n5_ n6_ n7_ n8_; (try clear hb); (try clear hb2); (try clear hk); (try clear hi); (try clear ho0); (try clear ho1); obtain ⟨Ao101, co101, eo101⟩ := rS HO388.out; subst eo101; obtain ⟨Ao102, co102, eo102⟩ := rS HO390.out; subst eo102) | ((with_reducible refine gate_callee (f := 54) rfl ?_); refine goesL_ (some 235) rfl rfl Try.func54 (by kernel_rfl) rfl #[.slice Ao101 t384.length co101, .int .i64 t385, .slice Ao102 t386.length co102] rfl (by (try simp only [List.map_toArray, List.map_cons, List.map_nil]); first | done | rfl | (simp only [List.length_drop, List.length_take]; rfl)) ?_; (with_reducible refine (impl_BlameOf.calls kj19 _ _ t384 t385 _ _ t386 t391 t392 _ ?side1 ?side2 ?side3 ?side4 A88.out).mono ?_); (case side1 => repeat (first | exact (rR HO388.out).2.2 | (with_reducible first | refine cA ?_ _ | refine cN ?_ _ | refine cD ?_))); (case side2 => exact (rR HO388.out).2.1); (case side3 => repeat (first | exact (rR HO390.out).2.2 | (with_reducible first | refine cA ?_ _ | refine cN ?_ _ | refine cD ?_))); (case side4 => exact (rR HO390.out).2.1); rintro e w103 ⟨rfl, hb⟩; refine ⟨_, rfl, ?_⟩; have n0_ := Aside0.mk (rB (by (with_reducible repeat (first | apply rA | apply rN | apply rD)); exact HO_350000.out) hb); have n1_ := Aside0.mk (rB (by (with_reducible repeat (first | apply rA | apply rN | apply rD)); exact HO_350003.out) hb); have n2_ := Aside0.mk (rB (by (with_reducible repeat (first | apply rA | apply rN | apply rD)); exact HO_361000.out) hb); have n3_ := Aside0.mk (rB (by (with_reducible repeat (first | apply rA | apply rN | apply rD)); exact HO_361003.out) hb); have n4_ := Aside0.mk (rB (by (with_reducible repeat (first | apply rA | apply rN | apply rD)); exact HO388.out) hb); have n5_ := Aside0.mk (rB (by (with_reducible repeat (first | apply rA | apply rN | apply rD)); exact HO390.out) hb); have n6_ := Aside0.mk (blk_below (g := gb349) (o := .cells #[.slice Ao25 t339.length co25, .int .i64 t342, .int .i64 t343, .slice Ao27 t344.length co27, .int .i64 t347] 60 (0, 0)) (by (with_reducible repeat (first | refine lN ?_ _ | refine lD ?_ | refine lA ?_ _)); exact BK349.out) hb); have n7_ := Aside0.mk (blk_below (g := gb360) (o := .cells #[.slice Ao30 t350.length co30, .int .i64 t353, .int .i64 t354, .slice Ao33 t355.length co33, .int .i64 t358] 60 (0, 0)) (by (with_reducible repeat (first | refine lN ?_ _ | refine lD ?_ | refine lA ?_ _)); exact BK360.out) hb); have n8_ := Aside0.mk (below_step (by repeat (first | (with_reducible first | exact HB.out | apply bA | apply bN | apply bD | refine bS ?_ GE349.out | refine bS ?_ GE360.out) | exact HB.out)) hb); clear HO_350000; clear HO_350003; clear HO_361000; clear HO_361003; clear HO388; clear HO390; clear BK349; clear BK360; clear HB; have HO_350000 := n0_; have HO_350003 := n1_; have HO_361000 := n2_; have HO_361003 := n3_; have HO388 := n4_; have HO390 := n5_; have BK349 := n6_; have BK360 := n7_; have HB := n8_; clear n0_ n1_ n2_ n3_ n4_ n5_ n6_ n7_ n8_; (try clear hb); (try clear hb2); (try clear hk); (try clear hi)) | ((with_reducible refine gate_callee (f := 59) rfl ?_); refine goesL_ (some 242) rfl rfl Try.func59 (by kernel_rfl) rfl #[.slice Ao101 t384.length co101, .int .i64 t385, .slice Ao102 t386.length co102] rfl (by (try simp only [List.map_toArray, List.map_cons, List.map_nil]); first | done | rfl | (simp only [List.length_drop, List.length_take]; rfl)) ?_; (with_reducible refine (spec_BlameOf.calls kj19 _ _ t384 t385 _ _ t386 t393 t394 _ ?side1 ?side2 ?side3 ?side4 A89.out).mono ?_); (case side1 => repeat (first | exact (rR HO388.out).2.2 | (with_reducible first | refine cA ?_ _ | refine cN ?_ _ | refine cD ?_))); (case side2 => exact (rR HO388.out).2.1); (case side3 => repeat (first | exact (rR HO390.out).2.2 | (with_reducible first | refine cA ?_ _ | refine cN ?_ _ | refine cD ?_))); (case side4 => exact (rR HO390.out).2.1); rintro e w104 ⟨rfl, hb⟩; refine ⟨_, rfl, ?_⟩; have n0_ := Aside0.mk (rB (by (with_reducible repeat (first | apply rA | apply rN | apply rD)); exact HO_350000.out) hb); have n1_ := Aside0.mk (rB (by (with_reducible repeat (first | apply rA | apply rN | apply rD)); exact HO_350003.out) hb); have n2_ := Aside0.mk (rB (by (with_reducible repeat (first | apply rA | apply rN | apply rD)); exact HO_361000.out) hb); have n3_ := Aside0.mk (rB (by (with_reducible repeat (first | apply rA | apply rN | apply rD)); exact HO_361003.out) hb); have n4_ := Aside0.mk (rB (by (with_reducible repeat (first | apply rA | apply rN | apply rD)); exact HO388.out) hb); have n5_ := Aside0.mk (rB (by (with_reducible repeat (first | apply rA | apply rN | apply rD)); exact HO390.out) hb); have n6_ := Aside0.mk (blk_below (g := gb349) (o := .cells #[.slice Ao25 t339.length co25, .int .i64 t342, .int .i64 t343, .slice Ao27 t344.length co27, .int .i64 t347] 60 (0, 0)) (by (with_reducible repeat (first | refine lN ?_ _ | refine lD ?_ | refine lA ?_ _)); exact BK349.out) hb); have n7_ := Aside0.mk (blk_below (g := gb360) (o := .cells #[.slice Ao30 t350.length co30, .int .i64 t353, .int .i64 t354, .slice Ao33 t355.length co33, .int .i64 t358] 60 (0, 0)) (by (with_reducible repeat (first | refine lN ?_ _ | refine lD ?_ | refine lA ?_ _)); exact BK360.out) hb); have n8_ := Aside0.mk (below_step (by repeat (first | (with_reducible first | exact HB.out | apply bA | apply bN | apply bD | refine bS ?_ GE349.out | refine bS ?_ GE360.out) | exact HB.out)) hb); clear HO_350000; clear HO_350003; clear HO_361000; clear HO_361003; clear HO388; clear HO390; clear BK349; clear BK360; clear HB; have HO_350000 := n0_; have HO_350003 := n1_; have HO_361000 := n2_; have HO_361003 := n3_; have HO388 := n4_; have HO390 := n5_; have BK349 := n6_; have BK360 := n7_; have HB := n8_; clear n0_ n1_ n2_ n3_ n4_ n5_ n6_ n7_ n8_; (try clear hb); (try clear hb2); (try clear hk); (try clear hi)) | ((with_reducible refine gate_callee (f := 55) rfl ?_); refine goesL_ (some 249) rfl rfl Try.func55 (by kernel_rfl) rfl #[.slice Ao101 t384.length co101, .int .i64 t385, .slice Ao102 t386.length co102] rfl (by (try simp only [List.map_toArray, List.map_cons, List.map_nil]); first | done | rfl | (simp only [List.length_drop, List.length_take]; rfl)) ?_; (with_reducible refine (impl_WholeTrip.calls kj19 _ _ t384 t385 _ _ t386 true true _ ?side1 ?side2 ?side3 ?side4 A90.out).mono ?_); (case side1 => repeat (first | exact (rR HO388.out).2.2 | (with_reducible first | refine cA ?_ _ | refine cN ?_ _ | refine cD ?_))); (case side2 => exact (rR HO388.out).2.1); (case side3 => repeat (first | exact (rR HO390.out).2.2 | (with_reducible first | refine cA ?_ _ | refine cN ?_ _ | refine cD ?_))); (case side4 => exact (rR HO390.out).2.1); rintro e w105 ⟨rfl, hb⟩; refine ⟨_, rfl, ?_⟩; have n0_ := Aside0.mk (rB (by (with_reducible repeat (first | apply rA | apply rN | apply rD)); exact HO_350000.out) hb); have n1_ := Aside0.mk (rB (by (with_reducible repeat (first | apply rA | apply rN | apply rD)); exact HO_350003.out) hb); have n2_ := Aside0.mk (rB (by (with_reducible repeat (first | apply rA | apply rN | apply rD)); exact HO_361000.out) hb); have n3_ := Aside0.mk (rB (by (with_reducible repeat (first | apply rA | apply rN | apply rD)); exact HO_361003.out) hb); have n4_ := Aside0.mk (rB (by (with_reducible repeat (first | apply rA | apply rN | apply rD)); exact HO388.out) hb); have n5_ := Aside0.mk (rB (by (with_reducible repeat (first | apply rA | apply rN | apply rD)); exact HO390.out) hb); have n6_ := Aside0.mk (blk_below (g := gb349) (o := .cells #[.slice Ao25 t339.length co25, .int .i64 t342, .int .i64 t343, .slice Ao27 t344.length co27, .int .i64 t347] 60 (0, 0)) (by (with_reducible repeat (first | refine lN ?_ _ | refine lD ?_ | refine lA ?_ _)); exact BK349.out) hb); have n7_ := Aside0.mk (blk_below (g := gb360) (o := .cells #[.slice Ao30 t350.length co30, .int .i64 t353, .int .i64 t354, .slice Ao33 t355.length co33, .int .i64 t358] 60 (0, 0)) (by (with_reducible repeat (first | refine lN ?_ _ | refine lD ?_ | refine lA ?_ _)); exact BK360.out) hb); have n8_ := Aside0.mk (below_step (by repeat (first | (with_reducible first | exact HB.out | apply bA | apply bN | apply bD | refine bS ?_ GE349.out | refine bS ?_ GE360.out) | exact HB.out)) hb); clear HO_350000; clear HO_350003; clear HO_361000; clear HO_361003; clear HO388; clear HO390; clear BK349; clear BK360; clear HB; have HO_350000 := n0_; have HO_350003 := n1_; have HO_361000 := n2_; have HO_361003 := n3_; have HO388 := n4_; have HO390 := n5_; have BK349 := n6_; have BK360 := n7_; have HB := n8_; clear n0_ n1_ n2_ n3_ n4_ n5_ n6_ n7_ n8_; (try clear hb); (try clear hb2); (try clear hk); (try clear hi)) | ((with_reducible refine gate_callee (f := 60) rfl ?_); refine goesL_ (some 256) rfl rfl Try.func60 (by kernel_rfl) rfl #[.slice Ao101 t384.length co101, .int .i64 t385, .slice Ao102 t386.length co102] rfl (by (try simp only [List.map_toArray, List.map_cons, List.map_nil]); first | done | rfl | (simp only [List.length_drop, List.length_take]; rfl)) ?_; (with_reducible refine (spec_WholeTrip.calls kj19 _ _ t384 t385 _ _ t386 t397 t398 _ ?side1 ?side2 ?side3 ?side4 A91.out).mono ?_); (case side1 => repeat (first | exact (rR HO388.out).2.2 | (with_reducible first | refine cA ?_ _ | refine cN ?_ _ | refine cD ?_))); (case side2 => exact (rR HO388.out).2.1); (case side3 => repeat (first | exact (rR HO390.out).2.2 | (with_reducible first | refine cA ?_ _ | refine cN ?_ _ | refine cD ?_))); (case side4 => exact (rR HO390.out).2.1); rintro e w106 ⟨rfl, hb⟩; refine ⟨_, rfl, ?_⟩; have n0_ := Aside0.mk (rB (by (with_reducible repeat (first | apply rA | apply rN | apply rD)); exact HO_350000.out) hb); have n1_ := Aside0.mk (rB (by (with_reducible repeat (first | apply rA | apply rN | apply rD)); exact HO_350003.out) hb); have n2_ := Aside0.mk (rB (by (with_reducible repeat (first | apply rA | apply rN | apply rD)); exact HO_361000.out) hb); have n3_ := Aside0.mk (rB (by (with_reducible repeat (first | apply rA | apply rN | apply rD)); exact HO_361003.out) hb); have n4_ := Aside0.mk (rB (by (with_reducible repeat (first | apply rA | apply rN | apply rD)); exact HO388.out) hb); have n5_ := Aside0.mk (rB (by (with_reducible repeat (first | apply rA | apply rN | apply rD)); exact HO390.out) hb); have n6_ := Aside0.mk (blk_below (g := gb349) (o := .cells #[.slice Ao25 t339.length co25, .int .i64 t342, .int .i64 t343, .slice Ao27 t344.length co27, .int .i64 t347] 60 (0, 0)) (by (with_reducible repeat (first | refine lN ?_ _ | refine lD ?_ | refine lA ?_ _)); exact BK349.out) hb); have n7_ := Aside0.mk (blk_below (g := gb360) (o := .cells #[.slice Ao30 t350.length co30, .int .i64 t353, .int .i64 t354, .slice Ao33 t355.length co33, .int .i64 t358] 60 (0, 0)) (by (with_reducible repeat (first | refine lN ?_ _ | refine lD ?_ | refine lA ?_ _)); exact BK360.out) hb); have n8_ := Aside0.mk (below_step (by repeat (first | (with_reducible first | exact HB.out | apply bA | apply bN | apply bD | refine bS ?_ GE349.out | refine bS ?_ GE360.out) | exact HB.out)) hb); clear HO_350000; clear HO_350003; clear HO_361000; clear HO_361003; clear HO388; clear HO390; clear BK349; clear BK360; clear HB; have HO_350000 := n0_; have HO_350003 := n1_; have HO_361000 := n2_; have HO_361003 := n3_; have HO388 := n4_; have HO390 := n5_; have BK349 := n6_; have BK360 := n7_; have HB := n8_; clear n0_ n1_ n2_ n3_ n4_ n5_ n6_ n7_ n8_; (try clear hb); (try clear hb2); (try clear hk); (try clear hi)))
                    go_ret
                    exact ⟨by first | rfl | (simp [errW_none, errW_some] <;> rfl) | (simp [*, errW_none, errW_some] <;> rfl), by repeat (first | (with_reducible first | exact HB.out | apply bA | apply bN | apply bD | refine bS ?_ GE349.out | refine bS ?_ GE360.out) | exact HB.out)⟩
                   ·replace c99 := fB c99
                    subst c99
                    have H1 : (some (decide (t391 < (wrap64 ((t384.length : Int) - 1))))) = some r := by rw [if_neg (show ¬ (false = true) by decide)] at H; exact H
                    clear H
                    have H := H1
                    clear H1
                    obtain rfl := Option.some.inj H
                    simp only [Option.some.injEq, Prod.mk.injEq] at H
                    obtain ⟨rfl⟩ := H
                    go_wp2_with (first | ((with_reducible refine gate_callee (f := 58) rfl ?_); refine goesL_ (some 227) rfl rfl Try.func58 (by kernel_rfl) rfl #[.slice A1 l1.length c1] rfl (by (try simp only [List.map_toArray, List.map_cons, List.map_nil]); first | done | rfl | (simp only [List.length_drop, List.length_take]; rfl)) ?_; (with_reducible refine (spec_DrawBlameOf.calls kj19 _ _ l1 t384 t385 t386 _ ?side1 ?side2 A87.out).mono ?_); (case side1 => repeat (first | exact (Kd.C_below HR1.out HB.out) | (with_reducible first | refine cA ?_ _ | refine cN ?_ _ | refine cD ?_))); (case side2 => exact HC1.out); rintro e w107 ⟨v387, v389, rfl, ho0, ho1, hb⟩; refine ⟨_, rfl, ?_⟩; have n0_ := Aside0.mk (rF (by (with_reducible repeat (first | apply rA | apply rN | apply rD)); exact HO_350000.out) (rE ho0) hb); have n1_ := Aside0.mk (rF (by (with_reducible repeat (first | apply rA | apply rN | apply rD)); exact HO_350003.out) (rE ho1) hb); have n2_ := Aside0.mk (rF (by (with_reducible repeat (first | apply rA | apply rN | apply rD)); exact HO_361000.out) (rE ho0) hb); have n3_ := Aside0.mk (rF (by (with_reducible repeat (first | apply rA | apply rN | apply rD)); exact HO_361003.out) (rE ho1) hb); have n4_ := Aside0.mk (Kd.R_lower (Kd.R_new' (Kd.R_new' ho0 (Kd.R_lt (by (with_reducible repeat (first | apply rA | apply rN | apply rD)); exact HO_350000.out))) (Kd.R_lt (by (with_reducible repeat (first | apply rA | apply rN | apply rD)); exact HO_361000.out))) (below_size (by repeat (first | (with_reducible first | exact HB.out | apply bA | apply bN | apply bD | refine bS ?_ GE349.out | refine bS ?_ GE360.out) | exact HB.out)))); have n5_ := Aside0.mk (Kd.R_lower (Kd.R_new' (Kd.R_new' ho1 (Kd.R_lt (by (with_reducible repeat (first | apply rA | apply rN | apply rD)); exact HO_350003.out))) (Kd.R_lt (by (with_reducible repeat (first | apply rA | apply rN | apply rD)); exact HO_361003.out))) (below_size (by repeat (first | (with_reducible first | exact HB.out | apply bA | apply bN | apply bD | refine bS ?_ GE349.out | refine bS ?_ GE360.out) | exact HB.out)))); have n6_ := Aside0.mk (blk_below (g := gb349) (o := .cells #[.slice Ao25 t339.length co25, .int .i64 t342, .int .i64 t343, .slice Ao27 t344.length co27, .int .i64 t347] 60 (0, 0)) (by (with_reducible repeat (first | refine lN ?_ _ | refine lD ?_ | refine lA ?_ _)); exact BK349.out) hb); have n7_ := Aside0.mk (blk_below (g := gb360) (o := .cells #[.slice Ao30 t350.length co30, .int .i64 t353, .int .i64 t354, .slice Ao33 t355.length co33, .int .i64 t358] 60 (0, 0)) (by (with_reducible repeat (first | refine lN ?_ _ | refine lD ?_ | refine lA ?_ _)); exact BK360.out) hb); have n8_ := Aside0.mk (below_step (by repeat (first | (with_reducible first | exact HB.out | apply bA | apply bN | apply bD | refine bS ?_ GE349.out | refine bS ?_ GE360.out) | exact HB.out)) hb); clear HO_350000; clear HO_350003; clear HO_361000; clear HO_361003; clear BK349; clear BK360; clear HB; have HO_350000 := n0_; have HO_350003 := n1_; have HO_361000 := n2_; have HO_361003 := n3_; have HO388 := n4_; have HO390 := n5_; have BK349 := n6_; have BK360 := n7_; have HB := n8_; clear n0_ n1_ n2_ n3_ n4_ n5_ n6_ n7_ n8_; (try clear hb); (try clear hb2); (try clear hk); (try clear hi); (try clear ho0); (try clear ho1); obtain ⟨Ao108, co108, eo108⟩ := rS HO388.out; subst eo108; obtain ⟨Ao109, co109, eo109⟩ := rS HO390.out; subst eo109) | ((with_reducible refine gate_callee (f := 54) rfl ?_); refine goesL_ (some 235) rfl rfl Try.func54 (by kernel_rfl) rfl #[.slice Ao108 t384.length co108, .int .i64 t385, .slice Ao109 t386.length co109] rfl (by (try simp only [List.map_toArray, List.map_cons, List.map_nil]); first | done | rfl | (simp only [List.length_drop, List.length_take]; rfl)) ?_; (with_reducible refine (impl_BlameOf.calls kj19 _ _ t384 t385 _ _ t386 t391 t392 _ ?side1 ?side2 ?side3 ?side4 A88.out).mono ?_); (case side1 => repeat (first | exact (rR HO388.out).2.2 | (with_reducible first | refine cA ?_ _ | refine cN ?_ _ | refine cD ?_))); (case side2 => exact (rR HO388.out).2.1); (case side3 => repeat (first | exact (rR HO390.out).2.2 | (with_reducible first | refine cA ?_ _ | refine cN ?_ _ | refine cD ?_))); (case side4 => exact (rR HO390.out).2.1); rintro e w110 ⟨rfl, hb⟩; refine ⟨_, rfl, ?_⟩; have n0_ := Aside0.mk (rB (by (with_reducible repeat (first | apply rA | apply rN | apply rD)); exact HO_350000.out) hb); have n1_ := Aside0.mk (rB (by (with_reducible repeat (first | apply rA | apply rN | apply rD)); exact HO_350003.out) hb); have n2_ := Aside0.mk (rB (by (with_reducible repeat (first | apply rA | apply rN | apply rD)); exact HO_361000.out) hb); have n3_ := Aside0.mk (rB (by (with_reducible repeat (first | apply rA | apply rN | apply rD)); exact HO_361003.out) hb); have n4_ := Aside0.mk (rB (by (with_reducible repeat (first | apply rA | apply rN | apply rD)); exact HO388.out) hb); have n5_ := Aside0.mk (rB (by (with_reducible repeat (first | apply rA | apply rN | apply rD)); exact HO390.out) hb); have n6_ := Aside0.mk (blk_below (g := gb349) (o := .cells #[.slice Ao25 t339.length co25, .int .i64 t342, .int .i64 t343, .slice Ao27 t344.length co27, .int .i64 t347] 60 (0, 0)) (by (with_reducible repeat (first | refine lN ?_ _ | refine lD ?_ | refine lA ?_ _)); exact BK349.out) hb); have n7_ := Aside0.mk (blk_below (g := gb360) (o := .cells #[.slice Ao30 t350.length co30, .int .i64 t353, .int .i64 t354, .slice Ao33 t355.length co33, .int .i64 t358] 60 (0, 0)) (by (with_reducible repeat (first | refine lN ?_ _ | refine lD ?_ | refine lA ?_ _)); exact BK360.out) hb); have n8_ := Aside0.mk (below_step (by repeat (first | (with_reducible first | exact HB.out | apply bA | apply bN | apply bD | refine bS ?_ GE349.out | refine bS ?_ GE360.out) | exact HB.out)) hb); clear HO_350000; clear HO_350003; clear HO_361000; clear HO_361003; clear HO388; clear HO390; clear BK349; clear BK360; clear HB; have HO_350000 := n0_; have HO_350003 := n1_; have HO_361000 := n2_; have HO_361003 := n3_; have HO388 := n4_; have HO390 := n5_; have BK349 := n6_; have BK360 := n7_; have HB := n8_; clear n0_ n1_ n2_ n3_ n4_ n5_ n6_ n7_ n8_; (try clear hb); (try clear hb2); (try clear hk); (try clear hi)) | ((with_reducible refine gate_callee (f := 59) rfl ?_); refine goesL_ (some 242) rfl rfl Try.func59 (by kernel_rfl) rfl #[.slice Ao108 t384.length co108, .int .i64 t385, .slice Ao109 t386.length co109] rfl (by (try simp only [List.map_toArray, List.map_cons, List.map_nil]); first | done | rfl | (simp only [List.length_drop, List.length_take]; rfl)) ?_; (with_reducible refine (spec_BlameOf.calls kj19 _ _ t384 t385 _ _ t386 t393 t394 _ ?side1 ?side2 ?side3 ?side4 A89.out).mono ?_); (case side1 => repeat (first | exact (rR HO388.out).2.2 | (with_reducible first | refine cA ?_ _ | refine cN ?_ _ | refine cD ?_))); (case side2 => exact (rR HO388.out).2.1); (case side3 => repeat (first | exact (rR HO390.out).2.2 | (with_reducible first | refine cA ?_ _ | refine cN ?_ _ | refine cD ?_))); (case side4 => exact (rR HO390.out).2.1); rintro e w111 ⟨rfl, hb⟩; refine ⟨_, rfl, ?_⟩; have n0_ := Aside0.mk (rB (by (with_reducible repeat (first | apply rA | apply rN | apply rD)); exact HO_350000.out) hb); have n1_ := Aside0.mk (rB (by (with_reducible repeat (first | apply rA | apply rN | apply rD)); exact HO_350003.out) hb); have n2_ := Aside0.mk (rB (by (with_reducible repeat (first | apply rA | apply rN | apply rD)); exact HO_361000.out) hb); have n3_ := Aside0.mk (rB (by (with_reducible repeat (first | apply rA | apply rN | apply rD)); exact HO_361003.out) hb); have n4_ := Aside0.mk (rB (by (with_reducible repeat (first | apply rA | apply rN | apply rD)); exact HO388.out) hb); have n5_ := Aside0.mk (rB (by (with_reducible repeat (first | apply rA | apply rN | apply rD)); exact HO390.out) hb); have n6_ := Aside0.mk (blk_below (g := gb349) (o := .cells #[.slice Ao25 t339.length co25, .int .i64 t342, .int .i64 t343, .slice Ao27 t344.length co27, .int .i64 t347] 60 (0, 0)) (by (with_reducible repeat (first | refine lN ?_ _ | refine lD ?_ | refine lA ?_ _)); exact BK349.out) hb); have n7_ := Aside0.mk (blk_below (g := gb360) (o := .cells #[.slice Ao30 t350.length co30, .int .i64 t353, .int .i64 t354, .slice Ao33 t355.length co33, .int .i64 t358] 60 (0, 0)) (by (with_reducible repeat (first | refine lN ?_ _ | refine lD ?_ | refine lA ?_ _)); exact BK360.out) hb); have n8_ := Aside0.mk (below_step (by repeat (first | (with_reducible first | exact HB.out | apply bA | apply bN | apply bD | refine bS ?_ GE349.out | refine bS ?_ GE360.out) | exact HB.out)) hb); clear HO_350000; clear HO_350003; clear HO_361000; clear HO_361003; clear HO388; clear HO390; clear BK349; clear BK360; clear HB; have HO_350000 := n0_; have HO_350003 := n1_; have HO_361000 := n2_; have HO_361003 := n3_; have HO388 := n4_; have HO390 := n5_; have BK349 := n6_; have BK360 := n7_; have HB := n8_; clear n0_ n1_ n2_ n3_ n4_ n5_ n6_ n7_ n8_; (try clear hb); (try clear hb2); (try clear hk); (try clear hi)) | ((with_reducible refine gate_callee (f := 55) rfl ?_); refine goesL_ (some 249) rfl rfl Try.func55 (by kernel_rfl) rfl #[.slice Ao108 t384.length co108, .int .i64 t385, .slice Ao109 t386.length co109] rfl (by (try simp only [List.map_toArray, List.map_cons, List.map_nil]); first | done | rfl | (simp only [List.length_drop, List.length_take]; rfl)) ?_; (with_reducible refine (impl_WholeTrip.calls kj19 _ _ t384 t385 _ _ t386 false true _ ?side1 ?side2 ?side3 ?side4 A90.out).mono ?_); (case side1 => repeat (first | exact (rR HO388.out).2.2 | (with_reducible first | refine cA ?_ _ | refine cN ?_ _ | refine cD ?_))); (case side2 => exact (rR HO388.out).2.1); (case side3 => repeat (first | exact (rR HO390.out).2.2 | (with_reducible first | refine cA ?_ _ | refine cN ?_ _ | refine cD ?_))); (case side4 => exact (rR HO390.out).2.1); rintro e w112 ⟨rfl, hb⟩; refine ⟨_, rfl, ?_⟩; have n0_ := Aside0.mk (rB (by (with_reducible repeat (first | apply rA | apply rN | apply rD)); exact HO_350000.out) hb); have n1_ := Aside0.mk (rB (by (with_reducible repeat (first | apply rA | apply rN | apply rD)); exact HO_350003.out) hb); have n2_ := Aside0.mk (rB (by (with_reducible repeat (first | apply rA | apply rN | apply rD)); exact HO_361000.out) hb); have n3_ := Aside0.mk (rB (by (with_reducible repeat (first | apply rA | apply rN | apply rD)); exact HO_361003.out) hb); have n4_ := Aside0.mk (rB (by (with_reducible repeat (first | apply rA | apply rN | apply rD)); exact HO388.out) hb); have n5_ := Aside0.mk (rB (by (with_reducible repeat (first | apply rA | apply rN | apply rD)); exact HO390.out) hb); have n6_ := Aside0.mk (blk_below (g := gb349) (o := .cells #[.slice Ao25 t339.length co25, .int .i64 t342, .int .i64 t343, .slice Ao27 t344.length co27, .int .i64 t347] 60 (0, 0)) (by (with_reducible repeat (first | refine lN ?_ _ | refine lD ?_ | refine lA ?_ _)); exact BK349.out) hb); have n7_ := Aside0.mk (blk_below (g := gb360) (o := .cells #[.slice Ao30 t350.length co30, .int .i64 t353, .int .i64 t354, .slice Ao33 t355.length co33, .int .i64 t358] 60 (0, 0)) (by (with_reducible repeat (first | refine lN ?_ _ | refine lD ?_ | refine lA ?_ _)); exact BK360.out) hb); have n8_ := Aside0.mk (below_step (by repeat (first | (with_reducible first | exact HB.out | apply bA | apply bN | apply bD | refine bS ?_ GE349.out | refine bS ?_ GE360.out) | exact HB.out)) hb); clear HO_350000; clear HO_350003; clear HO_361000; clear HO_361003; clear HO388; clear HO390; clear BK349; clear BK360; clear HB; have HO_350000 := n0_; have HO_350003 := n1_; have HO_361000 := n2_; have HO_361003 := n3_; have HO388 := n4_; have HO390 := n5_; have BK349 := n6_; have BK360 := n7_; have HB := n8_; clear n0_ n1_ n2_ n3_ n4_ n5_ n6_ n7_ n8_; (try clear hb); (try clear hb2); (try clear hk); (try clear hi)) | ((with_reducible refine gate_callee (f := 60) rfl ?_); refine goesL_ (some 256) rfl rfl Try.func60 (by kernel_rfl) rfl #[.slice Ao108 t384.length co108, .int .i64 t385, .slice Ao109 t386.length co109] rfl (by (try simp only [List.map_toArray, List.map_cons, List.map_nil]); first | done | rfl | (simp only [List.length_drop, List.length_take]; rfl)) ?_; (with_reducible refine (spec_WholeTrip.calls kj19 _ _ t384 t385 _ _ t386 t397 t398 _ ?side1 ?side2 ?side3 ?side4 A91.out).mono ?_); (case side1 => repeat (first | exact (rR HO388.out).2.2 | (with_reducible first | refine cA ?_ _ | refine cN ?_ _ | refine cD ?_))); (case side2 => exact (rR HO388.out).2.1); (case side3 => repeat (first | exact (rR HO390.out).2.2 | (with_reducible first | refine cA ?_ _ | refine cN ?_ _ | refine cD ?_))); (case side4 => exact (rR HO390.out).2.1); rintro e w113 ⟨rfl, hb⟩; refine ⟨_, rfl, ?_⟩; have n0_ := Aside0.mk (rB (by (with_reducible repeat (first | apply rA | apply rN | apply rD)); exact HO_350000.out) hb); have n1_ := Aside0.mk (rB (by (with_reducible repeat (first | apply rA | apply rN | apply rD)); exact HO_350003.out) hb); have n2_ := Aside0.mk (rB (by (with_reducible repeat (first | apply rA | apply rN | apply rD)); exact HO_361000.out) hb); have n3_ := Aside0.mk (rB (by (with_reducible repeat (first | apply rA | apply rN | apply rD)); exact HO_361003.out) hb); have n4_ := Aside0.mk (rB (by (with_reducible repeat (first | apply rA | apply rN | apply rD)); exact HO388.out) hb); have n5_ := Aside0.mk (rB (by (with_reducible repeat (first | apply rA | apply rN | apply rD)); exact HO390.out) hb); have n6_ := Aside0.mk (blk_below (g := gb349) (o := .cells #[.slice Ao25 t339.length co25, .int .i64 t342, .int .i64 t343, .slice Ao27 t344.length co27, .int .i64 t347] 60 (0, 0)) (by (with_reducible repeat (first | refine lN ?_ _ | refine lD ?_ | refine lA ?_ _)); exact BK349.out) hb); have n7_ := Aside0.mk (blk_below (g := gb360) (o := .cells #[.slice Ao30 t350.length co30, .int .i64 t353, .int .i64 t354, .slice Ao33 t355.length co33, .int .i64 t358] 60 (0, 0)) (by (with_reducible repeat (first | refine lN ?_ _ | refine lD ?_ | refine lA ?_ _)); exact BK360.out) hb); have n8_ := Aside0.mk (below_step (by repeat (first | (with_reducible first | exact HB.out | apply bA | apply bN | apply bD | refine bS ?_ GE349.out | refine bS ?_ GE360.out) | exact HB.out)) hb); clear HO_350000; clear HO_350003; clear HO_361000; clear HO_361003; clear HO388; clear HO390; clear BK349; clear BK360; clear HB; have HO_350000 := n0_; have HO_350003 := n1_; have HO_361000 := n2_; have HO_361003 := n3_; have HO388 := n4_; have HO390 := n5_; have BK349 := n6_; have BK360 := n7_; have HB := n8_; clear n0_ n1_ n2_ n3_ n4_ n5_ n6_ n7_ n8_; (try clear hb); (try clear hb2); (try clear hk); (try clear hi)))
                    go_ret
                    exact ⟨by first | rfl | (simp [errW_none, errW_some] <;> rfl) | (simp [*, errW_none, errW_some] <;> rfl), by repeat (first | (with_reducible first | exact HB.out | apply bA | apply bN | apply bD | refine bS ?_ GE349.out | refine bS ?_ GE360.out) | exact HB.out)⟩
                  ·rw [if_neg c98] at H
                   have c98b0 : (t395 == t395) = false := by simp at c98
                   (try (have c98b1 : decide (t395 = t395) = false := by simp at c98))
                   (try (have c98b2 : (t395 == t395) = false := by simp at c98))
                   (try (have c98b3 : ¬ (t395 = t395) := by simp at c98))
                   clear c98
                   obtain rfl := Option.some.inj H
                   exact absurd hr_.out (by simp)
                 ·rw [if_neg c97] at H
                  have c97b0 : (t391 == (wrap64 ((t384.length : Int) - 1))) = false := beq_eq_false_iff_ne.mpr c97
                  have c97b1 : (t391 != (wrap64 ((t384.length : Int) - 1))) = true := bne_iff_ne.mpr c97
                  by_cases c114 : (t395 == false) = true
                  ·rw [if_pos c114] at H
                   have c114b0 : (t395 == false) = true := c114
                   (try (have c114b1 : decide (t395 = false) = true := by simpa using c114))
                   (try (have c114b2 : (t395 == false) = true := by simpa using c114))
                   clear c114
                   by_cases c115 : t395 = true
                   ·subst c115
                    have H1 : (some true) = some r := by rw [if_pos rfl] at H; exact H
                    clear H
                    have H := H1
                    clear H1
                    obtain rfl := Option.some.inj H
                    simp only [Option.some.injEq, Prod.mk.injEq] at H
                    obtain ⟨rfl⟩ := H
                    go_wp2_with (first | ((with_reducible refine gate_callee (f := 58) rfl ?_); refine goesL_ (some 227) rfl rfl Try.func58 (by kernel_rfl) rfl #[.slice A1 l1.length c1] rfl (by (try simp only [List.map_toArray, List.map_cons, List.map_nil]); first | done | rfl | (simp only [List.length_drop, List.length_take]; rfl)) ?_; (with_reducible refine (spec_DrawBlameOf.calls kj19 _ _ l1 t384 t385 t386 _ ?side1 ?side2 A87.out).mono ?_); (case side1 => repeat (first | exact (Kd.C_below HR1.out HB.out) | (with_reducible first | refine cA ?_ _ | refine cN ?_ _ | refine cD ?_))); (case side2 => exact HC1.out); rintro e w116 ⟨v387, v389, rfl, ho0, ho1, hb⟩; refine ⟨_, rfl, ?_⟩; have n0_ := Aside0.mk (rF (by (with_reducible repeat (first | apply rA | apply rN | apply rD)); exact HO_350000.out) (rE ho0) hb); have n1_ := Aside0.mk (rF (by (with_reducible repeat (first | apply rA | apply rN | apply rD)); exact HO_350003.out) (rE ho1) hb); have n2_ := Aside0.mk (rF (by (with_reducible repeat (first | apply rA | apply rN | apply rD)); exact HO_361000.out) (rE ho0) hb); have n3_ := Aside0.mk (rF (by (with_reducible repeat (first | apply rA | apply rN | apply rD)); exact HO_361003.out) (rE ho1) hb); have n4_ := Aside0.mk (Kd.R_lower (Kd.R_new' (Kd.R_new' ho0 (Kd.R_lt (by (with_reducible repeat (first | apply rA | apply rN | apply rD)); exact HO_350000.out))) (Kd.R_lt (by (with_reducible repeat (first | apply rA | apply rN | apply rD)); exact HO_361000.out))) (below_size (by repeat (first | (with_reducible first | exact HB.out | apply bA | apply bN | apply bD | refine bS ?_ GE349.out | refine bS ?_ GE360.out) | exact HB.out)))); have n5_ := Aside0.mk (Kd.R_lower (Kd.R_new' (Kd.R_new' ho1 (Kd.R_lt (by (with_reducible repeat (first | apply rA | apply rN | apply rD)); exact HO_350003.out))) (Kd.R_lt (by (with_reducible repeat (first | apply rA | apply rN | apply rD)); exact HO_361003.out))) (below_size (by repeat (first | (with_reducible first | exact HB.out | apply bA | apply bN | apply bD | refine bS ?_ GE349.out | refine bS ?_ GE360.out) | exact HB.out)))); have n6_ := Aside0.mk (blk_below (g := gb349) (o := .cells #[.slice Ao25 t339.length co25, .int .i64 t342, .int .i64 t343, .slice Ao27 t344.length co27, .int .i64 t347] 60 (0, 0)) (by (with_reducible repeat (first | refine lN ?_ _ | refine lD ?_ | refine lA ?_ _)); exact BK349.out) hb); have n7_ := Aside0.mk (blk_below (g := gb360) (o := .cells #[.slice Ao30 t350.length co30, .int .i64 t353, .int .i64 t354, .slice Ao33 t355.length co33, .int .i64 t358] 60 (0, 0)) (by (with_reducible repeat (first | refine lN ?_ _ | refine lD ?_ | refine lA ?_ _)); exact BK360.out) hb); have n8_ := Aside0.mk (below_step (by repeat (first | (with_reducible first | exact HB.out | apply bA | apply bN | apply bD | refine bS ?_ GE349.out | refine bS ?_ GE360.out) | exact HB.out)) hb); clear HO_350000; clear HO_350003; clear HO_361000; clear HO_361003; clear BK349; clear BK360; clear HB; have HO_350000 := n0_; have HO_350003 := n1_; have HO_361000 := n2_; have HO_361003 := n3_; have HO388 := n4_; have HO390 := n5_; have BK349 := n6_; have BK360 := n7_; have HB := n8_; clear n0_ n1_ n2_ n3_ n4_ n5_ n6_ n7_ n8_; (try clear hb); (try clear hb2); (try clear hk); (try clear hi); (try clear ho0); (try clear ho1); obtain ⟨Ao117, co117, eo117⟩ := rS HO388.out; subst eo117; obtain ⟨Ao118, co118, eo118⟩ := rS HO390.out; subst eo118) | ((with_reducible refine gate_callee (f := 54) rfl ?_); refine goesL_ (some 235) rfl rfl Try.func54 (by kernel_rfl) rfl #[.slice Ao117 t384.length co117, .int .i64 t385, .slice Ao118 t386.length co118] rfl (by (try simp only [List.map_toArray, List.map_cons, List.map_nil]); first | done | rfl | (simp only [List.length_drop, List.length_take]; rfl)) ?_; (with_reducible refine (impl_BlameOf.calls kj19 _ _ t384 t385 _ _ t386 t391 t392 _ ?side1 ?side2 ?side3 ?side4 A88.out).mono ?_); (case side1 => repeat (first | exact (rR HO388.out).2.2 | (with_reducible first | refine cA ?_ _ | refine cN ?_ _ | refine cD ?_))); (case side2 => exact (rR HO388.out).2.1); (case side3 => repeat (first | exact (rR HO390.out).2.2 | (with_reducible first | refine cA ?_ _ | refine cN ?_ _ | refine cD ?_))); (case side4 => exact (rR HO390.out).2.1); rintro e w119 ⟨rfl, hb⟩; refine ⟨_, rfl, ?_⟩; have n0_ := Aside0.mk (rB (by (with_reducible repeat (first | apply rA | apply rN | apply rD)); exact HO_350000.out) hb); have n1_ := Aside0.mk (rB (by (with_reducible repeat (first | apply rA | apply rN | apply rD)); exact HO_350003.out) hb); have n2_ := Aside0.mk (rB (by (with_reducible repeat (first | apply rA | apply rN | apply rD)); exact HO_361000.out) hb); have n3_ := Aside0.mk (rB (by (with_reducible repeat (first | apply rA | apply rN | apply rD)); exact HO_361003.out) hb); have n4_ := Aside0.mk (rB (by (with_reducible repeat (first | apply rA | apply rN | apply rD)); exact HO388.out) hb); have n5_ := Aside0.mk (rB (by (with_reducible repeat (first | apply rA | apply rN | apply rD)); exact HO390.out) hb); have n6_ := Aside0.mk (blk_below (g := gb349) (o := .cells #[.slice Ao25 t339.length co25, .int .i64 t342, .int .i64 t343, .slice Ao27 t344.length co27, .int .i64 t347] 60 (0, 0)) (by (with_reducible repeat (first | refine lN ?_ _ | refine lD ?_ | refine lA ?_ _)); exact BK349.out) hb); have n7_ := Aside0.mk (blk_below (g := gb360) (o := .cells #[.slice Ao30 t350.length co30, .int .i64 t353, .int .i64 t354, .slice Ao33 t355.length co33, .int .i64 t358] 60 (0, 0)) (by (with_reducible repeat (first | refine lN ?_ _ | refine lD ?_ | refine lA ?_ _)); exact BK360.out) hb); have n8_ := Aside0.mk (below_step (by repeat (first | (with_reducible first | exact HB.out | apply bA | apply bN | apply bD | refine bS ?_ GE349.out | refine bS ?_ GE360.out) | exact HB.out)) hb); clear HO_350000; clear HO_350003; clear HO_361000; clear HO_361003; clear HO388; clear HO390; clear BK349; clear BK360; clear HB; have HO_350000 := n0_; have HO_350003 := n1_; have HO_361000 := n2_; have HO_361003 := n3_; have HO388 := n4_; have HO390 := n5_; have BK349 := n6_; have BK360 := n7_; have HB := n8_; clear n0_ n1_ n2_ n3_ n4_ n5_ n6_ n7_ n8_; (try clear hb); (try clear hb2); (try clear hk); (try clear hi)) | ((with_reducible refine gate_callee (f := 59) rfl ?_); refine goesL_ (some 242) rfl rfl Try.func59 (by kernel_rfl) rfl #[.slice Ao117 t384.length co117, .int .i64 t385, .slice Ao118 t386.length co118] rfl (by (try simp only [List.map_toArray, List.map_cons, List.map_nil]); first | done | rfl | (simp only [List.length_drop, List.length_take]; rfl)) ?_; (with_reducible refine (spec_BlameOf.calls kj19 _ _ t384 t385 _ _ t386 t393 t394 _ ?side1 ?side2 ?side3 ?side4 A89.out).mono ?_); (case side1 => repeat (first | exact (rR HO388.out).2.2 | (with_reducible first | refine cA ?_ _ | refine cN ?_ _ | refine cD ?_))); (case side2 => exact (rR HO388.out).2.1); (case side3 => repeat (first | exact (rR HO390.out).2.2 | (with_reducible first | refine cA ?_ _ | refine cN ?_ _ | refine cD ?_))); (case side4 => exact (rR HO390.out).2.1); rintro e w120 ⟨rfl, hb⟩; refine ⟨_, rfl, ?_⟩; have n0_ := Aside0.mk (rB (by (with_reducible repeat (first | apply rA | apply rN | apply rD)); exact HO_350000.out) hb); have n1_ := Aside0.mk (rB (by (with_reducible repeat (first | apply rA | apply rN | apply rD)); exact HO_350003.out) hb); have n2_ := Aside0.mk (rB (by (with_reducible repeat (first | apply rA | apply rN | apply rD)); exact HO_361000.out) hb); have n3_ := Aside0.mk (rB (by (with_reducible repeat (first | apply rA | apply rN | apply rD)); exact HO_361003.out) hb); have n4_ := Aside0.mk (rB (by (with_reducible repeat (first | apply rA | apply rN | apply rD)); exact HO388.out) hb); have n5_ := Aside0.mk (rB (by (with_reducible repeat (first | apply rA | apply rN | apply rD)); exact HO390.out) hb); have n6_ := Aside0.mk (blk_below (g := gb349) (o := .cells #[.slice Ao25 t339.length co25, .int .i64 t342, .int .i64 t343, .slice Ao27 t344.length co27, .int .i64 t347] 60 (0, 0)) (by (with_reducible repeat (first | refine lN ?_ _ | refine lD ?_ | refine lA ?_ _)); exact BK349.out) hb); have n7_ := Aside0.mk (blk_below (g := gb360) (o := .cells #[.slice Ao30 t350.length co30, .int .i64 t353, .int .i64 t354, .slice Ao33 t355.length co33, .int .i64 t358] 60 (0, 0)) (by (with_reducible repeat (first | refine lN ?_ _ | refine lD ?_ | refine lA ?_ _)); exact BK360.out) hb); have n8_ := Aside0.mk (below_step (by repeat (first | (with_reducible first | exact HB.out | apply bA | apply bN | apply bD | refine bS ?_ GE349.out | refine bS ?_ GE360.out) | exact HB.out)) hb); clear HO_350000; clear HO_350003; clear HO_361000; clear HO_361003; clear HO388; clear HO390; clear BK349; clear BK360; clear HB; have HO_350000 := n0_; have HO_350003 := n1_; have HO_361000 := n2_; have HO_361003 := n3_; have HO388 := n4_; have HO390 := n5_; have BK349 := n6_; have BK360 := n7_; have HB := n8_; clear n0_ n1_ n2_ n3_ n4_ n5_ n6_ n7_ n8_; (try clear hb); (try clear hb2); (try clear hk); (try clear hi)) | ((with_reducible refine gate_callee (f := 55) rfl ?_); refine goesL_ (some 249) rfl rfl Try.func55 (by kernel_rfl) rfl #[.slice Ao117 t384.length co117, .int .i64 t385, .slice Ao118 t386.length co118] rfl (by (try simp only [List.map_toArray, List.map_cons, List.map_nil]); first | done | rfl | (simp only [List.length_drop, List.length_take]; rfl)) ?_; (with_reducible refine (impl_WholeTrip.calls kj19 _ _ t384 t385 _ _ t386 true true _ ?side1 ?side2 ?side3 ?side4 A90.out).mono ?_); (case side1 => repeat (first | exact (rR HO388.out).2.2 | (with_reducible first | refine cA ?_ _ | refine cN ?_ _ | refine cD ?_))); (case side2 => exact (rR HO388.out).2.1); (case side3 => repeat (first | exact (rR HO390.out).2.2 | (with_reducible first | refine cA ?_ _ | refine cN ?_ _ | refine cD ?_))); (case side4 => exact (rR HO390.out).2.1); rintro e w121 ⟨rfl, hb⟩; refine ⟨_, rfl, ?_⟩; have n0_ := Aside0.mk (rB (by (with_reducible repeat (first | apply rA | apply rN | apply rD)); exact HO_350000.out) hb); have n1_ := Aside0.mk (rB (by (with_reducible repeat (first | apply rA | apply rN | apply rD)); exact HO_350003.out) hb); have n2_ := Aside0.mk (rB (by (with_reducible repeat (first | apply rA | apply rN | apply rD)); exact HO_361000.out) hb); have n3_ := Aside0.mk (rB (by (with_reducible repeat (first | apply rA | apply rN | apply rD)); exact HO_361003.out) hb); have n4_ := Aside0.mk (rB (by (with_reducible repeat (first | apply rA | apply rN | apply rD)); exact HO388.out) hb); have n5_ := Aside0.mk (rB (by (with_reducible repeat (first | apply rA | apply rN | apply rD)); exact HO390.out) hb); have n6_ := Aside0.mk (blk_below (g := gb349) (o := .cells #[.slice Ao25 t339.length co25, .int .i64 t342, .int .i64 t343, .slice Ao27 t344.length co27, .int .i64 t347] 60 (0, 0)) (by (with_reducible repeat (first | refine lN ?_ _ | refine lD ?_ | refine lA ?_ _)); exact BK349.out) hb); have n7_ := Aside0.mk (blk_below (g := gb360) (o := .cells #[.slice Ao30 t350.length co30, .int .i64 t353, .int .i64 t354, .slice Ao33 t355.length co33, .int .i64 t358] 60 (0, 0)) (by (with_reducible repeat (first | refine lN ?_ _ | refine lD ?_ | refine lA ?_ _)); exact BK360.out) hb); have n8_ := Aside0.mk (below_step (by repeat (first | (with_reducible first | exact HB.out | apply bA | apply bN | apply bD | refine bS ?_ GE349.out | refine bS ?_ GE360.out) | exact HB.out)) hb); clear HO_350000; clear HO_350003; clear HO_361000; clear HO_361003; clear HO388; clear HO390; clear BK349; clear BK360; clear HB; have HO_350000 := n0_; have HO_350003 := n1_; have HO_361000 := n2_; have HO_361003 := n3_; have HO388 := n4_; have HO390 := n5_; have BK349 := n6_; have BK360 := n7_; have HB := n8_; clear n0_ n1_ n2_ n3_ n4_ n5_ n6_ n7_ n8_; (try clear hb); (try clear hb2); (try clear hk); (try clear hi)) | ((with_reducible refine gate_callee (f := 60) rfl ?_); refine goesL_ (some 256) rfl rfl Try.func60 (by kernel_rfl) rfl #[.slice Ao117 t384.length co117, .int .i64 t385, .slice Ao118 t386.length co118] rfl (by (try simp only [List.map_toArray, List.map_cons, List.map_nil]); first | done | rfl | (simp only [List.length_drop, List.length_take]; rfl)) ?_; (with_reducible refine (spec_WholeTrip.calls kj19 _ _ t384 t385 _ _ t386 t397 t398 _ ?side1 ?side2 ?side3 ?side4 A91.out).mono ?_); (case side1 => repeat (first | exact (rR HO388.out).2.2 | (with_reducible first | refine cA ?_ _ | refine cN ?_ _ | refine cD ?_))); (case side2 => exact (rR HO388.out).2.1); (case side3 => repeat (first | exact (rR HO390.out).2.2 | (with_reducible first | refine cA ?_ _ | refine cN ?_ _ | refine cD ?_))); (case side4 => exact (rR HO390.out).2.1); rintro e w122 ⟨rfl, hb⟩; refine ⟨_, rfl, ?_⟩; have n0_ := Aside0.mk (rB (by (with_reducible repeat (first | apply rA | apply rN | apply rD)); exact HO_350000.out) hb); have n1_ := Aside0.mk (rB (by (with_reducible repeat (first | apply rA | apply rN | apply rD)); exact HO_350003.out) hb); have n2_ := Aside0.mk (rB (by (with_reducible repeat (first | apply rA | apply rN | apply rD)); exact HO_361000.out) hb); have n3_ := Aside0.mk (rB (by (with_reducible repeat (first | apply rA | apply rN | apply rD)); exact HO_361003.out) hb); have n4_ := Aside0.mk (rB (by (with_reducible repeat (first | apply rA | apply rN | apply rD)); exact HO388.out) hb); have n5_ := Aside0.mk (rB (by (with_reducible repeat (first | apply rA | apply rN | apply rD)); exact HO390.out) hb); have n6_ := Aside0.mk (blk_below (g := gb349) (o := .cells #[.slice Ao25 t339.length co25, .int .i64 t342, .int .i64 t343, .slice Ao27 t344.length co27, .int .i64 t347] 60 (0, 0)) (by (with_reducible repeat (first | refine lN ?_ _ | refine lD ?_ | refine lA ?_ _)); exact BK349.out) hb); have n7_ := Aside0.mk (blk_below (g := gb360) (o := .cells #[.slice Ao30 t350.length co30, .int .i64 t353, .int .i64 t354, .slice Ao33 t355.length co33, .int .i64 t358] 60 (0, 0)) (by (with_reducible repeat (first | refine lN ?_ _ | refine lD ?_ | refine lA ?_ _)); exact BK360.out) hb); have n8_ := Aside0.mk (below_step (by repeat (first | (with_reducible first | exact HB.out | apply bA | apply bN | apply bD | refine bS ?_ GE349.out | refine bS ?_ GE360.out) | exact HB.out)) hb); clear HO_350000; clear HO_350003; clear HO_361000; clear HO_361003; clear HO388; clear HO390; clear BK349; clear BK360; clear HB; have HO_350000 := n0_; have HO_350003 := n1_; have HO_361000 := n2_; have HO_361003 := n3_; have HO388 := n4_; have HO390 := n5_; have BK349 := n6_; have BK360 := n7_; have HB := n8_; clear n0_ n1_ n2_ n3_ n4_ n5_ n6_ n7_ n8_; (try clear hb); (try clear hb2); (try clear hk); (try clear hi)))
                    go_ret
                    exact ⟨by first | rfl | (simp [errW_none, errW_some] <;> rfl) | (simp [*, errW_none, errW_some] <;> rfl), by repeat (first | (with_reducible first | exact HB.out | apply bA | apply bN | apply bD | refine bS ?_ GE349.out | refine bS ?_ GE360.out) | exact HB.out)⟩
                   ·replace c115 := fB c115
                    subst c115
                    have H1 : (some (decide (t391 < (wrap64 ((t384.length : Int) - 1))))) = some r := by rw [if_neg (show ¬ (false = true) by decide)] at H; exact H
                    clear H
                    have H := H1
                    clear H1
                    obtain rfl := Option.some.inj H
                    simp only [Option.some.injEq, Prod.mk.injEq] at H
                    obtain ⟨rfl⟩ := H
                    go_wp2_with (first | ((with_reducible refine gate_callee (f := 58) rfl ?_); refine goesL_ (some 227) rfl rfl Try.func58 (by kernel_rfl) rfl #[.slice A1 l1.length c1] rfl (by (try simp only [List.map_toArray, List.map_cons, List.map_nil]); first | done | rfl | (simp only [List.length_drop, List.length_take]; rfl)) ?_; (with_reducible refine (spec_DrawBlameOf.calls kj19 _ _ l1 t384 t385 t386 _ ?side1 ?side2 A87.out).mono ?_); (case side1 => repeat (first | exact (Kd.C_below HR1.out HB.out) | (with_reducible first | refine cA ?_ _ | refine cN ?_ _ | refine cD ?_))); (case side2 => exact HC1.out); rintro e w123 ⟨v387, v389, rfl, ho0, ho1, hb⟩; refine ⟨_, rfl, ?_⟩; have n0_ := Aside0.mk (rF (by (with_reducible repeat (first | apply rA | apply rN | apply rD)); exact HO_350000.out) (rE ho0) hb); have n1_ := Aside0.mk (rF (by (with_reducible repeat (first | apply rA | apply rN | apply rD)); exact HO_350003.out) (rE ho1) hb); have n2_ := Aside0.mk (rF (by (with_reducible repeat (first | apply rA | apply rN | apply rD)); exact HO_361000.out) (rE ho0) hb); have n3_ := Aside0.mk (rF (by (with_reducible repeat (first | apply rA | apply rN | apply rD)); exact HO_361003.out) (rE ho1) hb); have n4_ := Aside0.mk (Kd.R_lower (Kd.R_new' (Kd.R_new' ho0 (Kd.R_lt (by (with_reducible repeat (first | apply rA | apply rN | apply rD)); exact HO_350000.out))) (Kd.R_lt (by (with_reducible repeat (first | apply rA | apply rN | apply rD)); exact HO_361000.out))) (below_size (by repeat (first | (with_reducible first | exact HB.out | apply bA | apply bN | apply bD | refine bS ?_ GE349.out | refine bS ?_ GE360.out) | exact HB.out)))); have n5_ := Aside0.mk (Kd.R_lower (Kd.R_new' (Kd.R_new' ho1 (Kd.R_lt (by (with_reducible repeat (first | apply rA | apply rN | apply rD)); exact HO_350003.out))) (Kd.R_lt (by (with_reducible repeat (first | apply rA | apply rN | apply rD)); exact HO_361003.out))) (below_size (by repeat (first | (with_reducible first | exact HB.out | apply bA | apply bN | apply bD | refine bS ?_ GE349.out | refine bS ?_ GE360.out) | exact HB.out)))); have n6_ := Aside0.mk (blk_below (g := gb349) (o := .cells #[.slice Ao25 t339.length co25, .int .i64 t342, .int .i64 t343, .slice Ao27 t344.length co27, .int .i64 t347] 60 (0, 0)) (by (with_reducible repeat (first | refine lN ?_ _ | refine lD ?_ | refine lA ?_ _)); exact BK349.out) hb); have n7_ := Aside0.mk (blk_below (g := gb360) (o := .cells #[.slice Ao30 t350.length co30, .int .i64 t353, .int .i64 t354, .slice Ao33 t355.length co33, .int .i64 t358] 60 (0, 0)) (by (with_reducible repeat (first | refine lN ?_ _ | refine lD ?_ | refine lA ?_ _)); exact BK360.out) hb); have n8_ := Aside0.mk (below_step (by repeat (first | (with_reducible first | exact HB.out | apply bA | apply bN | apply bD | refine bS ?_ GE349.out | refine bS ?_ GE360.out) | exact HB.out)) hb); clear HO_350000; clear HO_350003; clear HO_361000; clear HO_361003; clear BK349; clear BK360; clear HB; have HO_350000 := n0_; have HO_350003 := n1_; have HO_361000 := n2_; have HO_361003 := n3_; have HO388 := n4_; have HO390 := n5_; have BK349 := n6_; have BK360 := n7_; have HB := n8_; clear n0_ n1_ n2_ n3_ n4_ n5_ n6_ n7_ n8_; (try clear hb); (try clear hb2); (try clear hk); (try clear hi); (try clear ho0); (try clear ho1); obtain ⟨Ao124, co124, eo124⟩ := rS HO388.out; subst eo124; obtain ⟨Ao125, co125, eo125⟩ := rS HO390.out; subst eo125) | ((with_reducible refine gate_callee (f := 54) rfl ?_); refine goesL_ (some 235) rfl rfl Try.func54 (by kernel_rfl) rfl #[.slice Ao124 t384.length co124, .int .i64 t385, .slice Ao125 t386.length co125] rfl (by (try simp only [List.map_toArray, List.map_cons, List.map_nil]); first | done | rfl | (simp only [List.length_drop, List.length_take]; rfl)) ?_; (with_reducible refine (impl_BlameOf.calls kj19 _ _ t384 t385 _ _ t386 t391 t392 _ ?side1 ?side2 ?side3 ?side4 A88.out).mono ?_); (case side1 => repeat (first | exact (rR HO388.out).2.2 | (with_reducible first | refine cA ?_ _ | refine cN ?_ _ | refine cD ?_))); (case side2 => exact (rR HO388.out).2.1); (case side3 => repeat (first | exact (rR HO390.out).2.2 | (with_reducible first | refine cA ?_ _ | refine cN ?_ _ | refine cD ?_))); (case side4 => exact (rR HO390.out).2.1); rintro e w126 ⟨rfl, hb⟩; refine ⟨_, rfl, ?_⟩; have n0_ := Aside0.mk (rB (by (with_reducible repeat (first | apply rA | apply rN | apply rD)); exact HO_350000.out) hb); have n1_ := Aside0.mk (rB (by (with_reducible repeat (first | apply rA | apply rN | apply rD)); exact HO_350003.out) hb); have n2_ := Aside0.mk (rB (by (with_reducible repeat (first | apply rA | apply rN | apply rD)); exact HO_361000.out) hb); have n3_ := Aside0.mk (rB (by (with_reducible repeat (first | apply rA | apply rN | apply rD)); exact HO_361003.out) hb); have n4_ := Aside0.mk (rB (by (with_reducible repeat (first | apply rA | apply rN | apply rD)); exact HO388.out) hb); have n5_ := Aside0.mk (rB (by (with_reducible repeat (first | apply rA | apply rN | apply rD)); exact HO390.out) hb); have n6_ := Aside0.mk (blk_below (g := gb349) (o := .cells #[.slice Ao25 t339.length co25, .int .i64 t342, .int .i64 t343, .slice Ao27 t344.length co27, .int .i64 t347] 60 (0, 0)) (by (with_reducible repeat (first | refine lN ?_ _ | refine lD ?_ | refine lA ?_ _)); exact BK349.out) hb); have n7_ := Aside0.mk (blk_below (g := gb360) (o := .cells #[.slice Ao30 t350.length co30, .int .i64 t353, .int .i64 t354, .slice Ao33 t355.length co33, .int .i64 t358] 60 (0, 0)) (by (with_reducible repeat (first | refine lN ?_ _ | refine lD ?_ | refine lA ?_ _)); exact BK360.out) hb); have n8_ := Aside0.mk (below_step (by repeat (first | (with_reducible first | exact HB.out | apply bA | apply bN | apply bD | refine bS ?_ GE349.out | refine bS ?_ GE360.out) | exact HB.out)) hb); clear HO_350000; clear HO_350003; clear HO_361000; clear HO_361003; clear HO388; clear HO390; clear BK349; clear BK360; clear HB; have HO_350000 := n0_; have HO_350003 := n1_; have HO_361000 := n2_; have HO_361003 := n3_; have HO388 := n4_; have HO390 := n5_; have BK349 := n6_; have BK360 := n7_; have HB := n8_; clear n0_ n1_ n2_ n3_ n4_ n5_ n6_ n7_ n8_; (try clear hb); (try clear hb2); (try clear hk); (try clear hi)) | ((with_reducible refine gate_callee (f := 59) rfl ?_); refine goesL_ (some 242) rfl rfl Try.func59 (by kernel_rfl) rfl #[.slice Ao124 t384.length co124, .int .i64 t385, .slice Ao125 t386.length co125] rfl (by (try simp only [List.map_toArray, List.map_cons, List.map_nil]); first | done | rfl | (simp only [List.length_drop, List.length_take]; rfl)) ?_; (with_reducible refine (spec_BlameOf.calls kj19 _ _ t384 t385 _ _ t386 t393 t394 _ ?side1 ?side2 ?side3 ?side4 A89.out).mono ?_); (case side1 => repeat (first | exact (rR HO388.out).2.2 | (with_reducible first | refine cA ?_ _ | refine cN ?_ _ | refine cD ?_))); (case side2 => exact (rR HO388.out).2.1); (case side3 => repeat (first | exact (rR HO390.out).2.2 | (with_reducible first | refine cA ?_ _ | refine cN ?_ _ | refine cD ?_))); (case side4 => exact (rR HO390.out).2.1); rintro e w127 ⟨rfl, hb⟩; refine ⟨_, rfl, ?_⟩; have n0_ := Aside0.mk (rB (by (with_reducible repeat (first | apply rA | apply rN | apply rD)); exact HO_350000.out) hb); have n1_ := Aside0.mk (rB (by (with_reducible repeat (first | apply rA | apply rN | apply rD)); exact HO_350003.out) hb); have n2_ := Aside0.mk (rB (by (with_reducible repeat (first | apply rA | apply rN | apply rD)); exact HO_361000.out) hb); have n3_ := Aside0.mk (rB (by (with_reducible repeat (first | apply rA | apply rN | apply rD)); exact HO_361003.out) hb); have n4_ := Aside0.mk (rB (by (with_reducible repeat (first | apply rA | apply rN | apply rD)); exact HO388.out) hb); have n5_ := Aside0.mk (rB (by (with_reducible repeat (first | apply rA | apply rN | apply rD)); exact HO390.out) hb); have n6_ := Aside0.mk (blk_below (g := gb349) (o := .cells #[.slice Ao25 t339.length co25, .int .i64 t342, .int .i64 t343, .slice Ao27 t344.length co27, .int .i64 t347] 60 (0, 0)) (by (with_reducible repeat (first | refine lN ?_ _ | refine lD ?_ | refine lA ?_ _)); exact BK349.out) hb); have n7_ := Aside0.mk (blk_below (g := gb360) (o := .cells #[.slice Ao30 t350.length co30, .int .i64 t353, .int .i64 t354, .slice Ao33 t355.length co33, .int .i64 t358] 60 (0, 0)) (by (with_reducible repeat (first | refine lN ?_ _ | refine lD ?_ | refine lA ?_ _)); exact BK360.out) hb); have n8_ := Aside0.mk (below_step (by repeat (first | (with_reducible first | exact HB.out | apply bA | apply bN | apply bD | refine bS ?_ GE349.out | refine bS ?_ GE360.out) | exact HB.out)) hb); clear HO_350000; clear HO_350003; clear HO_361000; clear HO_361003; clear HO388; clear HO390; clear BK349; clear BK360; clear HB; have HO_350000 := n0_; have HO_350003 := n1_; have HO_361000 := n2_; have HO_361003 := n3_; have HO388 := n4_; have HO390 := n5_; have BK349 := n6_; have BK360 := n7_; have HB := n8_; clear n0_ n1_ n2_ n3_ n4_ n5_ n6_ n7_ n8_; (try clear hb); (try clear hb2); (try clear hk); (try clear hi)) | ((with_reducible refine gate_callee (f := 55) rfl ?_); refine goesL_ (some 249) rfl rfl Try.func55 (by kernel_rfl) rfl #[.slice Ao124 t384.length co124, .int .i64 t385, .slice Ao125 t386.length co125] rfl (by (try simp only [List.map_toArray, List.map_cons, List.map_nil]); first | done | rfl | (simp only [List.length_drop, List.length_take]; rfl)) ?_; (with_reducible refine (impl_WholeTrip.calls kj19 _ _ t384 t385 _ _ t386 false true _ ?side1 ?side2 ?side3 ?side4 A90.out).mono ?_); (case side1 => repeat (first | exact (rR HO388.out).2.2 | (with_reducible first | refine cA ?_ _ | refine cN ?_ _ | refine cD ?_))); (case side2 => exact (rR HO388.out).2.1); (case side3 => repeat (first | exact (rR HO390.out).2.2 | (with_reducible first | refine cA ?_ _ | refine cN ?_ _ | refine cD ?_))); (case side4 => exact (rR HO390.out).2.1); rintro e w128 ⟨rfl, hb⟩; refine ⟨_, rfl, ?_⟩; have n0_ := Aside0.mk (rB (by (with_reducible repeat (first | apply rA | apply rN | apply rD)); exact HO_350000.out) hb); have n1_ := Aside0.mk (rB (by (with_reducible repeat (first | apply rA | apply rN | apply rD)); exact HO_350003.out) hb); have n2_ := Aside0.mk (rB (by (with_reducible repeat (first | apply rA | apply rN | apply rD)); exact HO_361000.out) hb); have n3_ := Aside0.mk (rB (by (with_reducible repeat (first | apply rA | apply rN | apply rD)); exact HO_361003.out) hb); have n4_ := Aside0.mk (rB (by (with_reducible repeat (first | apply rA | apply rN | apply rD)); exact HO388.out) hb); have n5_ := Aside0.mk (rB (by (with_reducible repeat (first | apply rA | apply rN | apply rD)); exact HO390.out) hb); have n6_ := Aside0.mk (blk_below (g := gb349) (o := .cells #[.slice Ao25 t339.length co25, .int .i64 t342, .int .i64 t343, .slice Ao27 t344.length co27, .int .i64 t347] 60 (0, 0)) (by (with_reducible repeat (first | refine lN ?_ _ | refine lD ?_ | refine lA ?_ _)); exact BK349.out) hb); have n7_ := Aside0.mk (blk_below (g := gb360) (o := .cells #[.slice Ao30 t350.length co30, .int .i64 t353, .int .i64 t354, .slice Ao33 t355.length co33, .int .i64 t358] 60 (0, 0)) (by (with_reducible repeat (first | refine lN ?_ _ | refine lD ?_ | refine lA ?_ _)); exact BK360.out) hb); have n8_ := Aside0.mk (below_step (by repeat (first | (with_reducible first | exact HB.out | apply bA | apply bN | apply bD | refine bS ?_ GE349.out | refine bS ?_ GE360.out) | exact HB.out)) hb); clear HO_350000; clear HO_350003; clear HO_361000; clear HO_361003; clear HO388; clear HO390; clear BK349; clear BK360; clear HB; have HO_350000 := n0_; have HO_350003 := n1_; have HO_361000 := n2_; have HO_361003 := n3_; have HO388 := n4_; have HO390 := n5_; have BK349 := n6_; have BK360 := n7_; have HB := n8_; clear n0_ n1_ n2_ n3_ n4_ n5_ n6_ n7_ n8_; (try clear hb); (try clear hb2); (try clear hk); (try clear hi)) | ((with_reducible refine gate_callee (f := 60) rfl ?_); refine goesL_ (some 256) rfl rfl Try.func60 (by kernel_rfl) rfl #[.slice Ao124 t384.length co124, .int .i64 t385, .slice Ao125 t386.length co125] rfl (by (try simp only [List.map_toArray, List.map_cons, List.map_nil]); first | done | rfl | (simp only [List.length_drop, List.length_take]; rfl)) ?_; (with_reducible refine (spec_WholeTrip.calls kj19 _ _ t384 t385 _ _ t386 t397 t398 _ ?side1 ?side2 ?side3 ?side4 A91.out).mono ?_); (case side1 => repeat (first | exact (rR HO388.out).2.2 | (with_reducible first | refine cA ?_ _ | refine cN ?_ _ | refine cD ?_))); (case side2 => exact (rR HO388.out).2.1); (case side3 => repeat (first | exact (rR HO390.out).2.2 | (with_reducible first | refine cA ?_ _ | refine cN ?_ _ | refine cD ?_))); (case side4 => exact (rR HO390.out).2.1); rintro e w129 ⟨rfl, hb⟩; refine ⟨_, rfl, ?_⟩; have n0_ := Aside0.mk (rB (by (with_reducible repeat (first | apply rA | apply rN | apply rD)); exact HO_350000.out) hb); have n1_ := Aside0.mk (rB (by (with_reducible repeat (first | apply rA | apply rN | apply rD)); exact HO_350003.out) hb); have n2_ := Aside0.mk (rB (by (with_reducible repeat (first | apply rA | apply rN | apply rD)); exact HO_361000.out) hb); have n3_ := Aside0.mk (rB (by (with_reducible repeat (first | apply rA | apply rN | apply rD)); exact HO_361003.out) hb); have n4_ := Aside0.mk (rB (by (with_reducible repeat (first | apply rA | apply rN | apply rD)); exact HO388.out) hb); have n5_ := Aside0.mk (rB (by (with_reducible repeat (first | apply rA | apply rN | apply rD)); exact HO390.out) hb); have n6_ := Aside0.mk (blk_below (g := gb349) (o := .cells #[.slice Ao25 t339.length co25, .int .i64 t342, .int .i64 t343, .slice Ao27 t344.length co27, .int .i64 t347] 60 (0, 0)) (by (with_reducible repeat (first | refine lN ?_ _ | refine lD ?_ | refine lA ?_ _)); exact BK349.out) hb); have n7_ := Aside0.mk (blk_below (g := gb360) (o := .cells #[.slice Ao30 t350.length co30, .int .i64 t353, .int .i64 t354, .slice Ao33 t355.length co33, .int .i64 t358] 60 (0, 0)) (by (with_reducible repeat (first | refine lN ?_ _ | refine lD ?_ | refine lA ?_ _)); exact BK360.out) hb); have n8_ := Aside0.mk (below_step (by repeat (first | (with_reducible first | exact HB.out | apply bA | apply bN | apply bD | refine bS ?_ GE349.out | refine bS ?_ GE360.out) | exact HB.out)) hb); clear HO_350000; clear HO_350003; clear HO_361000; clear HO_361003; clear HO388; clear HO390; clear BK349; clear BK360; clear HB; have HO_350000 := n0_; have HO_350003 := n1_; have HO_361000 := n2_; have HO_361003 := n3_; have HO388 := n4_; have HO390 := n5_; have BK349 := n6_; have BK360 := n7_; have HB := n8_; clear n0_ n1_ n2_ n3_ n4_ n5_ n6_ n7_ n8_; (try clear hb); (try clear hb2); (try clear hk); (try clear hi)))
                    go_ret
                    exact ⟨by first | rfl | (simp [errW_none, errW_some] <;> rfl) | (simp [*, errW_none, errW_some] <;> rfl), by repeat (first | (with_reducible first | exact HB.out | apply bA | apply bN | apply bD | refine bS ?_ GE349.out | refine bS ?_ GE360.out) | exact HB.out)⟩
                  ·rw [if_neg c114] at H
                   have c114b0 : (t395 == false) = false := by simpa using c114
                   (try (have c114b1 : decide (t395 = false) = false := by simpa using c114))
                   (try (have c114b2 : (t395 == false) = false := by simpa using c114))
                   (try (have c114b3 : ¬ (t395 = false) := by simpa using c114))
                   clear c114
                   obtain rfl := Option.some.inj H
                   exact absurd hr_.out (by simp)
                ·replace c96 := fB c96
                 subst c96
                 have H1 : (some true) = some r := by rw [if_neg (show ¬ (false = true) by decide)] at H; exact H
                 clear H
                 have H := H1
                 clear H1
                 obtain rfl := Option.some.inj H
                 simp only [Option.some.injEq, Prod.mk.injEq] at H
                 obtain ⟨rfl⟩ := H
                 go_wp2_with (first | ((with_reducible refine gate_callee (f := 58) rfl ?_); refine goesL_ (some 227) rfl rfl Try.func58 (by kernel_rfl) rfl #[.slice A1 l1.length c1] rfl (by (try simp only [List.map_toArray, List.map_cons, List.map_nil]); first | done | rfl | (simp only [List.length_drop, List.length_take]; rfl)) ?_; (with_reducible refine (spec_DrawBlameOf.calls kj19 _ _ l1 t384 t385 t386 _ ?side1 ?side2 A87.out).mono ?_); (case side1 => repeat (first | exact (Kd.C_below HR1.out HB.out) | (with_reducible first | refine cA ?_ _ | refine cN ?_ _ | refine cD ?_))); (case side2 => exact HC1.out); rintro e w130 ⟨v387, v389, rfl, ho0, ho1, hb⟩; refine ⟨_, rfl, ?_⟩; have n0_ := Aside0.mk (rF (by (with_reducible repeat (first | apply rA | apply rN | apply rD)); exact HO_350000.out) (rE ho0) hb); have n1_ := Aside0.mk (rF (by (with_reducible repeat (first | apply rA | apply rN | apply rD)); exact HO_350003.out) (rE ho1) hb); have n2_ := Aside0.mk (rF (by (with_reducible repeat (first | apply rA | apply rN | apply rD)); exact HO_361000.out) (rE ho0) hb); have n3_ := Aside0.mk (rF (by (with_reducible repeat (first | apply rA | apply rN | apply rD)); exact HO_361003.out) (rE ho1) hb); have n4_ := Aside0.mk (Kd.R_lower (Kd.R_new' (Kd.R_new' ho0 (Kd.R_lt (by (with_reducible repeat (first | apply rA | apply rN | apply rD)); exact HO_350000.out))) (Kd.R_lt (by (with_reducible repeat (first | apply rA | apply rN | apply rD)); exact HO_361000.out))) (below_size (by repeat (first | (with_reducible first | exact HB.out | apply bA | apply bN | apply bD | refine bS ?_ GE349.out | refine bS ?_ GE360.out) | exact HB.out)))); have n5_ := Aside0.mk (Kd.R_lower (Kd.R_new' (Kd.R_new' ho1 (Kd.R_lt (by (with_reducible repeat (first | apply rA | apply rN | apply rD)); exact HO_350003.out))) (Kd.R_lt (by (with_reducible repeat (first | apply rA | apply rN | apply rD)); exact HO_361003.out))) (below_size (by repeat (first | (with_reducible first | exact HB.out | apply bA | apply bN | apply bD | refine bS ?_ GE349.out | refine bS ?_ GE360.out) | exact HB.out)))); have n6_ := Aside0.mk (blk_below (g := gb349) (o := .cells #[.slice Ao25 t339.length co25, .int .i64 t342, .int .i64 t343, .slice Ao27 t344.length co27, .int .i64 t347] 60 (0, 0)) (by (with_reducible repeat (first | refine lN ?_ _ | refine lD ?_ | refine lA ?_ _)); exact BK349.out) hb); have n7_ := Aside0.mk (blk_below (g := gb360) (o := .cells #[.slice Ao30 t350.length co30, .int .i64 t353, .int .i64 t354, .slice Ao33 t355.length co33, .int .i64 t358] 60 (0, 0)) (by (with_reducible repeat (first | refine lN ?_ _ | refine lD ?_ | refine lA ?_ _)); exact BK360.out) hb); have n8_ := Aside0.mk (below_step (by repeat (first | (with_reducible first | exact HB.out | apply bA | apply bN | apply bD | refine bS ?_ GE349.out | refine bS ?_ GE360.out) | exact HB.out)) hb); clear HO_350000; clear HO_350003; clear HO_361000; clear HO_361003; clear BK349; clear BK360; clear HB; have HO_350000 := n0_; have HO_350003 := n1_; have HO_361000 := n2_; have HO_361003 := n3_; have HO388 := n4_; have HO390 := n5_; have BK349 := n6_; have BK360 := n7_; have HB := n8_; clear n0_ n1_ n2_ n3_ n4_ n5_ n6_ n7_ n8_; (try clear hb); (try clear hb2); (try clear hk); (try clear hi); (try clear ho0); (try clear ho1); obtain ⟨Ao131, co131, eo131⟩ := rS HO388.out; subst eo131; obtain ⟨Ao132, co132, eo132⟩ := rS HO390.out; subst eo132) | ((with_reducible refine gate_callee (f := 54) rfl ?_); refine goesL_ (some 235) rfl rfl Try.func54 (by kernel_rfl) rfl #[.slice Ao131 t384.length co131, .int .i64 t385, .slice Ao132 t386.length co132] rfl (by (try simp only [List.map_toArray, List.map_cons, List.map_nil]); first | done | rfl | (simp only [List.length_drop, List.length_take]; rfl)) ?_; (with_reducible refine (impl_BlameOf.calls kj19 _ _ t384 t385 _ _ t386 t391 t392 _ ?side1 ?side2 ?side3 ?side4 A88.out).mono ?_); (case side1 => repeat (first | exact (rR HO388.out).2.2 | (with_reducible first | refine cA ?_ _ | refine cN ?_ _ | refine cD ?_))); (case side2 => exact (rR HO388.out).2.1); (case side3 => repeat (first | exact (rR HO390.out).2.2 | (with_reducible first | refine cA ?_ _ | refine cN ?_ _ | refine cD ?_))); (case side4 => exact (rR HO390.out).2.1); rintro e w133 ⟨rfl, hb⟩; refine ⟨_, rfl, ?_⟩; have n0_ := Aside0.mk (rB (by (with_reducible repeat (first | apply rA | apply rN | apply rD)); exact HO_350000.out) hb); have n1_ := Aside0.mk (rB (by (with_reducible repeat (first | apply rA | apply rN | apply rD)); exact HO_350003.out) hb); have n2_ := Aside0.mk (rB (by (with_reducible repeat (first | apply rA | apply rN | apply rD)); exact HO_361000.out) hb); have n3_ := Aside0.mk (rB (by (with_reducible repeat (first | apply rA | apply rN | apply rD)); exact HO_361003.out) hb); have n4_ := Aside0.mk (rB (by (with_reducible repeat (first | apply rA | apply rN | apply rD)); exact HO388.out) hb); have n5_ := Aside0.mk (rB (by (with_reducible repeat (first | apply rA | apply rN | apply rD)); exact HO390.out) hb); have n6_ := Aside0.mk (blk_below (g := gb349) (o := .cells #[.slice Ao25 t339.length co25, .int .i64 t342, .int .i64 t343, .slice Ao27 t344.length co27, .int .i64 t347] 60 (0, 0)) (by (with_reducible repeat (first | refine lN ?_ _ | refine lD ?_ | refine lA ?_ _)); exact BK349.out) hb); have n7_ := Aside0.mk (blk_below (g := gb360) (o := .cells #[.slice Ao30 t350.length co30, .int .i64 t353, .int .i64 t354, .slice Ao33 t355.length co33, .int .i64 t358] 60 (0, 0)) (by (with_reducible repeat (first | refine lN ?_ _ | refine lD ?_ | refine lA ?_ _)); exact BK360.out) hb); have n8_ := Aside0.mk (below_step (by repeat (first | (with_reducible first | exact HB.out | apply bA | apply bN | apply bD | refine bS ?_ GE349.out | refine bS ?_ GE360.out) | exact HB.out)) hb); clear HO_350000; clear HO_350003; clear HO_361000; clear HO_361003; clear HO388; clear HO390; clear BK349; clear BK360; clear HB; have HO_350000 := n0_; have HO_350003 := n1_; have HO_361000 := n2_; have HO_361003 := n3_; have HO388 := n4_; have HO390 := n5_; have BK349 := n6_; have BK360 := n7_; have HB := n8_; clear n0_ n1_ n2_ n3_ n4_ n5_ n6_ n7_ n8_; (try clear hb); (try clear hb2); (try clear hk); (try clear hi)) | ((with_reducible refine gate_callee (f := 59) rfl ?_); refine goesL_ (some 242) rfl rfl Try.func59 (by kernel_rfl) rfl #[.slice Ao131 t384.length co131, .int .i64 t385, .slice Ao132 t386.length co132] rfl (by (try simp only [List.map_toArray, List.map_cons, List.map_nil]); first | done | rfl | (simp only [List.length_drop, List.length_take]; rfl)) ?_; (with_reducible refine (spec_BlameOf.calls kj19 _ _ t384 t385 _ _ t386 t393 t394 _ ?side1 ?side2 ?side3 ?side4 A89.out).mono ?_); (case side1 => repeat (first | exact (rR HO388.out).2.2 | (with_reducible first | refine cA ?_ _ | refine cN ?_ _ | refine cD ?_))); (case side2 => exact (rR HO388.out).2.1); (case side3 => repeat (first | exact (rR HO390.out).2.2 | (with_reducible first | refine cA ?_ _ | refine cN ?_ _ | refine cD ?_))); (case side4 => exact (rR HO390.out).2.1); rintro e w134 ⟨rfl, hb⟩; refine ⟨_, rfl, ?_⟩; have n0_ := Aside0.mk (rB (by (with_reducible repeat (first | apply rA | apply rN | apply rD)); exact HO_350000.out) hb); have n1_ := Aside0.mk (rB (by (with_reducible repeat (first | apply rA | apply rN | apply rD)); exact HO_350003.out) hb); have n2_ := Aside0.mk (rB (by (with_reducible repeat (first | apply rA | apply rN | apply rD)); exact HO_361000.out) hb); have n3_ := Aside0.mk (rB (by (with_reducible repeat (first | apply rA | apply rN | apply rD)); exact HO_361003.out) hb); have n4_ := Aside0.mk (rB (by (with_reducible repeat (first | apply rA | apply rN | apply rD)); exact HO388.out) hb); have n5_ := Aside0.mk (rB (by (with_reducible repeat (first | apply rA | apply rN | apply rD)); exact HO390.out) hb); have n6_ := Aside0.mk (blk_below (g := gb349) (o := .cells #[.slice Ao25 t339.length co25, .int .i64 t342, .int .i64 t343, .slice Ao27 t344.length co27, .int .i64 t347] 60 (0, 0)) (by (with_reducible repeat (first | refine lN ?_ _ | refine lD ?_ | refine lA ?_ _)); exact BK349.out) hb); have n7_ := Aside0.mk (blk_below (g := gb360) (o := .cells #[.slice Ao30 t350.length co30, .int .i64 t353, .int .i64 t354, .slice Ao33 t355.length co33, .int .i64 t358] 60 (0, 0)) (by (with_reducible repeat (first | refine lN ?_ _ | refine lD ?_ | refine lA ?_ _)); exact BK360.out) hb); have n8_ := Aside0.mk (below_step (by repeat (first | (with_reducible first | exact HB.out | apply bA | apply bN | apply bD | refine bS ?_ GE349.out | refine bS ?_ GE360.out) | exact HB.out)) hb); clear HO_350000; clear HO_350003; clear HO_361000; clear HO_361003; clear HO388; clear HO390; clear BK349; clear BK360; clear HB; have HO_350000 := n0_; have HO_350003 := n1_; have HO_361000 := n2_; have HO_361003 := n3_; have HO388 := n4_; have HO390 := n5_; have BK349 := n6_; have BK360 := n7_; have HB := n8_; clear n0_ n1_ n2_ n3_ n4_ n5_ n6_ n7_ n8_; (try clear hb); (try clear hb2); (try clear hk); (try clear hi)) | ((with_reducible refine gate_callee (f := 55) rfl ?_); refine goesL_ (some 249) rfl rfl Try.func55 (by kernel_rfl) rfl #[.slice Ao131 t384.length co131, .int .i64 t385, .slice Ao132 t386.length co132] rfl (by (try simp only [List.map_toArray, List.map_cons, List.map_nil]); first | done | rfl | (simp only [List.length_drop, List.length_take]; rfl)) ?_; (with_reducible refine (impl_WholeTrip.calls kj19 _ _ t384 t385 _ _ t386 t395 false _ ?side1 ?side2 ?side3 ?side4 A90.out).mono ?_); (case side1 => repeat (first | exact (rR HO388.out).2.2 | (with_reducible first | refine cA ?_ _ | refine cN ?_ _ | refine cD ?_))); (case side2 => exact (rR HO388.out).2.1); (case side3 => repeat (first | exact (rR HO390.out).2.2 | (with_reducible first | refine cA ?_ _ | refine cN ?_ _ | refine cD ?_))); (case side4 => exact (rR HO390.out).2.1); rintro e w135 ⟨rfl, hb⟩; refine ⟨_, rfl, ?_⟩; have n0_ := Aside0.mk (rB (by (with_reducible repeat (first | apply rA | apply rN | apply rD)); exact HO_350000.out) hb); have n1_ := Aside0.mk (rB (by (with_reducible repeat (first | apply rA | apply rN | apply rD)); exact HO_350003.out) hb); have n2_ := Aside0.mk (rB (by (with_reducible repeat (first | apply rA | apply rN | apply rD)); exact HO_361000.out) hb); have n3_ := Aside0.mk (rB (by (with_reducible repeat (first | apply rA | apply rN | apply rD)); exact HO_361003.out) hb); have n4_ := Aside0.mk (rB (by (with_reducible repeat (first | apply rA | apply rN | apply rD)); exact HO388.out) hb); have n5_ := Aside0.mk (rB (by (with_reducible repeat (first | apply rA | apply rN | apply rD)); exact HO390.out) hb); have n6_ := Aside0.mk (blk_below (g := gb349) (o := .cells #[.slice Ao25 t339.length co25, .int .i64 t342, .int .i64 t343, .slice Ao27 t344.length co27, .int .i64 t347] 60 (0, 0)) (by (with_reducible repeat (first | refine lN ?_ _ | refine lD ?_ | refine lA ?_ _)); exact BK349.out) hb); have n7_ := Aside0.mk (blk_below (g := gb360) (o := .cells #[.slice Ao30 t350.length co30, .int .i64 t353, .int .i64 t354, .slice Ao33 t355.length co33, .int .i64 t358] 60 (0, 0)) (by (with_reducible repeat (first | refine lN ?_ _ | refine lD ?_ | refine lA ?_ _)); exact BK360.out) hb); have n8_ := Aside0.mk (below_step (by repeat (first | (with_reducible first | exact HB.out | apply bA | apply bN | apply bD | refine bS ?_ GE349.out | refine bS ?_ GE360.out) | exact HB.out)) hb); clear HO_350000; clear HO_350003; clear HO_361000; clear HO_361003; clear HO388; clear HO390; clear BK349; clear BK360; clear HB; have HO_350000 := n0_; have HO_350003 := n1_; have HO_361000 := n2_; have HO_361003 := n3_; have HO388 := n4_; have HO390 := n5_; have BK349 := n6_; have BK360 := n7_; have HB := n8_; clear n0_ n1_ n2_ n3_ n4_ n5_ n6_ n7_ n8_; (try clear hb); (try clear hb2); (try clear hk); (try clear hi)) | ((with_reducible refine gate_callee (f := 60) rfl ?_); refine goesL_ (some 256) rfl rfl Try.func60 (by kernel_rfl) rfl #[.slice Ao131 t384.length co131, .int .i64 t385, .slice Ao132 t386.length co132] rfl (by (try simp only [List.map_toArray, List.map_cons, List.map_nil]); first | done | rfl | (simp only [List.length_drop, List.length_take]; rfl)) ?_; (with_reducible refine (spec_WholeTrip.calls kj19 _ _ t384 t385 _ _ t386 t397 t398 _ ?side1 ?side2 ?side3 ?side4 A91.out).mono ?_); (case side1 => repeat (first | exact (rR HO388.out).2.2 | (with_reducible first | refine cA ?_ _ | refine cN ?_ _ | refine cD ?_))); (case side2 => exact (rR HO388.out).2.1); (case side3 => repeat (first | exact (rR HO390.out).2.2 | (with_reducible first | refine cA ?_ _ | refine cN ?_ _ | refine cD ?_))); (case side4 => exact (rR HO390.out).2.1); rintro e w136 ⟨rfl, hb⟩; refine ⟨_, rfl, ?_⟩; have n0_ := Aside0.mk (rB (by (with_reducible repeat (first | apply rA | apply rN | apply rD)); exact HO_350000.out) hb); have n1_ := Aside0.mk (rB (by (with_reducible repeat (first | apply rA | apply rN | apply rD)); exact HO_350003.out) hb); have n2_ := Aside0.mk (rB (by (with_reducible repeat (first | apply rA | apply rN | apply rD)); exact HO_361000.out) hb); have n3_ := Aside0.mk (rB (by (with_reducible repeat (first | apply rA | apply rN | apply rD)); exact HO_361003.out) hb); have n4_ := Aside0.mk (rB (by (with_reducible repeat (first | apply rA | apply rN | apply rD)); exact HO388.out) hb); have n5_ := Aside0.mk (rB (by (with_reducible repeat (first | apply rA | apply rN | apply rD)); exact HO390.out) hb); have n6_ := Aside0.mk (blk_below (g := gb349) (o := .cells #[.slice Ao25 t339.length co25, .int .i64 t342, .int .i64 t343, .slice Ao27 t344.length co27, .int .i64 t347] 60 (0, 0)) (by (with_reducible repeat (first | refine lN ?_ _ | refine lD ?_ | refine lA ?_ _)); exact BK349.out) hb); have n7_ := Aside0.mk (blk_below (g := gb360) (o := .cells #[.slice Ao30 t350.length co30, .int .i64 t353, .int .i64 t354, .slice Ao33 t355.length co33, .int .i64 t358] 60 (0, 0)) (by (with_reducible repeat (first | refine lN ?_ _ | refine lD ?_ | refine lA ?_ _)); exact BK360.out) hb); have n8_ := Aside0.mk (below_step (by repeat (first | (with_reducible first | exact HB.out | apply bA | apply bN | apply bD | refine bS ?_ GE349.out | refine bS ?_ GE360.out) | exact HB.out)) hb); clear HO_350000; clear HO_350003; clear HO_361000; clear HO_361003; clear HO388; clear HO390; clear BK349; clear BK360; clear HB; have HO_350000 := n0_; have HO_350003 := n1_; have HO_361000 := n2_; have HO_361003 := n3_; have HO388 := n4_; have HO390 := n5_; have BK349 := n6_; have BK360 := n7_; have HB := n8_; clear n0_ n1_ n2_ n3_ n4_ n5_ n6_ n7_ n8_; (try clear hb); (try clear hb2); (try clear hk); (try clear hi)))
                 go_ret
                 exact ⟨by first | rfl | (simp [errW_none, errW_some] <;> rfl) | (simp [*, errW_none, errW_some] <;> rfl), by repeat (first | (with_reducible first | exact HB.out | apply bA | apply bN | apply bD | refine bS ?_ GE349.out | refine bS ?_ GE360.out) | exact HB.out)⟩
             ·rw [if_neg c93] at H
              have c93b0 : (t391 == t393) = false := beq_eq_false_iff_ne.mpr c93
              have c93b1 : (t391 != t393) = true := bne_iff_ne.mpr c93
              obtain rfl := Option.some.inj H
              exact absurd hr_.out (by simp)
         ·replace c19 := fB c19
          subst c19
          have H1 : (some false) = some r := by rw [if_neg (show ¬ (false = true) by decide)] at H; exact H
          clear H
          have H := H1
          clear H1
          obtain rfl := Option.some.inj H
          exact absurd hr_.out (by simp)
       ·rw [if_neg c16] at H
        have c16b0 : (t347 == t358) = false := beq_eq_false_iff_ne.mpr c16
        have c16b1 : (t347 != t358) = true := bne_iff_ne.mpr c16
        obtain rfl := Option.some.inj H
        exact absurd hr_.out (by simp)
      ·replace c15 := fB c15
       subst c15
       have H1 : (some false) = some r := by rw [if_neg (show ¬ (false = true) by decide)] at H; exact H
       clear H
       have H := H1
       clear H1
       obtain rfl := Option.some.inj H
       exact absurd hr_.out (by simp)
     ·rw [if_neg c13] at H
      have c13b0 : (t343 == t354) = false := beq_eq_false_iff_ne.mpr c13
      have c13b1 : (t343 != t354) = true := bne_iff_ne.mpr c13
      obtain rfl := Option.some.inj H
      exact absurd hr_.out (by simp)
    ·rw [if_neg c12] at H
     have c12b0 : (t342 == t353) = false := beq_eq_false_iff_ne.mpr c12
     have c12b1 : (t342 != t353) = true := bne_iff_ne.mpr c12
     obtain rfl := Option.some.inj H
     exact absurd hr_.out (by simp)
   ·replace c11 := fB c11
    subst c11
    have H1 : (some false) = some r := by rw [if_neg (show ¬ (false = true) by decide)] at H; exact H
    clear H
    have H := H1
    clear H1
    obtain rfl := Option.some.inj H
    exact absurd hr_.out (by simp)
def laws_FnBlamed.Pure : Prop := ∀ (l0 : List Int) (l1 : List Int), l0.length ≤ maxLen → l0.length * 1 ≤ 140737488351232 → (∀ x ∈ l0, (Lit.int .u8 x).wf = true) → l1.length ≤ maxLen → l1.length * 1 ≤ 140737488351232 → (∀ x ∈ l1, (Lit.int .u8 x).wf = true) → ∃ k, laws_FnBlamed.f k l0 l1 = some true
theorem laws_FnBlamed.walk (P : laws_FnBlamed.Pure) (a0 : Option Addr) (len0 cap0 : Nat) (z0 : List Int) (a1 : Option Addr) (len1 cap1 : Nat) (z1 : List Int) (w : World) (w0 : (a0 = none ∧ len0 = 0 ∧ cap0 = 0 ∧ z0 = []) ∨ ∃ x, a0 = some x ∧ len0 ≤ cap0 ∧ cap0 ≤ maxLen ∧ z0.length = cap0 ∧ (∀ i, i < z0.length → w.cell? (x.add i) = some (.int .u8 (z0.getD i 0))) ∧ ∀ n ∈ z0, (Lit.int .u8 n).wf = true) (y0 : len0 * 1 ≤ 140737488351232) (w1 : (a1 = none ∧ len1 = 0 ∧ cap1 = 0 ∧ z1 = []) ∨ ∃ x, a1 = some x ∧ len1 ≤ cap1 ∧ cap1 ≤ maxLen ∧ z1.length = cap1 ∧ (∀ i, i < z1.length → w.cell? (x.add i) = some (.int .u8 (z1.getD i 0))) ∧ ∀ n ∈ z1, (Lit.int .u8 n).wf = true) (y1 : len1 * 1 ≤ 140737488351232) :
  Calls Try.prog 6 #[.slice a0 len0 cap0, .slice a1 len1 cap1] w fun e w' => e = .returned (.bool true) ∧ Below w.heap.size w w' := by
 obtain ⟨l0, rfl, hr0, hm0, hw0, hc0⟩ := ReadsInt.ofRowC w0
 obtain ⟨l1, rfl, hr1, hm1, hw1, hc1⟩ := ReadsInt.ofRowC w1
 obtain ⟨k, h⟩ := P l0 l1 hm0 y0 hw0 hm1 y1 hw1
 refine (laws_FnBlamed.calls k _ _ l0 _ _ l1 true w (Kd.C_of_reads (d := (0 : Int)) (h1 := fun _ => rfl) hr0) hc0 (Kd.C_of_reads (d := (0 : Int)) (h1 := fun _ => rfl) hr1) hc1 h ⟨rfl⟩).mono ?_
 rintro e w' ⟨rfl, hd⟩
 exact ⟨rfl, hd⟩
end Go.Proofs.Ytebpikejljgfgaa.PFnBlamed
