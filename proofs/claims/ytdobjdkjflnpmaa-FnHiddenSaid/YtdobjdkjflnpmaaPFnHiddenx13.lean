-- Written by a program of this session, after the kit's print (changed in some places; see NOTES.md). Lean checks it.
import Derived.Test.YtdobjdkjflnpmaaPFnHiddenx0
import Derived.Test.YtdobjdkjflnpmaaPFnHiddenx1
import Derived.Test.YtdobjdkjflnpmaaPFnHiddenx2
import Derived.Test.YtdobjdkjflnpmaaPFnHiddenx3
import Derived.Test.YtdobjdkjflnpmaaPFnHiddenx4
import Derived.Test.YtdobjdkjflnpmaaPFnHiddenx5
import Derived.Test.YtdobjdkjflnpmaaPFnHiddenx7
import Derived.Test.YtdobjdkjflnpmaaPFnHiddenx8
import Derived.Test.YtdobjdkjflnpmaaPFnHiddenx9
import Derived.Test.YtdobjdkjflnpmaaPFnHiddenx10
import Derived.Test.YtdobjdkjflnpmaaPFnHiddenx11
import Derived.Test.YtdobjdkjflnpmaaPFnHiddenx12
namespace Go.Proofs.Ytdobjdkjflnpmaa.PFnHidden
open Go.RowKit Go.Proofs.YtdobjdkjflnpmaaW.PrintWords Go.Proofs.YtdobjdkjflnpmaaW.PrintLast Go.Proofs.YtdobjdkjflnpmaaW.PrintMore
attribute [local go_sem] max2_int min2_int max_two min_two max_three min_three max_four min_four   -- for this text's walks alone
set_option linter.unusedVariables false
set_option linter.unusedSimpArgs false

attribute [local go_sem high] eqA46
/-! ### laws_FnHidden: function 4 -/
mutual
def laws_FnHidden.j0 : Nat → List Int → Option (Bool)
  | 0, _ => none
  | k + 1, x1 => (spec_DrawThroughParts.f k x1).bind fun bt484 => ((impl_ThroughParts.f k bt484.1 bt484.2).bind fun bt488 => ((spec_ThroughParts.f k bt484.1 bt484.2).bind fun bt490 => ((spec_DrawPolyThrough.f k x1).bind fun t492 => ((impl_PolyThrough.f k t492).bind fun bt495 => ((spec_PolyThrough.f k t492).bind fun bt499 => ((spec_DrawWeightsOf.f k x1).bind fun t503 => ((impl_WeightsOf.f k t503).bind fun bt506 => ((spec_WeightsOf.f k t503).bind fun bt510 => (if (bt488.2 != bt490.2) = true then (some false) else (if bt488.1 = bt490.1 then (if (bt495.2 != bt499.2) = true then (some false) else ((laws_sameInts.f k bt495.1 bt499.1).bind fun t514 => (if t514 = true then (if (bt506.2 != bt510.2) = true then (some false) else ((laws_sameInts.f k bt506.1 bt510.1).bind fun t515 => (if t515 = true then (if bt506.2 = true then (laws_FnHidden.l0 k t492 bt495.1 bt495.2 bt506.1 0 (bt506.1.length : Int) 0) else (laws_FnHidden.j2 k t492 bt495.1 bt495.2)) else (some false)))) else (some false)))) else (some false)))))))))))
def laws_FnHidden.j2 : Nat → List (S46) → List Int → Bool → Option (Bool)
  | 0, _, _, _ => none
  | k + 1, x22, x23, x24 => if x24 = true then (laws_FnHidden.l1 k x22 x23 (x22.length : Int) 0) else (some true)
def laws_FnHidden.l1 : Nat → List (S46) → List Int → Int → Int → Option (Bool)
  | 0, _, _, _, _ => none
  | k + 1, x22, x23, x204, x205 => if x205 < x204 then (if 0 ≤ x205 then (if x205 < (x22.length : Int) then ((impl_ValueAt.f k x23 ((rd_T46 x22 x205).f0)).bind fun bt519 => (if bt519.2 = true then (if bt519.1 = ((rd_T46 x22 x205).f1) then (laws_FnHidden.l1 k x22 x23 x204 (wrap64 (x205 + 1))) else (some false)) else (some false))) else (none)) else (none)) else (some true)
def laws_FnHidden.l0 : Nat → List (S46) → List Int → Bool → List Int → Int → Int → Int → Option (Bool)
  | 0, _, _, _, _, _, _, _ => none
  | k + 1, x22, x23, x24, x28, x32, x190, x191 => if x191 < x190 then (if 0 ≤ x191 then (if x191 < (x28.length : Int) then (laws_FnHidden.l0 k x22 x23 x24 x28 (Int.tmod (wrap64 (x32 + (rd x28 x191))) 1499) x190 (wrap64 (x191 + 1))) else (none)) else (none)) else (if x32 = 1 then (laws_FnHidden.j2 k x22 x23 x24) else (some false))
end
def laws_FnHidden.f (k : Nat) (l0 : List Int) (l1 : List Int) : Option (Bool) := if (wrap64 ((l0.length : Int) + (l1.length : Int))) > 1048576 then (some true) else ((spec_DrawSecretFits.f k l0).bind fun bt453 => ((impl_SecretFits.f k bt453.1 bt453.2).bind fun bt457 => ((spec_SecretFits.f k bt453.1 bt453.2).bind fun bt461 => (if (bt457.2.2 != bt461.2.2) = true then (some false) else (if (!(bt457.1 == bt461.1) || (!(bt457.2.1 == bt461.2.1))) = true then (some false) else (if bt457.2.2 = true then ((some (([] : List (S46)) : List (S46))).bind fun y465 => (if y465.length + bt453.1.length < 8796093022208 then ((some (y465 ++ bt453.1 : List (S46))).bind fun y468 => ((some (([(⟨bt457.1, bt457.2.1⟩ : S46)] : List (S46)) : List (S46))).bind fun y471 => (if y468.length + y471.length < 8796093022208 then ((impl_JoinParts.f k (y468 ++ y471)).bind fun bt477 => (if bt477.2 = true then (if bt477.1 = bt453.2 then ((laws_numberOf.f k l1).bind fun t479 => ((impl_SecretFits.f k bt453.1 (Int.tmod (wrap64 ((wrap64 (bt453.2 + 1)) + (Int.tmod t479 1498))) 1499)).bind fun bt480 => (if bt480.2.2 = true then (if bt480.1 = bt457.1 then (if bt480.2.1 = bt457.2.1 then (some false) else (laws_FnHidden.j0 k l1)) else (some false)) else (some false)))) else (some false)) else (some false))) else (none)))) else (none))) else (laws_FnHidden.j0 k l1)))))))
theorem laws_FnHidden.mono_l : ∀ k, (∀ y0, LeO (laws_FnHidden.j0 k y0) (laws_FnHidden.j0 (k + 1) y0)) ∧ (∀ y0 y1 y2, LeO (laws_FnHidden.j2 k y0 y1 y2) (laws_FnHidden.j2 (k + 1) y0 y1 y2)) ∧ (∀ y0 y1 y2 y3, LeO (laws_FnHidden.l1 k y0 y1 y2 y3) (laws_FnHidden.l1 (k + 1) y0 y1 y2 y3)) ∧ (∀ y0 y1 y2 y3 y4 y5 y6, LeO (laws_FnHidden.l0 k y0 y1 y2 y3 y4 y5 y6) (laws_FnHidden.l0 (k + 1) y0 y1 y2 y3 y4 y5 y6))
  | 0 => ⟨fun _ r h => by simp [laws_FnHidden.j0] at h, fun _ _ _ r h => by simp [laws_FnHidden.j2] at h, fun _ _ _ _ r h => by simp [laws_FnHidden.l1] at h, fun _ _ _ _ _ _ _ r h => by simp [laws_FnHidden.l0] at h⟩
  | k + 1 => by
    obtain ⟨ih0, ih1, ih2, ih3⟩ := laws_FnHidden.mono_l k
    refine ⟨?_, ?_, ?_, ?_⟩
    · intro y0
      unfold laws_FnHidden.j0
      repeat' first
      | (with_reducible exact ih0 _)
      | (with_reducible exact ih1 _ _ _)
      | (with_reducible exact ih2 _ _ _ _)
      | (with_reducible exact ih3 _ _ _ _ _ _ _)
      | (with_reducible exact impl_JoinParts.mono _ _)
      | (with_reducible exact impl_PolyThrough.mono _ _)
      | (with_reducible exact impl_SecretFits.mono _ _ _)
      | (with_reducible exact impl_ThroughParts.mono _ _ _)
      | (with_reducible exact impl_ValueAt.mono _ _ _)
      | (with_reducible exact impl_WeightsOf.mono _ _)
      | (with_reducible exact laws_numberOf.mono _ _)
      | (with_reducible exact laws_sameInts.mono _ _ _)
      | (with_reducible exact spec_DrawPolyThrough.mono _ _)
      | (with_reducible exact spec_DrawSecretFits.mono _ _)
      | (with_reducible exact spec_DrawThroughParts.mono _ _)
      | (with_reducible exact spec_DrawWeightsOf.mono _ _)
      | (with_reducible exact spec_PolyThrough.mono _ _)
      | (with_reducible exact spec_SecretFits.mono _ _ _)
      | (with_reducible exact spec_ThroughParts.mono _ _ _)
      | (with_reducible exact spec_WeightsOf.mono _ _)
      | (with_reducible exact LeO.refl _)
      | (with_reducible exact LeO.none _)
      | (with_reducible refine LeO.ite ?_ ?_)
      | (with_reducible refine LeO.bind ?_ (fun _ => ?_))
      | exact ih0 _
      | exact ih1 _ _ _
      | exact ih2 _ _ _ _
      | exact ih3 _ _ _ _ _ _ _
      | exact impl_JoinParts.mono _ _
      | exact impl_PolyThrough.mono _ _
      | exact impl_SecretFits.mono _ _ _
      | exact impl_ThroughParts.mono _ _ _
      | exact impl_ValueAt.mono _ _ _
      | exact impl_WeightsOf.mono _ _
      | exact laws_numberOf.mono _ _
      | exact laws_sameInts.mono _ _ _
      | exact spec_DrawPolyThrough.mono _ _
      | exact spec_DrawSecretFits.mono _ _
      | exact spec_DrawThroughParts.mono _ _
      | exact spec_DrawWeightsOf.mono _ _
      | exact spec_PolyThrough.mono _ _
      | exact spec_SecretFits.mono _ _ _
      | exact spec_ThroughParts.mono _ _ _
      | exact spec_WeightsOf.mono _ _
      | exact LeO.none _
      | refine LeO.ite ?_ ?_
      | refine LeO.bind ?_ (fun _ => ?_)
    · intro y0 y1 y2
      unfold laws_FnHidden.j2
      repeat' first
      | (with_reducible exact ih0 _)
      | (with_reducible exact ih1 _ _ _)
      | (with_reducible exact ih2 _ _ _ _)
      | (with_reducible exact ih3 _ _ _ _ _ _ _)
      | (with_reducible exact impl_JoinParts.mono _ _)
      | (with_reducible exact impl_PolyThrough.mono _ _)
      | (with_reducible exact impl_SecretFits.mono _ _ _)
      | (with_reducible exact impl_ThroughParts.mono _ _ _)
      | (with_reducible exact impl_ValueAt.mono _ _ _)
      | (with_reducible exact impl_WeightsOf.mono _ _)
      | (with_reducible exact laws_numberOf.mono _ _)
      | (with_reducible exact laws_sameInts.mono _ _ _)
      | (with_reducible exact spec_DrawPolyThrough.mono _ _)
      | (with_reducible exact spec_DrawSecretFits.mono _ _)
      | (with_reducible exact spec_DrawThroughParts.mono _ _)
      | (with_reducible exact spec_DrawWeightsOf.mono _ _)
      | (with_reducible exact spec_PolyThrough.mono _ _)
      | (with_reducible exact spec_SecretFits.mono _ _ _)
      | (with_reducible exact spec_ThroughParts.mono _ _ _)
      | (with_reducible exact spec_WeightsOf.mono _ _)
      | (with_reducible exact LeO.refl _)
      | (with_reducible exact LeO.none _)
      | (with_reducible refine LeO.ite ?_ ?_)
      | (with_reducible refine LeO.bind ?_ (fun _ => ?_))
      | exact ih0 _
      | exact ih1 _ _ _
      | exact ih2 _ _ _ _
      | exact ih3 _ _ _ _ _ _ _
      | exact impl_JoinParts.mono _ _
      | exact impl_PolyThrough.mono _ _
      | exact impl_SecretFits.mono _ _ _
      | exact impl_ThroughParts.mono _ _ _
      | exact impl_ValueAt.mono _ _ _
      | exact impl_WeightsOf.mono _ _
      | exact laws_numberOf.mono _ _
      | exact laws_sameInts.mono _ _ _
      | exact spec_DrawPolyThrough.mono _ _
      | exact spec_DrawSecretFits.mono _ _
      | exact spec_DrawThroughParts.mono _ _
      | exact spec_DrawWeightsOf.mono _ _
      | exact spec_PolyThrough.mono _ _
      | exact spec_SecretFits.mono _ _ _
      | exact spec_ThroughParts.mono _ _ _
      | exact spec_WeightsOf.mono _ _
      | exact LeO.none _
      | refine LeO.ite ?_ ?_
      | refine LeO.bind ?_ (fun _ => ?_)
    · intro y0 y1 y2 y3
      unfold laws_FnHidden.l1
      repeat' first
      | (with_reducible exact ih0 _)
      | (with_reducible exact ih1 _ _ _)
      | (with_reducible exact ih2 _ _ _ _)
      | (with_reducible exact ih3 _ _ _ _ _ _ _)
      | (with_reducible exact impl_JoinParts.mono _ _)
      | (with_reducible exact impl_PolyThrough.mono _ _)
      | (with_reducible exact impl_SecretFits.mono _ _ _)
      | (with_reducible exact impl_ThroughParts.mono _ _ _)
      | (with_reducible exact impl_ValueAt.mono _ _ _)
      | (with_reducible exact impl_WeightsOf.mono _ _)
      | (with_reducible exact laws_numberOf.mono _ _)
      | (with_reducible exact laws_sameInts.mono _ _ _)
      | (with_reducible exact spec_DrawPolyThrough.mono _ _)
      | (with_reducible exact spec_DrawSecretFits.mono _ _)
      | (with_reducible exact spec_DrawThroughParts.mono _ _)
      | (with_reducible exact spec_DrawWeightsOf.mono _ _)
      | (with_reducible exact spec_PolyThrough.mono _ _)
      | (with_reducible exact spec_SecretFits.mono _ _ _)
      | (with_reducible exact spec_ThroughParts.mono _ _ _)
      | (with_reducible exact spec_WeightsOf.mono _ _)
      | (with_reducible exact LeO.refl _)
      | (with_reducible exact LeO.none _)
      | (with_reducible refine LeO.ite ?_ ?_)
      | (with_reducible refine LeO.bind ?_ (fun _ => ?_))
      | exact ih0 _
      | exact ih1 _ _ _
      | exact ih2 _ _ _ _
      | exact ih3 _ _ _ _ _ _ _
      | exact impl_JoinParts.mono _ _
      | exact impl_PolyThrough.mono _ _
      | exact impl_SecretFits.mono _ _ _
      | exact impl_ThroughParts.mono _ _ _
      | exact impl_ValueAt.mono _ _ _
      | exact impl_WeightsOf.mono _ _
      | exact laws_numberOf.mono _ _
      | exact laws_sameInts.mono _ _ _
      | exact spec_DrawPolyThrough.mono _ _
      | exact spec_DrawSecretFits.mono _ _
      | exact spec_DrawThroughParts.mono _ _
      | exact spec_DrawWeightsOf.mono _ _
      | exact spec_PolyThrough.mono _ _
      | exact spec_SecretFits.mono _ _ _
      | exact spec_ThroughParts.mono _ _ _
      | exact spec_WeightsOf.mono _ _
      | exact LeO.none _
      | refine LeO.ite ?_ ?_
      | refine LeO.bind ?_ (fun _ => ?_)
    · intro y0 y1 y2 y3 y4 y5 y6
      unfold laws_FnHidden.l0
      repeat' first
      | (with_reducible exact ih0 _)
      | (with_reducible exact ih1 _ _ _)
      | (with_reducible exact ih2 _ _ _ _)
      | (with_reducible exact ih3 _ _ _ _ _ _ _)
      | (with_reducible exact impl_JoinParts.mono _ _)
      | (with_reducible exact impl_PolyThrough.mono _ _)
      | (with_reducible exact impl_SecretFits.mono _ _ _)
      | (with_reducible exact impl_ThroughParts.mono _ _ _)
      | (with_reducible exact impl_ValueAt.mono _ _ _)
      | (with_reducible exact impl_WeightsOf.mono _ _)
      | (with_reducible exact laws_numberOf.mono _ _)
      | (with_reducible exact laws_sameInts.mono _ _ _)
      | (with_reducible exact spec_DrawPolyThrough.mono _ _)
      | (with_reducible exact spec_DrawSecretFits.mono _ _)
      | (with_reducible exact spec_DrawThroughParts.mono _ _)
      | (with_reducible exact spec_DrawWeightsOf.mono _ _)
      | (with_reducible exact spec_PolyThrough.mono _ _)
      | (with_reducible exact spec_SecretFits.mono _ _ _)
      | (with_reducible exact spec_ThroughParts.mono _ _ _)
      | (with_reducible exact spec_WeightsOf.mono _ _)
      | (with_reducible exact LeO.refl _)
      | (with_reducible exact LeO.none _)
      | (with_reducible refine LeO.ite ?_ ?_)
      | (with_reducible refine LeO.bind ?_ (fun _ => ?_))
      | exact ih0 _
      | exact ih1 _ _ _
      | exact ih2 _ _ _ _
      | exact ih3 _ _ _ _ _ _ _
      | exact impl_JoinParts.mono _ _
      | exact impl_PolyThrough.mono _ _
      | exact impl_SecretFits.mono _ _ _
      | exact impl_ThroughParts.mono _ _ _
      | exact impl_ValueAt.mono _ _ _
      | exact impl_WeightsOf.mono _ _
      | exact laws_numberOf.mono _ _
      | exact laws_sameInts.mono _ _ _
      | exact spec_DrawPolyThrough.mono _ _
      | exact spec_DrawSecretFits.mono _ _
      | exact spec_DrawThroughParts.mono _ _
      | exact spec_DrawWeightsOf.mono _ _
      | exact spec_PolyThrough.mono _ _
      | exact spec_SecretFits.mono _ _ _
      | exact spec_ThroughParts.mono _ _ _
      | exact spec_WeightsOf.mono _ _
      | exact LeO.none _
      | refine LeO.ite ?_ ?_
      | refine LeO.bind ?_ (fun _ => ?_)
theorem laws_FnHidden.mono : ∀ a0 a1 k, LeO (laws_FnHidden.f k a0 a1) (laws_FnHidden.f (k + 1) a0 a1) := by
  intro a0 a1 k
  obtain ⟨ih0, ih1, ih2, ih3⟩ := laws_FnHidden.mono_l k
  unfold laws_FnHidden.f
  repeat' first
      | (with_reducible exact ih0 _)
      | (with_reducible exact ih1 _ _ _)
      | (with_reducible exact ih2 _ _ _ _)
      | (with_reducible exact ih3 _ _ _ _ _ _ _)
      | (with_reducible exact impl_JoinParts.mono _ _)
      | (with_reducible exact impl_PolyThrough.mono _ _)
      | (with_reducible exact impl_SecretFits.mono _ _ _)
      | (with_reducible exact impl_ThroughParts.mono _ _ _)
      | (with_reducible exact impl_ValueAt.mono _ _ _)
      | (with_reducible exact impl_WeightsOf.mono _ _)
      | (with_reducible exact laws_numberOf.mono _ _)
      | (with_reducible exact laws_sameInts.mono _ _ _)
      | (with_reducible exact spec_DrawPolyThrough.mono _ _)
      | (with_reducible exact spec_DrawSecretFits.mono _ _)
      | (with_reducible exact spec_DrawThroughParts.mono _ _)
      | (with_reducible exact spec_DrawWeightsOf.mono _ _)
      | (with_reducible exact spec_PolyThrough.mono _ _)
      | (with_reducible exact spec_SecretFits.mono _ _ _)
      | (with_reducible exact spec_ThroughParts.mono _ _ _)
      | (with_reducible exact spec_WeightsOf.mono _ _)
      | (with_reducible exact LeO.refl _)
      | (with_reducible exact LeO.none _)
      | (with_reducible refine LeO.ite ?_ ?_)
      | (with_reducible refine LeO.bind ?_ (fun _ => ?_))
      | exact ih0 _
      | exact ih1 _ _ _
      | exact ih2 _ _ _ _
      | exact ih3 _ _ _ _ _ _ _
      | exact impl_JoinParts.mono _ _
      | exact impl_PolyThrough.mono _ _
      | exact impl_SecretFits.mono _ _ _
      | exact impl_ThroughParts.mono _ _ _
      | exact impl_ValueAt.mono _ _ _
      | exact impl_WeightsOf.mono _ _
      | exact laws_numberOf.mono _ _
      | exact laws_sameInts.mono _ _ _
      | exact spec_DrawPolyThrough.mono _ _
      | exact spec_DrawSecretFits.mono _ _
      | exact spec_DrawThroughParts.mono _ _
      | exact spec_DrawWeightsOf.mono _ _
      | exact spec_PolyThrough.mono _ _
      | exact spec_SecretFits.mono _ _ _
      | exact spec_ThroughParts.mono _ _ _
      | exact spec_WeightsOf.mono _ _
      | exact LeO.none _
      | refine LeO.ite ?_ ?_
      | refine LeO.bind ?_ (fun _ => ?_)
def laws_FnHidden.T9 : Bool × List (List Nat × List Nat) := (true, [([], []), ([], []), ([0, 1], [0, 1]), ([], []), ([3], [3]), ([2, 4, 2], [2, 4]), ([5, 5], [5]), ([6], [6]), ([7], [7]), ([7], [7]), ([8, 6, 0, 1, 2, 3, 4, 5, 6, 7, 8], [8]), ([9, 10, 0, 1, 2, 3, 4, 5, 6, 7, 8, 9, 10], [9])])
def laws_FnHidden.B9 : List Nat := [0, 0, 3, 0, 8, 31, 63, 127, 255, 255, 511, 2047]
theorem laws_FnHidden.tab9 : rtab .any (opsOf Try.f4 9) = laws_FnHidden.T9 := by kernel_rfl
theorem laws_FnHidden.bits9 : waitsOk laws_FnHidden.T9.2 laws_FnHidden.B9 = true := by kernel_rfl
set_option maxHeartbeats 8000000 in
set_option maxRecDepth 100000 in
theorem laws_FnHidden.calls (k : Nat) (A0 : Option Addr) (c0 : Nat) (l0 : List Int) (A1 : Option Addr) (c1 : Nat) (l1 : List Int) (r : Bool) (w : World) (hr0 : Kd.C (Kd.int .u8) w A0 l0.length l0) (hc0 : l0.length ≤ c0) (hr1 : Kd.C (Kd.int .u8) w A1 l1.length l1) (hc1 : l1.length ≤ c1) (h : laws_FnHidden.f k l0 l1 = some r) (hr_ : Aside0 (r = true)) :
    Calls Try.prog 4 #[.slice A0 l0.length c0, .slice A1 l1.length c1] w fun e w' => e = .returned (.bool r) ∧ Below w.heap.size w w' := by
  have hu46 := Try.underlying46
  have HR0 := Aside0.mk hr0
  have HC0 := Aside0.mk hc0
  clear hr0 hc0
  have HR1 := Aside0.mk hr1
  have HC1 := Aside0.mk hc1
  clear hr1 hc1
  have HB := Aside0.mk (Below.refl w.heap.size w)
  have H : (if (wrap64 ((l0.length : Int) + (l1.length : Int))) > 1048576 then (some true) else ((spec_DrawSecretFits.f k l0).bind fun bt453 => ((impl_SecretFits.f k bt453.1 bt453.2).bind fun bt457 => ((spec_SecretFits.f k bt453.1 bt453.2).bind fun bt461 => (if (bt457.2.2 != bt461.2.2) = true then (some false) else (if (!(bt457.1 == bt461.1) || (!(bt457.2.1 == bt461.2.1))) = true then (some false) else (if bt457.2.2 = true then ((some (([] : List (S46)) : List (S46))).bind fun y465 => (if y465.length + bt453.1.length < 8796093022208 then ((some (y465 ++ bt453.1 : List (S46))).bind fun y468 => ((some (([(⟨bt457.1, bt457.2.1⟩ : S46)] : List (S46)) : List (S46))).bind fun y471 => (if y468.length + y471.length < 8796093022208 then ((impl_JoinParts.f k (y468 ++ y471)).bind fun bt477 => (if bt477.2 = true then (if bt477.1 = bt453.2 then ((laws_numberOf.f k l1).bind fun t479 => ((impl_SecretFits.f k bt453.1 (Int.tmod (wrap64 ((wrap64 (bt453.2 + 1)) + (Int.tmod t479 1498))) 1499)).bind fun bt480 => (if bt480.2.2 = true then (if bt480.1 = bt457.1 then (if bt480.2.1 = bt457.2.1 then (some false) else (laws_FnHidden.j0 k l1)) else (some false)) else (some false)))) else (some false)) else (some false))) else (none)))) else (none))) else (laws_FnHidden.j0 k l1)))))))) = some r := h
  clear h
  by_cases c3 : (wrap64 ((l0.length : Int) + (l1.length : Int))) > 1048576
  · rw [if_pos c3] at H
    have c3b0 : decide (1048576 < (wrap64 ((l0.length : Int) + (l1.length : Int)))) = true := decide_eq_true c3
    clear c3
    obtain rfl := Option.some.inj H
    simp only [Option.some.injEq, Prod.mk.injEq] at H
    obtain ⟨rfl⟩ := H
    go_enter Try.func4, Try.ntmps4
    go_wp2
    go_ret
    exact ⟨by first | rfl | (simp [errW_none, errW_some] <;> rfl) | (simp [*, errW_none, errW_some] <;> rfl), by repeat (first | (with_reducible first | exact HB.out | apply below_alloc | apply pw_below_drewN | apply below_drew1) | exact HB.out)⟩
  · rw [if_neg c3] at H
    have c3b0 : decide (1048576 < (wrap64 ((l0.length : Int) + (l1.length : Int)))) = false := decide_eq_false c3
    clear c3
    replace H := Option.bind_eq_some_iff.mp H
    obtain ⟨⟨t453, t454⟩, A40, H⟩ := H
    replace H : ((impl_SecretFits.f k t453 t454).bind fun bt457 => ((spec_SecretFits.f k t453 t454).bind fun bt461 => (if (bt457.2.2 != bt461.2.2) = true then (some false) else (if (!(bt457.1 == bt461.1) || (!(bt457.2.1 == bt461.2.1))) = true then (some false) else (if bt457.2.2 = true then ((some (([] : List (S46)) : List (S46))).bind fun y465 => (if y465.length + t453.length < 8796093022208 then ((some (y465 ++ t453 : List (S46))).bind fun y468 => ((some (([(⟨bt457.1, bt457.2.1⟩ : S46)] : List (S46)) : List (S46))).bind fun y471 => (if y468.length + y471.length < 8796093022208 then ((impl_JoinParts.f k (y468 ++ y471)).bind fun bt477 => (if bt477.2 = true then (if bt477.1 = t454 then ((laws_numberOf.f k l1).bind fun t479 => ((impl_SecretFits.f k t453 (Int.tmod (wrap64 ((wrap64 (t454 + 1)) + (Int.tmod t479 1498))) 1499)).bind fun bt480 => (if bt480.2.2 = true then (if bt480.1 = bt457.1 then (if bt480.2.1 = bt457.2.1 then (some false) else (laws_FnHidden.j0 k l1)) else (some false)) else (some false)))) else (some false)) else (some false))) else (none)))) else (none))) else (laws_FnHidden.j0 k l1)))))) = some r := H
    have A4 := Aside0.mk A40
    clear A40
    replace H := Option.bind_eq_some_iff.mp H
    obtain ⟨⟨t457, t458, t459⟩, A50, H⟩ := H
    replace H : ((spec_SecretFits.f k t453 t454).bind fun bt461 => (if (t459 != bt461.2.2) = true then (some false) else (if (!(t457 == bt461.1) || (!(t458 == bt461.2.1))) = true then (some false) else (if t459 = true then ((some (([] : List (S46)) : List (S46))).bind fun y465 => (if y465.length + t453.length < 8796093022208 then ((some (y465 ++ t453 : List (S46))).bind fun y468 => ((some (([(⟨t457, t458⟩ : S46)] : List (S46)) : List (S46))).bind fun y471 => (if y468.length + y471.length < 8796093022208 then ((impl_JoinParts.f k (y468 ++ y471)).bind fun bt477 => (if bt477.2 = true then (if bt477.1 = t454 then ((laws_numberOf.f k l1).bind fun t479 => ((impl_SecretFits.f k t453 (Int.tmod (wrap64 ((wrap64 (t454 + 1)) + (Int.tmod t479 1498))) 1499)).bind fun bt480 => (if bt480.2.2 = true then (if bt480.1 = t457 then (if bt480.2.1 = t458 then (some false) else (laws_FnHidden.j0 k l1)) else (some false)) else (some false)))) else (some false)) else (some false))) else (none)))) else (none))) else (laws_FnHidden.j0 k l1))))) = some r := H
    have A5 := Aside0.mk A50
    clear A50
    replace H := Option.bind_eq_some_iff.mp H
    obtain ⟨⟨t461, t462, t463⟩, A60, H⟩ := H
    replace H : (if (t459 != t463) = true then (some false) else (if (!(t457 == t461) || (!(t458 == t462))) = true then (some false) else (if t459 = true then ((some (([] : List (S46)) : List (S46))).bind fun y465 => (if y465.length + t453.length < 8796093022208 then ((some (y465 ++ t453 : List (S46))).bind fun y468 => ((some (([(⟨t457, t458⟩ : S46)] : List (S46)) : List (S46))).bind fun y471 => (if y468.length + y471.length < 8796093022208 then ((impl_JoinParts.f k (y468 ++ y471)).bind fun bt477 => (if bt477.2 = true then (if bt477.1 = t454 then ((laws_numberOf.f k l1).bind fun t479 => ((impl_SecretFits.f k t453 (Int.tmod (wrap64 ((wrap64 (t454 + 1)) + (Int.tmod t479 1498))) 1499)).bind fun bt480 => (if bt480.2.2 = true then (if bt480.1 = t457 then (if bt480.2.1 = t458 then (some false) else (laws_FnHidden.j0 k l1)) else (some false)) else (some false)))) else (some false)) else (some false))) else (none)))) else (none))) else (laws_FnHidden.j0 k l1)))) = some r := H
    have A6 := Aside0.mk A60
    clear A60
    by_cases c7 : (t459 != t463) = true
    · rw [if_pos c7] at H
      have c7b0 : (t459 != t463) = true := c7
      (try (have c7b1 : decide (t459 = t463) = false := by simpa using c7))
      (try (have c7b2 : (t459 == t463) = false := by simpa using c7))
      (try (have c7b3 : ¬ (t459 = t463) := by simpa using c7))
      clear c7
      obtain rfl := Option.some.inj H
      exact absurd hr_.out (by simp)
    · rw [if_neg c7] at H
      have c7b0 : (t459 != t463) = false := by simpa using c7
      (try (have c7b1 : decide (t459 = t463) = true := by simpa using c7))
      (try (have c7b2 : (t459 == t463) = true := by simpa using c7))
      clear c7
      by_cases c8 : (!(t457 == t461) || (!(t458 == t462))) = true
      · rw [if_pos c8] at H
        have c8b0 : (!(t457 == t461) || (!(t458 == t462))) = true := c8
        clear c8
        obtain rfl := Option.some.inj H
        exact absurd hr_.out (by simp)
      · rw [if_neg c8] at H
        have c8b0 : (!(t457 == t461) || (!(t458 == t462))) = false := by simpa using c8
        clear c8
        have HC9 := Aside0.mk H
        clear H
        go_enter Try.func4, Try.ntmps4
        go_upto_if 70 with (first | ((with_reducible refine gate_callee (f := 22) rfl ?_); refine goesL_ (some 47) rfl rfl Try.func22 (by kernel_rfl) rfl #[.slice A0 l0.length c0] rfl (by (try simp only [List.map_toArray, List.map_cons, List.map_nil]); first | done | rfl | (simp only [List.length_drop, List.length_take]; rfl)) ?_; (with_reducible refine (spec_DrawSecretFits.calls k _ _ l0 t453 t454 _ ?side1 ?side2 A4.out).mono ?_); (case side1 => repeat (first | exact HR0.out | (with_reducible refine Kd.C_alloc ?_ _) | (with_reducible refine Kd.C_drewN ?_ _) | (with_reducible refine Kd.C_drew ?_))); (case side2 => exact HC0.out); rintro e w10 ⟨v455, rfl, ho0, hb⟩; refine ⟨_, rfl, ?_⟩; have n0_ := Aside0.mk (Kd.Q_lower ho0 (below_size (by repeat (first | (with_reducible first | exact HB.out | apply below_alloc | apply pw_below_drewN | apply below_drew1) | exact HB.out)))); have n1_ := Aside0.mk (below_step (by repeat (first | (with_reducible first | exact HB.out | apply below_alloc | apply pw_below_drewN | apply below_drew1) | exact HB.out)) hb); clear HB; have HO456 := n0_; have HB := n1_; clear n0_ n1_; (try clear hb); (try clear hb2); (try clear hk); (try clear hi); (try clear ho0); obtain ⟨Ao11, co11, eo11, _⟩ := Kd.Q_slice HO456.out; subst eo11) | ((with_reducible refine gate_callee (f := 23) rfl ?_); refine goesL_ (some 53) rfl rfl Try.func23 (by kernel_rfl) rfl #[.slice Ao11 t453.length co11, .int .i64 t454] rfl (by (try simp only [List.map_toArray, List.map_cons, List.map_nil]); first | done | rfl | (simp only [List.length_drop, List.length_take]; rfl)) ?_; (with_reducible refine (impl_SecretFits.calls k _ _ t453 t454 t457 t458 t459 _ ?side1 ?side2 A5.out).mono ?_); (case side1 => repeat (first | exact (Kd.Q_reads' HO456.out).2.2 | (with_reducible refine Kd.C_alloc ?_ _) | (with_reducible refine Kd.C_drewN ?_ _) | (with_reducible refine Kd.C_drew ?_))); (case side2 => exact (Kd.Q_reads' HO456.out).2.1); rintro e w12 ⟨rfl, hb⟩; refine ⟨_, rfl, ?_⟩; have n0_ := Aside0.mk (Kd.Q_below (by (with_reducible repeat (first | apply Kd.Q_alloc | apply Kd.Q_drewN | apply Kd.Q_drew)); exact HO456.out) hb); have n1_ := Aside0.mk (below_step (by repeat (first | (with_reducible first | exact HB.out | apply below_alloc | apply pw_below_drewN | apply below_drew1) | exact HB.out)) hb); clear HO456; clear HB; have HO456 := n0_; have HB := n1_; clear n0_ n1_; (try clear hb); (try clear hb2); (try clear hk); (try clear hi)) | ((with_reducible refine gate_dst (N := 7) rfl ?_); refine box_event ?hg (N := 7) ?hd (cs := #[.int .i64 0, .int .i64 0]) (t := 46) ?hr ?_; (case hd => rfl); (case hg => rfl); (case hr => first | (go_simp; done) | (go_simp; rfl)); intro gb460 hg w13 hbox hb; have n0_ := Aside0.mk (Kd.Q_below (Kd.Q_elderB (by (with_reducible repeat (first | apply Kd.Q_alloc | apply Kd.Q_drewN | apply Kd.Q_drew)); exact HO456.out) gb460 (Nat.le_of_eq hg.symm)) hb); have n1_ := Aside0.mk (below_step (by repeat (first | (with_reducible first | exact HB.out | apply below_alloc | apply pw_below_drewN | apply below_drew1) | exact HB.out)) hb); have n2_ := Aside0.mk (hbox); have n3_ := Aside0.mk ((by rw [hg]; exact (below_size (by repeat (first | (with_reducible first | exact HB.out | apply below_alloc | apply pw_below_drewN | apply below_drew1) | exact HB.out))) : w.heap.size ≤ gb460)); have n4_ := Aside0.mk ((by rw [hg]; exact (below_size (by repeat (first | (with_reducible first | exact HB.out | apply below_alloc | apply pw_below_drewN | apply below_drew1) | exact HB.out))) : w.heap.size ≤ gb460)); clear HO456; clear HB; have HO456 := n0_; have HB := n1_; have BK460 := n2_; have GW460 := n3_; have GE460 := n4_; clear n0_ n1_ n2_ n3_ n4_; clear hb hbox hg; have hcz14_0 : w13.cell? ⟨gb460, 0, none⟩ = some (.int .i64 0) := (blk_cell BK460.out 0).trans rfl; have hcz14_1 : w13.cell? ⟨gb460, 1, none⟩ = some (.int .i64 0) := (blk_cell BK460.out 1).trans rfl; have hfz14_0 := blk_frozen BK460.out 0; have hfz14_1 := blk_frozen BK460.out 1) | ((with_reducible refine gate_callee (f := 24) rfl ?_); refine goesL_ (some 59) rfl rfl Try.func24 (by kernel_rfl) rfl #[.slice Ao11 t453.length co11, .int .i64 t454] rfl (by (try simp only [List.map_toArray, List.map_cons, List.map_nil]); first | done | rfl | (simp only [List.length_drop, List.length_take]; rfl)) ?_; (with_reducible refine (spec_SecretFits.calls k _ _ t453 t454 t461 t462 t463 _ ?side1 ?side2 A6.out).mono ?_); (case side1 => refine (Kd.Q_reads' (e := 46) (base := w.heap.size) (ok := fun k_ => (True ∧ k_ ≠ gb460)) (n := t453.length) (c := co11) ?_).2.2; exact (by (with_reducible repeat (first | apply Kd.Q_alloc | apply Kd.Q_drewN | apply Kd.Q_drew)); exact (Kd.Q_mono (Kd.Q_far (p := ⟨gb460, 1, none⟩) (Kd.Q_far (p := ⟨gb460, 0, none⟩) (Kd.Q_mono HO456.out (fun k_ hk => (⟨hk, hk.2⟩ : _ ∧ k_ ≠ gb460))) (fun _ hk => hk.2) (.int .i64 t457)) (fun _ hk => hk.2) (.int .i64 t458)) (fun _ h_ => h_.1)))); (case side2 => exact (Kd.Q_reads' HO456.out).2.1); rintro e w15 ⟨rfl, hb⟩; refine ⟨_, rfl, ?_⟩; have n0_ := Aside0.mk (Kd.Q_below (by (with_reducible repeat (first | apply Kd.Q_alloc | apply Kd.Q_drewN | apply Kd.Q_drew)); exact (Kd.Q_mono (Kd.Q_far (p := ⟨gb460, 1, none⟩) (Kd.Q_far (p := ⟨gb460, 0, none⟩) (Kd.Q_mono HO456.out (fun k_ hk => (⟨hk, hk.2⟩ : _ ∧ k_ ≠ gb460))) (fun _ hk => hk.2) (.int .i64 t457)) (fun _ hk => hk.2) (.int .i64 t458)) (fun _ h_ => h_.1))) hb); have n1_ := Aside0.mk (blk_below (g := gb460) (o := .cells #[.int .i64 t457, .int .i64 t458] 46 (0, 0)) (by (with_reducible repeat (first | refine blk_drewN ?_ _ | refine blk_drew ?_ | refine blk_alloc ?_ _)); refine blk_put (cs := #[.int .i64 t457, .int .i64 0]) ?_ 1 _ rfl; (with_reducible repeat (first | refine blk_drewN ?_ _ | refine blk_drew ?_ | refine blk_alloc ?_ _)); refine blk_put (cs := #[.int .i64 0, .int .i64 0]) ?_ 0 _ rfl; (with_reducible repeat (first | refine blk_drewN ?_ _ | refine blk_drew ?_ | refine blk_alloc ?_ _)); exact BK460.out) hb); have n2_ := Aside0.mk (below_step (by repeat (first | (with_reducible first | exact HB.out | apply below_alloc | apply pw_below_drewN | apply below_drew1 | refine below_set ?_ GE460.out) | exact HB.out)) hb); clear HO456; clear BK460; clear HB; have HO456 := n0_; have BK460 := n1_; have HB := n2_; clear n0_ n1_ n2_; (try clear hb); (try clear hb2); (try clear hk); (try clear hi)) | ((with_reducible refine gate_dst (N := 9) rfl ?_); refine box_event ?hg (N := 9) ?hd (cs := #[.int .i64 0, .int .i64 0]) (t := 46) ?hr ?_; (case hd => rfl); (case hg => rfl); (case hr => first | (go_simp; done) | (go_simp; rfl)); intro gb464 hg w16 hbox hb; have n0_ := Aside0.mk (Kd.Q_below (Kd.Q_elderB (by (with_reducible repeat (first | apply Kd.Q_alloc | apply Kd.Q_drewN | apply Kd.Q_drew)); exact HO456.out) gb464 (Nat.le_of_eq hg.symm)) hb); have n1_ := Aside0.mk (blk_below (g := gb460) (o := .cells #[.int .i64 t457, .int .i64 t458] 46 (0, 0)) (by (with_reducible repeat (first | refine blk_drewN ?_ _ | refine blk_drew ?_ | refine blk_alloc ?_ _)); exact BK460.out) hb); have n2_ := Aside0.mk (below_step (by repeat (first | (with_reducible first | exact HB.out | apply below_alloc | apply pw_below_drewN | apply below_drew1 | refine below_set ?_ GE460.out) | exact HB.out)) hb); have n3_ := Aside0.mk (hbox); have n4_ := Aside0.mk ((by rw [hg]; exact (below_size (by repeat (first | (with_reducible first | exact HB.out | apply below_alloc | apply pw_below_drewN | apply below_drew1 | refine below_set ?_ GE460.out) | exact HB.out))) : w.heap.size ≤ gb464)); have n5_ := Aside0.mk ((by rw [hg]; exact (below_size (by repeat (first | (with_reducible first | exact HB.out | apply below_alloc | apply pw_below_drewN | apply below_drew1 | refine below_set ?_ GE460.out) | exact HB.out))) : w.heap.size ≤ gb464)); have n6_ := Aside0.mk ((by rw [hg]; exact Nat.ne_of_lt (blk_lt (g := gb460) (o := .cells #[.int .i64 t457, .int .i64 t458] 46 (0, 0)) (by (with_reducible repeat (first | refine blk_drewN ?_ _ | refine blk_drew ?_ | refine blk_alloc ?_ _)); exact BK460.out)) : gb460 ≠ gb464)); have n7_ := Aside0.mk ((by rw [hg]; exact Nat.ne_of_gt (blk_lt (g := gb460) (o := .cells #[.int .i64 t457, .int .i64 t458] 46 (0, 0)) (by (with_reducible repeat (first | refine blk_drewN ?_ _ | refine blk_drew ?_ | refine blk_alloc ?_ _)); exact BK460.out)) : gb464 ≠ gb460)); clear HO456; clear BK460; clear HB; have HO456 := n0_; have BK460 := n1_; have HB := n2_; have BK464 := n3_; have GW464 := n4_; have GE464 := n5_; have NB460_464 := n6_; have NB464_460 := n7_; clear n0_ n1_ n2_ n3_ n4_ n5_ n6_ n7_; clear hb hbox hg; have hnb17 := NB464_460.out; have hnc17 := NB460_464.out; have hcz18_0 : w16.cell? ⟨gb464, 0, none⟩ = some (.int .i64 0) := (blk_cell BK464.out 0).trans rfl; have hcz18_1 : w16.cell? ⟨gb464, 1, none⟩ = some (.int .i64 0) := (blk_cell BK464.out 1).trans rfl; have hfz18_0 := blk_frozen BK464.out 0; have hfz18_1 := blk_frozen BK464.out 1; have hcz19_0 : w16.cell? ⟨gb460, 0, none⟩ = some (.int .i64 t457) := (blk_cell BK460.out 0).trans rfl; have hcz19_1 : w16.cell? ⟨gb460, 1, none⟩ = some (.int .i64 t458) := (blk_cell BK460.out 1).trans rfl; have hfz19_0 := blk_frozen BK460.out 0; have hfz19_1 := blk_frozen BK460.out 1))
        (try simp only [Act.put, List.setIfInBounds_toArray, List.set_cons_zero, List.set_cons_succ])
        go_cut [] from 99999 (fun wc => ∃ (kq : Nat), Aside0 (laws_FnHidden.j0 kq l1 = some r) ∧ Aside0 (kq ≤ k) ∧ Aside0 (wc.heap[gb460]? = some (.cells #[.int .i64 t457, .int .i64 t458] 46 (0, 0))) ∧ Aside0 (wc.heap[gb464]? = some (.cells #[.int .i64 t461, .int .i64 t462] 46 (0, 0))) ∧ Aside0 (Below w.heap.size w wc))
        case first =>
          have H := HC9.out
          clear HC9
          by_cases c20 : t459 = true
          · subst c20
            have H1 : ((some (([] : List (S46)) : List (S46))).bind fun y465 => (if y465.length + t453.length < 8796093022208 then ((some (y465 ++ t453 : List (S46))).bind fun y468 => ((some (([(⟨t457, t458⟩ : S46)] : List (S46)) : List (S46))).bind fun y471 => (if y468.length + y471.length < 8796093022208 then ((impl_JoinParts.f k (y468 ++ y471)).bind fun bt477 => (if bt477.2 = true then (if bt477.1 = t454 then ((laws_numberOf.f k l1).bind fun t479 => ((impl_SecretFits.f k t453 (Int.tmod (wrap64 ((wrap64 (t454 + 1)) + (Int.tmod t479 1498))) 1499)).bind fun bt480 => (if bt480.2.2 = true then (if bt480.1 = t457 then (if bt480.2.1 = t458 then (some false) else (laws_FnHidden.j0 k l1)) else (some false)) else (some false)))) else (some false)) else (some false))) else (none)))) else (none))) = some r := by rw [if_pos rfl] at H; exact H
            clear H
            have H := H1
            clear H1
            obtain ⟨y465, hy465⟩ : ∃ y_ : List (S46), y_ = (([] : List (S46))) := ⟨_, rfl⟩
            replace H : (if y465.length + t453.length < 8796093022208 then ((some (y465 ++ t453 : List (S46))).bind fun y468 => ((some (([(⟨t457, t458⟩ : S46)] : List (S46)) : List (S46))).bind fun y471 => (if y468.length + y471.length < 8796093022208 then ((impl_JoinParts.f k (y468 ++ y471)).bind fun bt477 => (if bt477.2 = true then (if bt477.1 = t454 then ((laws_numberOf.f k l1).bind fun t479 => ((impl_SecretFits.f k t453 (Int.tmod (wrap64 ((wrap64 (t454 + 1)) + (Int.tmod t479 1498))) 1499)).bind fun bt480 => (if bt480.2.2 = true then (if bt480.1 = t457 then (if bt480.2.1 = t458 then (some false) else (laws_FnHidden.j0 k l1)) else (some false)) else (some false)))) else (some false)) else (some false))) else (none)))) else (none)) = some r := by first | (rw [hy465]; with_reducible exact H) | (have H2_ := (Option.bind_some _ _).symm.trans H; rw [hy465]; with_reducible exact H2_) | (have H2_ := (Option.bind_some _ _).symm.trans H; with_reducible exact H2_) | with_reducible exact H | (rw [hy465]; exact H) | exact H
            have Ny465 := Aside0.mk hy465
            clear hy465
            by_cases c21 : y465.length + t453.length < 8796093022208
            · rw [if_pos c21] at H
              have LMc21 := Aside0.mk c21
              clear c21
              obtain ⟨y468, hy468⟩ : ∃ y_ : List (S46), y_ = (y465 ++ t453) := ⟨_, rfl⟩
              replace H : ((some (([(⟨t457, t458⟩ : S46)] : List (S46)) : List (S46))).bind fun y471 => (if y468.length + y471.length < 8796093022208 then ((impl_JoinParts.f k (y468 ++ y471)).bind fun bt477 => (if bt477.2 = true then (if bt477.1 = t454 then ((laws_numberOf.f k l1).bind fun t479 => ((impl_SecretFits.f k t453 (Int.tmod (wrap64 ((wrap64 (t454 + 1)) + (Int.tmod t479 1498))) 1499)).bind fun bt480 => (if bt480.2.2 = true then (if bt480.1 = t457 then (if bt480.2.1 = t458 then (some false) else (laws_FnHidden.j0 k l1)) else (some false)) else (some false)))) else (some false)) else (some false))) else (none))) = some r := by first | (rw [hy468]; with_reducible exact H) | (have H2_ := (Option.bind_some _ _).symm.trans H; rw [hy468]; with_reducible exact H2_) | (have H2_ := (Option.bind_some _ _).symm.trans H; with_reducible exact H2_) | with_reducible exact H | (rw [hy468]; exact H) | exact H
              have Ny468 := Aside0.mk hy468
              clear hy468
              obtain ⟨y471, hy471⟩ : ∃ y_ : List (S46), y_ = (([(⟨t457, t458⟩ : S46)] : List (S46))) := ⟨_, rfl⟩
              replace H : (if y468.length + y471.length < 8796093022208 then ((impl_JoinParts.f k (y468 ++ y471)).bind fun bt477 => (if bt477.2 = true then (if bt477.1 = t454 then ((laws_numberOf.f k l1).bind fun t479 => ((impl_SecretFits.f k t453 (Int.tmod (wrap64 ((wrap64 (t454 + 1)) + (Int.tmod t479 1498))) 1499)).bind fun bt480 => (if bt480.2.2 = true then (if bt480.1 = t457 then (if bt480.2.1 = t458 then (some false) else (laws_FnHidden.j0 k l1)) else (some false)) else (some false)))) else (some false)) else (some false))) else (none)) = some r := by first | (rw [hy471]; with_reducible exact H) | (have H2_ := (Option.bind_some _ _).symm.trans H; rw [hy471]; with_reducible exact H2_) | (have H2_ := (Option.bind_some _ _).symm.trans H; with_reducible exact H2_) | with_reducible exact H | (rw [hy471]; exact H) | exact H
              have Ny471 := Aside0.mk hy471
              clear hy471
              by_cases c22 : y468.length + y471.length < 8796093022208
              · rw [if_pos c22] at H
                have LMc22 := Aside0.mk c22
                clear c22
                obtain ⟨y474, hy474⟩ : ∃ y_ : List (S46), y_ = (y468 ++ y471) := ⟨_, rfl⟩
                replace H : ((impl_JoinParts.f k y474).bind fun bt477 => (if bt477.2 = true then (if bt477.1 = t454 then ((laws_numberOf.f k l1).bind fun t479 => ((impl_SecretFits.f k t453 (Int.tmod (wrap64 ((wrap64 (t454 + 1)) + (Int.tmod t479 1498))) 1499)).bind fun bt480 => (if bt480.2.2 = true then (if bt480.1 = t457 then (if bt480.2.1 = t458 then (some false) else (laws_FnHidden.j0 k l1)) else (some false)) else (some false)))) else (some false)) else (some false))) = some r := by first | (rw [hy474]; with_reducible exact H) | (have H2_ := (Option.bind_some _ _).symm.trans H; rw [hy474]; with_reducible exact H2_) | (have H2_ := (Option.bind_some _ _).symm.trans H; with_reducible exact H2_) | with_reducible exact H | (rw [hy474]; exact H) | exact H
                have Ny474 := Aside0.mk hy474
                clear hy474
                replace H := Option.bind_eq_some_iff.mp H
                obtain ⟨⟨t477, t478⟩, A230, H⟩ := H
                replace H : (if t478 = true then (if t477 = t454 then ((laws_numberOf.f k l1).bind fun t479 => ((impl_SecretFits.f k t453 (Int.tmod (wrap64 ((wrap64 (t454 + 1)) + (Int.tmod t479 1498))) 1499)).bind fun bt480 => (if bt480.2.2 = true then (if bt480.1 = t457 then (if bt480.2.1 = t458 then (some false) else (laws_FnHidden.j0 k l1)) else (some false)) else (some false)))) else (some false)) else (some false)) = some r := H
                have A23 := Aside0.mk A230
                clear A230
                by_cases c24 : t478 = true
                · subst c24
                  have H1 : (if t477 = t454 then ((laws_numberOf.f k l1).bind fun t479 => ((impl_SecretFits.f k t453 (Int.tmod (wrap64 ((wrap64 (t454 + 1)) + (Int.tmod t479 1498))) 1499)).bind fun bt480 => (if bt480.2.2 = true then (if bt480.1 = t457 then (if bt480.2.1 = t458 then (some false) else (laws_FnHidden.j0 k l1)) else (some false)) else (some false)))) else (some false)) = some r := by rw [if_pos rfl] at H; exact H
                  clear H
                  have H := H1
                  clear H1
                  by_cases c25 : t477 = t454
                  · rw [if_pos c25] at H
                    have c25b0 : (t477 == t454) = true := beq_iff_eq.mpr c25
                    have c25b1 : (t477 != t454) = false := bne_eq_false_iff_eq.mpr c25
                    clear c25
                    (first | rw [c25b0] | (simp only [i64_w, i32_w]; rw [c25b0]) | skip)
                    replace H := Option.bind_eq_some_iff.mp H
                    obtain ⟨t479, A260, H⟩ := H
                    replace H : ((impl_SecretFits.f k t453 (Int.tmod (wrap64 ((wrap64 (t454 + 1)) + (Int.tmod t479 1498))) 1499)).bind fun bt480 => (if bt480.2.2 = true then (if bt480.1 = t457 then (if bt480.2.1 = t458 then (some false) else (laws_FnHidden.j0 k l1)) else (some false)) else (some false))) = some r := H
                    have A26 := Aside0.mk A260
                    clear A260
                    replace H := Option.bind_eq_some_iff.mp H
                    obtain ⟨⟨t480, t481, t482⟩, A270, H⟩ := H
                    replace H : (if t482 = true then (if t480 = t457 then (if t481 = t458 then (some false) else (laws_FnHidden.j0 k l1)) else (some false)) else (some false)) = some r := H
                    have A27 := Aside0.mk A270
                    clear A270
                    by_cases c28 : t482 = true
                    · subst c28
                      have H1 : (if t480 = t457 then (if t481 = t458 then (some false) else (laws_FnHidden.j0 k l1)) else (some false)) = some r := by rw [if_pos rfl] at H; exact H
                      clear H
                      have H := H1
                      clear H1
                      by_cases c29 : t480 = t457
                      · rw [if_pos c29] at H
                        have c29b0 : (t480 == t457) = true := beq_iff_eq.mpr c29
                        have c29b1 : (t480 != t457) = false := bne_eq_false_iff_eq.mpr c29
                        clear c29
                        by_cases c30 : t481 = t458
                        · rw [if_pos c30] at H
                          have c30b0 : (t481 == t458) = true := beq_iff_eq.mpr c30
                          have c30b1 : (t481 != t458) = false := bne_eq_false_iff_eq.mpr c30
                          clear c30
                          obtain rfl := Option.some.inj H
                          exact absurd hr_.out (by simp)
                        · rw [if_neg c30] at H
                          have c30b0 : (t481 == t458) = false := beq_eq_false_iff_ne.mpr c30
                          have c30b1 : (t481 != t458) = true := bne_iff_ne.mpr c30
                          have H' := Aside0.mk H
                          clear H
                          try go_wp2
                          have n0_ : Aside0 (Kd.Q k46 46 ((w16.setCell ⟨gb464, 0, none⟩ (.int .i64 t461)).setCell ⟨gb464, 1, none⟩ (.int .i64 t462)) w.heap.size (fun k_ => k_ ≠ gb460 ∧ k_ ≠ gb464) (.slice Ao11 t453.length co11) t453) := ⟨by (with_reducible repeat (first | apply Kd.Q_alloc | apply Kd.Q_drewN | apply Kd.Q_drew)); exact Kd.Q_mono (Kd.Q_far (p := ⟨gb464, 1, none⟩) (Kd.Q_far (p := ⟨gb464, 0, none⟩) (Kd.Q_mono HO456.out (fun k_ hk => (⟨hk, hk.2⟩ : _ ∧ k_ ≠ gb464))) (fun _ hk => hk.2) (.int .i64 t461)) (fun _ hk => hk.2) (.int .i64 t462)) (fun _ hk => ⟨hk.1.1.2, hk.1.2⟩)⟩
                          have n1_ : Aside0 (((w16.setCell ⟨gb464, 0, none⟩ (.int .i64 t461)).setCell ⟨gb464, 1, none⟩ (.int .i64 t462)).heap[gb460]? = some (.cells #[.int .i64 t457, .int .i64 t458] 46 (0, 0))) := ⟨by (with_reducible repeat (first | refine blk_drewN ?_ _ | refine blk_drew ?_ | refine blk_alloc ?_ _)); refine blk_far ?_ NB460_464.out _; (with_reducible repeat (first | refine blk_drewN ?_ _ | refine blk_drew ?_ | refine blk_alloc ?_ _)); refine blk_far ?_ NB460_464.out _; (with_reducible repeat (first | refine blk_drewN ?_ _ | refine blk_drew ?_ | refine blk_alloc ?_ _)); exact BK460.out⟩
                          have n2_ : Aside0 (((w16.setCell ⟨gb464, 0, none⟩ (.int .i64 t461)).setCell ⟨gb464, 1, none⟩ (.int .i64 t462)).heap[gb464]? = some (.cells #[.int .i64 t461, .int .i64 t462] 46 (0, 0))) := ⟨by (with_reducible repeat (first | refine blk_drewN ?_ _ | refine blk_drew ?_ | refine blk_alloc ?_ _)); refine blk_put (cs := #[.int .i64 t461, .int .i64 0]) ?_ 1 _ rfl; (with_reducible repeat (first | refine blk_drewN ?_ _ | refine blk_drew ?_ | refine blk_alloc ?_ _)); refine blk_put (cs := #[.int .i64 0, .int .i64 0]) ?_ 0 _ rfl; (with_reducible repeat (first | refine blk_drewN ?_ _ | refine blk_drew ?_ | refine blk_alloc ?_ _)); exact BK464.out⟩
                          have n3_ : Aside0 (Below w.heap.size w ((w16.setCell ⟨gb464, 0, none⟩ (.int .i64 t461)).setCell ⟨gb464, 1, none⟩ (.int .i64 t462))) := ⟨by repeat (first | (with_reducible first | exact HB.out | apply below_alloc | apply pw_below_drewN | apply below_drew1 | refine below_set ?_ GE460.out | refine below_set ?_ GE464.out) | exact HB.out)⟩
                          (try clear HO456)
                          (try clear BK460)
                          (try clear BK464)
                          (try clear HB)
                          have sd_ : ∀ (w_ : World) (n_ : Nat) (a_ : Addr) (v_ : Value), (w_.drewN n_).setCell a_ v_ = (w_.setCell a_ v_).drewN n_ := fun _ _ _ _ => rfl
                          (repeat rw [sd_])
                          clear sd_
                          generalize ((w16.setCell ⟨gb464, 0, none⟩ (.int .i64 t461)).setCell ⟨gb464, 1, none⟩ (.int .i64 t462)) = w31 at n0_ n1_ n2_ n3_ ⊢
                          have HO456 := n0_
                          have BK460 := n1_
                          have BK464 := n2_
                          have HB := n3_
                          clear n0_ n1_ n2_ n3_
                          have n0_ := Aside0.mk (Kd.Q_drew HO456.out)
                          have n1_ := Aside0.mk (blk_drew BK460.out)
                          have n2_ := Aside0.mk (blk_drew BK464.out)
                          have n3_ := Aside0.mk (below_drew1 HB.out)
                          clear HO456
                          clear BK460
                          clear BK464
                          clear HB
                          have HO456 := n0_
                          have BK460 := n1_
                          have BK464 := n2_
                          have HB := n3_
                          clear n0_ n1_ n2_ n3_
                          refine start_ (n := 12) (S := fun w' => w'.cell? ⟨gb460, 0, none⟩ = some (.int .i64 t457) ∧ w'.cell? ⟨gb460, 1, none⟩ = some (.int .i64 t458)) (ds := []) #[false, false, false, false, false, false, false, false, false, false, false, false] (by kernel_rfl) rfl rfl ⟨(blk_cell BK460.out 0).trans rfl, (blk_cell BK460.out 1).trans rfl⟩ (fun hHeld => ?_); refine with_tabW laws_FnHidden.tab9 laws_FnHidden.bits9 (fun HT_ HW_ => ?_)
                          generalize w31.drew = w32 at HO456 BK460 BK464 HB hHeld ⊢
                          refine pure_ (i := 1) (N := some 73) (v := ?_) (a' := ?_) #[false, true, false, false, false, false, false, false, false, false, false, false] rfl rfl (any_of HT_.out (by kernel_rfl)) (fun _ _ _ h => h) (Or.inl ⟨by rfl, ?_⟩) ?_ ?_
                          rotate_left
                          · intro w'
                            go_simp
                            with_reducible rfl
                          rotate_left
                          · simp only [Act.put, List.setIfInBounds_toArray, List.set_cons_zero, List.set_cons_succ, i64_w, i32_w]
                            rfl
                          refine take_ (i := 3) (N := some 75) (v := ?_) (a' := ?_) #[false, true, false, true, false, false, false, false, false, false, false, false] rfl rfl (take_ofW HT_.out HW_.out (by kernel_rfl)) (fun _ _ _ h => h) (Or.inl ⟨by rfl, ?_⟩) hHeld ?_ ?_
                          rotate_left
                          · rintro w' ⟨s0, s1⟩
                            go_simp
                            with_reducible rfl
                          rotate_left
                          · simp only [Act.put, List.setIfInBounds_toArray, List.set_cons_zero, List.set_cons_succ, i64_w, i32_w]
                            rfl
                          refine join_ (σ := Value × Value × Value) 7 #[true, true, true, true, true, false, false, false, false, false, false, false] (fun s_ => [(72, s_.1), (74, s_.2.1), (76, s_.2.2)]) (fun s_ w' => (w'.cell? ⟨gb460, 0, none⟩ = some (.int .i64 t457) ∧ w'.cell? ⟨gb460, 1, none⟩ = some (.int .i64 t458)) ∧ (Kd.Q k46 46 w' w.heap.size (fun k_ => some k_ ≠ (s_.2.1 : Value).ownBlock ∧ some k_ ≠ (s_.2.2 : Value).ownBlock ∧ k_ ≠ gb460 ∧ k_ ≠ gb464) (.slice Ao11 t453.length co11) t453) ∧ (Kd.R k46 46 w' w.heap.size (fun k_ => some k_ ≠ (.slice Ao11 t453.length co11 : Value).ownBlock ∧ some k_ ≠ (s_.2.2 : Value).ownBlock ∧ k_ ≠ gb460 ∧ k_ ≠ gb464) s_.2.1 y468) ∧ (Kd.R k46 46 w' w.heap.size (fun k_ => some k_ ≠ (.slice Ao11 t453.length co11 : Value).ownBlock ∧ some k_ ≠ (s_.2.1 : Value).ownBlock ∧ k_ ≠ gb460 ∧ k_ ≠ gb464) s_.2.2 y471) ∧ (w'.heap[gb460]? = some (.cells #[.int .i64 t457, .int .i64 t458] 46 (0, 0))) ∧ (w'.heap[gb464]? = some (.cells #[.int .i64 t461, .int .i64 t462] 46 (0, 0))) ∧ (Below w.heap.size w w')) ?_ ?_
                          rotate_left
                          · intro hCont
                            refine two_ (i := 0) (j := 4) (Ni := some 72) (Nj := some 76) #[true, true, false, true, false, false, false, false, false, false, false, false] #[false, true, false, true, true, false, false, false, false, false, false, false] rfl rfl rfl rfl (two_of HT_.out (by kernel_rfl)) (by decide) (by decide) (fun K hK => ?_) (fun K hK => ?_)
                            · skip
                              refine Kd.R_lit_step k46 _ 46 ?hg (N := 72) ?hd (xs := ([] : List (S46))) (inner := []) (ok := fun _ => True) (okp := fun _ => True) ?hr ?hp (fun _ hk => hk) trivial (Below.refl _ _) (Nat.le_refl _) (by simp) ?_; (case hd => rfl); (case hg => rfl); (case hr => first | (go_simp; done) | (go_simp; rfl)); (case hp => exact (Reps.none _ _))
                              intro v466 w33 ho34 hb hg_ hnew_
                              clear hg_ hnew_
                              (first | rw [← Ny465.out] at ho34 | (simp only [Int.reduceToNat] at ho34; rw [← Ny465.out] at ho34))
                              have n0_ := Aside0.mk (Kd.Q_elder' (by (with_reducible repeat (first | apply Kd.Q_alloc | apply Kd.Q_drewN | apply Kd.Q_drew)); exact HO456.out) (Kd.R_base ho34) hb)
                              have n1_ := Aside0.mk (Kd.R_lower (Kd.R_newB (Kd.R_newB (Kd.R_new' ho34 (Kd.Q_lt (by (with_reducible repeat (first | apply Kd.Q_alloc | apply Kd.Q_drewN | apply Kd.Q_drew)); exact HO456.out))) (g := gb460) (o := .cells #[.int .i64 t457, .int .i64 t458] 46 (0, 0)) (by (with_reducible repeat (first | refine blk_drewN ?_ _ | refine blk_drew ?_ | refine blk_alloc ?_ _)); exact BK460.out)) (g := gb464) (o := .cells #[.int .i64 t461, .int .i64 t462] 46 (0, 0)) (by (with_reducible repeat (first | refine blk_drewN ?_ _ | refine blk_drew ?_ | refine blk_alloc ?_ _)); exact BK464.out)) (below_size (by repeat (first | (with_reducible first | exact HB.out | apply below_alloc | apply pw_below_drewN | apply below_drew1 | refine below_set ?_ GE460.out | refine below_set ?_ GE464.out) | exact HB.out))))
                              have n2_ := Aside0.mk (blk_below (g := gb460) (o := .cells #[.int .i64 t457, .int .i64 t458] 46 (0, 0)) (by (with_reducible repeat (first | refine blk_drewN ?_ _ | refine blk_drew ?_ | refine blk_alloc ?_ _)); exact BK460.out) hb)
                              have n3_ := Aside0.mk (blk_below (g := gb464) (o := .cells #[.int .i64 t461, .int .i64 t462] 46 (0, 0)) (by (with_reducible repeat (first | refine blk_drewN ?_ _ | refine blk_drew ?_ | refine blk_alloc ?_ _)); exact BK464.out) hb)
                              have n4_ := Aside0.mk (below_step (by repeat (first | (with_reducible first | exact HB.out | apply below_alloc | apply pw_below_drewN | apply below_drew1 | refine below_set ?_ GE460.out | refine below_set ?_ GE464.out) | exact HB.out)) hb)
                              clear HO456
                              clear BK460
                              clear BK464
                              clear HB
                              have HO456 := n0_
                              have HO467 := n1_
                              have BK460 := n2_
                              have BK464 := n3_
                              have HB := n4_
                              clear n0_ n1_ n2_ n3_ n4_
                              clear hb ho34
                              refine hK.out _ _ ⟨(blk_cell BK460.out 0).trans rfl, (blk_cell BK460.out 1).trans rfl⟩ (fun hHeld => ?_)
                              clear hK K
                              refine norm_ (a' := ?_) ?_ ?_
                              rotate_left
                              · show Act.put _ (some 72) _ = _
                                simp only [Act.put, List.setIfInBounds_toArray, List.set_cons_zero, List.set_cons_succ, i64_w, i32_w]
                                rfl
                              refine two_ (i := 2) (j := 4) (Ni := some 74) (Nj := some 76) #[true, true, true, true, false, false, false, false, false, false, false, false] #[true, true, false, true, true, false, false, false, false, false, false, false] rfl rfl rfl rfl (two_of HT_.out (by kernel_rfl)) (by decide) (by decide) (fun K hK => ?_) (fun K hK => ?_)
                              · skip
                                refine Kd.R_append_rows_step k46 (w0 := w) w.heap.size (by rfl) (.tmp 72) (.tmp 73) 26 46 (.agg #[(.int .i64 0), (.int .i64 0)]) 16 rfl Try.underlying26 info46 rfl (by decide) (by omega) v466 y465 t453 _ _ _ (fun k_ => some k_ ≠ (.slice Ao11 t453.length co11 : Value).ownBlock ∧ k_ ≠ gb460 ∧ k_ ≠ gb464) (fun _ => False) rfl rfl ?aO ?aR (fun _ _ h => h) (fun _ h => h.elim) ?aF ?aB ?aS ?aL ?_
                                (case aR => repeat (first | exact (Kd.Q_reads' HO456.out).2.2 | (with_reducible refine Kd.C_alloc ?_ _) | (with_reducible refine Kd.C_drewN ?_ _) | (with_reducible refine Kd.C_drew ?_)))
                                (case aB => exact (by repeat (first | (with_reducible first | exact HB.out | apply below_alloc | apply pw_below_drewN | apply below_drew1 | refine below_set ?_ GE460.out | refine below_set ?_ GE464.out) | exact HB.out)))
                                (case aF => exact (fun k_ hk => ⟨Kd.fresh' (Kd.Q_lt (by (with_reducible repeat (first | apply Kd.Q_alloc | apply Kd.Q_drewN | apply Kd.Q_drew)); exact HO456.out)) k_ hk, Kd.freshB (g := gb460) (o := .cells #[.int .i64 t457, .int .i64 t458] 46 (0, 0)) (by (with_reducible repeat (first | refine blk_drewN ?_ _ | refine blk_drew ?_ | refine blk_alloc ?_ _)); exact BK460.out) k_ hk, Kd.freshB (g := gb464) (o := .cells #[.int .i64 t461, .int .i64 t462] 46 (0, 0)) (by (with_reducible repeat (first | refine blk_drewN ?_ _ | refine blk_drew ?_ | refine blk_alloc ?_ _)); exact BK464.out) k_ hk⟩))
                                (case aO => exact (by (with_reducible repeat (first | apply Kd.R_alloc | apply Kd.R_drewN | apply Kd.R_drew)); exact Kd.R_mono HO467.out (fun _ hk => ⟨hk.1.1.2, ⟨hk.1.2, hk.2⟩⟩)))
                                (case aS => exact (below_size (by repeat (first | (with_reducible first | exact HB.out | apply below_alloc | apply pw_below_drewN | apply below_drew1 | refine below_set ?_ GE460.out | refine below_set ?_ GE464.out) | exact HB.out))))
                                (case aL => have := LMc21.out; omega)
                                intro v469 w35 ho hb hg hat
                                rw [← Ny468.out] at ho
                                have n0_ := Aside0.mk (Kd.Q_after (ok := (fun k_ => k_ ≠ gb460 ∧ k_ ≠ gb464)) (by (with_reducible repeat (first | apply Kd.Q_alloc | apply Kd.Q_drewN | apply Kd.Q_drew)); exact HO456.out) hg hat)
                                have n1_ := Aside0.mk (blk_grown (g := gb460) (o := .cells #[.int .i64 t457, .int .i64 t458] 46 (0, 0)) (by (with_reducible repeat (first | refine blk_drewN ?_ _ | refine blk_drew ?_ | refine blk_alloc ?_ _)); exact BK460.out) hg (Kd.R_away HO467.out (fun _ hk => hk.1.2)))
                                have n2_ := Aside0.mk (blk_grown (g := gb464) (o := .cells #[.int .i64 t461, .int .i64 t462] 46 (0, 0)) (by (with_reducible repeat (first | refine blk_drewN ?_ _ | refine blk_drew ?_ | refine blk_alloc ?_ _)); exact BK464.out) hg (Kd.R_away HO467.out (fun _ hk => hk.2)))
                                have n3_ := Aside0.mk (hb)
                                have n4_ := Aside0.mk (ho)
                                clear HO456
                                clear BK460
                                clear BK464
                                clear HB
                                clear HO467
                                have HO456 := n0_
                                have BK460 := n1_
                                have BK464 := n2_
                                have HB := n3_
                                have HO470 := n4_
                                clear n0_ n1_ n2_ n3_ n4_
                                clear ho hb hg hat
                                refine hK.out _ _ ⟨(blk_cell BK460.out 0).trans rfl, (blk_cell BK460.out 1).trans rfl⟩ (fun hHeld => ?_)
                                clear hK K
                                refine norm_ (a' := ?_) ?_ ?_
                                rotate_left
                                · show Act.put _ (some 74) _ = _
                                  simp only [Act.put, List.setIfInBounds_toArray, List.set_cons_zero, List.set_cons_succ, i64_w, i32_w]
                                  rfl
                                refine one_ (i := 4) (N := some 76) #[true, true, true, true, true, false, false, false, false, false, false, false] rfl rfl (one_of HT_.out (by kernel_rfl)) (by decide) (fun K hK => ?_)
                                refine Kd.R_lit_step k46 _ 46 ?hg (N := 76) ?hd (xs := ([(⟨t457, t458⟩ : S46)] : List (S46))) (inner := [.int .i64 t457, .int .i64 t458]) (ok := fun _ => True) (okp := fun _ => True) ?hr ?hp (fun _ hk => hk) trivial (Below.refl _ _) (Nat.le_refl _) (by simp) ?_; (case hd => rfl); (case hg => rfl); (case hr => first | (go_simp; done) | (go_simp; rfl)); (case hp => exact (Reps.c2 (show Kd.M k46 _ _ _ (⟨t457, t458⟩ : S46) [.int .i64 t457, .int .i64 t458] from (k46_mkM _ _ _ (⟨t457, t458⟩ : S46) )) (Reps.none _ _)))
                                intro v472 w36 ho37 hb hg_ hnew_
                                clear hg_ hnew_
                                (first | rw [← Ny471.out] at ho37 | (simp only [Int.reduceToNat] at ho37; rw [← Ny471.out] at ho37))
                                have n0_ := Aside0.mk (Kd.Q_elder' (by (with_reducible repeat (first | apply Kd.Q_alloc | apply Kd.Q_drewN | apply Kd.Q_drew)); exact HO456.out) (Kd.R_base ho37) hb)
                                have n1_ := Aside0.mk (Kd.R_elder' (by (with_reducible repeat (first | apply Kd.R_alloc | apply Kd.R_drewN | apply Kd.R_drew)); exact HO470.out) (Kd.R_base ho37) hb)
                                have n2_ := Aside0.mk (Kd.R_lower (Kd.R_newB (Kd.R_newB (Kd.R_new' (Kd.R_new' ho37 (Kd.Q_lt (by (with_reducible repeat (first | apply Kd.Q_alloc | apply Kd.Q_drewN | apply Kd.Q_drew)); exact HO456.out))) (Kd.R_lt (by (with_reducible repeat (first | apply Kd.R_alloc | apply Kd.R_drewN | apply Kd.R_drew)); exact HO470.out))) (g := gb460) (o := .cells #[.int .i64 t457, .int .i64 t458] 46 (0, 0)) (by (with_reducible repeat (first | refine blk_drewN ?_ _ | refine blk_drew ?_ | refine blk_alloc ?_ _)); exact BK460.out)) (g := gb464) (o := .cells #[.int .i64 t461, .int .i64 t462] 46 (0, 0)) (by (with_reducible repeat (first | refine blk_drewN ?_ _ | refine blk_drew ?_ | refine blk_alloc ?_ _)); exact BK464.out)) (below_size (by repeat (first | (with_reducible first | exact HB.out | apply below_alloc | apply pw_below_drewN | apply below_drew1 | refine below_set ?_ GE460.out | refine below_set ?_ GE464.out) | exact HB.out))))
                                have n3_ := Aside0.mk (blk_below (g := gb460) (o := .cells #[.int .i64 t457, .int .i64 t458] 46 (0, 0)) (by (with_reducible repeat (first | refine blk_drewN ?_ _ | refine blk_drew ?_ | refine blk_alloc ?_ _)); exact BK460.out) hb)
                                have n4_ := Aside0.mk (blk_below (g := gb464) (o := .cells #[.int .i64 t461, .int .i64 t462] 46 (0, 0)) (by (with_reducible repeat (first | refine blk_drewN ?_ _ | refine blk_drew ?_ | refine blk_alloc ?_ _)); exact BK464.out) hb)
                                have n5_ := Aside0.mk (below_step (by repeat (first | (with_reducible first | exact HB.out | apply below_alloc | apply pw_below_drewN | apply below_drew1 | refine below_set ?_ GE460.out | refine below_set ?_ GE464.out) | exact HB.out)) hb)
                                clear HO456
                                clear HO470
                                clear BK460
                                clear BK464
                                clear HB
                                have HO456 := n0_
                                have HO470 := n1_
                                have HO473 := n2_
                                have BK460 := n3_
                                have BK464 := n4_
                                have HB := n5_
                                clear n0_ n1_ n2_ n3_ n4_ n5_
                                clear hb ho37
                                refine hK.out _ _ ⟨(blk_cell BK460.out 0).trans rfl, (blk_cell BK460.out 1).trans rfl⟩ (fun hHeld => ?_)
                                clear hK K
                                refine norm_ (a' := ?_) ?_ ?_
                                rotate_left
                                · show Act.put _ (some 76) _ = _
                                  simp only [Act.put, List.setIfInBounds_toArray, List.set_cons_zero, List.set_cons_succ, i64_w, i32_w]
                                  rfl
                                exact norm_ (by simp only [putAll, Act.put, List.setIfInBounds_toArray, List.set_cons_zero, List.set_cons_succ]) (hCont (v466, v469, v472) _ ⟨hHeld, (by (with_reducible repeat (first | apply Kd.Q_alloc | apply Kd.Q_drewN | apply Kd.Q_drew)); exact Kd.Q_mono HO456.out (fun _ hk => ⟨hk.1.2, ⟨hk.2, ⟨hk.1.1.1, hk.1.1.2⟩⟩⟩)), (by (with_reducible repeat (first | apply Kd.R_alloc | apply Kd.R_drewN | apply Kd.R_drew)); exact Kd.R_mono HO470.out (fun _ hk => ⟨hk.1.1, ⟨hk.2, ⟨hk.1.2.1, hk.1.2.2⟩⟩⟩)), (by (with_reducible repeat (first | apply Kd.R_alloc | apply Kd.R_drewN | apply Kd.R_drew)); exact Kd.R_mono HO473.out (fun _ hk => ⟨hk.1.1.1.2, ⟨hk.1.1.2, ⟨hk.1.2, hk.2⟩⟩⟩)), (by (with_reducible repeat (first | refine blk_drewN ?_ _ | refine blk_drew ?_ | refine blk_alloc ?_ _)); exact BK460.out), (by (with_reducible repeat (first | refine blk_drewN ?_ _ | refine blk_drew ?_ | refine blk_alloc ?_ _)); exact BK464.out), (by repeat (first | (with_reducible first | exact HB.out | apply below_alloc | apply pw_below_drewN | apply below_drew1 | refine below_set ?_ GE460.out | refine below_set ?_ GE464.out) | exact HB.out))⟩)
                              · skip
                                refine Kd.R_lit_step k46 _ 46 ?hg (N := 76) ?hd (xs := ([(⟨t457, t458⟩ : S46)] : List (S46))) (inner := [.int .i64 t457, .int .i64 t458]) (ok := fun _ => True) (okp := fun _ => True) ?hr ?hp (fun _ hk => hk) trivial (Below.refl _ _) (Nat.le_refl _) (by simp) ?_; (case hd => rfl); (case hg => rfl); (case hr => first | (go_simp; done) | (go_simp; rfl)); (case hp => exact (Reps.c2 (show Kd.M k46 _ _ _ (⟨t457, t458⟩ : S46) [.int .i64 t457, .int .i64 t458] from (k46_mkM _ _ _ (⟨t457, t458⟩ : S46) )) (Reps.none _ _)))
                                intro v472 w35 ho36 hb hg_ hnew_
                                clear hg_ hnew_
                                (first | rw [← Ny471.out] at ho36 | (simp only [Int.reduceToNat] at ho36; rw [← Ny471.out] at ho36))
                                have n0_ := Aside0.mk (Kd.Q_elder' (by (with_reducible repeat (first | apply Kd.Q_alloc | apply Kd.Q_drewN | apply Kd.Q_drew)); exact HO456.out) (Kd.R_base ho36) hb)
                                have n1_ := Aside0.mk (Kd.R_elder' (by (with_reducible repeat (first | apply Kd.R_alloc | apply Kd.R_drewN | apply Kd.R_drew)); exact HO467.out) (Kd.R_base ho36) hb)
                                have n2_ := Aside0.mk (Kd.R_lower (Kd.R_newB (Kd.R_newB (Kd.R_new' (Kd.R_new' ho36 (Kd.Q_lt (by (with_reducible repeat (first | apply Kd.Q_alloc | apply Kd.Q_drewN | apply Kd.Q_drew)); exact HO456.out))) (Kd.R_lt (by (with_reducible repeat (first | apply Kd.R_alloc | apply Kd.R_drewN | apply Kd.R_drew)); exact HO467.out))) (g := gb460) (o := .cells #[.int .i64 t457, .int .i64 t458] 46 (0, 0)) (by (with_reducible repeat (first | refine blk_drewN ?_ _ | refine blk_drew ?_ | refine blk_alloc ?_ _)); exact BK460.out)) (g := gb464) (o := .cells #[.int .i64 t461, .int .i64 t462] 46 (0, 0)) (by (with_reducible repeat (first | refine blk_drewN ?_ _ | refine blk_drew ?_ | refine blk_alloc ?_ _)); exact BK464.out)) (below_size (by repeat (first | (with_reducible first | exact HB.out | apply below_alloc | apply pw_below_drewN | apply below_drew1 | refine below_set ?_ GE460.out | refine below_set ?_ GE464.out) | exact HB.out))))
                                have n3_ := Aside0.mk (blk_below (g := gb460) (o := .cells #[.int .i64 t457, .int .i64 t458] 46 (0, 0)) (by (with_reducible repeat (first | refine blk_drewN ?_ _ | refine blk_drew ?_ | refine blk_alloc ?_ _)); exact BK460.out) hb)
                                have n4_ := Aside0.mk (blk_below (g := gb464) (o := .cells #[.int .i64 t461, .int .i64 t462] 46 (0, 0)) (by (with_reducible repeat (first | refine blk_drewN ?_ _ | refine blk_drew ?_ | refine blk_alloc ?_ _)); exact BK464.out) hb)
                                have n5_ := Aside0.mk (below_step (by repeat (first | (with_reducible first | exact HB.out | apply below_alloc | apply pw_below_drewN | apply below_drew1 | refine below_set ?_ GE460.out | refine below_set ?_ GE464.out) | exact HB.out)) hb)
                                clear HO456
                                clear HO467
                                clear BK460
                                clear BK464
                                clear HB
                                have HO456 := n0_
                                have HO467 := n1_
                                have HO473 := n2_
                                have BK460 := n3_
                                have BK464 := n4_
                                have HB := n5_
                                clear n0_ n1_ n2_ n3_ n4_ n5_
                                clear hb ho36
                                refine hK.out _ _ ⟨(blk_cell BK460.out 0).trans rfl, (blk_cell BK460.out 1).trans rfl⟩ (fun hHeld => ?_)
                                clear hK K
                                refine norm_ (a' := ?_) ?_ ?_
                                rotate_left
                                · show Act.put _ (some 76) _ = _
                                  simp only [Act.put, List.setIfInBounds_toArray, List.set_cons_zero, List.set_cons_succ, i64_w, i32_w]
                                  rfl
                                refine one_ (i := 2) (N := some 74) #[true, true, true, true, true, false, false, false, false, false, false, false] rfl rfl (one_of HT_.out (by kernel_rfl)) (by decide) (fun K hK => ?_)
                                refine Kd.R_append_rows_step k46 (w0 := w) w.heap.size (by rfl) (.tmp 72) (.tmp 73) 26 46 (.agg #[(.int .i64 0), (.int .i64 0)]) 16 rfl Try.underlying26 info46 rfl (by decide) (by omega) v466 y465 t453 _ _ _ (fun k_ => some k_ ≠ (.slice Ao11 t453.length co11 : Value).ownBlock ∧ some k_ ≠ (v472 : Value).ownBlock ∧ k_ ≠ gb460 ∧ k_ ≠ gb464) (fun _ => False) rfl rfl ?aO ?aR (fun _ _ h => h) (fun _ h => h.elim) ?aF ?aB ?aS ?aL ?_
                                (case aR => repeat (first | exact (Kd.Q_reads' HO456.out).2.2 | (with_reducible refine Kd.C_alloc ?_ _) | (with_reducible refine Kd.C_drewN ?_ _) | (with_reducible refine Kd.C_drew ?_)))
                                (case aB => exact (by repeat (first | (with_reducible first | exact HB.out | apply below_alloc | apply pw_below_drewN | apply below_drew1 | refine below_set ?_ GE460.out | refine below_set ?_ GE464.out) | exact HB.out)))
                                (case aF => exact (fun k_ hk => ⟨Kd.fresh' (Kd.Q_lt (by (with_reducible repeat (first | apply Kd.Q_alloc | apply Kd.Q_drewN | apply Kd.Q_drew)); exact HO456.out)) k_ hk, Kd.fresh' (Kd.R_lt (by (with_reducible repeat (first | apply Kd.R_alloc | apply Kd.R_drewN | apply Kd.R_drew)); exact HO473.out)) k_ hk, Kd.freshB (g := gb460) (o := .cells #[.int .i64 t457, .int .i64 t458] 46 (0, 0)) (by (with_reducible repeat (first | refine blk_drewN ?_ _ | refine blk_drew ?_ | refine blk_alloc ?_ _)); exact BK460.out) k_ hk, Kd.freshB (g := gb464) (o := .cells #[.int .i64 t461, .int .i64 t462] 46 (0, 0)) (by (with_reducible repeat (first | refine blk_drewN ?_ _ | refine blk_drew ?_ | refine blk_alloc ?_ _)); exact BK464.out) k_ hk⟩))
                                (case aO => exact (by (with_reducible repeat (first | apply Kd.R_alloc | apply Kd.R_drewN | apply Kd.R_drew)); exact Kd.R_mono HO467.out (fun _ hk => ⟨hk.1.1.1.2, ⟨hk.2, ⟨hk.1.1.2, hk.1.2⟩⟩⟩)))
                                (case aS => exact (below_size (by repeat (first | (with_reducible first | exact HB.out | apply below_alloc | apply pw_below_drewN | apply below_drew1 | refine below_set ?_ GE460.out | refine below_set ?_ GE464.out) | exact HB.out))))
                                (case aL => have := LMc21.out; omega)
                                intro v469 w37 ho hb hg hat
                                rw [← Ny468.out] at ho
                                have n0_ := Aside0.mk (Kd.Q_after (ok := (fun k_ => some k_ ≠ (v472 : Value).ownBlock ∧ k_ ≠ gb460 ∧ k_ ≠ gb464)) (by (with_reducible repeat (first | apply Kd.Q_alloc | apply Kd.Q_drewN | apply Kd.Q_drew)); exact Kd.Q_mono HO456.out (fun _ hk => ⟨⟨hk.2, ⟨hk.1.1.1, hk.1.1.2⟩⟩, hk.1.2⟩)) hg hat)
                                have n1_ := Aside0.mk (blk_grown (g := gb460) (o := .cells #[.int .i64 t457, .int .i64 t458] 46 (0, 0)) (by (with_reducible repeat (first | refine blk_drewN ?_ _ | refine blk_drew ?_ | refine blk_alloc ?_ _)); exact BK460.out) hg (Kd.R_away HO467.out (fun _ hk => hk.1.1.2)))
                                have n2_ := Aside0.mk (blk_grown (g := gb464) (o := .cells #[.int .i64 t461, .int .i64 t462] 46 (0, 0)) (by (with_reducible repeat (first | refine blk_drewN ?_ _ | refine blk_drew ?_ | refine blk_alloc ?_ _)); exact BK464.out) hg (Kd.R_away HO467.out (fun _ hk => hk.1.2)))
                                have n3_ := Aside0.mk (Kd.R_after (ok := (fun k_ => some k_ ≠ (.slice Ao11 t453.length co11 : Value).ownBlock ∧ k_ ≠ gb460 ∧ k_ ≠ gb464)) (by (with_reducible repeat (first | apply Kd.R_alloc | apply Kd.R_drewN | apply Kd.R_drew)); exact Kd.R_mono HO473.out (fun _ hk => ⟨⟨hk.1.1.1.2, ⟨hk.1.2, hk.2⟩⟩, hk.1.1.2⟩)) hg hat)
                                have n4_ := Aside0.mk (hb)
                                have n5_ := Aside0.mk (ho)
                                clear HO456
                                clear BK460
                                clear BK464
                                clear HO473
                                clear HB
                                clear HO467
                                have HO456 := n0_
                                have BK460 := n1_
                                have BK464 := n2_
                                have HO473 := n3_
                                have HB := n4_
                                have HO470 := n5_
                                clear n0_ n1_ n2_ n3_ n4_ n5_
                                clear ho hb hg hat
                                refine hK.out _ _ ⟨(blk_cell BK460.out 0).trans rfl, (blk_cell BK460.out 1).trans rfl⟩ (fun hHeld => ?_)
                                clear hK K
                                refine norm_ (a' := ?_) ?_ ?_
                                rotate_left
                                · show Act.put _ (some 74) _ = _
                                  simp only [Act.put, List.setIfInBounds_toArray, List.set_cons_zero, List.set_cons_succ, i64_w, i32_w]
                                  rfl
                                exact norm_ (by simp only [putAll, Act.put, List.setIfInBounds_toArray, List.set_cons_zero, List.set_cons_succ]) (hCont (v466, v469, v472) _ ⟨hHeld, (by (with_reducible repeat (first | apply Kd.Q_alloc | apply Kd.Q_drewN | apply Kd.Q_drew)); exact Kd.Q_mono HO456.out (fun _ hk => ⟨hk.2, ⟨hk.1.1, ⟨hk.1.2.1, hk.1.2.2⟩⟩⟩)), (by (with_reducible repeat (first | apply Kd.R_alloc | apply Kd.R_drewN | apply Kd.R_drew)); exact HO470.out), (by (with_reducible repeat (first | apply Kd.R_alloc | apply Kd.R_drewN | apply Kd.R_drew)); exact Kd.R_mono HO473.out (fun _ hk => ⟨hk.1.1, ⟨hk.2, ⟨hk.1.2.1, hk.1.2.2⟩⟩⟩)), (by (with_reducible repeat (first | refine blk_drewN ?_ _ | refine blk_drew ?_ | refine blk_alloc ?_ _)); exact BK460.out), (by (with_reducible repeat (first | refine blk_drewN ?_ _ | refine blk_drew ?_ | refine blk_alloc ?_ _)); exact BK464.out), (by repeat (first | (with_reducible first | exact HB.out | apply below_alloc | apply pw_below_drewN | apply below_drew1 | refine below_set ?_ GE460.out | refine below_set ?_ GE464.out) | exact HB.out))⟩)
                            · skip
                              refine Kd.R_lit_step k46 _ 46 ?hg (N := 76) ?hd (xs := ([(⟨t457, t458⟩ : S46)] : List (S46))) (inner := [.int .i64 t457, .int .i64 t458]) (ok := fun _ => True) (okp := fun _ => True) ?hr ?hp (fun _ hk => hk) trivial (Below.refl _ _) (Nat.le_refl _) (by simp) ?_; (case hd => rfl); (case hg => rfl); (case hr => first | (go_simp; done) | (go_simp; rfl)); (case hp => exact (Reps.c2 (show Kd.M k46 _ _ _ (⟨t457, t458⟩ : S46) [.int .i64 t457, .int .i64 t458] from (k46_mkM _ _ _ (⟨t457, t458⟩ : S46) )) (Reps.none _ _)))
                              intro v472 w33 ho34 hb hg_ hnew_
                              clear hg_ hnew_
                              (first | rw [← Ny471.out] at ho34 | (simp only [Int.reduceToNat] at ho34; rw [← Ny471.out] at ho34))
                              have n0_ := Aside0.mk (Kd.Q_elder' (by (with_reducible repeat (first | apply Kd.Q_alloc | apply Kd.Q_drewN | apply Kd.Q_drew)); exact HO456.out) (Kd.R_base ho34) hb)
                              have n1_ := Aside0.mk (Kd.R_lower (Kd.R_newB (Kd.R_newB (Kd.R_new' ho34 (Kd.Q_lt (by (with_reducible repeat (first | apply Kd.Q_alloc | apply Kd.Q_drewN | apply Kd.Q_drew)); exact HO456.out))) (g := gb460) (o := .cells #[.int .i64 t457, .int .i64 t458] 46 (0, 0)) (by (with_reducible repeat (first | refine blk_drewN ?_ _ | refine blk_drew ?_ | refine blk_alloc ?_ _)); exact BK460.out)) (g := gb464) (o := .cells #[.int .i64 t461, .int .i64 t462] 46 (0, 0)) (by (with_reducible repeat (first | refine blk_drewN ?_ _ | refine blk_drew ?_ | refine blk_alloc ?_ _)); exact BK464.out)) (below_size (by repeat (first | (with_reducible first | exact HB.out | apply below_alloc | apply pw_below_drewN | apply below_drew1 | refine below_set ?_ GE460.out | refine below_set ?_ GE464.out) | exact HB.out))))
                              have n2_ := Aside0.mk (blk_below (g := gb460) (o := .cells #[.int .i64 t457, .int .i64 t458] 46 (0, 0)) (by (with_reducible repeat (first | refine blk_drewN ?_ _ | refine blk_drew ?_ | refine blk_alloc ?_ _)); exact BK460.out) hb)
                              have n3_ := Aside0.mk (blk_below (g := gb464) (o := .cells #[.int .i64 t461, .int .i64 t462] 46 (0, 0)) (by (with_reducible repeat (first | refine blk_drewN ?_ _ | refine blk_drew ?_ | refine blk_alloc ?_ _)); exact BK464.out) hb)
                              have n4_ := Aside0.mk (below_step (by repeat (first | (with_reducible first | exact HB.out | apply below_alloc | apply pw_below_drewN | apply below_drew1 | refine below_set ?_ GE460.out | refine below_set ?_ GE464.out) | exact HB.out)) hb)
                              clear HO456
                              clear BK460
                              clear BK464
                              clear HB
                              have HO456 := n0_
                              have HO473 := n1_
                              have BK460 := n2_
                              have BK464 := n3_
                              have HB := n4_
                              clear n0_ n1_ n2_ n3_ n4_
                              clear hb ho34
                              refine hK.out _ _ ⟨(blk_cell BK460.out 0).trans rfl, (blk_cell BK460.out 1).trans rfl⟩ (fun hHeld => ?_)
                              clear hK K
                              refine norm_ (a' := ?_) ?_ ?_
                              rotate_left
                              · show Act.put _ (some 76) _ = _
                                simp only [Act.put, List.setIfInBounds_toArray, List.set_cons_zero, List.set_cons_succ, i64_w, i32_w]
                                rfl
                              refine one_ (i := 0) (N := some 72) #[true, true, false, true, true, false, false, false, false, false, false, false] rfl rfl (one_of HT_.out (by kernel_rfl)) (by decide) (fun K hK => ?_)
                              refine Kd.R_lit_step k46 _ 46 ?hg (N := 72) ?hd (xs := ([] : List (S46))) (inner := []) (ok := fun _ => True) (okp := fun _ => True) ?hr ?hp (fun _ hk => hk) trivial (Below.refl _ _) (Nat.le_refl _) (by simp) ?_; (case hd => rfl); (case hg => rfl); (case hr => first | (go_simp; done) | (go_simp; rfl)); (case hp => exact (Reps.none _ _))
                              intro v466 w35 ho36 hb hg_ hnew_
                              clear hg_ hnew_
                              (first | rw [← Ny465.out] at ho36 | (simp only [Int.reduceToNat] at ho36; rw [← Ny465.out] at ho36))
                              have n0_ := Aside0.mk (Kd.Q_elder' (by (with_reducible repeat (first | apply Kd.Q_alloc | apply Kd.Q_drewN | apply Kd.Q_drew)); exact HO456.out) (Kd.R_base ho36) hb)
                              have n1_ := Aside0.mk (Kd.R_elder' (by (with_reducible repeat (first | apply Kd.R_alloc | apply Kd.R_drewN | apply Kd.R_drew)); exact HO473.out) (Kd.R_base ho36) hb)
                              have n2_ := Aside0.mk (Kd.R_lower (Kd.R_newB (Kd.R_newB (Kd.R_new' (Kd.R_new' ho36 (Kd.Q_lt (by (with_reducible repeat (first | apply Kd.Q_alloc | apply Kd.Q_drewN | apply Kd.Q_drew)); exact HO456.out))) (Kd.R_lt (by (with_reducible repeat (first | apply Kd.R_alloc | apply Kd.R_drewN | apply Kd.R_drew)); exact HO473.out))) (g := gb460) (o := .cells #[.int .i64 t457, .int .i64 t458] 46 (0, 0)) (by (with_reducible repeat (first | refine blk_drewN ?_ _ | refine blk_drew ?_ | refine blk_alloc ?_ _)); exact BK460.out)) (g := gb464) (o := .cells #[.int .i64 t461, .int .i64 t462] 46 (0, 0)) (by (with_reducible repeat (first | refine blk_drewN ?_ _ | refine blk_drew ?_ | refine blk_alloc ?_ _)); exact BK464.out)) (below_size (by repeat (first | (with_reducible first | exact HB.out | apply below_alloc | apply pw_below_drewN | apply below_drew1 | refine below_set ?_ GE460.out | refine below_set ?_ GE464.out) | exact HB.out))))
                              have n3_ := Aside0.mk (blk_below (g := gb460) (o := .cells #[.int .i64 t457, .int .i64 t458] 46 (0, 0)) (by (with_reducible repeat (first | refine blk_drewN ?_ _ | refine blk_drew ?_ | refine blk_alloc ?_ _)); exact BK460.out) hb)
                              have n4_ := Aside0.mk (blk_below (g := gb464) (o := .cells #[.int .i64 t461, .int .i64 t462] 46 (0, 0)) (by (with_reducible repeat (first | refine blk_drewN ?_ _ | refine blk_drew ?_ | refine blk_alloc ?_ _)); exact BK464.out) hb)
                              have n5_ := Aside0.mk (below_step (by repeat (first | (with_reducible first | exact HB.out | apply below_alloc | apply pw_below_drewN | apply below_drew1 | refine below_set ?_ GE460.out | refine below_set ?_ GE464.out) | exact HB.out)) hb)
                              clear HO456
                              clear HO473
                              clear BK460
                              clear BK464
                              clear HB
                              have HO456 := n0_
                              have HO473 := n1_
                              have HO467 := n2_
                              have BK460 := n3_
                              have BK464 := n4_
                              have HB := n5_
                              clear n0_ n1_ n2_ n3_ n4_ n5_
                              clear hb ho36
                              refine hK.out _ _ ⟨(blk_cell BK460.out 0).trans rfl, (blk_cell BK460.out 1).trans rfl⟩ (fun hHeld => ?_)
                              clear hK K
                              refine norm_ (a' := ?_) ?_ ?_
                              rotate_left
                              · show Act.put _ (some 72) _ = _
                                simp only [Act.put, List.setIfInBounds_toArray, List.set_cons_zero, List.set_cons_succ, i64_w, i32_w]
                                rfl
                              refine one_ (i := 2) (N := some 74) #[true, true, true, true, true, false, false, false, false, false, false, false] rfl rfl (one_of HT_.out (by kernel_rfl)) (by decide) (fun K hK => ?_)
                              refine Kd.R_append_rows_step k46 (w0 := w) w.heap.size (by rfl) (.tmp 72) (.tmp 73) 26 46 (.agg #[(.int .i64 0), (.int .i64 0)]) 16 rfl Try.underlying26 info46 rfl (by decide) (by omega) v466 y465 t453 _ _ _ (fun k_ => some k_ ≠ (.slice Ao11 t453.length co11 : Value).ownBlock ∧ some k_ ≠ (v472 : Value).ownBlock ∧ k_ ≠ gb460 ∧ k_ ≠ gb464) (fun _ => False) rfl rfl ?aO ?aR (fun _ _ h => h) (fun _ h => h.elim) ?aF ?aB ?aS ?aL ?_
                              (case aR => repeat (first | exact (Kd.Q_reads' HO456.out).2.2 | (with_reducible refine Kd.C_alloc ?_ _) | (with_reducible refine Kd.C_drewN ?_ _) | (with_reducible refine Kd.C_drew ?_)))
                              (case aB => exact (by repeat (first | (with_reducible first | exact HB.out | apply below_alloc | apply pw_below_drewN | apply below_drew1 | refine below_set ?_ GE460.out | refine below_set ?_ GE464.out) | exact HB.out)))
                              (case aF => exact (fun k_ hk => ⟨Kd.fresh' (Kd.Q_lt (by (with_reducible repeat (first | apply Kd.Q_alloc | apply Kd.Q_drewN | apply Kd.Q_drew)); exact HO456.out)) k_ hk, Kd.fresh' (Kd.R_lt (by (with_reducible repeat (first | apply Kd.R_alloc | apply Kd.R_drewN | apply Kd.R_drew)); exact HO473.out)) k_ hk, Kd.freshB (g := gb460) (o := .cells #[.int .i64 t457, .int .i64 t458] 46 (0, 0)) (by (with_reducible repeat (first | refine blk_drewN ?_ _ | refine blk_drew ?_ | refine blk_alloc ?_ _)); exact BK460.out) k_ hk, Kd.freshB (g := gb464) (o := .cells #[.int .i64 t461, .int .i64 t462] 46 (0, 0)) (by (with_reducible repeat (first | refine blk_drewN ?_ _ | refine blk_drew ?_ | refine blk_alloc ?_ _)); exact BK464.out) k_ hk⟩))
                              (case aO => exact (by (with_reducible repeat (first | apply Kd.R_alloc | apply Kd.R_drewN | apply Kd.R_drew)); exact Kd.R_mono HO467.out (fun _ hk => ⟨hk.1.1.1.2, ⟨hk.1.1.2, ⟨hk.1.2, hk.2⟩⟩⟩)))
                              (case aS => exact (below_size (by repeat (first | (with_reducible first | exact HB.out | apply below_alloc | apply pw_below_drewN | apply below_drew1 | refine below_set ?_ GE460.out | refine below_set ?_ GE464.out) | exact HB.out))))
                              (case aL => have := LMc21.out; omega)
                              intro v469 w37 ho hb hg hat
                              rw [← Ny468.out] at ho
                              have n0_ := Aside0.mk (Kd.Q_after (ok := (fun k_ => some k_ ≠ (v472 : Value).ownBlock ∧ k_ ≠ gb460 ∧ k_ ≠ gb464)) (by (with_reducible repeat (first | apply Kd.Q_alloc | apply Kd.Q_drewN | apply Kd.Q_drew)); exact Kd.Q_mono HO456.out (fun _ hk => ⟨⟨hk.1.2, ⟨hk.1.1.1, hk.1.1.2⟩⟩, hk.2⟩)) hg hat)
                              have n1_ := Aside0.mk (blk_grown (g := gb460) (o := .cells #[.int .i64 t457, .int .i64 t458] 46 (0, 0)) (by (with_reducible repeat (first | refine blk_drewN ?_ _ | refine blk_drew ?_ | refine blk_alloc ?_ _)); exact BK460.out) hg (Kd.R_away HO467.out (fun _ hk => hk.1.2)))
                              have n2_ := Aside0.mk (blk_grown (g := gb464) (o := .cells #[.int .i64 t461, .int .i64 t462] 46 (0, 0)) (by (with_reducible repeat (first | refine blk_drewN ?_ _ | refine blk_drew ?_ | refine blk_alloc ?_ _)); exact BK464.out) hg (Kd.R_away HO467.out (fun _ hk => hk.2)))
                              have n3_ := Aside0.mk (Kd.R_after (ok := (fun k_ => some k_ ≠ (.slice Ao11 t453.length co11 : Value).ownBlock ∧ k_ ≠ gb460 ∧ k_ ≠ gb464)) (by (with_reducible repeat (first | apply Kd.R_alloc | apply Kd.R_drewN | apply Kd.R_drew)); exact Kd.R_mono HO473.out (fun _ hk => ⟨⟨hk.1.1.1.2, ⟨hk.1.1.2, hk.1.2⟩⟩, hk.2⟩)) hg hat)
                              have n4_ := Aside0.mk (hb)
                              have n5_ := Aside0.mk (ho)
                              clear HO456
                              clear BK460
                              clear BK464
                              clear HO473
                              clear HB
                              clear HO467
                              have HO456 := n0_
                              have BK460 := n1_
                              have BK464 := n2_
                              have HO473 := n3_
                              have HB := n4_
                              have HO470 := n5_
                              clear n0_ n1_ n2_ n3_ n4_ n5_
                              clear ho hb hg hat
                              refine hK.out _ _ ⟨(blk_cell BK460.out 0).trans rfl, (blk_cell BK460.out 1).trans rfl⟩ (fun hHeld => ?_)
                              clear hK K
                              refine norm_ (a' := ?_) ?_ ?_
                              rotate_left
                              · show Act.put _ (some 74) _ = _
                                simp only [Act.put, List.setIfInBounds_toArray, List.set_cons_zero, List.set_cons_succ, i64_w, i32_w]
                                rfl
                              exact norm_ (by simp only [putAll, Act.put, List.setIfInBounds_toArray, List.set_cons_zero, List.set_cons_succ]) (hCont (v466, v469, v472) _ ⟨hHeld, (by (with_reducible repeat (first | apply Kd.Q_alloc | apply Kd.Q_drewN | apply Kd.Q_drew)); exact Kd.Q_mono HO456.out (fun _ hk => ⟨hk.2, ⟨hk.1.1, ⟨hk.1.2.1, hk.1.2.2⟩⟩⟩)), (by (with_reducible repeat (first | apply Kd.R_alloc | apply Kd.R_drewN | apply Kd.R_drew)); exact HO470.out), (by (with_reducible repeat (first | apply Kd.R_alloc | apply Kd.R_drewN | apply Kd.R_drew)); exact Kd.R_mono HO473.out (fun _ hk => ⟨hk.1.1, ⟨hk.2, ⟨hk.1.2.1, hk.1.2.2⟩⟩⟩)), (by (with_reducible repeat (first | refine blk_drewN ?_ _ | refine blk_drew ?_ | refine blk_alloc ?_ _)); exact BK460.out), (by (with_reducible repeat (first | refine blk_drewN ?_ _ | refine blk_drew ?_ | refine blk_alloc ?_ _)); exact BK464.out), (by repeat (first | (with_reducible first | exact HB.out | apply below_alloc | apply pw_below_drewN | apply below_drew1 | refine below_set ?_ GE460.out | refine below_set ?_ GE464.out) | exact HB.out))⟩)
                          rintro ⟨v466, v469, v472⟩ w38 ⟨hS_, h0_, h1_, h2_, h3_, h4_, h5_⟩
                          have n0_ : Aside0 (Kd.Q k46 46 w38 w.heap.size (fun k_ => some k_ ≠ (v469 : Value).ownBlock ∧ some k_ ≠ (v472 : Value).ownBlock ∧ k_ ≠ gb460 ∧ k_ ≠ gb464) (.slice Ao11 t453.length co11) t453) := ⟨h0_⟩
                          have n1_ : Aside0 (Kd.R k46 46 w38 w.heap.size (fun k_ => some k_ ≠ (.slice Ao11 t453.length co11 : Value).ownBlock ∧ some k_ ≠ (v472 : Value).ownBlock ∧ k_ ≠ gb460 ∧ k_ ≠ gb464) v469 y468) := ⟨h1_⟩
                          have n2_ : Aside0 (Kd.R k46 46 w38 w.heap.size (fun k_ => some k_ ≠ (.slice Ao11 t453.length co11 : Value).ownBlock ∧ some k_ ≠ (v469 : Value).ownBlock ∧ k_ ≠ gb460 ∧ k_ ≠ gb464) v472 y471) := ⟨h2_⟩
                          have n3_ : Aside0 (w38.heap[gb460]? = some (.cells #[.int .i64 t457, .int .i64 t458] 46 (0, 0))) := ⟨h3_⟩
                          have n4_ : Aside0 (w38.heap[gb464]? = some (.cells #[.int .i64 t461, .int .i64 t462] 46 (0, 0))) := ⟨h4_⟩
                          have n5_ : Aside0 (Below w.heap.size w w38) := ⟨h5_⟩
                          clear HO456
                          clear BK460
                          clear BK464
                          clear HB
                          clear h0_ h1_ h2_ h3_ h4_ h5_
                          have HO456 := n0_
                          have HO470 := n1_
                          have HO473 := n2_
                          have BK460 := n3_
                          have BK464 := n4_
                          have HB := n5_
                          clear n0_ n1_ n2_ n3_ n4_ n5_
                          have hHeld : w38.cell? ⟨gb460, 0, none⟩ = some (.int .i64 t457) ∧ w38.cell? ⟨gb460, 1, none⟩ = some (.int .i64 t458) := hS_
                          obtain ⟨Ao40, co40, eo40⟩ := Kd.R_slice HO473.out
                          (first | subst eo40 | (injection eo40 with f1_ f2_ f3_; have f4_ := f1_.symm; have f5_ := f3_.symm; clear f1_ f2_ f3_; subst f4_; subst f5_))
                          refine norm_ (a' := ?_) ?_ ?_
                          rotate_left
                          · simp only [putAll, Act.put, List.setIfInBounds_toArray, List.set_cons_zero, List.set_cons_succ]
                            rfl
                          refine one_ (i := 5) (N := some 77) #[true, true, true, true, true, true, false, false, false, false, false, false] rfl rfl (one_of HT_.out (by kernel_rfl)) (by decide) (fun K hK => ?_)
                          refine Kd.R_append_rows_step k46 (w0 := w) w.heap.size (by rfl) (.tmp 74) (.tmp 76) 26 46 (.agg #[(.int .i64 0), (.int .i64 0)]) 16 rfl Try.underlying26 info46 rfl (by decide) (by omega) v469 y468 y471 _ _ _ (fun k_ => some k_ ≠ (.slice Ao11 t453.length co11 : Value).ownBlock ∧ some k_ ≠ (.slice Ao40 y471.length co40 : Value).ownBlock ∧ k_ ≠ gb460 ∧ k_ ≠ gb464) (fun _ => False) rfl rfl ?aO ?aR (fun _ _ h => h) (fun _ h => h.elim) ?aF ?aB ?aS ?aL ?_
                          (case aR => repeat (first | exact (Kd.R_reads' HO473.out).2.2 | (with_reducible refine Kd.C_alloc ?_ _) | (with_reducible refine Kd.C_drewN ?_ _) | (with_reducible refine Kd.C_drew ?_)))
                          (case aB => exact (by repeat (first | (with_reducible first | exact HB.out | apply below_alloc | apply pw_below_drewN | apply below_drew1 | refine below_set ?_ GE460.out | refine below_set ?_ GE464.out) | exact HB.out)))
                          (case aF => exact (fun k_ hk => ⟨Kd.fresh' (Kd.Q_lt (by (with_reducible repeat (first | apply Kd.Q_alloc | apply Kd.Q_drewN | apply Kd.Q_drew)); exact HO456.out)) k_ hk, Kd.fresh' (Kd.R_lt (by (with_reducible repeat (first | apply Kd.R_alloc | apply Kd.R_drewN | apply Kd.R_drew)); exact HO473.out)) k_ hk, Kd.freshB (g := gb460) (o := .cells #[.int .i64 t457, .int .i64 t458] 46 (0, 0)) (by (with_reducible repeat (first | refine blk_drewN ?_ _ | refine blk_drew ?_ | refine blk_alloc ?_ _)); exact BK460.out) k_ hk, Kd.freshB (g := gb464) (o := .cells #[.int .i64 t461, .int .i64 t462] 46 (0, 0)) (by (with_reducible repeat (first | refine blk_drewN ?_ _ | refine blk_drew ?_ | refine blk_alloc ?_ _)); exact BK464.out) k_ hk⟩))
                          (case aO => exact (by (with_reducible repeat (first | apply Kd.R_alloc | apply Kd.R_drewN | apply Kd.R_drew)); exact HO470.out))
                          (case aS => exact (below_size (by repeat (first | (with_reducible first | exact HB.out | apply below_alloc | apply pw_below_drewN | apply below_drew1 | refine below_set ?_ GE460.out | refine below_set ?_ GE464.out) | exact HB.out))))
                          (case aL => have := LMc22.out; omega)
                          intro v475 w39 ho hb hg hat
                          rw [← Ny474.out] at ho
                          have n0_ := Aside0.mk (Kd.Q_after (ok := (fun k_ => some k_ ≠ (.slice Ao40 y471.length co40 : Value).ownBlock ∧ k_ ≠ gb460 ∧ k_ ≠ gb464)) (by (with_reducible repeat (first | apply Kd.Q_alloc | apply Kd.Q_drewN | apply Kd.Q_drew)); exact Kd.Q_mono HO456.out (fun _ hk => ⟨⟨hk.2.1, ⟨hk.2.2.1, hk.2.2.2⟩⟩, hk.1⟩)) hg hat)
                          have n1_ := Aside0.mk (blk_grown (g := gb460) (o := .cells #[.int .i64 t457, .int .i64 t458] 46 (0, 0)) (by (with_reducible repeat (first | refine blk_drewN ?_ _ | refine blk_drew ?_ | refine blk_alloc ?_ _)); exact BK460.out) hg (Kd.R_away HO470.out (fun _ hk => hk.2.2.1)))
                          have n2_ := Aside0.mk (blk_grown (g := gb464) (o := .cells #[.int .i64 t461, .int .i64 t462] 46 (0, 0)) (by (with_reducible repeat (first | refine blk_drewN ?_ _ | refine blk_drew ?_ | refine blk_alloc ?_ _)); exact BK464.out) hg (Kd.R_away HO470.out (fun _ hk => hk.2.2.2)))
                          have n3_ := Aside0.mk (Kd.R_after (ok := (fun k_ => some k_ ≠ (.slice Ao11 t453.length co11 : Value).ownBlock ∧ k_ ≠ gb460 ∧ k_ ≠ gb464)) (by (with_reducible repeat (first | apply Kd.R_alloc | apply Kd.R_drewN | apply Kd.R_drew)); exact Kd.R_mono HO473.out (fun _ hk => ⟨⟨hk.1, ⟨hk.2.2.1, hk.2.2.2⟩⟩, hk.2.1⟩)) hg hat)
                          have n4_ := Aside0.mk (hb)
                          have n5_ := Aside0.mk (ho)
                          clear HO456
                          clear BK460
                          clear BK464
                          clear HO473
                          clear HB
                          clear HO470
                          have HO456 := n0_
                          have BK460 := n1_
                          have BK464 := n2_
                          have HO473 := n3_
                          have HB := n4_
                          have HO476 := n5_
                          clear n0_ n1_ n2_ n3_ n4_ n5_
                          clear ho hb hg hat
                          obtain ⟨Ao41, co41, eo41⟩ := Kd.R_slice HO476.out
                          (first | subst eo41 | (injection eo41 with f1_ f2_ f3_; have f4_ := f1_.symm; have f5_ := f3_.symm; clear f1_ f2_ f3_; subst f4_; subst f5_))
                          refine hK.out _ _ ⟨(blk_cell BK460.out 0).trans rfl, (blk_cell BK460.out 1).trans rfl⟩ (fun hHeld => ?_)
                          clear hK K
                          refine norm_ (a' := ?_) ?_ ?_
                          rotate_left
                          · show Act.put _ (some 77) _ = _
                            simp only [Act.put, List.setIfInBounds_toArray, List.set_cons_zero, List.set_cons_succ, i64_w, i32_w]
                            rfl
                          refine one_ (i := 6) (N := some 78) #[true, true, true, true, true, true, true, false, false, false, false, false] rfl rfl (one_of HT_.out (by kernel_rfl)) (by decide) (fun K hK => ?_)
                          refine goes_ Try.func10 (by kernel_rfl) rfl #[.slice Ao41 y474.length co41] (by rfl) rfl rfl (by (try simp only [List.map_toArray, List.map_cons, List.map_nil]); first | done | rfl | (simp only [List.length_drop, List.length_take]; rfl)) ?_
                          with_reducible refine (impl_JoinParts.calls k _ _ y474 t477 true _ ?side1 ?side2 A23.out).mono ?_
                          (case side1 => repeat (first | exact (Kd.R_reads' HO476.out).2.2 | (with_reducible refine Kd.C_alloc ?_ _) | (with_reducible refine Kd.C_drewN ?_ _) | (with_reducible refine Kd.C_drew ?_)))
                          (case side2 => exact (Kd.R_reads' HO476.out).2.1)
                          rintro e w42 ⟨rfl, hb⟩
                          refine ⟨_, rfl, ?_⟩
                          have n0_ := Aside0.mk (Kd.Q_below (by (with_reducible repeat (first | apply Kd.Q_alloc | apply Kd.Q_drewN | apply Kd.Q_drew)); exact HO456.out) hb)
                          have n1_ := Aside0.mk (Kd.R_below (by (with_reducible repeat (first | apply Kd.R_alloc | apply Kd.R_drewN | apply Kd.R_drew)); exact HO473.out) hb)
                          have n2_ := Aside0.mk (Kd.R_below (by (with_reducible repeat (first | apply Kd.R_alloc | apply Kd.R_drewN | apply Kd.R_drew)); exact HO476.out) hb)
                          have n3_ := Aside0.mk (blk_below (g := gb460) (o := .cells #[.int .i64 t457, .int .i64 t458] 46 (0, 0)) (by (with_reducible repeat (first | refine blk_drewN ?_ _ | refine blk_drew ?_ | refine blk_alloc ?_ _)); exact BK460.out) hb)
                          have n4_ := Aside0.mk (blk_below (g := gb464) (o := .cells #[.int .i64 t461, .int .i64 t462] 46 (0, 0)) (by (with_reducible repeat (first | refine blk_drewN ?_ _ | refine blk_drew ?_ | refine blk_alloc ?_ _)); exact BK464.out) hb)
                          have n5_ := Aside0.mk (below_step (by repeat (first | (with_reducible first | exact HB.out | apply below_alloc | apply pw_below_drewN | apply below_drew1 | refine below_set ?_ GE460.out | refine below_set ?_ GE464.out) | exact HB.out)) hb)
                          clear HO456
                          clear HO473
                          clear HO476
                          clear BK460
                          clear BK464
                          clear HB
                          have HO456 := n0_
                          have HO473 := n1_
                          have HO476 := n2_
                          have BK460 := n3_
                          have BK464 := n4_
                          have HB := n5_
                          clear n0_ n1_ n2_ n3_ n4_ n5_
                          (try clear hb)
                          (try clear hb2)
                          (try clear hk)
                          (try clear hi)
                          refine hK.out _ _ ⟨(blk_cell BK460.out 0).trans rfl, (blk_cell BK460.out 1).trans rfl⟩ (fun hHeld => ?_)
                          clear hK K
                          refine norm_ (a' := ?_) ?_ ?_
                          rotate_left
                          · show Act.put _ (some 78) _ = _
                            simp only [Act.put, List.setIfInBounds_toArray, List.set_cons_zero, List.set_cons_succ, i64_w, i32_w]
                            rfl
                          refine pure_ (i := 7) (N := some 71) (v := ?_) (a' := ?_) #[true, true, true, true, true, true, true, true, false, false, false, false] rfl rfl (any_of HT_.out (by kernel_rfl)) (fun _ _ _ h => h) (Or.inl ⟨by rfl, ?_⟩) ?_ ?_
                          rotate_left
                          · intro w'
                            go_simp
                            with_reducible rfl
                          rotate_left
                          · simp only [Act.put, List.setIfInBounds_toArray, List.set_cons_zero, List.set_cons_succ, i64_w, i32_w]
                            rfl
                          refine pure_ (i := 8) (N := some 79) (v := ?_) (a' := ?_) #[true, true, true, true, true, true, true, true, true, false, false, false] rfl rfl (any_of HT_.out (by kernel_rfl)) (fun _ _ _ h => h) (Or.inl ⟨by rfl, ?_⟩) ?_ ?_
                          rotate_left
                          · intro w'
                            go_simp
                            with_reducible rfl
                          rotate_left
                          · simp only [Act.put, List.setIfInBounds_toArray, List.set_cons_zero, List.set_cons_succ, i64_w, i32_w]
                            rfl
                          refine pure_ (i := 9) (N := some 80) (v := ?_) (a' := ?_) #[true, true, true, true, true, true, true, true, true, true, false, false] rfl rfl (any_of HT_.out (by kernel_rfl)) (fun _ _ _ h => h) (Or.inl ⟨by rfl, ?_⟩) ?_ ?_
                          rotate_left
                          · intro w'
                            go_simp
                            with_reducible rfl
                          rotate_left
                          · simp only [Act.put, List.setIfInBounds_toArray, List.set_cons_zero, List.set_cons_succ, i64_w, i32_w]
                            rfl
                          refine pure_ (i := 10) (N := some 11) (v := ?_) (a' := ?_) #[true, true, true, true, true, true, true, true, true, true, true, false] rfl rfl (any_of HT_.out (by kernel_rfl)) (fun _ _ _ h => h) (Or.inl ⟨by rfl, ?_⟩) ?_ ?_
                          rotate_left
                          · intro w'
                            go_simp
                            with_reducible rfl
                          rotate_left
                          · simp only [Act.put, List.setIfInBounds_toArray, List.set_cons_zero, List.set_cons_succ, i64_w, i32_w]
                            rfl
                          refine pure_ (i := 11) (N := some 12) (v := ?_) (a' := ?_) #[true, true, true, true, true, true, true, true, true, true, true, true] rfl rfl (any_of HT_.out (by kernel_rfl)) (fun _ _ _ h => h) (Or.inl ⟨by rfl, ?_⟩) ?_ ?_
                          rotate_left
                          · intro w'
                            go_simp
                            with_reducible rfl
                          rotate_left
                          · simp only [Act.put, List.setIfInBounds_toArray, List.set_cons_zero, List.set_cons_succ, i64_w, i32_w]
                            rfl
                          refine done_ (done_of HT_.out (by kernel_rfl)) ?_
                          try go_wp2_with (first | ((with_reducible refine gate_callee (f := 9) rfl ?_); refine goesL_ (some 91) rfl rfl Try.func9 (by kernel_rfl) rfl #[.slice A1 l1.length c1] rfl (by (try simp only [List.map_toArray, List.map_cons, List.map_nil]); first | done | rfl | (simp only [List.length_drop, List.length_take]; rfl)) ?_; (with_reducible refine (laws_numberOf.calls k _ _ l1 t479 _ ?side1 ?side2 A26.out).mono ?_); (case side1 => repeat (first | exact (Kd.C_below HR1.out HB.out) | (with_reducible refine Kd.C_alloc ?_ _) | (with_reducible refine Kd.C_drewN ?_ _) | (with_reducible refine Kd.C_drew ?_))); (case side2 => exact HC1.out); rintro e w' ⟨rfl, ⟨nd, rfl⟩⟩; refine ⟨_, rfl, ?_⟩; (try (rw [drewN_self w42]; generalize hq_ : World.drewN w42 _ = w42; have n0_ : Aside0 (Kd.Q k46 46 w42 w.heap.size (fun k_ => some k_ ≠ (.slice Ao40 y471.length co40 : Value).ownBlock ∧ some k_ ≠ (.slice Ao41 y474.length co41 : Value).ownBlock ∧ k_ ≠ gb460 ∧ k_ ≠ gb464) (.slice Ao11 t453.length co11) t453) := ⟨by rw [← hq_]; exact (by (with_reducible repeat (first | apply Kd.Q_alloc | apply Kd.Q_drewN | apply Kd.Q_drew)); exact Kd.Q_mono HO456.out (fun _ hk => ⟨hk.1.1, ⟨hk.2, ⟨hk.1.2.1, hk.1.2.2⟩⟩⟩))⟩; have n1_ : Aside0 (Kd.R k46 46 w42 w.heap.size (fun k_ => some k_ ≠ (.slice Ao11 t453.length co11 : Value).ownBlock ∧ some k_ ≠ (.slice Ao41 y474.length co41 : Value).ownBlock ∧ k_ ≠ gb460 ∧ k_ ≠ gb464) (.slice Ao40 y471.length co40) y471) := ⟨by rw [← hq_]; exact (by (with_reducible repeat (first | apply Kd.R_alloc | apply Kd.R_drewN | apply Kd.R_drew)); exact Kd.R_mono HO473.out (fun _ hk => ⟨hk.1.1, ⟨hk.2, ⟨hk.1.2.1, hk.1.2.2⟩⟩⟩))⟩; have n2_ : Aside0 (Kd.R k46 46 w42 w.heap.size (fun k_ => some k_ ≠ (.slice Ao11 t453.length co11 : Value).ownBlock ∧ some k_ ≠ (.slice Ao40 y471.length co40 : Value).ownBlock ∧ k_ ≠ gb460 ∧ k_ ≠ gb464) (.slice Ao41 y474.length co41) y474) := ⟨by rw [← hq_]; exact (by (with_reducible repeat (first | apply Kd.R_alloc | apply Kd.R_drewN | apply Kd.R_drew)); exact HO476.out)⟩; have n3_ : Aside0 (w42.heap[gb460]? = some (.cells #[.int .i64 t457, .int .i64 t458] 46 (0, 0))) := ⟨by rw [← hq_]; exact (by (with_reducible repeat (first | refine blk_drewN ?_ _ | refine blk_drew ?_ | refine blk_alloc ?_ _)); exact BK460.out)⟩; have n4_ : Aside0 (w42.heap[gb464]? = some (.cells #[.int .i64 t461, .int .i64 t462] 46 (0, 0))) := ⟨by rw [← hq_]; exact (by (with_reducible repeat (first | refine blk_drewN ?_ _ | refine blk_drew ?_ | refine blk_alloc ?_ _)); exact BK464.out)⟩; have n5_ : Aside0 (Below w.heap.size w w42) := ⟨by rw [← hq_]; exact (by repeat (first | (with_reducible first | exact HB.out | apply below_alloc | apply pw_below_drewN | apply below_drew1 | refine below_set ?_ GE460.out | refine below_set ?_ GE464.out) | exact HB.out))⟩; clear HO456 HO473 HO476 BK460 BK464 HB hq_; have HO456 := n0_; have HO473 := n1_; have HO476 := n2_; have BK460 := n3_; have BK464 := n4_; have HB := n5_; clear n0_ n1_ n2_ n3_ n4_ n5_))) | ((with_reducible refine gate_callee (f := 23) rfl ?_); refine goesL_ (some 98) rfl rfl Try.func23 (by kernel_rfl) rfl #[.slice Ao11 t453.length co11, .int .i64 (Int.tmod (wrap64 ((wrap64 (t454 + 1)) + (Int.tmod t479 1498))) 1499)] rfl (by (try simp only [List.map_toArray, List.map_cons, List.map_nil]); first | done | rfl | (simp only [List.length_drop, List.length_take]; rfl)) ?_; (with_reducible refine (impl_SecretFits.calls k _ _ t453 (Int.tmod (wrap64 ((wrap64 (t454 + 1)) + (Int.tmod t479 1498))) 1499) t480 t481 true _ ?side1 ?side2 A27.out).mono ?_); (case side1 => repeat (first | exact (Kd.Q_reads' HO456.out).2.2 | (with_reducible refine Kd.C_alloc ?_ _) | (with_reducible refine Kd.C_drewN ?_ _) | (with_reducible refine Kd.C_drew ?_))); (case side2 => exact (Kd.Q_reads' HO456.out).2.1); rintro e w43 ⟨rfl, hb⟩; refine ⟨_, rfl, ?_⟩; have n0_ := Aside0.mk (Kd.Q_below (by (with_reducible repeat (first | apply Kd.Q_alloc | apply Kd.Q_drewN | apply Kd.Q_drew)); exact HO456.out) hb); have n1_ := Aside0.mk (Kd.R_below (by (with_reducible repeat (first | apply Kd.R_alloc | apply Kd.R_drewN | apply Kd.R_drew)); exact HO473.out) hb); have n2_ := Aside0.mk (Kd.R_below (by (with_reducible repeat (first | apply Kd.R_alloc | apply Kd.R_drewN | apply Kd.R_drew)); exact HO476.out) hb); have n3_ := Aside0.mk (blk_below (g := gb460) (o := .cells #[.int .i64 t457, .int .i64 t458] 46 (0, 0)) (by (with_reducible repeat (first | refine blk_drewN ?_ _ | refine blk_drew ?_ | refine blk_alloc ?_ _)); exact BK460.out) hb); have n4_ := Aside0.mk (blk_below (g := gb464) (o := .cells #[.int .i64 t461, .int .i64 t462] 46 (0, 0)) (by (with_reducible repeat (first | refine blk_drewN ?_ _ | refine blk_drew ?_ | refine blk_alloc ?_ _)); exact BK464.out) hb); have n5_ := Aside0.mk (below_step (by repeat (first | (with_reducible first | exact HB.out | apply below_alloc | apply pw_below_drewN | apply below_drew1 | refine below_set ?_ GE460.out | refine below_set ?_ GE464.out) | exact HB.out)) hb); clear HO456; clear HO473; clear HO476; clear BK460; clear BK464; clear HB; have HO456 := n0_; have HO473 := n1_; have HO476 := n2_; have BK460 := n3_; have BK464 := n4_; have HB := n5_; clear n0_ n1_ n2_ n3_ n4_ n5_; (try clear hb); (try clear hb2); (try clear hk); (try clear hi)) | ((with_reducible refine gate_dst (N := 14) rfl ?_); refine box_event ?hg (N := 14) ?hd (cs := #[.int .i64 0, .int .i64 0]) (t := 46) ?hr ?_; (case hd => rfl); (case hg => rfl); (case hr => first | (go_simp; done) | (go_simp; rfl)); intro gb483 hg w44 hbox hb; have n0_ := Aside0.mk (Kd.Q_below (Kd.Q_elderB (by (with_reducible repeat (first | apply Kd.Q_alloc | apply Kd.Q_drewN | apply Kd.Q_drew)); exact HO456.out) gb483 (Nat.le_of_eq hg.symm)) hb); have n1_ := Aside0.mk (Kd.R_below (Kd.R_elderB (by (with_reducible repeat (first | apply Kd.R_alloc | apply Kd.R_drewN | apply Kd.R_drew)); exact HO473.out) gb483 (Nat.le_of_eq hg.symm)) hb); have n2_ := Aside0.mk (Kd.R_below (Kd.R_elderB (by (with_reducible repeat (first | apply Kd.R_alloc | apply Kd.R_drewN | apply Kd.R_drew)); exact HO476.out) gb483 (Nat.le_of_eq hg.symm)) hb); have n3_ := Aside0.mk (blk_below (g := gb460) (o := .cells #[.int .i64 t457, .int .i64 t458] 46 (0, 0)) (by (with_reducible repeat (first | refine blk_drewN ?_ _ | refine blk_drew ?_ | refine blk_alloc ?_ _)); exact BK460.out) hb); have n4_ := Aside0.mk (blk_below (g := gb464) (o := .cells #[.int .i64 t461, .int .i64 t462] 46 (0, 0)) (by (with_reducible repeat (first | refine blk_drewN ?_ _ | refine blk_drew ?_ | refine blk_alloc ?_ _)); exact BK464.out) hb); have n5_ := Aside0.mk (below_step (by repeat (first | (with_reducible first | exact HB.out | apply below_alloc | apply pw_below_drewN | apply below_drew1 | refine below_set ?_ GE460.out | refine below_set ?_ GE464.out) | exact HB.out)) hb); have n6_ := Aside0.mk (hbox); have n7_ := Aside0.mk ((by rw [hg]; exact (below_size (by repeat (first | (with_reducible first | exact HB.out | apply below_alloc | apply pw_below_drewN | apply below_drew1 | refine below_set ?_ GE460.out | refine below_set ?_ GE464.out) | exact HB.out))) : w.heap.size ≤ gb483)); have n8_ := Aside0.mk ((by rw [hg]; exact (below_size (by repeat (first | (with_reducible first | exact HB.out | apply below_alloc | apply pw_below_drewN | apply below_drew1 | refine below_set ?_ GE460.out | refine below_set ?_ GE464.out) | exact HB.out))) : w.heap.size ≤ gb483)); have n9_ := Aside0.mk ((by rw [hg]; exact Nat.ne_of_lt (blk_lt (g := gb460) (o := .cells #[.int .i64 t457, .int .i64 t458] 46 (0, 0)) (by (with_reducible repeat (first | refine blk_drewN ?_ _ | refine blk_drew ?_ | refine blk_alloc ?_ _)); exact BK460.out)) : gb460 ≠ gb483)); have n10_ := Aside0.mk ((by rw [hg]; exact Nat.ne_of_gt (blk_lt (g := gb460) (o := .cells #[.int .i64 t457, .int .i64 t458] 46 (0, 0)) (by (with_reducible repeat (first | refine blk_drewN ?_ _ | refine blk_drew ?_ | refine blk_alloc ?_ _)); exact BK460.out)) : gb483 ≠ gb460)); have n11_ := Aside0.mk ((by rw [hg]; exact Nat.ne_of_lt (blk_lt (g := gb464) (o := .cells #[.int .i64 t461, .int .i64 t462] 46 (0, 0)) (by (with_reducible repeat (first | refine blk_drewN ?_ _ | refine blk_drew ?_ | refine blk_alloc ?_ _)); exact BK464.out)) : gb464 ≠ gb483)); have n12_ := Aside0.mk ((by rw [hg]; exact Nat.ne_of_gt (blk_lt (g := gb464) (o := .cells #[.int .i64 t461, .int .i64 t462] 46 (0, 0)) (by (with_reducible repeat (first | refine blk_drewN ?_ _ | refine blk_drew ?_ | refine blk_alloc ?_ _)); exact BK464.out)) : gb483 ≠ gb464)); clear HO456; clear HO473; clear HO476; clear BK460; clear BK464; clear HB; have HO456 := n0_; have HO473 := n1_; have HO476 := n2_; have BK460 := n3_; have BK464 := n4_; have HB := n5_; have BK483 := n6_; have GW483 := n7_; have GE483 := n8_; have NB460_483 := n9_; have NB483_460 := n10_; have NB464_483 := n11_; have NB483_464 := n12_; clear n0_ n1_ n2_ n3_ n4_ n5_ n6_ n7_ n8_ n9_ n10_ n11_ n12_; clear hb hbox hg; have hnb45 := NB483_460.out; have hnc45 := NB460_483.out; have hnb46 := NB483_464.out; have hnc46 := NB464_483.out; have hcz47_0 : w44.cell? ⟨gb483, 0, none⟩ = some (.int .i64 0) := (blk_cell BK483.out 0).trans rfl; have hcz47_1 : w44.cell? ⟨gb483, 1, none⟩ = some (.int .i64 0) := (blk_cell BK483.out 1).trans rfl; have hfz47_0 := blk_frozen BK483.out 0; have hfz47_1 := blk_frozen BK483.out 1; have hnb48 := NB460_464.out; have hnc48 := NB464_460.out; have hcz49_0 : w44.cell? ⟨gb460, 0, none⟩ = some (.int .i64 t457) := (blk_cell BK460.out 0).trans rfl; have hcz49_1 : w44.cell? ⟨gb460, 1, none⟩ = some (.int .i64 t458) := (blk_cell BK460.out 1).trans rfl; have hfz49_0 := blk_frozen BK460.out 0; have hfz49_1 := blk_frozen BK460.out 1))
                          go_meet
                          case rel => exact ⟨_, H', ⟨by first | omega | exact Nat.le_refl _⟩, ⟨by (with_reducible repeat (first | refine blk_drewN ?_ _ | refine blk_drew ?_ | refine blk_alloc ?_ _)); refine blk_far ?_ NB460_483.out _; (with_reducible repeat (first | refine blk_drewN ?_ _ | refine blk_drew ?_ | refine blk_alloc ?_ _)); refine blk_far ?_ NB460_483.out _; (with_reducible repeat (first | refine blk_drewN ?_ _ | refine blk_drew ?_ | refine blk_alloc ?_ _)); exact BK460.out⟩, ⟨by (with_reducible repeat (first | refine blk_drewN ?_ _ | refine blk_drew ?_ | refine blk_alloc ?_ _)); refine blk_far ?_ NB464_483.out _; (with_reducible repeat (first | refine blk_drewN ?_ _ | refine blk_drew ?_ | refine blk_alloc ?_ _)); refine blk_far ?_ NB464_483.out _; (with_reducible repeat (first | refine blk_drewN ?_ _ | refine blk_drew ?_ | refine blk_alloc ?_ _)); exact BK464.out⟩, ⟨by repeat (first | (with_reducible first | exact HB.out | apply below_alloc | apply pw_below_drewN | apply below_drew1 | refine below_set ?_ GE460.out | refine below_set ?_ GE464.out | refine below_set ?_ GE483.out) | exact HB.out)⟩⟩
                      · rw [if_neg c29] at H
                        have c29b0 : (t480 == t457) = false := beq_eq_false_iff_ne.mpr c29
                        have c29b1 : (t480 != t457) = true := bne_iff_ne.mpr c29
                        obtain rfl := Option.some.inj H
                        exact absurd hr_.out (by simp)
                    · replace c28 := Bool.eq_false_iff.mpr c28
                      subst c28
                      have H1 : (some false) = some r := by rw [if_neg (show ¬ (false = true) by decide)] at H; exact H
                      clear H
                      have H := H1
                      clear H1
                      obtain rfl := Option.some.inj H
                      exact absurd hr_.out (by simp)
                  · rw [if_neg c25] at H
                    have c25b0 : (t477 == t454) = false := beq_eq_false_iff_ne.mpr c25
                    have c25b1 : (t477 != t454) = true := bne_iff_ne.mpr c25
                    (first | rw [c25b0] | (simp only [i64_w, i32_w]; rw [c25b0]) | skip)
                    obtain rfl := Option.some.inj H
                    exact absurd hr_.out (by simp)
                · replace c24 := Bool.eq_false_iff.mpr c24
                  subst c24
                  have H1 : (some false) = some r := by rw [if_neg (show ¬ (false = true) by decide)] at H; exact H
                  clear H
                  have H := H1
                  clear H1
                  obtain rfl := Option.some.inj H
                  exact absurd hr_.out (by simp)
              · rw [if_neg c22] at H
                exact absurd H (by simp)
            · rw [if_neg c21] at H
              exact absurd H (by simp)
          · replace c20 := Bool.eq_false_iff.mpr c20
            subst c20
            have H1 : (laws_FnHidden.j0 k l1) = some r := by rw [if_neg (show ¬ (false = true) by decide)] at H; exact H
            clear H
            have H := H1
            clear H1
            have H' := Aside0.mk H
            clear H
            go_wp2
            go_meet
            case rel => exact ⟨_, H', ⟨by first | omega | exact Nat.le_refl _⟩, ⟨by (with_reducible repeat (first | refine blk_drewN ?_ _ | refine blk_drew ?_ | refine blk_alloc ?_ _)); refine blk_far ?_ NB460_464.out _; (with_reducible repeat (first | refine blk_drewN ?_ _ | refine blk_drew ?_ | refine blk_alloc ?_ _)); refine blk_far ?_ NB460_464.out _; (with_reducible repeat (first | refine blk_drewN ?_ _ | refine blk_drew ?_ | refine blk_alloc ?_ _)); exact BK460.out⟩, ⟨by (with_reducible repeat (first | refine blk_drewN ?_ _ | refine blk_drew ?_ | refine blk_alloc ?_ _)); refine blk_put (cs := #[.int .i64 t461, .int .i64 0]) ?_ 1 _ rfl; (with_reducible repeat (first | refine blk_drewN ?_ _ | refine blk_drew ?_ | refine blk_alloc ?_ _)); refine blk_put (cs := #[.int .i64 0, .int .i64 0]) ?_ 0 _ rfl; (with_reducible repeat (first | refine blk_drewN ?_ _ | refine blk_drew ?_ | refine blk_alloc ?_ _)); exact BK464.out⟩, ⟨by repeat (first | (with_reducible first | exact HB.out | apply below_alloc | apply pw_below_drewN | apply below_drew1 | refine below_set ?_ GE460.out | refine below_set ?_ GE464.out) | exact HB.out)⟩⟩
        case rest =>
          clear HC9
          try clear c1
          try clear c2
          try clear p2
          try clear c3
          try clear c4
          try clear p6
          try clear c8
          try clear c8b0
          try clear c9
          try clear c10
          try clear c17
          try clear c20
          try clear c21
          try clear c22
          try clear c23
          try clear c24
          try clear c25
          try clear c25b0
          try clear c25b1
          try clear c28
          try clear c29
          try clear c29b0
          try clear c29b1
          try clear c30
          try clear c30b0
          try clear c30b1
          try clear c45
          try clear c46
          try clear c48
          try clear hcz14_0
          try clear hcz14_1
          try clear hcz18_0
          try clear hcz18_1
          try clear hcz19_0
          try clear hcz19_1
          try clear hcz47_0
          try clear hcz47_1
          try clear hcz49_0
          try clear hcz49_1
          try clear hfz14_0
          try clear hfz14_1
          try clear hfz18_0
          try clear hfz18_1
          try clear hfz19_0
          try clear hfz19_1
          try clear hfz47_0
          try clear hfz47_1
          try clear hfz49_0
          try clear hfz49_1
          obtain ⟨kq, HA, HJ8, BK460, BK464, HB⟩ := hcut
          cases kq with
          | zero => exact absurd HA.out (by simp [laws_FnHidden.j0])
          | succ kj8 =>
            have H := HA.out
            clear HA
            simp only [laws_FnHidden.j0] at H
            replace H := Option.bind_eq_some_iff.mp H
            obtain ⟨⟨t484, t485⟩, A500, H⟩ := H
            replace H : ((impl_ThroughParts.f kj8 t484 t485).bind fun bt488 => ((spec_ThroughParts.f kj8 t484 t485).bind fun bt490 => ((spec_DrawPolyThrough.f kj8 l1).bind fun t492 => ((impl_PolyThrough.f kj8 t492).bind fun bt495 => ((spec_PolyThrough.f kj8 t492).bind fun bt499 => ((spec_DrawWeightsOf.f kj8 l1).bind fun t503 => ((impl_WeightsOf.f kj8 t503).bind fun bt506 => ((spec_WeightsOf.f kj8 t503).bind fun bt510 => (if (bt488.2 != bt490.2) = true then (some false) else (if bt488.1 = bt490.1 then (if (bt495.2 != bt499.2) = true then (some false) else ((laws_sameInts.f kj8 bt495.1 bt499.1).bind fun t514 => (if t514 = true then (if (bt506.2 != bt510.2) = true then (some false) else ((laws_sameInts.f kj8 bt506.1 bt510.1).bind fun t515 => (if t515 = true then (if bt506.2 = true then (laws_FnHidden.l0 kj8 t492 bt495.1 bt495.2 bt506.1 0 (bt506.1.length : Int) 0) else (laws_FnHidden.j2 kj8 t492 bt495.1 bt495.2)) else (some false)))) else (some false)))) else (some false))))))))))) = some r := H
            have A50 := Aside0.mk A500
            clear A500
            replace H := Option.bind_eq_some_iff.mp H
            obtain ⟨⟨t488, t489⟩, A510, H⟩ := H
            replace H : ((spec_ThroughParts.f kj8 t484 t485).bind fun bt490 => ((spec_DrawPolyThrough.f kj8 l1).bind fun t492 => ((impl_PolyThrough.f kj8 t492).bind fun bt495 => ((spec_PolyThrough.f kj8 t492).bind fun bt499 => ((spec_DrawWeightsOf.f kj8 l1).bind fun t503 => ((impl_WeightsOf.f kj8 t503).bind fun bt506 => ((spec_WeightsOf.f kj8 t503).bind fun bt510 => (if (t489 != bt490.2) = true then (some false) else (if t488 = bt490.1 then (if (bt495.2 != bt499.2) = true then (some false) else ((laws_sameInts.f kj8 bt495.1 bt499.1).bind fun t514 => (if t514 = true then (if (bt506.2 != bt510.2) = true then (some false) else ((laws_sameInts.f kj8 bt506.1 bt510.1).bind fun t515 => (if t515 = true then (if bt506.2 = true then (laws_FnHidden.l0 kj8 t492 bt495.1 bt495.2 bt506.1 0 (bt506.1.length : Int) 0) else (laws_FnHidden.j2 kj8 t492 bt495.1 bt495.2)) else (some false)))) else (some false)))) else (some false)))))))))) = some r := H
            have A51 := Aside0.mk A510
            clear A510
            replace H := Option.bind_eq_some_iff.mp H
            obtain ⟨⟨t490, t491⟩, A520, H⟩ := H
            replace H : ((spec_DrawPolyThrough.f kj8 l1).bind fun t492 => ((impl_PolyThrough.f kj8 t492).bind fun bt495 => ((spec_PolyThrough.f kj8 t492).bind fun bt499 => ((spec_DrawWeightsOf.f kj8 l1).bind fun t503 => ((impl_WeightsOf.f kj8 t503).bind fun bt506 => ((spec_WeightsOf.f kj8 t503).bind fun bt510 => (if (t489 != t491) = true then (some false) else (if t488 = t490 then (if (bt495.2 != bt499.2) = true then (some false) else ((laws_sameInts.f kj8 bt495.1 bt499.1).bind fun t514 => (if t514 = true then (if (bt506.2 != bt510.2) = true then (some false) else ((laws_sameInts.f kj8 bt506.1 bt510.1).bind fun t515 => (if t515 = true then (if bt506.2 = true then (laws_FnHidden.l0 kj8 t492 bt495.1 bt495.2 bt506.1 0 (bt506.1.length : Int) 0) else (laws_FnHidden.j2 kj8 t492 bt495.1 bt495.2)) else (some false)))) else (some false)))) else (some false))))))))) = some r := H
            have A52 := Aside0.mk A520
            clear A520
            replace H := Option.bind_eq_some_iff.mp H
            obtain ⟨t492, A530, H⟩ := H
            replace H : ((impl_PolyThrough.f kj8 t492).bind fun bt495 => ((spec_PolyThrough.f kj8 t492).bind fun bt499 => ((spec_DrawWeightsOf.f kj8 l1).bind fun t503 => ((impl_WeightsOf.f kj8 t503).bind fun bt506 => ((spec_WeightsOf.f kj8 t503).bind fun bt510 => (if (t489 != t491) = true then (some false) else (if t488 = t490 then (if (bt495.2 != bt499.2) = true then (some false) else ((laws_sameInts.f kj8 bt495.1 bt499.1).bind fun t514 => (if t514 = true then (if (bt506.2 != bt510.2) = true then (some false) else ((laws_sameInts.f kj8 bt506.1 bt510.1).bind fun t515 => (if t515 = true then (if bt506.2 = true then (laws_FnHidden.l0 kj8 t492 bt495.1 bt495.2 bt506.1 0 (bt506.1.length : Int) 0) else (laws_FnHidden.j2 kj8 t492 bt495.1 bt495.2)) else (some false)))) else (some false)))) else (some false)))))))) = some r := H
            have A53 := Aside0.mk A530
            clear A530
            replace H := Option.bind_eq_some_iff.mp H
            obtain ⟨⟨t495, t496⟩, A540, H⟩ := H
            replace H : ((spec_PolyThrough.f kj8 t492).bind fun bt499 => ((spec_DrawWeightsOf.f kj8 l1).bind fun t503 => ((impl_WeightsOf.f kj8 t503).bind fun bt506 => ((spec_WeightsOf.f kj8 t503).bind fun bt510 => (if (t489 != t491) = true then (some false) else (if t488 = t490 then (if (t496 != bt499.2) = true then (some false) else ((laws_sameInts.f kj8 t495 bt499.1).bind fun t514 => (if t514 = true then (if (bt506.2 != bt510.2) = true then (some false) else ((laws_sameInts.f kj8 bt506.1 bt510.1).bind fun t515 => (if t515 = true then (if bt506.2 = true then (laws_FnHidden.l0 kj8 t492 t495 t496 bt506.1 0 (bt506.1.length : Int) 0) else (laws_FnHidden.j2 kj8 t492 t495 t496)) else (some false)))) else (some false)))) else (some false))))))) = some r := H
            have A54 := Aside0.mk A540
            clear A540
            replace H := Option.bind_eq_some_iff.mp H
            obtain ⟨⟨t499, t500⟩, A550, H⟩ := H
            replace H : ((spec_DrawWeightsOf.f kj8 l1).bind fun t503 => ((impl_WeightsOf.f kj8 t503).bind fun bt506 => ((spec_WeightsOf.f kj8 t503).bind fun bt510 => (if (t489 != t491) = true then (some false) else (if t488 = t490 then (if (t496 != t500) = true then (some false) else ((laws_sameInts.f kj8 t495 t499).bind fun t514 => (if t514 = true then (if (bt506.2 != bt510.2) = true then (some false) else ((laws_sameInts.f kj8 bt506.1 bt510.1).bind fun t515 => (if t515 = true then (if bt506.2 = true then (laws_FnHidden.l0 kj8 t492 t495 t496 bt506.1 0 (bt506.1.length : Int) 0) else (laws_FnHidden.j2 kj8 t492 t495 t496)) else (some false)))) else (some false)))) else (some false)))))) = some r := H
            have A55 := Aside0.mk A550
            clear A550
            replace H := Option.bind_eq_some_iff.mp H
            obtain ⟨t503, A560, H⟩ := H
            replace H : ((impl_WeightsOf.f kj8 t503).bind fun bt506 => ((spec_WeightsOf.f kj8 t503).bind fun bt510 => (if (t489 != t491) = true then (some false) else (if t488 = t490 then (if (t496 != t500) = true then (some false) else ((laws_sameInts.f kj8 t495 t499).bind fun t514 => (if t514 = true then (if (bt506.2 != bt510.2) = true then (some false) else ((laws_sameInts.f kj8 bt506.1 bt510.1).bind fun t515 => (if t515 = true then (if bt506.2 = true then (laws_FnHidden.l0 kj8 t492 t495 t496 bt506.1 0 (bt506.1.length : Int) 0) else (laws_FnHidden.j2 kj8 t492 t495 t496)) else (some false)))) else (some false)))) else (some false))))) = some r := H
            have A56 := Aside0.mk A560
            clear A560
            replace H := Option.bind_eq_some_iff.mp H
            obtain ⟨⟨t506, t507⟩, A570, H⟩ := H
            replace H : ((spec_WeightsOf.f kj8 t503).bind fun bt510 => (if (t489 != t491) = true then (some false) else (if t488 = t490 then (if (t496 != t500) = true then (some false) else ((laws_sameInts.f kj8 t495 t499).bind fun t514 => (if t514 = true then (if (t507 != bt510.2) = true then (some false) else ((laws_sameInts.f kj8 t506 bt510.1).bind fun t515 => (if t515 = true then (if t507 = true then (laws_FnHidden.l0 kj8 t492 t495 t496 t506 0 (t506.length : Int) 0) else (laws_FnHidden.j2 kj8 t492 t495 t496)) else (some false)))) else (some false)))) else (some false)))) = some r := H
            have A57 := Aside0.mk A570
            clear A570
            replace H := Option.bind_eq_some_iff.mp H
            obtain ⟨⟨t510, t511⟩, A580, H⟩ := H
            replace H : (if (t489 != t491) = true then (some false) else (if t488 = t490 then (if (t496 != t500) = true then (some false) else ((laws_sameInts.f kj8 t495 t499).bind fun t514 => (if t514 = true then (if (t507 != t511) = true then (some false) else ((laws_sameInts.f kj8 t506 t510).bind fun t515 => (if t515 = true then (if t507 = true then (laws_FnHidden.l0 kj8 t492 t495 t496 t506 0 (t506.length : Int) 0) else (laws_FnHidden.j2 kj8 t492 t495 t496)) else (some false)))) else (some false)))) else (some false))) = some r := H
            have A58 := Aside0.mk A580
            clear A580
            by_cases c59 : (t489 != t491) = true
            · rw [if_pos c59] at H
              have c59b0 : (t489 != t491) = true := c59
              (try (have c59b1 : decide (t489 = t491) = false := by simpa using c59))
              (try (have c59b2 : (t489 == t491) = false := by simpa using c59))
              (try (have c59b3 : ¬ (t489 = t491) := by simpa using c59))
              clear c59
              obtain rfl := Option.some.inj H
              exact absurd hr_.out (by simp)
            · rw [if_neg c59] at H
              have c59b0 : (t489 != t491) = false := by simpa using c59
              (try (have c59b1 : decide (t489 = t491) = true := by simpa using c59))
              (try (have c59b2 : (t489 == t491) = true := by simpa using c59))
              clear c59
              by_cases c60 : t488 = t490
              · rw [if_pos c60] at H
                have c60b0 : (t488 == t490) = true := beq_iff_eq.mpr c60
                have c60b1 : (t488 != t490) = false := bne_eq_false_iff_eq.mpr c60
                clear c60
                by_cases c61 : (t496 != t500) = true
                · rw [if_pos c61] at H
                  have c61b0 : (t496 != t500) = true := c61
                  (try (have c61b1 : decide (t496 = t500) = false := by simpa using c61))
                  (try (have c61b2 : (t496 == t500) = false := by simpa using c61))
                  (try (have c61b3 : ¬ (t496 = t500) := by simpa using c61))
                  clear c61
                  obtain rfl := Option.some.inj H
                  exact absurd hr_.out (by simp)
                · rw [if_neg c61] at H
                  have c61b0 : (t496 != t500) = false := by simpa using c61
                  (try (have c61b1 : decide (t496 = t500) = true := by simpa using c61))
                  (try (have c61b2 : (t496 == t500) = true := by simpa using c61))
                  clear c61
                  replace H := Option.bind_eq_some_iff.mp H
                  obtain ⟨t514, A620, H⟩ := H
                  replace H : (if t514 = true then (if (t507 != t511) = true then (some false) else ((laws_sameInts.f kj8 t506 t510).bind fun t515 => (if t515 = true then (if t507 = true then (laws_FnHidden.l0 kj8 t492 t495 t496 t506 0 (t506.length : Int) 0) else (laws_FnHidden.j2 kj8 t492 t495 t496)) else (some false)))) else (some false)) = some r := H
                  have A62 := Aside0.mk A620
                  clear A620
                  by_cases c63 : t514 = true
                  · subst c63
                    have H1 : (if (t507 != t511) = true then (some false) else ((laws_sameInts.f kj8 t506 t510).bind fun t515 => (if t515 = true then (if t507 = true then (laws_FnHidden.l0 kj8 t492 t495 t496 t506 0 (t506.length : Int) 0) else (laws_FnHidden.j2 kj8 t492 t495 t496)) else (some false)))) = some r := by rw [if_pos rfl] at H; exact H
                    clear H
                    have H := H1
                    clear H1
                    by_cases c64 : (t507 != t511) = true
                    · rw [if_pos c64] at H
                      have c64b0 : (t507 != t511) = true := c64
                      (try (have c64b1 : decide (t507 = t511) = false := by simpa using c64))
                      (try (have c64b2 : (t507 == t511) = false := by simpa using c64))
                      (try (have c64b3 : ¬ (t507 = t511) := by simpa using c64))
                      clear c64
                      obtain rfl := Option.some.inj H
                      exact absurd hr_.out (by simp)
                    · rw [if_neg c64] at H
                      have c64b0 : (t507 != t511) = false := by simpa using c64
                      (try (have c64b1 : decide (t507 = t511) = true := by simpa using c64))
                      (try (have c64b2 : (t507 == t511) = true := by simpa using c64))
                      clear c64
                      replace H := Option.bind_eq_some_iff.mp H
                      obtain ⟨t515, A650, H⟩ := H
                      replace H : (if t515 = true then (if t507 = true then (laws_FnHidden.l0 kj8 t492 t495 t496 t506 0 (t506.length : Int) 0) else (laws_FnHidden.j2 kj8 t492 t495 t496)) else (some false)) = some r := H
                      have A65 := Aside0.mk A650
                      clear A650
                      by_cases c66 : t515 = true
                      · subst c66
                        have H1 : (if t507 = true then (laws_FnHidden.l0 kj8 t492 t495 t496 t506 0 (t506.length : Int) 0) else (laws_FnHidden.j2 kj8 t492 t495 t496)) = some r := by rw [if_pos rfl] at H; exact H
                        clear H
                        have H := H1
                        clear H1
                        have HC67 := Aside0.mk H
                        clear H
                        go_upto_if 188 with (first | ((with_reducible refine gate_callee (f := 25) rfl ?_); refine goesL_ (some 119) rfl rfl Try.func25 (by kernel_rfl) rfl #[.slice A1 l1.length c1] rfl (by (try simp only [List.map_toArray, List.map_cons, List.map_nil]); first | done | rfl | (simp only [List.length_drop, List.length_take]; rfl)) ?_; (with_reducible refine (spec_DrawThroughParts.calls kj8 _ _ l1 t484 t485 _ ?side1 ?side2 A50.out).mono ?_); (case side1 => repeat (first | exact (Kd.C_below HR1.out HB.out) | (with_reducible refine Kd.C_alloc ?_ _) | (with_reducible refine Kd.C_drewN ?_ _) | (with_reducible refine Kd.C_drew ?_))); (case side2 => exact HC1.out); rintro e w68 ⟨v486, rfl, ho0, hb⟩; refine ⟨_, rfl, ?_⟩; have n0_ := Aside0.mk (Kd.Q_lower (Kd.Q_newB (Kd.Q_newB ho0 (g := gb460) (o := .cells #[.int .i64 t457, .int .i64 t458] 46 (0, 0)) (by (with_reducible repeat (first | refine blk_drewN ?_ _ | refine blk_drew ?_ | refine blk_alloc ?_ _)); exact BK460.out)) (g := gb464) (o := .cells #[.int .i64 t461, .int .i64 t462] 46 (0, 0)) (by (with_reducible repeat (first | refine blk_drewN ?_ _ | refine blk_drew ?_ | refine blk_alloc ?_ _)); exact BK464.out)) (below_size (by repeat (first | (with_reducible first | exact HB.out | apply below_alloc | apply pw_below_drewN | apply below_drew1 | refine below_set ?_ GE460.out | refine below_set ?_ GE464.out) | exact HB.out)))); have n1_ := Aside0.mk (blk_below (g := gb460) (o := .cells #[.int .i64 t457, .int .i64 t458] 46 (0, 0)) (by (with_reducible repeat (first | refine blk_drewN ?_ _ | refine blk_drew ?_ | refine blk_alloc ?_ _)); exact BK460.out) hb); have n2_ := Aside0.mk (blk_below (g := gb464) (o := .cells #[.int .i64 t461, .int .i64 t462] 46 (0, 0)) (by (with_reducible repeat (first | refine blk_drewN ?_ _ | refine blk_drew ?_ | refine blk_alloc ?_ _)); exact BK464.out) hb); have n3_ := Aside0.mk (below_step (by repeat (first | (with_reducible first | exact HB.out | apply below_alloc | apply pw_below_drewN | apply below_drew1 | refine below_set ?_ GE460.out | refine below_set ?_ GE464.out) | exact HB.out)) hb); clear BK460; clear BK464; clear HB; have HO487 := n0_; have BK460 := n1_; have BK464 := n2_; have HB := n3_; clear n0_ n1_ n2_ n3_; (try clear hb); (try clear hb2); (try clear hk); (try clear hi); (try clear ho0); obtain ⟨Ao69, co69, eo69, _⟩ := Kd.Q_slice HO487.out; subst eo69) | ((with_reducible refine gate_callee (f := 14) rfl ?_); refine goesL_ (some 125) rfl rfl Try.func14 (by kernel_rfl) rfl #[.slice Ao69 t484.length co69, .int .i64 t485] rfl (by (try simp only [List.map_toArray, List.map_cons, List.map_nil]); first | done | rfl | (simp only [List.length_drop, List.length_take]; rfl)) ?_; (with_reducible refine (impl_ThroughParts.calls kj8 _ _ t484 t485 t488 t489 _ ?side1 ?side2 A51.out).mono ?_); (case side1 => repeat (first | exact (Kd.Q_reads' HO487.out).2.2 | (with_reducible refine Kd.C_alloc ?_ _) | (with_reducible refine Kd.C_drewN ?_ _) | (with_reducible refine Kd.C_drew ?_))); (case side2 => exact (Kd.Q_reads' HO487.out).2.1); rintro e w70 ⟨rfl, hb⟩; refine ⟨_, rfl, ?_⟩; have n0_ := Aside0.mk (Kd.Q_below (by (with_reducible repeat (first | apply Kd.Q_alloc | apply Kd.Q_drewN | apply Kd.Q_drew)); exact HO487.out) hb); have n1_ := Aside0.mk (blk_below (g := gb460) (o := .cells #[.int .i64 t457, .int .i64 t458] 46 (0, 0)) (by (with_reducible repeat (first | refine blk_drewN ?_ _ | refine blk_drew ?_ | refine blk_alloc ?_ _)); exact BK460.out) hb); have n2_ := Aside0.mk (blk_below (g := gb464) (o := .cells #[.int .i64 t461, .int .i64 t462] 46 (0, 0)) (by (with_reducible repeat (first | refine blk_drewN ?_ _ | refine blk_drew ?_ | refine blk_alloc ?_ _)); exact BK464.out) hb); have n3_ := Aside0.mk (below_step (by repeat (first | (with_reducible first | exact HB.out | apply below_alloc | apply pw_below_drewN | apply below_drew1 | refine below_set ?_ GE460.out | refine below_set ?_ GE464.out) | exact HB.out)) hb); clear HO487; clear BK460; clear BK464; clear HB; have HO487 := n0_; have BK460 := n1_; have BK464 := n2_; have HB := n3_; clear n0_ n1_ n2_ n3_; (try clear hb); (try clear hb2); (try clear hk); (try clear hi)) | ((with_reducible refine gate_callee (f := 26) rfl ?_); refine goesL_ (some 131) rfl rfl Try.func26 (by kernel_rfl) rfl #[.slice Ao69 t484.length co69, .int .i64 t485] rfl (by (try simp only [List.map_toArray, List.map_cons, List.map_nil]); first | done | rfl | (simp only [List.length_drop, List.length_take]; rfl)) ?_; (with_reducible refine (spec_ThroughParts.calls kj8 _ _ t484 t485 t490 t491 _ ?side1 ?side2 A52.out).mono ?_); (case side1 => repeat (first | exact (Kd.Q_reads' HO487.out).2.2 | (with_reducible refine Kd.C_alloc ?_ _) | (with_reducible refine Kd.C_drewN ?_ _) | (with_reducible refine Kd.C_drew ?_))); (case side2 => exact (Kd.Q_reads' HO487.out).2.1); rintro e w71 ⟨rfl, hb⟩; refine ⟨_, rfl, ?_⟩; have n0_ := Aside0.mk (Kd.Q_below (by (with_reducible repeat (first | apply Kd.Q_alloc | apply Kd.Q_drewN | apply Kd.Q_drew)); exact HO487.out) hb); have n1_ := Aside0.mk (blk_below (g := gb460) (o := .cells #[.int .i64 t457, .int .i64 t458] 46 (0, 0)) (by (with_reducible repeat (first | refine blk_drewN ?_ _ | refine blk_drew ?_ | refine blk_alloc ?_ _)); exact BK460.out) hb); have n2_ := Aside0.mk (blk_below (g := gb464) (o := .cells #[.int .i64 t461, .int .i64 t462] 46 (0, 0)) (by (with_reducible repeat (first | refine blk_drewN ?_ _ | refine blk_drew ?_ | refine blk_alloc ?_ _)); exact BK464.out) hb); have n3_ := Aside0.mk (below_step (by repeat (first | (with_reducible first | exact HB.out | apply below_alloc | apply pw_below_drewN | apply below_drew1 | refine below_set ?_ GE460.out | refine below_set ?_ GE464.out) | exact HB.out)) hb); clear HO487; clear BK460; clear BK464; clear HB; have HO487 := n0_; have BK460 := n1_; have BK464 := n2_; have HB := n3_; clear n0_ n1_ n2_ n3_; (try clear hb); (try clear hb2); (try clear hk); (try clear hi)) | ((with_reducible refine gate_callee (f := 27) rfl ?_); refine goesL_ (some 135) rfl rfl Try.func27 (by kernel_rfl) rfl #[.slice A1 l1.length c1] rfl (by (try simp only [List.map_toArray, List.map_cons, List.map_nil]); first | done | rfl | (simp only [List.length_drop, List.length_take]; rfl)) ?_; (with_reducible refine (spec_DrawPolyThrough.calls kj8 _ _ l1 t492 _ ?side1 ?side2 A53.out).mono ?_); (case side1 => repeat (first | exact (Kd.C_below HR1.out HB.out) | (with_reducible refine Kd.C_alloc ?_ _) | (with_reducible refine Kd.C_drewN ?_ _) | (with_reducible refine Kd.C_drew ?_))); (case side2 => exact HC1.out); rintro e w72 ⟨v493, rfl, ho0, hb⟩; refine ⟨_, rfl, ?_⟩; have n0_ := Aside0.mk (Kd.Q_elder' (by (with_reducible repeat (first | apply Kd.Q_alloc | apply Kd.Q_drewN | apply Kd.Q_drew)); exact HO487.out) (Kd.Q_base ho0) hb); have n1_ := Aside0.mk (Kd.Q_lower (Kd.Q_newB (Kd.Q_newB (Kd.Q_new' ho0 (Kd.Q_lt (by (with_reducible repeat (first | apply Kd.Q_alloc | apply Kd.Q_drewN | apply Kd.Q_drew)); exact HO487.out))) (g := gb460) (o := .cells #[.int .i64 t457, .int .i64 t458] 46 (0, 0)) (by (with_reducible repeat (first | refine blk_drewN ?_ _ | refine blk_drew ?_ | refine blk_alloc ?_ _)); exact BK460.out)) (g := gb464) (o := .cells #[.int .i64 t461, .int .i64 t462] 46 (0, 0)) (by (with_reducible repeat (first | refine blk_drewN ?_ _ | refine blk_drew ?_ | refine blk_alloc ?_ _)); exact BK464.out)) (below_size (by repeat (first | (with_reducible first | exact HB.out | apply below_alloc | apply pw_below_drewN | apply below_drew1 | refine below_set ?_ GE460.out | refine below_set ?_ GE464.out) | exact HB.out)))); have n2_ := Aside0.mk (blk_below (g := gb460) (o := .cells #[.int .i64 t457, .int .i64 t458] 46 (0, 0)) (by (with_reducible repeat (first | refine blk_drewN ?_ _ | refine blk_drew ?_ | refine blk_alloc ?_ _)); exact BK460.out) hb); have n3_ := Aside0.mk (blk_below (g := gb464) (o := .cells #[.int .i64 t461, .int .i64 t462] 46 (0, 0)) (by (with_reducible repeat (first | refine blk_drewN ?_ _ | refine blk_drew ?_ | refine blk_alloc ?_ _)); exact BK464.out) hb); have n4_ := Aside0.mk (below_step (by repeat (first | (with_reducible first | exact HB.out | apply below_alloc | apply pw_below_drewN | apply below_drew1 | refine below_set ?_ GE460.out | refine below_set ?_ GE464.out) | exact HB.out)) hb); clear HO487; clear BK460; clear BK464; clear HB; have HO487 := n0_; have HO494 := n1_; have BK460 := n2_; have BK464 := n3_; have HB := n4_; clear n0_ n1_ n2_ n3_ n4_; (try clear hb); (try clear hb2); (try clear hk); (try clear hi); (try clear ho0); obtain ⟨Ao73, co73, eo73, _⟩ := Kd.Q_slice HO494.out; subst eo73) | ((with_reducible refine gate_callee (f := 11) rfl ?_); refine goesL_ (some 138) rfl rfl Try.func11 (by kernel_rfl) rfl #[.slice Ao73 t492.length co73] rfl (by (try simp only [List.map_toArray, List.map_cons, List.map_nil]); first | done | rfl | (simp only [List.length_drop, List.length_take]; rfl)) ?_; (with_reducible refine (impl_PolyThrough.calls kj8 _ _ t492 t495 t496 _ ?side1 ?side2 A54.out).mono ?_); (case side1 => repeat (first | exact (Kd.Q_reads' HO494.out).2.2 | (with_reducible refine Kd.C_alloc ?_ _) | (with_reducible refine Kd.C_drewN ?_ _) | (with_reducible refine Kd.C_drew ?_))); (case side2 => exact (Kd.Q_reads' HO494.out).2.1); rintro e w74 ⟨v497, rfl, ho0, hb⟩; refine ⟨_, rfl, ?_⟩; have n0_ := Aside0.mk (Kd.Q_below (by (with_reducible repeat (first | apply Kd.Q_alloc | apply Kd.Q_drewN | apply Kd.Q_drew)); exact HO487.out) hb); have n1_ := Aside0.mk (Kd.Q_below (by (with_reducible repeat (first | apply Kd.Q_alloc | apply Kd.Q_drewN | apply Kd.Q_drew)); exact HO494.out) hb); have n2_ := Aside0.mk (Kd.R_lower ho0 (below_size (by repeat (first | (with_reducible first | exact HB.out | apply below_alloc | apply pw_below_drewN | apply below_drew1 | refine below_set ?_ GE460.out | refine below_set ?_ GE464.out) | exact HB.out)))); have n3_ := Aside0.mk (blk_below (g := gb460) (o := .cells #[.int .i64 t457, .int .i64 t458] 46 (0, 0)) (by (with_reducible repeat (first | refine blk_drewN ?_ _ | refine blk_drew ?_ | refine blk_alloc ?_ _)); exact BK460.out) hb); have n4_ := Aside0.mk (blk_below (g := gb464) (o := .cells #[.int .i64 t461, .int .i64 t462] 46 (0, 0)) (by (with_reducible repeat (first | refine blk_drewN ?_ _ | refine blk_drew ?_ | refine blk_alloc ?_ _)); exact BK464.out) hb); have n5_ := Aside0.mk (below_step (by repeat (first | (with_reducible first | exact HB.out | apply below_alloc | apply pw_below_drewN | apply below_drew1 | refine below_set ?_ GE460.out | refine below_set ?_ GE464.out) | exact HB.out)) hb); clear HO487; clear HO494; clear BK460; clear BK464; clear HB; have HO487 := n0_; have HO494 := n1_; have HO498 := n2_; have BK460 := n3_; have BK464 := n4_; have HB := n5_; clear n0_ n1_ n2_ n3_ n4_ n5_; (try clear hb); (try clear hb2); (try clear hk); (try clear hi); (try clear ho0)) | ((with_reducible refine gate_callee (f := 28) rfl ?_); refine goesL_ (some 143) rfl rfl Try.func28 (by kernel_rfl) rfl #[.slice Ao73 t492.length co73] rfl (by (try simp only [List.map_toArray, List.map_cons, List.map_nil]); first | done | rfl | (simp only [List.length_drop, List.length_take]; rfl)) ?_; (with_reducible refine (spec_PolyThrough.calls kj8 _ _ t492 t499 t500 _ ?side1 ?side2 A55.out).mono ?_); (case side1 => repeat (first | exact (Kd.Q_reads' HO494.out).2.2 | (with_reducible refine Kd.C_alloc ?_ _) | (with_reducible refine Kd.C_drewN ?_ _) | (with_reducible refine Kd.C_drew ?_))); (case side2 => exact (Kd.Q_reads' HO494.out).2.1); rintro e w75 ⟨v501, rfl, ho0, hb⟩; refine ⟨_, rfl, ?_⟩; have n0_ := Aside0.mk (Kd.Q_below (by (with_reducible repeat (first | apply Kd.Q_alloc | apply Kd.Q_drewN | apply Kd.Q_drew)); exact HO487.out) hb); have n1_ := Aside0.mk (Kd.Q_below (by (with_reducible repeat (first | apply Kd.Q_alloc | apply Kd.Q_drewN | apply Kd.Q_drew)); exact HO494.out) hb); have n2_ := Aside0.mk (Kd.R_elder' (by (with_reducible repeat (first | apply Kd.R_alloc | apply Kd.R_drewN | apply Kd.R_drew)); exact HO498.out) (Kd.R_base ho0) hb); have n3_ := Aside0.mk (Kd.R_lower (Kd.R_new' ho0 (Kd.R_lt (by (with_reducible repeat (first | apply Kd.R_alloc | apply Kd.R_drewN | apply Kd.R_drew)); exact HO498.out))) (below_size (by repeat (first | (with_reducible first | exact HB.out | apply below_alloc | apply pw_below_drewN | apply below_drew1 | refine below_set ?_ GE460.out | refine below_set ?_ GE464.out) | exact HB.out)))); have n4_ := Aside0.mk (blk_below (g := gb460) (o := .cells #[.int .i64 t457, .int .i64 t458] 46 (0, 0)) (by (with_reducible repeat (first | refine blk_drewN ?_ _ | refine blk_drew ?_ | refine blk_alloc ?_ _)); exact BK460.out) hb); have n5_ := Aside0.mk (blk_below (g := gb464) (o := .cells #[.int .i64 t461, .int .i64 t462] 46 (0, 0)) (by (with_reducible repeat (first | refine blk_drewN ?_ _ | refine blk_drew ?_ | refine blk_alloc ?_ _)); exact BK464.out) hb); have n6_ := Aside0.mk (below_step (by repeat (first | (with_reducible first | exact HB.out | apply below_alloc | apply pw_below_drewN | apply below_drew1 | refine below_set ?_ GE460.out | refine below_set ?_ GE464.out) | exact HB.out)) hb); clear HO487; clear HO494; clear HO498; clear BK460; clear BK464; clear HB; have HO487 := n0_; have HO494 := n1_; have HO498 := n2_; have HO502 := n3_; have BK460 := n4_; have BK464 := n5_; have HB := n6_; clear n0_ n1_ n2_ n3_ n4_ n5_ n6_; (try clear hb); (try clear hb2); (try clear hk); (try clear hi); (try clear ho0)) | ((with_reducible refine gate_callee (f := 29) rfl ?_); refine goesL_ (some 147) rfl rfl Try.func29 (by kernel_rfl) rfl #[.slice A1 l1.length c1] rfl (by (try simp only [List.map_toArray, List.map_cons, List.map_nil]); first | done | rfl | (simp only [List.length_drop, List.length_take]; rfl)) ?_; (with_reducible refine (spec_DrawWeightsOf.calls kj8 _ _ l1 t503 _ ?side1 ?side2 A56.out).mono ?_); (case side1 => repeat (first | exact (Kd.C_below HR1.out HB.out) | (with_reducible refine Kd.C_alloc ?_ _) | (with_reducible refine Kd.C_drewN ?_ _) | (with_reducible refine Kd.C_drew ?_))); (case side2 => exact HC1.out); rintro e w76 ⟨v504, rfl, ho0, hb⟩; refine ⟨_, rfl, ?_⟩; have n0_ := Aside0.mk (Kd.Q_below (by (with_reducible repeat (first | apply Kd.Q_alloc | apply Kd.Q_drewN | apply Kd.Q_drew)); exact HO487.out) hb); have n1_ := Aside0.mk (Kd.Q_below (by (with_reducible repeat (first | apply Kd.Q_alloc | apply Kd.Q_drewN | apply Kd.Q_drew)); exact HO494.out) hb); have n2_ := Aside0.mk (Kd.R_elder' (by (with_reducible repeat (first | apply Kd.R_alloc | apply Kd.R_drewN | apply Kd.R_drew)); exact HO498.out) (Kd.R_base ho0) hb); have n3_ := Aside0.mk (Kd.R_elder' (by (with_reducible repeat (first | apply Kd.R_alloc | apply Kd.R_drewN | apply Kd.R_drew)); exact HO502.out) (Kd.R_base ho0) hb); have n4_ := Aside0.mk (Kd.R_lower (Kd.R_new' (Kd.R_new' ho0 (Kd.R_lt (by (with_reducible repeat (first | apply Kd.R_alloc | apply Kd.R_drewN | apply Kd.R_drew)); exact HO498.out))) (Kd.R_lt (by (with_reducible repeat (first | apply Kd.R_alloc | apply Kd.R_drewN | apply Kd.R_drew)); exact HO502.out))) (below_size (by repeat (first | (with_reducible first | exact HB.out | apply below_alloc | apply pw_below_drewN | apply below_drew1 | refine below_set ?_ GE460.out | refine below_set ?_ GE464.out) | exact HB.out)))); have n5_ := Aside0.mk (blk_below (g := gb460) (o := .cells #[.int .i64 t457, .int .i64 t458] 46 (0, 0)) (by (with_reducible repeat (first | refine blk_drewN ?_ _ | refine blk_drew ?_ | refine blk_alloc ?_ _)); exact BK460.out) hb); have n6_ := Aside0.mk (blk_below (g := gb464) (o := .cells #[.int .i64 t461, .int .i64 t462] 46 (0, 0)) (by (with_reducible repeat (first | refine blk_drewN ?_ _ | refine blk_drew ?_ | refine blk_alloc ?_ _)); exact BK464.out) hb); have n7_ := Aside0.mk (below_step (by repeat (first | (with_reducible first | exact HB.out | apply below_alloc | apply pw_below_drewN | apply below_drew1 | refine below_set ?_ GE460.out | refine below_set ?_ GE464.out) | exact HB.out)) hb); clear HO487; clear HO494; clear HO498; clear HO502; clear BK460; clear BK464; clear HB; have HO487 := n0_; have HO494 := n1_; have HO498 := n2_; have HO502 := n3_; have HO505 := n4_; have BK460 := n5_; have BK464 := n6_; have HB := n7_; clear n0_ n1_ n2_ n3_ n4_ n5_ n6_ n7_; (try clear hb); (try clear hb2); (try clear hk); (try clear hi); (try clear ho0); obtain ⟨Ao77, co77, eo77⟩ := Kd.R_slice HO505.out; subst eo77) | ((with_reducible refine gate_callee (f := 30) rfl ?_); refine goesL_ (some 150) rfl rfl Try.func30 (by kernel_rfl) rfl #[.slice Ao77 t503.length co77] rfl (by (try simp only [List.map_toArray, List.map_cons, List.map_nil]); first | done | rfl | (simp only [List.length_drop, List.length_take]; rfl)) ?_; (with_reducible refine (impl_WeightsOf.calls kj8 _ _ t503 t506 t507 _ ?side1 ?side2 A57.out).mono ?_); (case side1 => repeat (first | exact (Kd.R_reads' HO505.out).2.2 | (with_reducible refine Kd.C_alloc ?_ _) | (with_reducible refine Kd.C_drewN ?_ _) | (with_reducible refine Kd.C_drew ?_))); (case side2 => exact (Kd.R_reads' HO505.out).2.1); rintro e w78 ⟨v508, rfl, ho0, hb⟩; refine ⟨_, rfl, ?_⟩; have n0_ := Aside0.mk (Kd.Q_below (by (with_reducible repeat (first | apply Kd.Q_alloc | apply Kd.Q_drewN | apply Kd.Q_drew)); exact HO487.out) hb); have n1_ := Aside0.mk (Kd.Q_below (by (with_reducible repeat (first | apply Kd.Q_alloc | apply Kd.Q_drewN | apply Kd.Q_drew)); exact HO494.out) hb); have n2_ := Aside0.mk (Kd.R_elder' (by (with_reducible repeat (first | apply Kd.R_alloc | apply Kd.R_drewN | apply Kd.R_drew)); exact HO498.out) (Kd.R_base ho0) hb); have n3_ := Aside0.mk (Kd.R_elder' (by (with_reducible repeat (first | apply Kd.R_alloc | apply Kd.R_drewN | apply Kd.R_drew)); exact HO502.out) (Kd.R_base ho0) hb); have n4_ := Aside0.mk (Kd.R_elder' (by (with_reducible repeat (first | apply Kd.R_alloc | apply Kd.R_drewN | apply Kd.R_drew)); exact HO505.out) (Kd.R_base ho0) hb); have n5_ := Aside0.mk (Kd.R_lower (Kd.R_new' (Kd.R_new' (Kd.R_new' ho0 (Kd.R_lt (by (with_reducible repeat (first | apply Kd.R_alloc | apply Kd.R_drewN | apply Kd.R_drew)); exact HO498.out))) (Kd.R_lt (by (with_reducible repeat (first | apply Kd.R_alloc | apply Kd.R_drewN | apply Kd.R_drew)); exact HO502.out))) (Kd.R_lt (by (with_reducible repeat (first | apply Kd.R_alloc | apply Kd.R_drewN | apply Kd.R_drew)); exact HO505.out))) (below_size (by repeat (first | (with_reducible first | exact HB.out | apply below_alloc | apply pw_below_drewN | apply below_drew1 | refine below_set ?_ GE460.out | refine below_set ?_ GE464.out) | exact HB.out)))); have n6_ := Aside0.mk (blk_below (g := gb460) (o := .cells #[.int .i64 t457, .int .i64 t458] 46 (0, 0)) (by (with_reducible repeat (first | refine blk_drewN ?_ _ | refine blk_drew ?_ | refine blk_alloc ?_ _)); exact BK460.out) hb); have n7_ := Aside0.mk (blk_below (g := gb464) (o := .cells #[.int .i64 t461, .int .i64 t462] 46 (0, 0)) (by (with_reducible repeat (first | refine blk_drewN ?_ _ | refine blk_drew ?_ | refine blk_alloc ?_ _)); exact BK464.out) hb); have n8_ := Aside0.mk (below_step (by repeat (first | (with_reducible first | exact HB.out | apply below_alloc | apply pw_below_drewN | apply below_drew1 | refine below_set ?_ GE460.out | refine below_set ?_ GE464.out) | exact HB.out)) hb); clear HO487; clear HO494; clear HO498; clear HO502; clear HO505; clear BK460; clear BK464; clear HB; have HO487 := n0_; have HO494 := n1_; have HO498 := n2_; have HO502 := n3_; have HO505 := n4_; have HO509 := n5_; have BK460 := n6_; have BK464 := n7_; have HB := n8_; clear n0_ n1_ n2_ n3_ n4_ n5_ n6_ n7_ n8_; (try clear hb); (try clear hb2); (try clear hk); (try clear hi); (try clear ho0)) | ((with_reducible refine gate_callee (f := 31) rfl ?_); refine goesL_ (some 155) rfl rfl Try.func31 (by kernel_rfl) rfl #[.slice Ao77 t503.length co77] rfl (by (try simp only [List.map_toArray, List.map_cons, List.map_nil]); first | done | rfl | (simp only [List.length_drop, List.length_take]; rfl)) ?_; (with_reducible refine (spec_WeightsOf.calls kj8 _ _ t503 t510 t511 _ ?side1 ?side2 A58.out).mono ?_); (case side1 => repeat (first | exact (Kd.R_reads' HO505.out).2.2 | (with_reducible refine Kd.C_alloc ?_ _) | (with_reducible refine Kd.C_drewN ?_ _) | (with_reducible refine Kd.C_drew ?_))); (case side2 => exact (Kd.R_reads' HO505.out).2.1); rintro e w79 ⟨v512, rfl, ho0, hb⟩; refine ⟨_, rfl, ?_⟩; have n0_ := Aside0.mk (Kd.Q_below (by (with_reducible repeat (first | apply Kd.Q_alloc | apply Kd.Q_drewN | apply Kd.Q_drew)); exact HO487.out) hb); have n1_ := Aside0.mk (Kd.Q_below (by (with_reducible repeat (first | apply Kd.Q_alloc | apply Kd.Q_drewN | apply Kd.Q_drew)); exact HO494.out) hb); have n2_ := Aside0.mk (Kd.R_elder' (by (with_reducible repeat (first | apply Kd.R_alloc | apply Kd.R_drewN | apply Kd.R_drew)); exact HO498.out) (Kd.R_base ho0) hb); have n3_ := Aside0.mk (Kd.R_elder' (by (with_reducible repeat (first | apply Kd.R_alloc | apply Kd.R_drewN | apply Kd.R_drew)); exact HO502.out) (Kd.R_base ho0) hb); have n4_ := Aside0.mk (Kd.R_elder' (by (with_reducible repeat (first | apply Kd.R_alloc | apply Kd.R_drewN | apply Kd.R_drew)); exact HO505.out) (Kd.R_base ho0) hb); have n5_ := Aside0.mk (Kd.R_elder' (by (with_reducible repeat (first | apply Kd.R_alloc | apply Kd.R_drewN | apply Kd.R_drew)); exact HO509.out) (Kd.R_base ho0) hb); have n6_ := Aside0.mk (Kd.R_lower (Kd.R_new' (Kd.R_new' (Kd.R_new' (Kd.R_new' ho0 (Kd.R_lt (by (with_reducible repeat (first | apply Kd.R_alloc | apply Kd.R_drewN | apply Kd.R_drew)); exact HO498.out))) (Kd.R_lt (by (with_reducible repeat (first | apply Kd.R_alloc | apply Kd.R_drewN | apply Kd.R_drew)); exact HO502.out))) (Kd.R_lt (by (with_reducible repeat (first | apply Kd.R_alloc | apply Kd.R_drewN | apply Kd.R_drew)); exact HO505.out))) (Kd.R_lt (by (with_reducible repeat (first | apply Kd.R_alloc | apply Kd.R_drewN | apply Kd.R_drew)); exact HO509.out))) (below_size (by repeat (first | (with_reducible first | exact HB.out | apply below_alloc | apply pw_below_drewN | apply below_drew1 | refine below_set ?_ GE460.out | refine below_set ?_ GE464.out) | exact HB.out)))); have n7_ := Aside0.mk (blk_below (g := gb460) (o := .cells #[.int .i64 t457, .int .i64 t458] 46 (0, 0)) (by (with_reducible repeat (first | refine blk_drewN ?_ _ | refine blk_drew ?_ | refine blk_alloc ?_ _)); exact BK460.out) hb); have n8_ := Aside0.mk (blk_below (g := gb464) (o := .cells #[.int .i64 t461, .int .i64 t462] 46 (0, 0)) (by (with_reducible repeat (first | refine blk_drewN ?_ _ | refine blk_drew ?_ | refine blk_alloc ?_ _)); exact BK464.out) hb); have n9_ := Aside0.mk (below_step (by repeat (first | (with_reducible first | exact HB.out | apply below_alloc | apply pw_below_drewN | apply below_drew1 | refine below_set ?_ GE460.out | refine below_set ?_ GE464.out) | exact HB.out)) hb); clear HO487; clear HO494; clear HO498; clear HO502; clear HO505; clear HO509; clear BK460; clear BK464; clear HB; have HO487 := n0_; have HO494 := n1_; have HO498 := n2_; have HO502 := n3_; have HO505 := n4_; have HO509 := n5_; have HO513 := n6_; have BK460 := n7_; have BK464 := n8_; have HB := n9_; clear n0_ n1_ n2_ n3_ n4_ n5_ n6_ n7_ n8_ n9_; (try clear hb); (try clear hb2); (try clear hk); (try clear hi); (try clear ho0); obtain ⟨Ao80, co80, eo80⟩ := Kd.R_slice HO498.out; subst eo80; obtain ⟨Ao81, co81, eo81⟩ := Kd.R_slice HO502.out; subst eo81) | (go_at_call 12; (with_reducible refine (laws_sameInts.calls kj8 _ _ t495 _ _ t499 true _ ?side1 ?side2 ?side3 ?side4 A62.out).mono ?_); (case side1 => repeat (first | exact (Kd.R_reads' HO498.out).2.2 | (with_reducible refine Kd.C_alloc ?_ _) | (with_reducible refine Kd.C_drewN ?_ _) | (with_reducible refine Kd.C_drew ?_))); (case side2 => exact (Kd.R_reads' HO498.out).2.1); (case side3 => repeat (first | exact (Kd.R_reads' HO502.out).2.2 | (with_reducible refine Kd.C_alloc ?_ _) | (with_reducible refine Kd.C_drewN ?_ _) | (with_reducible refine Kd.C_drew ?_))); (case side4 => exact (Kd.R_reads' HO502.out).2.1); rintro e w' ⟨rfl, ⟨nd, rfl⟩⟩; obtain ⟨Ao82, co82, eo82⟩ := Kd.R_slice HO509.out; subst eo82; obtain ⟨Ao83, co83, eo83⟩ := Kd.R_slice HO513.out; subst eo83) | (go_at_call 12; (with_reducible refine (laws_sameInts.calls kj8 _ _ t506 _ _ t510 true _ ?side1 ?side2 ?side3 ?side4 A65.out).mono ?_); (case side1 => repeat (first | exact (Kd.R_reads' HO509.out).2.2 | (with_reducible refine Kd.C_alloc ?_ _) | (with_reducible refine Kd.C_drewN ?_ _) | (with_reducible refine Kd.C_drew ?_))); (case side2 => exact (Kd.R_reads' HO509.out).2.1); (case side3 => repeat (first | exact (Kd.R_reads' HO513.out).2.2 | (with_reducible refine Kd.C_alloc ?_ _) | (with_reducible refine Kd.C_drewN ?_ _) | (with_reducible refine Kd.C_drew ?_))); (case side4 => exact (Kd.R_reads' HO513.out).2.1); rintro e w' ⟨rfl, ⟨nd, rfl⟩⟩))
                        (try simp only [Act.put, List.setIfInBounds_toArray, List.set_cons_zero, List.set_cons_succ])
                        go_cut [] from 99999 (fun wc => ∃ (kq : Nat), Aside0 (laws_FnHidden.j2 kq t492 t495 t496 = some r) ∧ Aside0 (kq ≤ kj8) ∧ Aside0 (Kd.Q k46 46 wc w.heap.size (fun k_ => k_ ≠ gb460 ∧ k_ ≠ gb464) (.slice Ao73 t492.length co73) t492) ∧ Aside0 (Kd.R (Kd.int .i64) 3 wc w.heap.size (fun _ => True) (.slice Ao80 t495.length co80) t495) ∧ Aside0 (wc.heap[gb460]? = some (.cells #[.int .i64 t457, .int .i64 t458] 46 (0, 0))) ∧ Aside0 (wc.heap[gb464]? = some (.cells #[.int .i64 t461, .int .i64 t462] 46 (0, 0))) ∧ Aside0 (Below w.heap.size w wc))
                        case first =>
                          have H := HC67.out
                          clear HC67
                          by_cases c84 : t507 = true
                          · subst c84
                            have H1 : (laws_FnHidden.l0 kj8 t492 t495 t496 t506 0 (t506.length : Int) 0) = some r := by rw [if_pos rfl] at H; exact H
                            clear H
                            have H := H1
                            clear H1
                            have H' := Aside0.mk H
                            clear H
                            go_wp2
                            go_loopg [32, 191] kj8 (fun kq v32 v191 w' => ∃ (x32_2 : Int) (x191_2 : Int), v32 = .int .i64 x32_2 ∧ v191 = .int .i64 x191_2 ∧ Aside0 (laws_FnHidden.l0 kq t492 t495 t496 t506 x32_2 (t506.length : Int) x191_2 = some r) ∧ Aside0 (kq ≤ kj8) ∧ Aside0 (Kd.Q k46 46 w' w.heap.size (fun k_ => k_ ≠ gb460 ∧ k_ ≠ gb464) (.slice Ao73 t492.length co73) t492) ∧ Aside0 (Kd.R (Kd.int .i64) 3 w' w.heap.size (fun k_ => some k_ ≠ ((.slice Ao82 t506.length co82) : Value).ownBlock) (.slice Ao80 t495.length co80) t495) ∧ Aside0 (Kd.R (Kd.int .i64) 3 w' w.heap.size (fun k_ => some k_ ≠ ((.slice Ao80 t495.length co80) : Value).ownBlock) (.slice Ao82 t506.length co82) t506) ∧ Aside0 (w'.heap[gb460]? = some (.cells #[.int .i64 t457, .int .i64 t458] 46 (0, 0))) ∧ Aside0 (w'.heap[gb464]? = some (.cells #[.int .i64 t461, .int .i64 t462] 46 (0, 0))) ∧ Aside0 (Below w.heap.size w w'))
                            case atStart => exact ⟨(0), (0), (by first | rfl | (simp; done) | (simp [*]; done)), (by first | rfl | (simp; done) | (simp [*]; done)), H', ⟨Nat.le_refl _⟩, ⟨by (with_reducible repeat (first | apply Kd.Q_alloc | apply Kd.Q_drewN | apply Kd.Q_drew)); exact Kd.Q_mono HO494.out (fun _ hk => ⟨hk.1.2, hk.2⟩)⟩, ⟨by (with_reducible repeat (first | apply Kd.R_alloc | apply Kd.R_drewN | apply Kd.R_drew)); exact Kd.R_mono HO498.out (fun _ hk => hk.1.2)⟩, ⟨by (with_reducible repeat (first | apply Kd.R_alloc | apply Kd.R_drewN | apply Kd.R_drew)); exact Kd.R_mono HO509.out (fun _ hk => hk.1.1.1.2)⟩, ⟨by (with_reducible repeat (first | refine blk_drewN ?_ _ | refine blk_drew ?_ | refine blk_alloc ?_ _)); exact BK460.out⟩, ⟨by (with_reducible repeat (first | refine blk_drewN ?_ _ | refine blk_drew ?_ | refine blk_alloc ?_ _)); exact BK464.out⟩, ⟨by repeat (first | (with_reducible first | exact HB.out | apply below_alloc | apply pw_below_drewN | apply below_drew1 | refine below_set ?_ GE460.out | refine below_set ?_ GE464.out) | exact HB.out)⟩⟩
                            case round =>
                              clear H'
                              try clear c1
                              try clear c2
                              try clear p2
                              try clear c3
                              try clear c4
                              try clear c5
                              try clear c6
                              try clear p6
                              try clear c8
                              try clear c8b0
                              try clear c9
                              try clear c10
                              try clear c11
                              try clear c14
                              try clear c17
                              try clear c20
                              try clear c21
                              try clear c22
                              try clear c23
                              try clear c24
                              try clear c25
                              try clear c25b0
                              try clear c25b1
                              try clear c26
                              try clear c27
                              try clear c28
                              try clear c29
                              try clear c29b0
                              try clear c29b1
                              try clear c30
                              try clear c30b0
                              try clear c30b1
                              try clear c31
                              try clear c45
                              try clear c46
                              try clear c48
                              try clear c59
                              try clear c59b0
                              try clear c59b1
                              try clear c59b2
                              try clear c60
                              try clear c60b0
                              try clear c60b1
                              try clear c61
                              try clear c61b0
                              try clear c61b1
                              try clear c61b2
                              try clear c63
                              try clear c64
                              try clear c64b0
                              try clear c64b1
                              try clear c64b2
                              try clear p64
                              try clear c66
                              try clear c84
                              try clear hcz14_0
                              try clear hcz14_1
                              try clear hcz18_0
                              try clear hcz18_1
                              try clear hcz19_0
                              try clear hcz19_1
                              try clear hcz47_0
                              try clear hcz47_1
                              try clear hcz49_0
                              try clear hcz49_1
                              try clear hfz14_0
                              try clear hfz14_1
                              try clear hfz18_0
                              try clear hfz18_1
                              try clear hfz19_0
                              try clear hfz19_1
                              try clear hfz47_0
                              try clear hfz47_1
                              try clear hfz49_0
                              try clear hfz49_1
                              try clear p2
                              try clear p6
                              obtain ⟨x32_2, x191_2, rfl, rfl, HA, HK2, HO_22, HO_23, HO_28, BK460, BK464, HB⟩ := hrel
                              cases gk with
                              | zero => exact absurd HA.out (by simp [laws_FnHidden.l0])
                              | succ k2 =>
                                have H := HA.out
                                clear HA
                                simp only [laws_FnHidden.l0] at H
                                by_cases c85 : x191_2 < (t506.length : Int)
                                · rw [if_pos c85] at H
                                  have c85b0 : decide (x191_2 < (t506.length : Int)) = true := decide_eq_true c85
                                  clear c85
                                  (first | rw [c85b0] | (simp only [i64_w, i32_w]; rw [c85b0]) | skip)
                                  by_cases c86 : 0 ≤ x191_2
                                  · rw [if_pos c86] at H
                                    have c86b0 : decide (0 ≤ x191_2) = true := decide_eq_true c86
                                    clear c86
                                    by_cases c87 : x191_2 < (t506.length : Int)
                                    · rw [if_pos c87] at H
                                      have c87b0 : decide (x191_2 < (t506.length : Int)) = true := decide_eq_true c87
                                      clear c87
                                      have H' := Aside0.mk H
                                      clear H
                                      have p516 : 0 ≤ (x191_2 : Int) := of_decide_eq_true (by first | (with_reducible assumption) | assumption)
                                      have q516 : x191_2 < (t506.length : Int) := of_decide_eq_true (by first | (with_reducible assumption) | assumption)
                                      obtain ⟨ad516, e516, hx516_0⟩ := Kd.at_int (Kd.R_reads' HO_28.out).2.2 x191_2 p516 q516
                                      cases e516
                                      replace p516 := eq_true p516
                                      replace q516 := eq_true q516
                                      go_wp2
                                      go_roundg k2
                                      case measure => have := HJ8.out; have := HK2.out; omega
                                      case rel => exact ⟨(Int.tmod (wrap64 (x32_2 + (rd t506 x191_2))) 1499), (wrap64 (x191_2 + 1)), (by first | rfl | (simp; done) | (simp [*]; done)), (by first | rfl | (simp; done) | (simp [*]; done)), H', ⟨by have := HJ8.out; have := HK2.out; omega⟩, ⟨by (with_reducible repeat (first | apply Kd.Q_alloc | apply Kd.Q_drewN | apply Kd.Q_drew)); exact HO_22.out⟩, ⟨by (with_reducible repeat (first | apply Kd.R_alloc | apply Kd.R_drewN | apply Kd.R_drew)); exact HO_23.out⟩, ⟨by (with_reducible repeat (first | apply Kd.R_alloc | apply Kd.R_drewN | apply Kd.R_drew)); exact HO_28.out⟩, ⟨by (with_reducible repeat (first | refine blk_drewN ?_ _ | refine blk_drew ?_ | refine blk_alloc ?_ _)); exact BK460.out⟩, ⟨by (with_reducible repeat (first | refine blk_drewN ?_ _ | refine blk_drew ?_ | refine blk_alloc ?_ _)); exact BK464.out⟩, ⟨by repeat (first | (with_reducible first | exact HB.out | apply below_alloc | apply pw_below_drewN | apply below_drew1 | refine below_set ?_ GE460.out | refine below_set ?_ GE464.out) | exact HB.out)⟩⟩
                                    · rw [if_neg c87] at H
                                      exact absurd H (by simp)
                                  · rw [if_neg c86] at H
                                    exact absurd H (by simp)
                                · rw [if_neg c85] at H
                                  have c85b0 : decide (x191_2 < (t506.length : Int)) = false := decide_eq_false c85
                                  clear c85
                                  (first | rw [c85b0] | (simp only [i64_w, i32_w]; rw [c85b0]) | skip)
                                  by_cases c88 : x32_2 = 1
                                  · rw [if_pos c88] at H
                                    have c88b0 : (x32_2 == 1) = true := beq_iff_eq.mpr c88
                                    have c88b1 : (x32_2 != 1) = false := bne_eq_false_iff_eq.mpr c88
                                    clear c88
                                    have H' := Aside0.mk H
                                    clear H
                                    go_wp2
                                    go_meet
                                    case rel => exact ⟨_, H', ⟨by have := HJ8.out; have := HK2.out; first | omega | exact Nat.le_refl _⟩, ⟨by (with_reducible repeat (first | apply Kd.Q_alloc | apply Kd.Q_drewN | apply Kd.Q_drew)); exact HO_22.out⟩, ⟨by (with_reducible repeat (first | apply Kd.R_alloc | apply Kd.R_drewN | apply Kd.R_drew)); exact Kd.R_mono HO_23.out (fun _ hk => trivial)⟩, ⟨by (with_reducible repeat (first | refine blk_drewN ?_ _ | refine blk_drew ?_ | refine blk_alloc ?_ _)); exact BK460.out⟩, ⟨by (with_reducible repeat (first | refine blk_drewN ?_ _ | refine blk_drew ?_ | refine blk_alloc ?_ _)); exact BK464.out⟩, ⟨by repeat (first | (with_reducible first | exact HB.out | apply below_alloc | apply pw_below_drewN | apply below_drew1 | refine below_set ?_ GE460.out | refine below_set ?_ GE464.out) | exact HB.out)⟩⟩
                                  · rw [if_neg c88] at H
                                    have c88b0 : (x32_2 == 1) = false := beq_eq_false_iff_ne.mpr c88
                                    have c88b1 : (x32_2 != 1) = true := bne_iff_ne.mpr c88
                                    obtain rfl := Option.some.inj H
                                    exact absurd hr_.out (by simp)
                          · replace c84 := Bool.eq_false_iff.mpr c84
                            subst c84
                            have H1 : (laws_FnHidden.j2 kj8 t492 t495 t496) = some r := by rw [if_neg (show ¬ (false = true) by decide)] at H; exact H
                            clear H
                            have H := H1
                            clear H1
                            have H' := Aside0.mk H
                            clear H
                            go_wp2
                            go_meet
                            case rel => exact ⟨_, H', ⟨by have := HJ8.out; first | omega | exact Nat.le_refl _⟩, ⟨by (with_reducible repeat (first | apply Kd.Q_alloc | apply Kd.Q_drewN | apply Kd.Q_drew)); exact Kd.Q_mono HO494.out (fun _ hk => ⟨hk.1.2, hk.2⟩)⟩, ⟨by (with_reducible repeat (first | apply Kd.R_alloc | apply Kd.R_drewN | apply Kd.R_drew)); exact Kd.R_mono HO498.out (fun _ hk => trivial)⟩, ⟨by (with_reducible repeat (first | refine blk_drewN ?_ _ | refine blk_drew ?_ | refine blk_alloc ?_ _)); exact BK460.out⟩, ⟨by (with_reducible repeat (first | refine blk_drewN ?_ _ | refine blk_drew ?_ | refine blk_alloc ?_ _)); exact BK464.out⟩, ⟨by repeat (first | (with_reducible first | exact HB.out | apply below_alloc | apply pw_below_drewN | apply below_drew1 | refine below_set ?_ GE460.out | refine below_set ?_ GE464.out) | exact HB.out)⟩⟩
                        case rest =>
                          clear HC67
                          try clear c1
                          try clear c2
                          try clear p2
                          try clear c3
                          try clear c4
                          try clear c5
                          try clear p5
                          try clear q5
                          try clear hx5
                          try clear c6
                          try clear p6
                          try clear c8
                          try clear c8b0
                          try clear c9
                          try clear c10
                          try clear c11
                          try clear c14
                          try clear c17
                          try clear c20
                          try clear c21
                          try clear c22
                          try clear c23
                          try clear c24
                          try clear c25
                          try clear c25b0
                          try clear c25b1
                          try clear c26
                          try clear c27
                          try clear c28
                          try clear c29
                          try clear c29b0
                          try clear c29b1
                          try clear c30
                          try clear c30b0
                          try clear c30b1
                          try clear c31
                          try clear c45
                          try clear c46
                          try clear c48
                          try clear p51
                          try clear q51
                          try clear hx51
                          try clear c59
                          try clear c59b0
                          try clear c59b1
                          try clear c59b2
                          try clear c60
                          try clear c60b0
                          try clear c60b1
                          try clear c61
                          try clear c61b0
                          try clear c61b1
                          try clear c61b2
                          try clear c63
                          try clear c64
                          try clear c64b0
                          try clear c64b1
                          try clear c64b2
                          try clear p64
                          try clear c66
                          try clear c84
                          try clear c85
                          try clear c85b0
                          try clear c86
                          try clear c86b0
                          try clear c87
                          try clear c87b0
                          try clear c88
                          try clear c88b0
                          try clear c88b1
                          try clear hcz14_0
                          try clear hcz14_1
                          try clear hcz18_0
                          try clear hcz18_1
                          try clear hcz19_0
                          try clear hcz19_1
                          try clear hcz47_0
                          try clear hcz47_1
                          try clear hcz49_0
                          try clear hcz49_1
                          try clear hfz14_0
                          try clear hfz14_1
                          try clear hfz18_0
                          try clear hfz18_1
                          try clear hfz19_0
                          try clear hfz19_1
                          try clear hfz47_0
                          try clear hfz47_1
                          try clear hfz49_0
                          try clear hfz49_1
                          try clear hx516_0
                          try clear p2
                          try clear p516
                          try clear p6
                          try clear p64
                          try clear q516
                          obtain ⟨kq, HA, HJ66, HO_22, HO_23, BK460, BK464, HB⟩ := hcut
                          cases kq with
                          | zero => exact absurd HA.out (by simp [laws_FnHidden.j2])
                          | succ kj66 =>
                            have H := HA.out
                            clear HA
                            simp only [laws_FnHidden.j2] at H
                            by_cases c89 : t496 = true
                            · subst c89
                              have H1 : (laws_FnHidden.l1 kj66 t492 t495 (t492.length : Int) 0) = some r := by rw [if_pos rfl] at H; exact H
                              clear H
                              have H := H1
                              clear H1
                              have H' := Aside0.mk H
                              clear H
                              go_wp2
                              go_loopg [205] kj66 (fun kq v205 w' => ∃ (x205_3 : Int), v205 = .int .i64 x205_3 ∧ Aside0 (laws_FnHidden.l1 kq t492 t495 (t492.length : Int) x205_3 = some r) ∧ Aside0 (kq ≤ kj66) ∧ Aside0 (Kd.Q k46 46 w' w.heap.size (fun k_ => k_ ≠ gb460 ∧ k_ ≠ gb464) (.slice Ao73 t492.length co73) t492) ∧ Aside0 (Kd.R (Kd.int .i64) 3 w' w.heap.size (fun _ => True) (.slice Ao80 t495.length co80) t495) ∧ Aside0 (w'.heap[gb460]? = some (.cells #[.int .i64 t457, .int .i64 t458] 46 (0, 0))) ∧ Aside0 (w'.heap[gb464]? = some (.cells #[.int .i64 t461, .int .i64 t462] 46 (0, 0))) ∧ Aside0 (Below w.heap.size w w'))
                              case atStart => exact ⟨(0), (by first | rfl | (simp; done) | (simp [*]; done)), H', ⟨Nat.le_refl _⟩, ⟨by (with_reducible repeat (first | apply Kd.Q_alloc | apply Kd.Q_drewN | apply Kd.Q_drew)); exact HO_22.out⟩, ⟨by (with_reducible repeat (first | apply Kd.R_alloc | apply Kd.R_drewN | apply Kd.R_drew)); exact HO_23.out⟩, ⟨by (with_reducible repeat (first | refine blk_drewN ?_ _ | refine blk_drew ?_ | refine blk_alloc ?_ _)); exact BK460.out⟩, ⟨by (with_reducible repeat (first | refine blk_drewN ?_ _ | refine blk_drew ?_ | refine blk_alloc ?_ _)); exact BK464.out⟩, ⟨by repeat (first | (with_reducible first | exact HB.out | apply below_alloc | apply pw_below_drewN | apply below_drew1 | refine below_set ?_ GE460.out | refine below_set ?_ GE464.out) | exact HB.out)⟩⟩
                              case round =>
                                clear H'
                                try clear c1
                                try clear c2
                                try clear p2
                                try clear c3
                                try clear c4
                                try clear c5
                                try clear p5
                                try clear q5
                                try clear hx5
                                try clear c6
                                try clear p6
                                try clear c8
                                try clear c8b0
                                try clear c9
                                try clear c10
                                try clear c11
                                try clear c14
                                try clear c17
                                try clear c20
                                try clear c21
                                try clear c22
                                try clear c23
                                try clear c24
                                try clear c25
                                try clear c25b0
                                try clear c25b1
                                try clear c26
                                try clear c27
                                try clear c28
                                try clear c29
                                try clear c29b0
                                try clear c29b1
                                try clear c30
                                try clear c30b0
                                try clear c30b1
                                try clear c31
                                try clear c45
                                try clear c46
                                try clear c48
                                try clear p51
                                try clear q51
                                try clear hx51
                                try clear c59
                                try clear c59b0
                                try clear c59b1
                                try clear c59b2
                                try clear c60
                                try clear c60b0
                                try clear c60b1
                                try clear c61
                                try clear c61b0
                                try clear c61b1
                                try clear c61b2
                                try clear c63
                                try clear c64
                                try clear c64b0
                                try clear c64b1
                                try clear c64b2
                                try clear p64
                                try clear c66
                                try clear c84
                                try clear c85
                                try clear c85b0
                                try clear c86
                                try clear c86b0
                                try clear c87
                                try clear c87b0
                                try clear c88
                                try clear c88b0
                                try clear c88b1
                                try clear c89
                                try clear hcz14_0
                                try clear hcz14_1
                                try clear hcz18_0
                                try clear hcz18_1
                                try clear hcz19_0
                                try clear hcz19_1
                                try clear hcz47_0
                                try clear hcz47_1
                                try clear hcz49_0
                                try clear hcz49_1
                                try clear hfz14_0
                                try clear hfz14_1
                                try clear hfz18_0
                                try clear hfz18_1
                                try clear hfz19_0
                                try clear hfz19_1
                                try clear hfz47_0
                                try clear hfz47_1
                                try clear hfz49_0
                                try clear hfz49_1
                                try clear hx516_0
                                try clear p2
                                try clear p5
                                try clear p51
                                try clear p516
                                try clear p6
                                try clear p64
                                try clear q5
                                try clear q51
                                try clear q516
                                obtain ⟨x205_3, rfl, HA, HK3, HO_22, HO_23, BK460, BK464, HB⟩ := hrel
                                cases gk with
                                | zero => exact absurd HA.out (by simp [laws_FnHidden.l1])
                                | succ k3 =>
                                  have H := HA.out
                                  clear HA
                                  simp only [laws_FnHidden.l1] at H
                                  by_cases c90 : x205_3 < (t492.length : Int)
                                  · rw [if_pos c90] at H
                                    have c90b0 : decide (x205_3 < (t492.length : Int)) = true := decide_eq_true c90
                                    clear c90
                                    by_cases c91 : 0 ≤ x205_3
                                    · rw [if_pos c91] at H
                                      have c91b0 : decide (0 ≤ x205_3) = true := decide_eq_true c91
                                      clear c91
                                      by_cases c92 : x205_3 < (t492.length : Int)
                                      · rw [if_pos c92] at H
                                        have c92b0 : decide (x205_3 < (t492.length : Int)) = true := decide_eq_true c92
                                        clear c92
                                        replace H := Option.bind_eq_some_iff.mp H
                                        obtain ⟨⟨t519, t520⟩, A930, H⟩ := H
                                        replace H : (if t520 = true then (if t519 = ((rd_T46 t492 x205_3).f1) then (laws_FnHidden.l1 k3 t492 t495 (t492.length : Int) (wrap64 (x205_3 + 1))) else (some false)) else (some false)) = some r := H
                                        have A93 := Aside0.mk A930
                                        clear A930
                                        by_cases c94 : t520 = true
                                        · subst c94
                                          have H1 : (if t519 = ((rd_T46 t492 x205_3).f1) then (laws_FnHidden.l1 k3 t492 t495 (t492.length : Int) (wrap64 (x205_3 + 1))) else (some false)) = some r := by rw [if_pos rfl] at H; exact H
                                          clear H
                                          have H := H1
                                          clear H1
                                          by_cases c95 : t519 = ((rd_T46 t492 x205_3).f1)
                                          · rw [if_pos c95] at H
                                            have c95b0 : (t519 == ((rd_T46 t492 x205_3).f1)) = true := beq_iff_eq.mpr c95
                                            have c95b1 : (t519 != ((rd_T46 t492 x205_3).f1)) = false := bne_eq_false_iff_eq.mpr c95
                                            clear c95
                                            have H' := Aside0.mk H
                                            clear H
                                            have p517 : 0 ≤ (x205_3 : Int) := of_decide_eq_true (by first | (with_reducible assumption) | assumption)
                                            have q517 : x205_3 < (t492.length : Int) := of_decide_eq_true (by first | (with_reducible assumption) | assumption)
                                            obtain ⟨ad517, e517, hx517_0, hx517_1⟩ := at_T46 (Kd.Q_reads' HO_22.out).2.2 x205_3 p517 q517
                                            cases e517
                                            replace p517 := eq_true p517
                                            replace q517 := eq_true q517
                                            go_wp2_with (first | ((with_reducible refine gate_dst (N := 36) rfl ?_); refine box_event ?hg (N := 36) ?hd (cs := #[.int .i64 0, .int .i64 0]) (t := 46) ?hr ?_; (case hd => rfl); (case hg => rfl); (case hr => first | (go_simp; done) | (go_simp; rfl)); intro gb518 hg w96 hbox hb; have n0_ := Aside0.mk (Kd.Q_below (Kd.Q_elderB (by (with_reducible repeat (first | apply Kd.Q_alloc | apply Kd.Q_drewN | apply Kd.Q_drew)); exact HO_22.out) gb518 (Nat.le_of_eq hg.symm)) hb); have n1_ := Aside0.mk (Kd.R_below (by (with_reducible repeat (first | apply Kd.R_alloc | apply Kd.R_drewN | apply Kd.R_drew)); exact HO_23.out) hb); have n2_ := Aside0.mk (blk_below (g := gb460) (o := .cells #[.int .i64 t457, .int .i64 t458] 46 (0, 0)) (by (with_reducible repeat (first | refine blk_drewN ?_ _ | refine blk_drew ?_ | refine blk_alloc ?_ _)); exact BK460.out) hb); have n3_ := Aside0.mk (blk_below (g := gb464) (o := .cells #[.int .i64 t461, .int .i64 t462] 46 (0, 0)) (by (with_reducible repeat (first | refine blk_drewN ?_ _ | refine blk_drew ?_ | refine blk_alloc ?_ _)); exact BK464.out) hb); have n4_ := Aside0.mk (below_step (by repeat (first | (with_reducible first | exact HB.out | apply below_alloc | apply pw_below_drewN | apply below_drew1 | refine below_set ?_ GE460.out | refine below_set ?_ GE464.out) | exact HB.out)) hb); have n5_ := Aside0.mk (hbox); have n6_ := Aside0.mk ((by rw [hg]; exact (below_size (by repeat (first | (with_reducible first | exact HB.out | apply below_alloc | apply pw_below_drewN | apply below_drew1 | refine below_set ?_ GE460.out | refine below_set ?_ GE464.out) | exact HB.out))) : w.heap.size ≤ gb518)); have n7_ := Aside0.mk ((by rw [hg]; exact (below_size (by repeat (first | (with_reducible first | exact HB.out | apply below_alloc | apply pw_below_drewN | apply below_drew1 | refine below_set ?_ GE460.out | refine below_set ?_ GE464.out) | exact HB.out))) : w.heap.size ≤ gb518)); have n8_ := Aside0.mk ((by rw [hg]; exact Nat.ne_of_lt (blk_lt (g := gb460) (o := .cells #[.int .i64 t457, .int .i64 t458] 46 (0, 0)) (by (with_reducible repeat (first | refine blk_drewN ?_ _ | refine blk_drew ?_ | refine blk_alloc ?_ _)); exact BK460.out)) : gb460 ≠ gb518)); have n9_ := Aside0.mk ((by rw [hg]; exact Nat.ne_of_gt (blk_lt (g := gb460) (o := .cells #[.int .i64 t457, .int .i64 t458] 46 (0, 0)) (by (with_reducible repeat (first | refine blk_drewN ?_ _ | refine blk_drew ?_ | refine blk_alloc ?_ _)); exact BK460.out)) : gb518 ≠ gb460)); have n10_ := Aside0.mk ((by rw [hg]; exact Nat.ne_of_lt (blk_lt (g := gb464) (o := .cells #[.int .i64 t461, .int .i64 t462] 46 (0, 0)) (by (with_reducible repeat (first | refine blk_drewN ?_ _ | refine blk_drew ?_ | refine blk_alloc ?_ _)); exact BK464.out)) : gb464 ≠ gb518)); have n11_ := Aside0.mk ((by rw [hg]; exact Nat.ne_of_gt (blk_lt (g := gb464) (o := .cells #[.int .i64 t461, .int .i64 t462] 46 (0, 0)) (by (with_reducible repeat (first | refine blk_drewN ?_ _ | refine blk_drew ?_ | refine blk_alloc ?_ _)); exact BK464.out)) : gb518 ≠ gb464)); clear HO_22; clear HO_23; clear BK460; clear BK464; clear HB; have HO_22 := n0_; have HO_23 := n1_; have BK460 := n2_; have BK464 := n3_; have HB := n4_; have BK518 := n5_; have GW518 := n6_; have GE518 := n7_; have NB460_518 := n8_; have NB518_460 := n9_; have NB464_518 := n10_; have NB518_464 := n11_; clear n0_ n1_ n2_ n3_ n4_ n5_ n6_ n7_ n8_ n9_ n10_ n11_; clear hb hbox hg; have hnb97 := NB518_460.out; have hnc97 := NB460_518.out; have hnb98 := NB518_464.out; have hnc98 := NB464_518.out; have hcz99_0 : w96.cell? ⟨gb518, 0, none⟩ = some (.int .i64 0) := (blk_cell BK518.out 0).trans rfl; have hcz99_1 : w96.cell? ⟨gb518, 1, none⟩ = some (.int .i64 0) := (blk_cell BK518.out 1).trans rfl; have hfz99_0 := blk_frozen BK518.out 0; have hfz99_1 := blk_frozen BK518.out 1) | ((with_reducible refine gate_callee (f := 13) rfl ?_); refine goesL_ (some 213) rfl rfl Try.func13 (by kernel_rfl) rfl #[.slice Ao80 t495.length co80, .int .i64 ((rd_T46 t492 x205_3).f0)] rfl (by (try simp only [List.map_toArray, List.map_cons, List.map_nil]); first | done | rfl | (simp only [List.length_drop, List.length_take]; rfl)) ?_; (with_reducible refine (impl_ValueAt.calls k3 _ _ t495 ((rd_T46 t492 x205_3).f0) t519 true _ ?side1 ?side2 A93.out).mono ?_); (case side1 => refine (Kd.R_reads' (e := 3) (base := w.heap.size) (ok := fun k_ => True) (n := t495.length) (c := co80) ?_).2.2; exact (by (with_reducible repeat (first | apply Kd.R_alloc | apply Kd.R_drewN | apply Kd.R_drew)); exact (Kd.R_mono (Kd.R_far (p := ⟨gb518, 1, none⟩) (Kd.R_far (p := ⟨gb518, 0, none⟩) (Kd.R_types HO_23.out BK518.out (by decide)) (fun _ hk => hk.2) (.int .i64 ((rd_T46 t492 x205_3).f0))) (fun _ hk => hk.2) (.int .i64 ((rd_T46 t492 x205_3).f1))) (fun _ h_ => h_.1)))); (case side2 => exact (Kd.R_reads' HO_23.out).2.1); rintro e w' ⟨rfl, ⟨nd, rfl⟩⟩; refine ⟨_, rfl, ?_⟩))
                                            go_roundg k3
                                            case measure => have := HJ8.out; have := HJ66.out; have := HK3.out; omega
                                            case rel => exact ⟨(wrap64 (x205_3 + 1)), (by first | rfl | (simp; done) | (simp [*]; done)), H', ⟨by have := HJ8.out; have := HJ66.out; have := HK3.out; omega⟩, ⟨by (with_reducible repeat (first | apply Kd.Q_alloc | apply Kd.Q_drewN | apply Kd.Q_drew)); exact Kd.Q_mono (Kd.Q_far (p := ⟨gb518, 1, none⟩) (Kd.Q_far (p := ⟨gb518, 0, none⟩) (Kd.Q_mono HO_22.out (fun k_ hk => (⟨hk, hk.2⟩ : _ ∧ k_ ≠ gb518))) (fun _ hk => hk.2) (.int .i64 ((rd_T46 t492 x205_3).f0))) (fun _ hk => hk.2) (.int .i64 ((rd_T46 t492 x205_3).f1))) (fun _ hk => ⟨hk.1.1.1, hk.1.1.2⟩)⟩, ⟨by (with_reducible repeat (first | apply Kd.R_alloc | apply Kd.R_drewN | apply Kd.R_drew)); exact Kd.R_mono (Kd.R_far (p := ⟨gb518, 1, none⟩) (Kd.R_far (p := ⟨gb518, 0, none⟩) (Kd.R_types HO_23.out BK518.out (by decide)) (fun _ hk => hk.2) (.int .i64 ((rd_T46 t492 x205_3).f0))) (fun _ hk => hk.2) (.int .i64 ((rd_T46 t492 x205_3).f1))) (fun _ hk => trivial)⟩, ⟨by (with_reducible repeat (first | refine blk_drewN ?_ _ | refine blk_drew ?_ | refine blk_alloc ?_ _)); refine blk_far ?_ NB460_518.out _; (with_reducible repeat (first | refine blk_drewN ?_ _ | refine blk_drew ?_ | refine blk_alloc ?_ _)); refine blk_far ?_ NB460_518.out _; (with_reducible repeat (first | refine blk_drewN ?_ _ | refine blk_drew ?_ | refine blk_alloc ?_ _)); exact BK460.out⟩, ⟨by (with_reducible repeat (first | refine blk_drewN ?_ _ | refine blk_drew ?_ | refine blk_alloc ?_ _)); refine blk_far ?_ NB464_518.out _; (with_reducible repeat (first | refine blk_drewN ?_ _ | refine blk_drew ?_ | refine blk_alloc ?_ _)); refine blk_far ?_ NB464_518.out _; (with_reducible repeat (first | refine blk_drewN ?_ _ | refine blk_drew ?_ | refine blk_alloc ?_ _)); exact BK464.out⟩, ⟨by repeat (first | (with_reducible first | exact HB.out | apply below_alloc | apply pw_below_drewN | apply below_drew1 | refine below_set ?_ GE460.out | refine below_set ?_ GE464.out | refine below_set ?_ GE518.out) | exact HB.out)⟩⟩
                                          · rw [if_neg c95] at H
                                            have c95b0 : (t519 == ((rd_T46 t492 x205_3).f1)) = false := beq_eq_false_iff_ne.mpr c95
                                            have c95b1 : (t519 != ((rd_T46 t492 x205_3).f1)) = true := bne_iff_ne.mpr c95
                                            obtain rfl := Option.some.inj H
                                            exact absurd hr_.out (by simp)
                                        · replace c94 := Bool.eq_false_iff.mpr c94
                                          subst c94
                                          have H1 : (some false) = some r := by rw [if_neg (show ¬ (false = true) by decide)] at H; exact H
                                          clear H
                                          have H := H1
                                          clear H1
                                          obtain rfl := Option.some.inj H
                                          exact absurd hr_.out (by simp)
                                      · rw [if_neg c92] at H
                                        exact absurd H (by simp)
                                    · rw [if_neg c91] at H
                                      exact absurd H (by simp)
                                  · rw [if_neg c90] at H
                                    have c90b0 : decide (x205_3 < (t492.length : Int)) = false := decide_eq_false c90
                                    clear c90
                                    obtain rfl := Option.some.inj H
                                    simp only [Option.some.injEq, Prod.mk.injEq] at H
                                    obtain ⟨rfl⟩ := H
                                    go_wp2
                                    go_ret
                                    exact ⟨by first | rfl | (simp [errW_none, errW_some] <;> rfl) | (simp [*, errW_none, errW_some] <;> rfl), by repeat (first | (with_reducible first | exact HB.out | apply below_alloc | apply pw_below_drewN | apply below_drew1 | refine below_set ?_ GE460.out | refine below_set ?_ GE464.out) | exact HB.out)⟩
                            · replace c89 := Bool.eq_false_iff.mpr c89
                              subst c89
                              have H1 : (some true) = some r := by rw [if_neg (show ¬ (false = true) by decide)] at H; exact H
                              clear H
                              have H := H1
                              clear H1
                              obtain rfl := Option.some.inj H
                              simp only [Option.some.injEq, Prod.mk.injEq] at H
                              obtain ⟨rfl⟩ := H
                              go_wp2
                              go_ret
                              exact ⟨by first | rfl | (simp [errW_none, errW_some] <;> rfl) | (simp [*, errW_none, errW_some] <;> rfl), by repeat (first | (with_reducible first | exact HB.out | apply below_alloc | apply pw_below_drewN | apply below_drew1 | refine below_set ?_ GE460.out | refine below_set ?_ GE464.out) | exact HB.out)⟩
                      · replace c66 := Bool.eq_false_iff.mpr c66
                        subst c66
                        have H1 : (some false) = some r := by rw [if_neg (show ¬ (false = true) by decide)] at H; exact H
                        clear H
                        have H := H1
                        clear H1
                        obtain rfl := Option.some.inj H
                        exact absurd hr_.out (by simp)
                  · replace c63 := Bool.eq_false_iff.mpr c63
                    subst c63
                    have H1 : (some false) = some r := by rw [if_neg (show ¬ (false = true) by decide)] at H; exact H
                    clear H
                    have H := H1
                    clear H1
                    obtain rfl := Option.some.inj H
                    exact absurd hr_.out (by simp)
              · rw [if_neg c60] at H
                have c60b0 : (t488 == t490) = false := beq_eq_false_iff_ne.mpr c60
                have c60b1 : (t488 != t490) = true := bne_iff_ne.mpr c60
                obtain rfl := Option.some.inj H
                exact absurd hr_.out (by simp)

/-- THE ONE PURE STATEMENT of laws_FnHidden: yours. -/
def laws_FnHidden.Pure : Prop := ∀ (l0 : List Int) (l1 : List Int), l0.length ≤ maxLen → l0.length * 1 ≤ 140737488351232 → (∀ x ∈ l0, (Lit.int .u8 x).wf = true) → l1.length ≤ maxLen → l1.length * 1 ≤ 140737488351232 → (∀ x ∈ l1, (Lit.int .u8 x).wf = true) → ∃ k, laws_FnHidden.f k l0 l1 = some true
theorem laws_FnHidden.walk (P : laws_FnHidden.Pure) (a0 : Option Addr) (len0 cap0 : Nat) (z0 : List Int) (a1 : Option Addr) (len1 cap1 : Nat) (z1 : List Int) (w : World) (w0 : (a0 = none ∧ len0 = 0 ∧ cap0 = 0 ∧ z0 = []) ∨ ∃ x, a0 = some x ∧ len0 ≤ cap0 ∧ cap0 ≤ maxLen ∧ z0.length = cap0 ∧ (∀ i, i < z0.length → w.cell? (x.add i) = some (.int .u8 (z0.getD i 0))) ∧ ∀ n ∈ z0, (Lit.int .u8 n).wf = true) (y0 : len0 * 1 ≤ 140737488351232) (w1 : (a1 = none ∧ len1 = 0 ∧ cap1 = 0 ∧ z1 = []) ∨ ∃ x, a1 = some x ∧ len1 ≤ cap1 ∧ cap1 ≤ maxLen ∧ z1.length = cap1 ∧ (∀ i, i < z1.length → w.cell? (x.add i) = some (.int .u8 (z1.getD i 0))) ∧ ∀ n ∈ z1, (Lit.int .u8 n).wf = true) (y1 : len1 * 1 ≤ 140737488351232) :
    Calls Try.prog 4 #[.slice a0 len0 cap0, .slice a1 len1 cap1] w fun e w' => e = .returned (.bool true) ∧ Below w.heap.size w w' := by
  obtain ⟨l0, rfl, hr0, hm0, hw0, hc0⟩ := ReadsInt.ofRowC w0
  obtain ⟨l1, rfl, hr1, hm1, hw1, hc1⟩ := ReadsInt.ofRowC w1
  obtain ⟨k, h⟩ := P l0 l1 hm0 y0 hw0 hm1 y1 hw1
  refine (laws_FnHidden.calls k _ _ l0 _ _ l1 true w (Kd.C_of_reads (d := (0 : Int)) (h1 := fun _ => rfl) hr0) hc0 (Kd.C_of_reads (d := (0 : Int)) (h1 := fun _ => rfl) hr1) hc1 h ⟨rfl⟩).mono ?_
  rintro e w' ⟨rfl, hd⟩
  exact ⟨rfl, hd⟩

end Go.Proofs.Ytdobjdkjflnpmaa.PFnHidden
