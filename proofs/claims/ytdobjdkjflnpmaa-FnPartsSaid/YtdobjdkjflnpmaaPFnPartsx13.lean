-- Written by a program of this session, after the kit's print (changed in some places; see NOTES.md). Lean checks it.
import Derived.Test.YtdobjdkjflnpmaaPFnPartsx0
import Derived.Test.YtdobjdkjflnpmaaPFnPartsx2
import Derived.Test.YtdobjdkjflnpmaaPFnPartsx3
import Derived.Test.YtdobjdkjflnpmaaPFnPartsx4
import Derived.Test.YtdobjdkjflnpmaaPFnPartsx5
import Derived.Test.YtdobjdkjflnpmaaPFnPartsx6
import Derived.Test.YtdobjdkjflnpmaaPFnPartsx7
import Derived.Test.YtdobjdkjflnpmaaPFnPartsx9
import Derived.Test.YtdobjdkjflnpmaaPFnPartsx11
import Derived.Test.YtdobjdkjflnpmaaPFnPartsx12
namespace Go.Proofs.Ytdobjdkjflnpmaa.PFnParts
open Go.RowKit Go.Proofs.YtdobjdkjflnpmaaW.PrintWords Go.Proofs.YtdobjdkjflnpmaaW.PrintLast Go.Proofs.YtdobjdkjflnpmaaW.PrintMore
attribute [local go_sem] max2_int min2_int max_two min_two max_three min_three max_four min_four   -- for this text's walks alone
set_option linter.unusedVariables false
set_option linter.unusedSimpArgs false

/-! ### laws_FnParts: function 3 -/
mutual
def laws_FnParts.j0 : Nat → List Int → List Int → List Int → List (S46) → Bool → Option (Bool)
  | 0, _, _, _, _, _ => none
  | k + 1, x0, x1, x5, x7, x84 => if x84 = true then ((laws_numberOf.f k x1).bind fun t437 => (if (wrap64 ((wrap64 ((x7.length : Int) - (x5.length : Int))) + 1)) = 0 then (none) else (if 0 ≤ (Int.tmod t437 (wrap64 ((wrap64 ((x7.length : Int) - (x5.length : Int))) + 1))) then (if (Int.tmod t437 (wrap64 ((wrap64 ((x7.length : Int) - (x5.length : Int))) + 1))) ≤ (wrap64 ((Int.tmod t437 (wrap64 ((wrap64 ((x7.length : Int) - (x5.length : Int))) + 1))) + (x5.length : Int))) then (if (wrap64 ((Int.tmod t437 (wrap64 ((wrap64 ((x7.length : Int) - (x5.length : Int))) + 1))) + (x5.length : Int))) ≤ (x7.length : Int) then ((some ((x7.take ((wrap64 ((Int.tmod t437 (wrap64 ((wrap64 ((x7.length : Int) - (x5.length : Int))) + 1))) + (x5.length : Int))) : Int).toNat).drop ((Int.tmod t437 (wrap64 ((wrap64 ((x7.length : Int) - (x5.length : Int))) + 1))) : Int).toNat : List (S46))).bind fun y438 => ((impl_JoinParts.f k y438).bind fun bt442 => ((impl_PolyThrough.f k y438).bind fun bt444 => (if bt442.2 = true then (if 0 < (x5.length : Int) then (if bt442.1 = (rd x5 0) then (if bt444.2 = true then ((laws_sameInts.f k bt444.1 x5).bind fun t449 => (if t449 = true then ((laws_numberOf.f k x0).bind fun t450 => ((impl_ValueAt.f k x5 (Int.tmod t450 1499)).bind fun bt451 => ((impl_ThroughParts.f k y438 (Int.tmod t450 1499)).bind fun bt453 => (if bt451.2 = true then (if bt453.2 = true then (if bt451.1 = bt453.1 then (laws_FnParts.j1 k x1) else (some false)) else (some false)) else (some false))))) else (some false))) else (some false)) else (some false)) else (none)) else (some false))))) else (none)) else (none)) else (none)))) else (laws_FnParts.j1 k x1)
def laws_FnParts.j1 : Nat → List Int → Option (Bool)
  | 0, _ => none
  | k + 1, x1 => (spec_DrawAddParts.f k x1).bind fun bt455 => ((impl_AddParts.f k bt455.1 bt455.2).bind fun bt461 => ((spec_AddParts.f k bt455.1 bt455.2).bind fun bt465 => (if (bt461.2 != bt465.2) = true then (some false) else ((laws_sameParts.f k bt461.1 bt465.1).bind fun t469 => (if t469 = true then (if bt461.2 = true then ((impl_JoinParts.f k bt455.1).bind fun bt470 => ((impl_JoinParts.f k bt455.2).bind fun bt472 => ((impl_JoinParts.f k bt461.1).bind fun bt474 => (if bt470.2 = true then (if bt472.2 = true then (if bt474.2 = true then (if bt474.1 = (Int.tmod (wrap64 (bt470.1 + bt472.1)) 1499) then (laws_FnParts.j2 k x1) else (some false)) else (some false)) else (some false)) else (some false))))) else (laws_FnParts.j2 k x1)) else (some false))))))
def laws_FnParts.j2 : Nat → List Int → Option (Bool)
  | 0, _ => none
  | k + 1, x1 => (spec_DrawValueAt.f k x1).bind fun bt476 => ((impl_ValueAt.f k bt476.1 bt476.2).bind fun bt480 => ((spec_ValueAt.f k bt476.1 bt476.2).bind fun bt482 => ((spec_DrawJoinParts.f k x1).bind fun t484 => ((impl_JoinParts.f k t484).bind fun bt487 => ((spec_JoinParts.f k t484).bind fun bt489 => (if (bt480.2 == bt482.2) = true then (if bt480.1 = bt482.1 then (if (bt487.2 == bt489.2) = true then (some (bt487.1 == bt489.1)) else (some false)) else (some false)) else (some false)))))))
end
def laws_FnParts.f (k : Nat) (l0 : List Int) (l1 : List Int) : Option (Bool) := if (wrap64 ((l0.length : Int) + (l1.length : Int))) > 1048576 then (some true) else ((spec_DrawSplitSecret.f k l0).bind fun bt424 => ((impl_SplitSecret.f k bt424.1 bt424.2).bind fun bt428 => ((spec_SplitSecret.f k bt424.1 bt424.2).bind fun bt432 => (if (bt428.2 != bt432.2) = true then (some false) else ((laws_sameParts.f k bt428.1 bt432.1).bind fun t436 => (if t436 = true then (if bt428.2 = true then (laws_FnParts.j0 k l0 l1 bt424.1 bt428.1 (decide ((bt428.1.length : Int) ≥ (bt424.1.length : Int)))) else (laws_FnParts.j0 k l0 l1 bt424.1 bt428.1 false)) else (some false)))))))
theorem laws_FnParts.mono_l : ∀ k, (∀ y0 y1 y2 y3 y4, LeO (laws_FnParts.j0 k y0 y1 y2 y3 y4) (laws_FnParts.j0 (k + 1) y0 y1 y2 y3 y4)) ∧ (∀ y0, LeO (laws_FnParts.j1 k y0) (laws_FnParts.j1 (k + 1) y0)) ∧ (∀ y0, LeO (laws_FnParts.j2 k y0) (laws_FnParts.j2 (k + 1) y0))
  | 0 => ⟨fun _ _ _ _ _ r h => by simp [laws_FnParts.j0] at h, fun _ r h => by simp [laws_FnParts.j1] at h, fun _ r h => by simp [laws_FnParts.j2] at h⟩
  | k + 1 => by
    obtain ⟨ih0, ih1, ih2⟩ := laws_FnParts.mono_l k
    refine ⟨?_, ?_, ?_⟩
    · intro y0 y1 y2 y3 y4
      unfold laws_FnParts.j0
      repeat' first
      | (with_reducible exact ih0 _ _ _ _ _)
      | (with_reducible exact ih1 _)
      | (with_reducible exact ih2 _)
      | (with_reducible exact impl_AddParts.mono _ _ _)
      | (with_reducible exact impl_JoinParts.mono _ _)
      | (with_reducible exact impl_PolyThrough.mono _ _)
      | (with_reducible exact impl_SplitSecret.mono _ _ _)
      | (with_reducible exact impl_ThroughParts.mono _ _ _)
      | (with_reducible exact impl_ValueAt.mono _ _ _)
      | (with_reducible exact laws_numberOf.mono _ _)
      | (with_reducible exact laws_sameInts.mono _ _ _)
      | (with_reducible exact laws_sameParts.mono _ _ _)
      | (with_reducible exact spec_AddParts.mono _ _ _)
      | (with_reducible exact spec_DrawAddParts.mono _ _)
      | (with_reducible exact spec_DrawJoinParts.mono _ _)
      | (with_reducible exact spec_DrawSplitSecret.mono _ _)
      | (with_reducible exact spec_DrawValueAt.mono _ _)
      | (with_reducible exact spec_JoinParts.mono _ _)
      | (with_reducible exact spec_SplitSecret.mono _ _ _)
      | (with_reducible exact spec_ValueAt.mono _ _ _)
      | (with_reducible exact LeO.refl _)
      | (with_reducible exact LeO.none _)
      | (with_reducible refine LeO.ite ?_ ?_)
      | (with_reducible refine LeO.bind ?_ (fun _ => ?_))
      | exact ih0 _ _ _ _ _
      | exact ih1 _
      | exact ih2 _
      | exact impl_AddParts.mono _ _ _
      | exact impl_JoinParts.mono _ _
      | exact impl_PolyThrough.mono _ _
      | exact impl_SplitSecret.mono _ _ _
      | exact impl_ThroughParts.mono _ _ _
      | exact impl_ValueAt.mono _ _ _
      | exact laws_numberOf.mono _ _
      | exact laws_sameInts.mono _ _ _
      | exact laws_sameParts.mono _ _ _
      | exact spec_AddParts.mono _ _ _
      | exact spec_DrawAddParts.mono _ _
      | exact spec_DrawJoinParts.mono _ _
      | exact spec_DrawSplitSecret.mono _ _
      | exact spec_DrawValueAt.mono _ _
      | exact spec_JoinParts.mono _ _
      | exact spec_SplitSecret.mono _ _ _
      | exact spec_ValueAt.mono _ _ _
      | exact LeO.none _
      | refine LeO.ite ?_ ?_
      | refine LeO.bind ?_ (fun _ => ?_)
    · intro y0
      unfold laws_FnParts.j1
      repeat' first
      | (with_reducible exact ih0 _ _ _ _ _)
      | (with_reducible exact ih1 _)
      | (with_reducible exact ih2 _)
      | (with_reducible exact impl_AddParts.mono _ _ _)
      | (with_reducible exact impl_JoinParts.mono _ _)
      | (with_reducible exact impl_PolyThrough.mono _ _)
      | (with_reducible exact impl_SplitSecret.mono _ _ _)
      | (with_reducible exact impl_ThroughParts.mono _ _ _)
      | (with_reducible exact impl_ValueAt.mono _ _ _)
      | (with_reducible exact laws_numberOf.mono _ _)
      | (with_reducible exact laws_sameInts.mono _ _ _)
      | (with_reducible exact laws_sameParts.mono _ _ _)
      | (with_reducible exact spec_AddParts.mono _ _ _)
      | (with_reducible exact spec_DrawAddParts.mono _ _)
      | (with_reducible exact spec_DrawJoinParts.mono _ _)
      | (with_reducible exact spec_DrawSplitSecret.mono _ _)
      | (with_reducible exact spec_DrawValueAt.mono _ _)
      | (with_reducible exact spec_JoinParts.mono _ _)
      | (with_reducible exact spec_SplitSecret.mono _ _ _)
      | (with_reducible exact spec_ValueAt.mono _ _ _)
      | (with_reducible exact LeO.refl _)
      | (with_reducible exact LeO.none _)
      | (with_reducible refine LeO.ite ?_ ?_)
      | (with_reducible refine LeO.bind ?_ (fun _ => ?_))
      | exact ih0 _ _ _ _ _
      | exact ih1 _
      | exact ih2 _
      | exact impl_AddParts.mono _ _ _
      | exact impl_JoinParts.mono _ _
      | exact impl_PolyThrough.mono _ _
      | exact impl_SplitSecret.mono _ _ _
      | exact impl_ThroughParts.mono _ _ _
      | exact impl_ValueAt.mono _ _ _
      | exact laws_numberOf.mono _ _
      | exact laws_sameInts.mono _ _ _
      | exact laws_sameParts.mono _ _ _
      | exact spec_AddParts.mono _ _ _
      | exact spec_DrawAddParts.mono _ _
      | exact spec_DrawJoinParts.mono _ _
      | exact spec_DrawSplitSecret.mono _ _
      | exact spec_DrawValueAt.mono _ _
      | exact spec_JoinParts.mono _ _
      | exact spec_SplitSecret.mono _ _ _
      | exact spec_ValueAt.mono _ _ _
      | exact LeO.none _
      | refine LeO.ite ?_ ?_
      | refine LeO.bind ?_ (fun _ => ?_)
    · intro y0
      unfold laws_FnParts.j2
      repeat' first
      | (with_reducible exact ih0 _ _ _ _ _)
      | (with_reducible exact ih1 _)
      | (with_reducible exact ih2 _)
      | (with_reducible exact impl_AddParts.mono _ _ _)
      | (with_reducible exact impl_JoinParts.mono _ _)
      | (with_reducible exact impl_PolyThrough.mono _ _)
      | (with_reducible exact impl_SplitSecret.mono _ _ _)
      | (with_reducible exact impl_ThroughParts.mono _ _ _)
      | (with_reducible exact impl_ValueAt.mono _ _ _)
      | (with_reducible exact laws_numberOf.mono _ _)
      | (with_reducible exact laws_sameInts.mono _ _ _)
      | (with_reducible exact laws_sameParts.mono _ _ _)
      | (with_reducible exact spec_AddParts.mono _ _ _)
      | (with_reducible exact spec_DrawAddParts.mono _ _)
      | (with_reducible exact spec_DrawJoinParts.mono _ _)
      | (with_reducible exact spec_DrawSplitSecret.mono _ _)
      | (with_reducible exact spec_DrawValueAt.mono _ _)
      | (with_reducible exact spec_JoinParts.mono _ _)
      | (with_reducible exact spec_SplitSecret.mono _ _ _)
      | (with_reducible exact spec_ValueAt.mono _ _ _)
      | (with_reducible exact LeO.refl _)
      | (with_reducible exact LeO.none _)
      | (with_reducible refine LeO.ite ?_ ?_)
      | (with_reducible refine LeO.bind ?_ (fun _ => ?_))
      | exact ih0 _ _ _ _ _
      | exact ih1 _
      | exact ih2 _
      | exact impl_AddParts.mono _ _ _
      | exact impl_JoinParts.mono _ _
      | exact impl_PolyThrough.mono _ _
      | exact impl_SplitSecret.mono _ _ _
      | exact impl_ThroughParts.mono _ _ _
      | exact impl_ValueAt.mono _ _ _
      | exact laws_numberOf.mono _ _
      | exact laws_sameInts.mono _ _ _
      | exact laws_sameParts.mono _ _ _
      | exact spec_AddParts.mono _ _ _
      | exact spec_DrawAddParts.mono _ _
      | exact spec_DrawJoinParts.mono _ _
      | exact spec_DrawSplitSecret.mono _ _
      | exact spec_DrawValueAt.mono _ _
      | exact spec_JoinParts.mono _ _
      | exact spec_SplitSecret.mono _ _ _
      | exact spec_ValueAt.mono _ _ _
      | exact LeO.none _
      | refine LeO.ite ?_ ?_
      | refine LeO.bind ?_ (fun _ => ?_)
theorem laws_FnParts.mono : ∀ a0 a1 k, LeO (laws_FnParts.f k a0 a1) (laws_FnParts.f (k + 1) a0 a1) := by
  intro a0 a1 k
  obtain ⟨ih0, ih1, ih2⟩ := laws_FnParts.mono_l k
  unfold laws_FnParts.f
  repeat' first
      | (with_reducible exact ih0 _ _ _ _ _)
      | (with_reducible exact ih1 _)
      | (with_reducible exact ih2 _)
      | (with_reducible exact impl_AddParts.mono _ _ _)
      | (with_reducible exact impl_JoinParts.mono _ _)
      | (with_reducible exact impl_PolyThrough.mono _ _)
      | (with_reducible exact impl_SplitSecret.mono _ _ _)
      | (with_reducible exact impl_ThroughParts.mono _ _ _)
      | (with_reducible exact impl_ValueAt.mono _ _ _)
      | (with_reducible exact laws_numberOf.mono _ _)
      | (with_reducible exact laws_sameInts.mono _ _ _)
      | (with_reducible exact laws_sameParts.mono _ _ _)
      | (with_reducible exact spec_AddParts.mono _ _ _)
      | (with_reducible exact spec_DrawAddParts.mono _ _)
      | (with_reducible exact spec_DrawJoinParts.mono _ _)
      | (with_reducible exact spec_DrawSplitSecret.mono _ _)
      | (with_reducible exact spec_DrawValueAt.mono _ _)
      | (with_reducible exact spec_JoinParts.mono _ _)
      | (with_reducible exact spec_SplitSecret.mono _ _ _)
      | (with_reducible exact spec_ValueAt.mono _ _ _)
      | (with_reducible exact LeO.refl _)
      | (with_reducible exact LeO.none _)
      | (with_reducible refine LeO.ite ?_ ?_)
      | (with_reducible refine LeO.bind ?_ (fun _ => ?_))
      | exact ih0 _ _ _ _ _
      | exact ih1 _
      | exact ih2 _
      | exact impl_AddParts.mono _ _ _
      | exact impl_JoinParts.mono _ _
      | exact impl_PolyThrough.mono _ _
      | exact impl_SplitSecret.mono _ _ _
      | exact impl_ThroughParts.mono _ _ _
      | exact impl_ValueAt.mono _ _ _
      | exact laws_numberOf.mono _ _
      | exact laws_sameInts.mono _ _ _
      | exact laws_sameParts.mono _ _ _
      | exact spec_AddParts.mono _ _ _
      | exact spec_DrawAddParts.mono _ _
      | exact spec_DrawJoinParts.mono _ _
      | exact spec_DrawSplitSecret.mono _ _
      | exact spec_DrawValueAt.mono _ _
      | exact spec_JoinParts.mono _ _
      | exact spec_SplitSecret.mono _ _ _
      | exact spec_ValueAt.mono _ _ _
      | exact LeO.none _
      | refine LeO.ite ?_ ?_
      | refine LeO.bind ?_ (fun _ => ?_)
set_option maxHeartbeats 8000000 in
set_option maxRecDepth 100000 in
theorem laws_FnParts.calls (k : Nat) (A0 : Option Addr) (c0 : Nat) (l0 : List Int) (A1 : Option Addr) (c1 : Nat) (l1 : List Int) (r : Bool) (w : World) (hr0 : Kd.C (Kd.int .u8) w A0 l0.length l0) (hc0 : l0.length ≤ c0) (hr1 : Kd.C (Kd.int .u8) w A1 l1.length l1) (hc1 : l1.length ≤ c1) (h : laws_FnParts.f k l0 l1 = some r) (hr_ : Aside0 (r = true)) :
    Calls Try.prog 3 #[.slice A0 l0.length c0, .slice A1 l1.length c1] w fun e w' => e = .returned (.bool r) ∧ Below w.heap.size w w' := by
  have HR0 := Aside0.mk hr0
  have HC0 := Aside0.mk hc0
  clear hr0 hc0
  have HR1 := Aside0.mk hr1
  have HC1 := Aside0.mk hc1
  clear hr1 hc1
  have HB := Aside0.mk (Below.refl w.heap.size w)
  have H : (if (wrap64 ((l0.length : Int) + (l1.length : Int))) > 1048576 then (some true) else ((spec_DrawSplitSecret.f k l0).bind fun bt424 => ((impl_SplitSecret.f k bt424.1 bt424.2).bind fun bt428 => ((spec_SplitSecret.f k bt424.1 bt424.2).bind fun bt432 => (if (bt428.2 != bt432.2) = true then (some false) else ((laws_sameParts.f k bt428.1 bt432.1).bind fun t436 => (if t436 = true then (if bt428.2 = true then (laws_FnParts.j0 k l0 l1 bt424.1 bt428.1 (decide ((bt428.1.length : Int) ≥ (bt424.1.length : Int)))) else (laws_FnParts.j0 k l0 l1 bt424.1 bt428.1 false)) else (some false)))))))) = some r := h
  clear h
  by_cases c3 : (wrap64 ((l0.length : Int) + (l1.length : Int))) > 1048576
  · rw [if_pos c3] at H
    have c3b0 : decide (1048576 < (wrap64 ((l0.length : Int) + (l1.length : Int)))) = true := decide_eq_true c3
    clear c3
    obtain rfl := Option.some.inj H
    simp only [Option.some.injEq, Prod.mk.injEq] at H
    obtain ⟨rfl⟩ := H
    go_enter Try.func3, Try.ntmps3
    go_wp2
    go_ret
    exact ⟨by first | rfl | (simp [errW_none, errW_some] <;> rfl) | (simp [*, errW_none, errW_some] <;> rfl), by repeat (first | (with_reducible first | exact HB.out | apply below_alloc | apply pw_below_drewN | apply below_drew1) | exact HB.out)⟩
  · rw [if_neg c3] at H
    have c3b0 : decide (1048576 < (wrap64 ((l0.length : Int) + (l1.length : Int)))) = false := decide_eq_false c3
    clear c3
    replace H := Option.bind_eq_some_iff.mp H
    obtain ⟨⟨t424, t425⟩, A40, H⟩ := H
    replace H : ((impl_SplitSecret.f k t424 t425).bind fun bt428 => ((spec_SplitSecret.f k t424 t425).bind fun bt432 => (if (bt428.2 != bt432.2) = true then (some false) else ((laws_sameParts.f k bt428.1 bt432.1).bind fun t436 => (if t436 = true then (if bt428.2 = true then (laws_FnParts.j0 k l0 l1 t424 bt428.1 (decide ((bt428.1.length : Int) ≥ (t424.length : Int)))) else (laws_FnParts.j0 k l0 l1 t424 bt428.1 false)) else (some false)))))) = some r := H
    have A4 := Aside0.mk A40
    clear A40
    replace H := Option.bind_eq_some_iff.mp H
    obtain ⟨⟨t428, t429⟩, A50, H⟩ := H
    replace H : ((spec_SplitSecret.f k t424 t425).bind fun bt432 => (if (t429 != bt432.2) = true then (some false) else ((laws_sameParts.f k t428 bt432.1).bind fun t436 => (if t436 = true then (if t429 = true then (laws_FnParts.j0 k l0 l1 t424 t428 (decide ((t428.length : Int) ≥ (t424.length : Int)))) else (laws_FnParts.j0 k l0 l1 t424 t428 false)) else (some false))))) = some r := H
    have A5 := Aside0.mk A50
    clear A50
    replace H := Option.bind_eq_some_iff.mp H
    obtain ⟨⟨t432, t433⟩, A60, H⟩ := H
    replace H : (if (t429 != t433) = true then (some false) else ((laws_sameParts.f k t428 t432).bind fun t436 => (if t436 = true then (if t429 = true then (laws_FnParts.j0 k l0 l1 t424 t428 (decide ((t428.length : Int) ≥ (t424.length : Int)))) else (laws_FnParts.j0 k l0 l1 t424 t428 false)) else (some false)))) = some r := H
    have A6 := Aside0.mk A60
    clear A60
    by_cases c7 : (t429 != t433) = true
    · rw [if_pos c7] at H
      have c7b0 : (t429 != t433) = true := c7
      (try (have c7b1 : decide (t429 = t433) = false := by simpa using c7))
      (try (have c7b2 : (t429 == t433) = false := by simpa using c7))
      (try (have c7b3 : ¬ (t429 = t433) := by simpa using c7))
      clear c7
      obtain rfl := Option.some.inj H
      exact absurd hr_.out (by simp)
    · rw [if_neg c7] at H
      have c7b0 : (t429 != t433) = false := by simpa using c7
      (try (have c7b1 : decide (t429 = t433) = true := by simpa using c7))
      (try (have c7b2 : (t429 == t433) = true := by simpa using c7))
      clear c7
      replace H := Option.bind_eq_some_iff.mp H
      obtain ⟨t436, A80, H⟩ := H
      replace H : (if t436 = true then (if t429 = true then (laws_FnParts.j0 k l0 l1 t424 t428 (decide ((t428.length : Int) ≥ (t424.length : Int)))) else (laws_FnParts.j0 k l0 l1 t424 t428 false)) else (some false)) = some r := H
      have A8 := Aside0.mk A80
      clear A80
      by_cases c9 : t436 = true
      · subst c9
        have H1 : (if t429 = true then (laws_FnParts.j0 k l0 l1 t424 t428 (decide ((t428.length : Int) ≥ (t424.length : Int)))) else (laws_FnParts.j0 k l0 l1 t424 t428 false)) = some r := by rw [if_pos rfl] at H; exact H
        clear H
        have H := H1
        clear H1
        have HC10 := Aside0.mk H
        clear H
        go_enter Try.func3, Try.ntmps3
        go_upto_region 8 with (first | ((with_reducible refine gate_callee (f := 5) rfl ?_); refine goesL_ (some 53) rfl rfl Try.func5 (by kernel_rfl) rfl #[.slice A0 l0.length c0] rfl (by (try simp only [List.map_toArray, List.map_cons, List.map_nil]); first | done | rfl | (simp only [List.length_drop, List.length_take]; rfl)) ?_; (with_reducible refine (spec_DrawSplitSecret.calls k _ _ l0 t424 t425 _ ?side1 ?side2 A4.out).mono ?_); (case side1 => repeat (first | exact HR0.out | (with_reducible refine Kd.C_alloc ?_ _) | (with_reducible refine Kd.C_drewN ?_ _) | (with_reducible refine Kd.C_drew ?_))); (case side2 => exact HC0.out); rintro e w11 ⟨v426, rfl, ho0, hb⟩; refine ⟨_, rfl, ?_⟩; have n0_ := Aside0.mk (Kd.R_lower ho0 (below_size (by repeat (first | (with_reducible first | exact HB.out | apply below_alloc | apply pw_below_drewN | apply below_drew1) | exact HB.out)))); have n1_ := Aside0.mk (below_step (by repeat (first | (with_reducible first | exact HB.out | apply below_alloc | apply pw_below_drewN | apply below_drew1) | exact HB.out)) hb); clear HB; have HO427 := n0_; have HB := n1_; clear n0_ n1_; (try clear hb); (try clear hb2); (try clear hk); (try clear hi); (try clear ho0); obtain ⟨Ao12, co12, eo12⟩ := Kd.R_slice HO427.out; subst eo12) | ((with_reducible refine gate_callee (f := 6) rfl ?_); refine goesL_ (some 59) rfl rfl Try.func6 (by kernel_rfl) rfl #[.slice Ao12 t424.length co12, .int .i64 t425] rfl (by (try simp only [List.map_toArray, List.map_cons, List.map_nil]); first | done | rfl | (simp only [List.length_drop, List.length_take]; rfl)) ?_; (with_reducible refine (impl_SplitSecret.calls k _ _ t424 t425 t428 t429 _ ?side1 ?side2 A5.out).mono ?_); (case side1 => repeat (first | exact (Kd.R_reads' HO427.out).2.2 | (with_reducible refine Kd.C_alloc ?_ _) | (with_reducible refine Kd.C_drewN ?_ _) | (with_reducible refine Kd.C_drew ?_))); (case side2 => exact (Kd.R_reads' HO427.out).2.1); rintro e w13 ⟨v430, rfl, ho0, hb⟩; refine ⟨_, rfl, ?_⟩; have n0_ := Aside0.mk (Kd.R_below (by (with_reducible repeat (first | apply Kd.R_alloc | apply Kd.R_drewN | apply Kd.R_drew)); exact HO427.out) hb); have n1_ := Aside0.mk (Kd.R_lower ho0 (below_size (by repeat (first | (with_reducible first | exact HB.out | apply below_alloc | apply pw_below_drewN | apply below_drew1) | exact HB.out)))); have n2_ := Aside0.mk (below_step (by repeat (first | (with_reducible first | exact HB.out | apply below_alloc | apply pw_below_drewN | apply below_drew1) | exact HB.out)) hb); clear HO427; clear HB; have HO427 := n0_; have HO431 := n1_; have HB := n2_; clear n0_ n1_ n2_; (try clear hb); (try clear hb2); (try clear hk); (try clear hi); (try clear ho0)) | ((with_reducible refine gate_callee (f := 7) rfl ?_); refine goesL_ (some 65) rfl rfl Try.func7 (by kernel_rfl) rfl #[.slice Ao12 t424.length co12, .int .i64 t425] rfl (by (try simp only [List.map_toArray, List.map_cons, List.map_nil]); first | done | rfl | (simp only [List.length_drop, List.length_take]; rfl)) ?_; (with_reducible refine (spec_SplitSecret.calls k _ _ t424 t425 t432 t433 _ ?side1 ?side2 A6.out).mono ?_); (case side1 => repeat (first | exact (Kd.R_reads' HO427.out).2.2 | (with_reducible refine Kd.C_alloc ?_ _) | (with_reducible refine Kd.C_drewN ?_ _) | (with_reducible refine Kd.C_drew ?_))); (case side2 => exact (Kd.R_reads' HO427.out).2.1); rintro e w14 ⟨v434, rfl, ho0, hb⟩; refine ⟨_, rfl, ?_⟩; have n0_ := Aside0.mk (Kd.R_below (by (with_reducible repeat (first | apply Kd.R_alloc | apply Kd.R_drewN | apply Kd.R_drew)); exact HO427.out) hb); have n1_ := Aside0.mk (Kd.R_elder' (by (with_reducible repeat (first | apply Kd.R_alloc | apply Kd.R_drewN | apply Kd.R_drew)); exact HO431.out) (Kd.R_base ho0) hb); have n2_ := Aside0.mk (Kd.R_lower (Kd.R_new' ho0 (Kd.R_lt (by (with_reducible repeat (first | apply Kd.R_alloc | apply Kd.R_drewN | apply Kd.R_drew)); exact HO431.out))) (below_size (by repeat (first | (with_reducible first | exact HB.out | apply below_alloc | apply pw_below_drewN | apply below_drew1) | exact HB.out)))); have n3_ := Aside0.mk (below_step (by repeat (first | (with_reducible first | exact HB.out | apply below_alloc | apply pw_below_drewN | apply below_drew1) | exact HB.out)) hb); clear HO427; clear HO431; clear HB; have HO427 := n0_; have HO431 := n1_; have HO435 := n2_; have HB := n3_; clear n0_ n1_ n2_ n3_; (try clear hb); (try clear hb2); (try clear hk); (try clear hi); (try clear ho0); obtain ⟨Ao15, co15, eo15⟩ := Kd.R_slice HO431.out; subst eo15; obtain ⟨Ao16, co16, eo16⟩ := Kd.R_slice HO435.out; subst eo16) | (go_at_call 8; (with_reducible refine (laws_sameParts.calls k _ _ t428 _ _ t432 true _ ?side1 ?side2 ?side3 ?side4 A8.out).mono ?_); (case side1 => repeat (first | exact (Kd.R_reads' HO431.out).2.2 | (with_reducible refine Kd.C_alloc ?_ _) | (with_reducible refine Kd.C_drewN ?_ _) | (with_reducible refine Kd.C_drew ?_))); (case side2 => exact (Kd.R_reads' HO431.out).2.1); (case side3 => repeat (first | exact (Kd.R_reads' HO435.out).2.2 | (with_reducible refine Kd.C_alloc ?_ _) | (with_reducible refine Kd.C_drewN ?_ _) | (with_reducible refine Kd.C_drew ?_))); (case side4 => exact (Kd.R_reads' HO435.out).2.1); rintro e w' ⟨rfl, ⟨nd, rfl⟩⟩))
        (try simp only [Act.put, List.setIfInBounds_toArray, List.set_cons_zero, List.set_cons_succ])
        go_cut [84] from 99999 (fun v84 wc => ∃ (kq : Nat) (x84_9 : Bool), v84 = .bool x84_9 ∧ Aside0 (laws_FnParts.j0 kq l0 l1 t424 t428 x84_9 = some r) ∧ Aside0 (kq ≤ k) ∧ Aside0 (Kd.R (Kd.int .i64) 3 wc w.heap.size (fun _ => True) (.slice Ao12 t424.length co12) t424) ∧ Aside0 (Kd.R k46 46 wc w.heap.size (fun _ => True) (.slice Ao15 t428.length co15) t428) ∧ Aside0 (Below w.heap.size w wc))
        case first =>
          have H := HC10.out
          clear HC10
          by_cases c17 : t429 = true
          · subst c17
            have H1 : (laws_FnParts.j0 k l0 l1 t424 t428 (decide ((t428.length : Int) ≥ (t424.length : Int)))) = some r := by rw [if_pos rfl] at H; exact H
            clear H
            have H := H1
            clear H1
            have H' := Aside0.mk H
            clear H
            go_wp2
            go_meet
            case rel => exact ⟨_, (decide ((t428.length : Int) ≥ (t424.length : Int))), (by first | rfl | (simp; done) | (simp [*]; done)), H', ⟨by first | omega | exact Nat.le_refl _⟩, ⟨by (with_reducible repeat (first | apply Kd.R_alloc | apply Kd.R_drewN | apply Kd.R_drew)); exact HO427.out⟩, ⟨by (with_reducible repeat (first | apply Kd.R_alloc | apply Kd.R_drewN | apply Kd.R_drew)); exact Kd.R_mono HO431.out (fun _ hk => trivial)⟩, ⟨by repeat (first | (with_reducible first | exact HB.out | apply below_alloc | apply pw_below_drewN | apply below_drew1) | exact HB.out)⟩⟩
          · replace c17 := Bool.eq_false_iff.mpr c17
            subst c17
            have H1 : (laws_FnParts.j0 k l0 l1 t424 t428 false) = some r := by rw [if_neg (show ¬ (false = true) by decide)] at H; exact H
            clear H
            have H := H1
            clear H1
            have H' := Aside0.mk H
            clear H
            go_wp2
            go_meet
            case rel => exact ⟨_, (false), (by first | rfl | (simp; done) | (simp [*]; done)), H', ⟨by first | omega | exact Nat.le_refl _⟩, ⟨by (with_reducible repeat (first | apply Kd.R_alloc | apply Kd.R_drewN | apply Kd.R_drew)); exact HO427.out⟩, ⟨by (with_reducible repeat (first | apply Kd.R_alloc | apply Kd.R_drewN | apply Kd.R_drew)); exact Kd.R_mono HO431.out (fun _ hk => trivial)⟩, ⟨by repeat (first | (with_reducible first | exact HB.out | apply below_alloc | apply pw_below_drewN | apply below_drew1) | exact HB.out)⟩⟩
        case rest =>
          clear HC10
          try clear c1
          try clear p2
          try clear c3
          try clear c3b0
          try clear c5
          try clear c6
          try clear p6
          try clear c7
          try clear c7b0
          try clear c7b1
          try clear c7b2
          try clear c9
          try clear c17
          obtain ⟨kq, x84_9, rfl, HA, HJ9, HO_5, HO_7, HB⟩ := hcut
          cases kq with
          | zero => exact absurd HA.out (by simp [laws_FnParts.j0])
          | succ kj9 =>
            have H := HA.out
            clear HA
            simp only [laws_FnParts.j0] at H
            have HC18 := Aside0.mk H
            clear H
            go_upto_if 84 with (fail)
            go_cut [] from 99999 (fun wc => ∃ (kq : Nat), Aside0 (laws_FnParts.j1 kq l1 = some r) ∧ Aside0 (kq ≤ kj9) ∧ Aside0 (Below w.heap.size w wc))
            case first =>
              have H := HC18.out
              clear HC18
              by_cases c19 : x84_9 = true
              · subst c19
                have H1 : ((laws_numberOf.f kj9 l1).bind fun t437 => (if (wrap64 ((wrap64 ((t428.length : Int) - (t424.length : Int))) + 1)) = 0 then (none) else (if 0 ≤ (Int.tmod t437 (wrap64 ((wrap64 ((t428.length : Int) - (t424.length : Int))) + 1))) then (if (Int.tmod t437 (wrap64 ((wrap64 ((t428.length : Int) - (t424.length : Int))) + 1))) ≤ (wrap64 ((Int.tmod t437 (wrap64 ((wrap64 ((t428.length : Int) - (t424.length : Int))) + 1))) + (t424.length : Int))) then (if (wrap64 ((Int.tmod t437 (wrap64 ((wrap64 ((t428.length : Int) - (t424.length : Int))) + 1))) + (t424.length : Int))) ≤ (t428.length : Int) then ((some ((t428.take ((wrap64 ((Int.tmod t437 (wrap64 ((wrap64 ((t428.length : Int) - (t424.length : Int))) + 1))) + (t424.length : Int))) : Int).toNat).drop ((Int.tmod t437 (wrap64 ((wrap64 ((t428.length : Int) - (t424.length : Int))) + 1))) : Int).toNat : List (S46))).bind fun y438 => ((impl_JoinParts.f kj9 y438).bind fun bt442 => ((impl_PolyThrough.f kj9 y438).bind fun bt444 => (if bt442.2 = true then (if 0 < (t424.length : Int) then (if bt442.1 = (rd t424 0) then (if bt444.2 = true then ((laws_sameInts.f kj9 bt444.1 t424).bind fun t449 => (if t449 = true then ((laws_numberOf.f kj9 l0).bind fun t450 => ((impl_ValueAt.f kj9 t424 (Int.tmod t450 1499)).bind fun bt451 => ((impl_ThroughParts.f kj9 y438 (Int.tmod t450 1499)).bind fun bt453 => (if bt451.2 = true then (if bt453.2 = true then (if bt451.1 = bt453.1 then (laws_FnParts.j1 kj9 l1) else (some false)) else (some false)) else (some false))))) else (some false))) else (some false)) else (some false)) else (none)) else (some false))))) else (none)) else (none)) else (none)))) = some r := by rw [if_pos rfl] at H; exact H
                clear H
                have H := H1
                clear H1
                replace H := Option.bind_eq_some_iff.mp H
                obtain ⟨t437, A200, H⟩ := H
                replace H : (if (wrap64 ((wrap64 ((t428.length : Int) - (t424.length : Int))) + 1)) = 0 then (none) else (if 0 ≤ (Int.tmod t437 (wrap64 ((wrap64 ((t428.length : Int) - (t424.length : Int))) + 1))) then (if (Int.tmod t437 (wrap64 ((wrap64 ((t428.length : Int) - (t424.length : Int))) + 1))) ≤ (wrap64 ((Int.tmod t437 (wrap64 ((wrap64 ((t428.length : Int) - (t424.length : Int))) + 1))) + (t424.length : Int))) then (if (wrap64 ((Int.tmod t437 (wrap64 ((wrap64 ((t428.length : Int) - (t424.length : Int))) + 1))) + (t424.length : Int))) ≤ (t428.length : Int) then ((some ((t428.take ((wrap64 ((Int.tmod t437 (wrap64 ((wrap64 ((t428.length : Int) - (t424.length : Int))) + 1))) + (t424.length : Int))) : Int).toNat).drop ((Int.tmod t437 (wrap64 ((wrap64 ((t428.length : Int) - (t424.length : Int))) + 1))) : Int).toNat : List (S46))).bind fun y438 => ((impl_JoinParts.f kj9 y438).bind fun bt442 => ((impl_PolyThrough.f kj9 y438).bind fun bt444 => (if bt442.2 = true then (if 0 < (t424.length : Int) then (if bt442.1 = (rd t424 0) then (if bt444.2 = true then ((laws_sameInts.f kj9 bt444.1 t424).bind fun t449 => (if t449 = true then ((laws_numberOf.f kj9 l0).bind fun t450 => ((impl_ValueAt.f kj9 t424 (Int.tmod t450 1499)).bind fun bt451 => ((impl_ThroughParts.f kj9 y438 (Int.tmod t450 1499)).bind fun bt453 => (if bt451.2 = true then (if bt453.2 = true then (if bt451.1 = bt453.1 then (laws_FnParts.j1 kj9 l1) else (some false)) else (some false)) else (some false))))) else (some false))) else (some false)) else (some false)) else (none)) else (some false))))) else (none)) else (none)) else (none))) = some r := H
                have A20 := Aside0.mk A200
                clear A200
                by_cases c21 : (wrap64 ((wrap64 ((t428.length : Int) - (t424.length : Int))) + 1)) = 0
                · rw [if_pos c21] at H
                  exact absurd H (by simp)
                · rw [if_neg c21] at H
                  have c21b0 : ((wrap64 ((wrap64 ((t428.length : Int) - (t424.length : Int))) + 1)) == 0) = false := beq_eq_false_iff_ne.mpr c21
                  have c21b1 : ((wrap64 ((wrap64 ((t428.length : Int) - (t424.length : Int))) + 1)) != 0) = true := bne_iff_ne.mpr c21
                  (first | rw [c21b0] | (simp only [i64_w, i32_w]; rw [c21b0]) | skip)
                  obtain ⟨ji22, hji22⟩ : ∃ j_ : Int, (Int.tmod t437 (wrap64 ((wrap64 ((t428.length : Int) - (t424.length : Int))) + 1))) = j_ := ⟨_, rfl⟩
                  replace H : (if 0 ≤ (ji22) then (if (ji22) ≤ (wrap64 ((ji22) + (t424.length : Int))) then (if (wrap64 ((ji22) + (t424.length : Int))) ≤ (t428.length : Int) then ((some ((t428.take ((wrap64 ((ji22) + (t424.length : Int))) : Int).toNat).drop ((ji22) : Int).toNat : List (S46))).bind fun y438 => ((impl_JoinParts.f kj9 y438).bind fun bt442 => ((impl_PolyThrough.f kj9 y438).bind fun bt444 => (if bt442.2 = true then (if 0 < (t424.length : Int) then (if bt442.1 = (rd t424 0) then (if bt444.2 = true then ((laws_sameInts.f kj9 bt444.1 t424).bind fun t449 => (if t449 = true then ((laws_numberOf.f kj9 l0).bind fun t450 => ((impl_ValueAt.f kj9 t424 (Int.tmod t450 1499)).bind fun bt451 => ((impl_ThroughParts.f kj9 y438 (Int.tmod t450 1499)).bind fun bt453 => (if bt451.2 = true then (if bt453.2 = true then (if bt451.1 = bt453.1 then (laws_FnParts.j1 kj9 l1) else (some false)) else (some false)) else (some false))))) else (some false))) else (some false)) else (some false)) else (none)) else (some false))))) else (none)) else (none)) else (none)) = some r := by first | (rw [hji22] at H; exact H) | (simp only [hji22] at H ⊢; exact H)
                  (try rw [hji22] at A20)
                  by_cases c23 : 0 ≤ (ji22)
                  · rw [if_pos c23] at H
                    have c23b0 := eq_true c23
                    have c23b1 : decide (0 ≤ (ji22)) = true := decide_eq_true c23
                    clear c23
                    by_cases c24 : (ji22) ≤ (wrap64 ((ji22) + (t424.length : Int)))
                    · rw [if_pos c24] at H
                      have c24b0 := eq_true c24
                      have c24b1 : decide ((ji22) ≤ (wrap64 ((ji22) + (t424.length : Int)))) = true := decide_eq_true c24
                      clear c24
                      by_cases c25 : (wrap64 ((ji22) + (t424.length : Int))) ≤ (t428.length : Int)
                      · rw [if_pos c25] at H
                        have c25b0 := eq_true c25
                        have c25b1 : decide ((wrap64 ((ji22) + (t424.length : Int))) ≤ (t428.length : Int)) = true := decide_eq_true c25
                        clear c25
                        obtain ⟨y438, hy438⟩ : ∃ y_ : List (S46), y_ = ((t428.take ((wrap64 ((ji22) + (t424.length : Int))) : Int).toNat).drop ((ji22) : Int).toNat) := ⟨_, rfl⟩
                        replace H : ((impl_JoinParts.f kj9 y438).bind fun bt442 => ((impl_PolyThrough.f kj9 y438).bind fun bt444 => (if bt442.2 = true then (if 0 < (t424.length : Int) then (if bt442.1 = (rd t424 0) then (if bt444.2 = true then ((laws_sameInts.f kj9 bt444.1 t424).bind fun t449 => (if t449 = true then ((laws_numberOf.f kj9 l0).bind fun t450 => ((impl_ValueAt.f kj9 t424 (Int.tmod t450 1499)).bind fun bt451 => ((impl_ThroughParts.f kj9 y438 (Int.tmod t450 1499)).bind fun bt453 => (if bt451.2 = true then (if bt453.2 = true then (if bt451.1 = bt453.1 then (laws_FnParts.j1 kj9 l1) else (some false)) else (some false)) else (some false))))) else (some false))) else (some false)) else (some false)) else (none)) else (some false)))) = some r := by first | (rw [hy438]; with_reducible exact H) | (have H2_ := (Option.bind_some _ _).symm.trans H; rw [hy438]; with_reducible exact H2_) | (have H2_ := (Option.bind_some _ _).symm.trans H; with_reducible exact H2_) | with_reducible exact H | (rw [hy438]; exact H) | exact H
                        have Ny438 := Aside0.mk hy438
                        clear hy438
                        replace H := Option.bind_eq_some_iff.mp H
                        obtain ⟨⟨t442, t443⟩, A260, H⟩ := H
                        replace H : ((impl_PolyThrough.f kj9 y438).bind fun bt444 => (if t443 = true then (if 0 < (t424.length : Int) then (if t442 = (rd t424 0) then (if bt444.2 = true then ((laws_sameInts.f kj9 bt444.1 t424).bind fun t449 => (if t449 = true then ((laws_numberOf.f kj9 l0).bind fun t450 => ((impl_ValueAt.f kj9 t424 (Int.tmod t450 1499)).bind fun bt451 => ((impl_ThroughParts.f kj9 y438 (Int.tmod t450 1499)).bind fun bt453 => (if bt451.2 = true then (if bt453.2 = true then (if bt451.1 = bt453.1 then (laws_FnParts.j1 kj9 l1) else (some false)) else (some false)) else (some false))))) else (some false))) else (some false)) else (some false)) else (none)) else (some false))) = some r := H
                        have A26 := Aside0.mk A260
                        clear A260
                        replace H := Option.bind_eq_some_iff.mp H
                        obtain ⟨⟨t444, t445⟩, A270, H⟩ := H
                        replace H : (if t443 = true then (if 0 < (t424.length : Int) then (if t442 = (rd t424 0) then (if t445 = true then ((laws_sameInts.f kj9 t444 t424).bind fun t449 => (if t449 = true then ((laws_numberOf.f kj9 l0).bind fun t450 => ((impl_ValueAt.f kj9 t424 (Int.tmod t450 1499)).bind fun bt451 => ((impl_ThroughParts.f kj9 y438 (Int.tmod t450 1499)).bind fun bt453 => (if bt451.2 = true then (if bt453.2 = true then (if bt451.1 = bt453.1 then (laws_FnParts.j1 kj9 l1) else (some false)) else (some false)) else (some false))))) else (some false))) else (some false)) else (some false)) else (none)) else (some false)) = some r := H
                        have A27 := Aside0.mk A270
                        clear A270
                        by_cases c28 : t443 = true
                        · subst c28
                          have H1 : (if 0 < (t424.length : Int) then (if t442 = (rd t424 0) then (if t445 = true then ((laws_sameInts.f kj9 t444 t424).bind fun t449 => (if t449 = true then ((laws_numberOf.f kj9 l0).bind fun t450 => ((impl_ValueAt.f kj9 t424 (Int.tmod t450 1499)).bind fun bt451 => ((impl_ThroughParts.f kj9 y438 (Int.tmod t450 1499)).bind fun bt453 => (if bt451.2 = true then (if bt453.2 = true then (if bt451.1 = bt453.1 then (laws_FnParts.j1 kj9 l1) else (some false)) else (some false)) else (some false))))) else (some false))) else (some false)) else (some false)) else (none)) = some r := by rw [if_pos rfl] at H; exact H
                          clear H
                          have H := H1
                          clear H1
                          by_cases c29 : 0 < (t424.length : Int)
                          · rw [if_pos c29] at H
                            have c29b0 : decide (0 < (t424.length : Int)) = true := decide_eq_true c29
                            have c29b1 : decide (0 < t424.length) = true := decide_eq_true (by omega)
                            clear c29
                            by_cases c30 : t442 = (rd t424 0)
                            · rw [if_pos c30] at H
                              have c30b0 : (t442 == (rd t424 0)) = true := beq_iff_eq.mpr c30
                              have c30b1 : (t442 != (rd t424 0)) = false := bne_eq_false_iff_eq.mpr c30
                              clear c30
                              by_cases c31 : t445 = true
                              · subst c31
                                have H1 : ((laws_sameInts.f kj9 t444 t424).bind fun t449 => (if t449 = true then ((laws_numberOf.f kj9 l0).bind fun t450 => ((impl_ValueAt.f kj9 t424 (Int.tmod t450 1499)).bind fun bt451 => ((impl_ThroughParts.f kj9 y438 (Int.tmod t450 1499)).bind fun bt453 => (if bt451.2 = true then (if bt453.2 = true then (if bt451.1 = bt453.1 then (laws_FnParts.j1 kj9 l1) else (some false)) else (some false)) else (some false))))) else (some false))) = some r := by rw [if_pos rfl] at H; exact H
                                clear H
                                have H := H1
                                clear H1
                                replace H := Option.bind_eq_some_iff.mp H
                                obtain ⟨t449, A320, H⟩ := H
                                replace H : (if t449 = true then ((laws_numberOf.f kj9 l0).bind fun t450 => ((impl_ValueAt.f kj9 t424 (Int.tmod t450 1499)).bind fun bt451 => ((impl_ThroughParts.f kj9 y438 (Int.tmod t450 1499)).bind fun bt453 => (if bt451.2 = true then (if bt453.2 = true then (if bt451.1 = bt453.1 then (laws_FnParts.j1 kj9 l1) else (some false)) else (some false)) else (some false))))) else (some false)) = some r := H
                                have A32 := Aside0.mk A320
                                clear A320
                                by_cases c33 : t449 = true
                                · subst c33
                                  have H1 : ((laws_numberOf.f kj9 l0).bind fun t450 => ((impl_ValueAt.f kj9 t424 (Int.tmod t450 1499)).bind fun bt451 => ((impl_ThroughParts.f kj9 y438 (Int.tmod t450 1499)).bind fun bt453 => (if bt451.2 = true then (if bt453.2 = true then (if bt451.1 = bt453.1 then (laws_FnParts.j1 kj9 l1) else (some false)) else (some false)) else (some false))))) = some r := by rw [if_pos rfl] at H; exact H
                                  clear H
                                  have H := H1
                                  clear H1
                                  replace H := Option.bind_eq_some_iff.mp H
                                  obtain ⟨t450, A340, H⟩ := H
                                  replace H : ((impl_ValueAt.f kj9 t424 (Int.tmod t450 1499)).bind fun bt451 => ((impl_ThroughParts.f kj9 y438 (Int.tmod t450 1499)).bind fun bt453 => (if bt451.2 = true then (if bt453.2 = true then (if bt451.1 = bt453.1 then (laws_FnParts.j1 kj9 l1) else (some false)) else (some false)) else (some false)))) = some r := H
                                  have A34 := Aside0.mk A340
                                  clear A340
                                  replace H := Option.bind_eq_some_iff.mp H
                                  obtain ⟨⟨t451, t452⟩, A350, H⟩ := H
                                  replace H : ((impl_ThroughParts.f kj9 y438 (Int.tmod t450 1499)).bind fun bt453 => (if t452 = true then (if bt453.2 = true then (if t451 = bt453.1 then (laws_FnParts.j1 kj9 l1) else (some false)) else (some false)) else (some false))) = some r := H
                                  have A35 := Aside0.mk A350
                                  clear A350
                                  replace H := Option.bind_eq_some_iff.mp H
                                  obtain ⟨⟨t453, t454⟩, A360, H⟩ := H
                                  replace H : (if t452 = true then (if t454 = true then (if t451 = t453 then (laws_FnParts.j1 kj9 l1) else (some false)) else (some false)) else (some false)) = some r := H
                                  have A36 := Aside0.mk A360
                                  clear A360
                                  by_cases c37 : t452 = true
                                  · subst c37
                                    have H1 : (if t454 = true then (if t451 = t453 then (laws_FnParts.j1 kj9 l1) else (some false)) else (some false)) = some r := by rw [if_pos rfl] at H; exact H
                                    clear H
                                    have H := H1
                                    clear H1
                                    by_cases c38 : t454 = true
                                    · subst c38
                                      have H1 : (if t451 = t453 then (laws_FnParts.j1 kj9 l1) else (some false)) = some r := by rw [if_pos rfl] at H; exact H
                                      clear H
                                      have H := H1
                                      clear H1
                                      by_cases c39 : t451 = t453
                                      · rw [if_pos c39] at H
                                        have c39b0 : (t451 == t453) = true := beq_iff_eq.mpr c39
                                        have c39b1 : (t451 != t453) = false := bne_eq_false_iff_eq.mpr c39
                                        clear c39
                                        have H' := Aside0.mk H
                                        clear H
                                        go_wp2_with (first | ((with_reducible refine gate_callee (f := 9) rfl ?_); refine goesL_ (some 86) rfl rfl Try.func9 (by kernel_rfl) rfl #[.slice A1 l1.length c1] rfl (by (try simp only [List.map_toArray, List.map_cons, List.map_nil]); first | done | rfl | (simp only [List.length_drop, List.length_take]; rfl)) ?_; (with_reducible refine (laws_numberOf.calls kj9 _ _ l1 t437 _ ?side1 ?side2 A20.out).mono ?_); (case side1 => repeat (first | exact (Kd.C_below HR1.out HB.out) | (with_reducible refine Kd.C_alloc ?_ _) | (with_reducible refine Kd.C_drewN ?_ _) | (with_reducible refine Kd.C_drew ?_))); (case side2 => exact HC1.out); rintro e w' ⟨rfl, ⟨nd, rfl⟩⟩; refine ⟨_, rfl, ?_⟩; have q40 : ((wrap64 ((ji22) + (t424.length : Int))) : Int) ≤ ((t428.length : Int) : Int) := of_decide_eq_true (by first | (with_reducible assumption) | assumption); obtain ⟨i040, hi040, _, hsz40, _⟩ := info_parts info46; have hroom40 : t428.length ≤ co15 := (Kd.R_reads' HO_7.out).2.1; have hC40 : Kd.C k46 _ Ao15 t428.length t428 := (Kd.R_reads' HO_7.out).2.2; have ql40 : ((ji22) : Int) ≤ ((wrap64 ((ji22) + (t424.length : Int))) : Int) := of_decide_eq_true (by first | (with_reducible assumption) | assumption); have q040 : (0 : Int) ≤ ((ji22) : Int) := of_decide_eq_true (by first | (with_reducible assumption) | assumption); have hcut40 := cut_mid (P := Try.prog) 26 46 .i64 .i64 Try.underlying26 hi040 2 hsz40 Ao15 t428.length co15 (ji22) (wrap64 ((ji22) + (t424.length : Int))) q040 ql40 q40 hroom40; have hr40 := Kd.C_mid (lo := ((ji22) : Int).toNat) (hi := ((wrap64 ((ji22) + (t424.length : Int))) : Int).toNat) (c := co15) hC40 (Int.toNat_le_toNat ql40) (Int.toNat_le.2 q40) hroom40; obtain ⟨A40, hA40⟩ : ∃ A1, A1 = (if co15 = ((ji22) : Int).toNat then Ao15 else (Ao15 : Option Addr).map (·.add (((ji22) : Int).toNat * 2))) := ⟨_, rfl⟩; obtain ⟨c40, hc40⟩ : ∃ c1, c1 = co15 - ((ji22) : Int).toNat := ⟨_, rfl⟩; have hy40 : y438.length = ((wrap64 ((ji22) + (t424.length : Int))) : Int).toNat - ((ji22) : Int).toNat := (by rw [Ny438.out, List.length_drop, List.length_take, Nat.min_eq_left (Int.toNat_le.2 q40)]); rw [show ((t428).take ((wrap64 ((ji22) + (t424.length : Int))) : Int).toNat).drop ((ji22) : Int).toNat = y438 from Ny438.out.symm] at hr40; replace hr40 : Kd.C k46 _ A40 y438.length y438 := (by rw [hA40]; exact hr40); rw [← hy40, ← hA40, ← hc40] at hcut40; have HR441 := Aside0.mk hr40; have HC441 := Aside0.mk (show y438.length ≤ c40 from by rw [hy40, hc40]; exact Nat.sub_le_sub_right (Nat.le_trans (Int.toNat_le.2 q40) hroom40) _); clear hr40 hC40 hroom40 hi040 hsz40 hc40; have KY40 := Aside0.mk hy40; have KA40 := Aside0.mk hA40; clear hy40 hA40; have KL40 := Aside0.mk (show ((wrap64 ((ji22) + (t424.length : Int))) : Int).toNat ≤ t428.length from Int.toNat_le.2 q40); have KM40 := Aside0.mk (show ((ji22) : Int).toNat ≤ ((wrap64 ((ji22) + (t424.length : Int))) : Int).toNat from Int.toNat_le_toNat ql40); replace q40 := eq_true q40) | ((with_reducible refine gate_callee (f := 10) rfl ?_); refine goesL_ (some 103) rfl rfl Try.func10 (by kernel_rfl) rfl #[.slice A40 y438.length c40] rfl (by (try simp only [List.map_toArray, List.map_cons, List.map_nil]); first | done | rfl | (simp only [List.length_drop, List.length_take]; rfl)) ?_; (with_reducible refine (impl_JoinParts.calls kj9 _ _ y438 t442 true _ ?side1 ?side2 A26.out).mono ?_); (case side1 => repeat (first | exact (by repeat (first | (with_reducible exact HR441.out) | (with_reducible refine Kd.C_alloc ?_ _) | (with_reducible refine Kd.C_drewN ?_ _) | (with_reducible refine Kd.C_drew ?_) | exact HR441.out)) | (with_reducible refine Kd.C_alloc ?_ _) | (with_reducible refine Kd.C_drewN ?_ _) | (with_reducible refine Kd.C_drew ?_))); (case side2 => exact HC441.out); rintro e w41 ⟨rfl, hb⟩; refine ⟨_, rfl, ?_⟩; have n0_ := Aside0.mk (Kd.R_below (by (with_reducible repeat (first | apply Kd.R_alloc | apply Kd.R_drewN | apply Kd.R_drew)); exact HO_5.out) hb); have n1_ := Aside0.mk (Kd.R_below (by (with_reducible repeat (first | apply Kd.R_alloc | apply Kd.R_drewN | apply Kd.R_drew)); exact HO_7.out) hb); have n2_ := Aside0.mk (Kd.C_below (by repeat (first | (with_reducible exact HR441.out) | (with_reducible refine Kd.C_alloc ?_ _) | (with_reducible refine Kd.C_drewN ?_ _) | (with_reducible refine Kd.C_drew ?_) | exact HR441.out)) hb); have n3_ := Aside0.mk (below_step (by repeat (first | (with_reducible first | exact HB.out | apply below_alloc | apply pw_below_drewN | apply below_drew1) | exact HB.out)) hb); clear HO_5; clear HO_7; clear HR441; clear HB; have HO_5 := n0_; have HO_7 := n1_; have HR441 := n2_; have HB := n3_; clear n0_ n1_ n2_ n3_; (try clear hb); (try clear hb2); (try clear hk); (try clear hi)) | ((with_reducible refine gate_callee (f := 11) rfl ?_); refine goesL_ (some 108) rfl rfl Try.func11 (by kernel_rfl) rfl #[.slice A40 y438.length c40] rfl (by (try simp only [List.map_toArray, List.map_cons, List.map_nil]); first | done | rfl | (simp only [List.length_drop, List.length_take]; rfl)) ?_; (with_reducible refine (impl_PolyThrough.calls kj9 _ _ y438 t444 true _ ?side1 ?side2 A27.out).mono ?_); (case side1 => repeat (first | exact (by repeat (first | (with_reducible exact HR441.out) | (with_reducible refine Kd.C_alloc ?_ _) | (with_reducible refine Kd.C_drewN ?_ _) | (with_reducible refine Kd.C_drew ?_) | exact HR441.out)) | (with_reducible refine Kd.C_alloc ?_ _) | (with_reducible refine Kd.C_drewN ?_ _) | (with_reducible refine Kd.C_drew ?_))); (case side2 => exact HC441.out); rintro e w42 ⟨v446, rfl, ho0, hb⟩; refine ⟨_, rfl, ?_⟩; have n0_ := Aside0.mk (Kd.R_elder' (by (with_reducible repeat (first | apply Kd.R_alloc | apply Kd.R_drewN | apply Kd.R_drew)); exact HO_5.out) (Kd.R_base ho0) hb); have n1_ := Aside0.mk (Kd.R_below (by (with_reducible repeat (first | apply Kd.R_alloc | apply Kd.R_drewN | apply Kd.R_drew)); exact HO_7.out) hb); have n2_ := Aside0.mk (Kd.R_lower (Kd.R_new' ho0 (Kd.R_lt (by (with_reducible repeat (first | apply Kd.R_alloc | apply Kd.R_drewN | apply Kd.R_drew)); exact HO_5.out))) (below_size (by repeat (first | (with_reducible first | exact HB.out | apply below_alloc | apply pw_below_drewN | apply below_drew1) | exact HB.out)))); have n3_ := Aside0.mk (Kd.C_below (by repeat (first | (with_reducible exact HR441.out) | (with_reducible refine Kd.C_alloc ?_ _) | (with_reducible refine Kd.C_drewN ?_ _) | (with_reducible refine Kd.C_drew ?_) | exact HR441.out)) hb); have n4_ := Aside0.mk (below_step (by repeat (first | (with_reducible first | exact HB.out | apply below_alloc | apply pw_below_drewN | apply below_drew1) | exact HB.out)) hb); clear HO_5; clear HO_7; clear HR441; clear HB; have HO_5 := n0_; have HO_7 := n1_; have HO447 := n2_; have HR441 := n3_; have HB := n4_; clear n0_ n1_ n2_ n3_ n4_; (try clear hb); (try clear hb2); (try clear hk); (try clear hi); (try clear ho0); have p448 : 0 ≤ (0 : Int) := (by omega); have q448 : 0 < (t424.length : Int) := of_decide_eq_true (by first | (with_reducible assumption) | assumption); obtain ⟨ad448, e448, hx448_0⟩ := Kd.at_int (Kd.R_reads' HO_5.out).2.2 0 p448 q448; cases e448; have qi448 : (0 < t424.length) = True := eq_true (by omega); (try rw [show ((0 : Int)).toNat = 0 from rfl] at hx448_0); (try rw [Addr.add_zero'] at hx448_0); replace p448 := eq_true p448; replace q448 := eq_true q448; obtain ⟨Ao43, co43, eo43⟩ := Kd.R_slice HO447.out; subst eo43) | (go_at_call 12; (with_reducible refine (laws_sameInts.calls kj9 _ _ t444 _ _ t424 true _ ?side1 ?side2 ?side3 ?side4 A32.out).mono ?_); (case side1 => repeat (first | exact (Kd.R_reads' HO447.out).2.2 | (with_reducible refine Kd.C_alloc ?_ _) | (with_reducible refine Kd.C_drewN ?_ _) | (with_reducible refine Kd.C_drew ?_))); (case side2 => exact (Kd.R_reads' HO447.out).2.1); (case side3 => repeat (first | exact (Kd.R_reads' HO_5.out).2.2 | (with_reducible refine Kd.C_alloc ?_ _) | (with_reducible refine Kd.C_drewN ?_ _) | (with_reducible refine Kd.C_drew ?_))); (case side4 => exact (Kd.R_reads' HO_5.out).2.1); rintro e w' ⟨rfl, ⟨nd, rfl⟩⟩) | ((with_reducible refine gate_callee (f := 9) rfl ?_); refine goesL_ (some 131) rfl rfl Try.func9 (by kernel_rfl) rfl #[.slice A0 l0.length c0] rfl (by (try simp only [List.map_toArray, List.map_cons, List.map_nil]); first | done | rfl | (simp only [List.length_drop, List.length_take]; rfl)) ?_; (with_reducible refine (laws_numberOf.calls kj9 _ _ l0 t450 _ ?side1 ?side2 A34.out).mono ?_); (case side1 => repeat (first | exact (Kd.C_below HR0.out (by repeat (first | (with_reducible first | exact HB.out | apply below_alloc | apply pw_below_drewN | apply below_drew1) | exact HB.out))) | (with_reducible refine Kd.C_alloc ?_ _) | (with_reducible refine Kd.C_drewN ?_ _) | (with_reducible refine Kd.C_drew ?_))); (case side2 => exact HC0.out); rintro e w' ⟨rfl, ⟨nd, rfl⟩⟩; refine ⟨_, rfl, ?_⟩) | ((with_reducible refine gate_callee (f := 13) rfl ?_); refine goesL_ (some 136) rfl rfl Try.func13 (by kernel_rfl) rfl #[.slice (some ad448) t424.length co12, .int .i64 (Int.tmod t450 1499)] rfl (by (try simp only [List.map_toArray, List.map_cons, List.map_nil]); first | done | rfl | (simp only [List.length_drop, List.length_take]; rfl)) ?_; (with_reducible refine (impl_ValueAt.calls kj9 _ _ t424 (Int.tmod t450 1499) t451 true _ ?side1 ?side2 A35.out).mono ?_); (case side1 => repeat (first | exact (Kd.R_reads' HO_5.out).2.2 | (with_reducible refine Kd.C_alloc ?_ _) | (with_reducible refine Kd.C_drewN ?_ _) | (with_reducible refine Kd.C_drew ?_))); (case side2 => exact (Kd.R_reads' HO_5.out).2.1); rintro e w' ⟨rfl, ⟨nd, rfl⟩⟩; refine ⟨_, rfl, ?_⟩) | ((with_reducible refine gate_callee (f := 14) rfl ?_); refine goesL_ (some 142) rfl rfl Try.func14 (by kernel_rfl) rfl #[.slice A40 y438.length c40, .int .i64 (Int.tmod t450 1499)] rfl (by (try simp only [List.map_toArray, List.map_cons, List.map_nil]); first | done | rfl | (simp only [List.length_drop, List.length_take]; rfl)) ?_; (with_reducible refine (impl_ThroughParts.calls kj9 _ _ y438 (Int.tmod t450 1499) t453 true _ ?side1 ?side2 A36.out).mono ?_); (case side1 => repeat (first | exact (by repeat (first | (with_reducible exact HR441.out) | (with_reducible refine Kd.C_alloc ?_ _) | (with_reducible refine Kd.C_drewN ?_ _) | (with_reducible refine Kd.C_drew ?_) | exact HR441.out)) | (with_reducible refine Kd.C_alloc ?_ _) | (with_reducible refine Kd.C_drewN ?_ _) | (with_reducible refine Kd.C_drew ?_))); (case side2 => exact HC441.out); rintro e w44 ⟨rfl, hb⟩; refine ⟨_, rfl, ?_⟩; have n0_ := Aside0.mk (Kd.R_below (by (with_reducible repeat (first | apply Kd.R_alloc | apply Kd.R_drewN | apply Kd.R_drew)); exact HO_5.out) hb); have n1_ := Aside0.mk (Kd.R_below (by (with_reducible repeat (first | apply Kd.R_alloc | apply Kd.R_drewN | apply Kd.R_drew)); exact HO_7.out) hb); have n2_ := Aside0.mk (Kd.R_below (by (with_reducible repeat (first | apply Kd.R_alloc | apply Kd.R_drewN | apply Kd.R_drew)); exact HO447.out) hb); have n3_ := Aside0.mk (Kd.C_below (by repeat (first | (with_reducible exact HR441.out) | (with_reducible refine Kd.C_alloc ?_ _) | (with_reducible refine Kd.C_drewN ?_ _) | (with_reducible refine Kd.C_drew ?_) | exact HR441.out)) hb); have n4_ := Aside0.mk (below_step (by repeat (first | (with_reducible first | exact HB.out | apply below_alloc | apply pw_below_drewN | apply below_drew1) | exact HB.out)) hb); clear HO_5; clear HO_7; clear HO447; clear HR441; clear HB; have HO_5 := n0_; have HO_7 := n1_; have HO447 := n2_; have HR441 := n3_; have HB := n4_; clear n0_ n1_ n2_ n3_ n4_; (try clear hb); (try clear hb2); (try clear hk); (try clear hi)))
                                        go_meet
                                        case rel => exact ⟨_, H', ⟨by have := HJ9.out; first | omega | exact Nat.le_refl _⟩, ⟨by repeat (first | (with_reducible first | exact HB.out | apply below_alloc | apply pw_below_drewN | apply below_drew1) | exact HB.out)⟩⟩
                                      · rw [if_neg c39] at H
                                        have c39b0 : (t451 == t453) = false := beq_eq_false_iff_ne.mpr c39
                                        have c39b1 : (t451 != t453) = true := bne_iff_ne.mpr c39
                                        obtain rfl := Option.some.inj H
                                        exact absurd hr_.out (by simp)
                                    · replace c38 := Bool.eq_false_iff.mpr c38
                                      subst c38
                                      have H1 : (some false) = some r := by rw [if_neg (show ¬ (false = true) by decide)] at H; exact H
                                      clear H
                                      have H := H1
                                      clear H1
                                      obtain rfl := Option.some.inj H
                                      exact absurd hr_.out (by simp)
                                  · replace c37 := Bool.eq_false_iff.mpr c37
                                    subst c37
                                    have H1 : (some false) = some r := by rw [if_neg (show ¬ (false = true) by decide)] at H; exact H
                                    clear H
                                    have H := H1
                                    clear H1
                                    obtain rfl := Option.some.inj H
                                    exact absurd hr_.out (by simp)
                                · replace c33 := Bool.eq_false_iff.mpr c33
                                  subst c33
                                  have H1 : (some false) = some r := by rw [if_neg (show ¬ (false = true) by decide)] at H; exact H
                                  clear H
                                  have H := H1
                                  clear H1
                                  obtain rfl := Option.some.inj H
                                  exact absurd hr_.out (by simp)
                              · replace c31 := Bool.eq_false_iff.mpr c31
                                subst c31
                                have H1 : (some false) = some r := by rw [if_neg (show ¬ (false = true) by decide)] at H; exact H
                                clear H
                                have H := H1
                                clear H1
                                obtain rfl := Option.some.inj H
                                exact absurd hr_.out (by simp)
                            · rw [if_neg c30] at H
                              have c30b0 : (t442 == (rd t424 0)) = false := beq_eq_false_iff_ne.mpr c30
                              have c30b1 : (t442 != (rd t424 0)) = true := bne_iff_ne.mpr c30
                              obtain rfl := Option.some.inj H
                              exact absurd hr_.out (by simp)
                          · rw [if_neg c29] at H
                            exact absurd H (by simp)
                        · replace c28 := Bool.eq_false_iff.mpr c28
                          subst c28
                          have H1 : (some false) = some r := by rw [if_neg (show ¬ (false = true) by decide)] at H; exact H
                          clear H
                          have H := H1
                          clear H1
                          obtain rfl := Option.some.inj H
                          exact absurd hr_.out (by simp)
                      · rw [if_neg c25] at H
                        exact absurd H (by simp)
                    · rw [if_neg c24] at H
                      exact absurd H (by simp)
                  · rw [if_neg c23] at H
                    exact absurd H (by simp)
              · replace c19 := Bool.eq_false_iff.mpr c19
                subst c19
                have H1 : (laws_FnParts.j1 kj9 l1) = some r := by rw [if_neg (show ¬ (false = true) by decide)] at H; exact H
                clear H
                have H := H1
                clear H1
                have H' := Aside0.mk H
                clear H
                go_wp2
                go_meet
                case rel => exact ⟨_, H', ⟨by have := HJ9.out; first | omega | exact Nat.le_refl _⟩, ⟨by repeat (first | (with_reducible first | exact HB.out | apply below_alloc | apply pw_below_drewN | apply below_drew1) | exact HB.out)⟩⟩
            case rest =>
              clear HC18
              try clear c1
              try clear c2
              try clear p2
              try clear c3
              try clear c3b0
              try clear c4
              try clear p4
              try clear q4
              try clear hx4
              try clear qi4
              try clear c5
              try clear c6
              try clear p6
              try clear c7
              try clear c7b0
              try clear c7b1
              try clear c7b2
              try clear c9
              try clear c10
              try clear c11
              try clear c13
              try clear c14
              try clear c17
              try clear c19
              try clear c21
              try clear c21b0
              try clear c21b1
              try clear c23
              try clear c23b0
              try clear c23b1
              try clear c24
              try clear c24b0
              try clear c24b1
              try clear c25
              try clear c25b0
              try clear c25b1
              try clear c28
              try clear c29
              try clear c29b0
              try clear c29b1
              try clear c30
              try clear c30b0
              try clear c30b1
              try clear c31
              try clear c33
              try clear c37
              try clear c38
              try clear c39
              try clear c39b0
              try clear c39b1
              try clear c40
              try clear q40
              try clear p44
              try clear q44
              try clear hx44
              try clear qi44
              try clear hx448_0
              try clear p2
              try clear p448
              try clear p6
              try clear q040
              try clear q40
              try clear q448
              obtain ⟨kq, HA, HJ17, HB⟩ := hcut
              cases kq with
              | zero => exact absurd HA.out (by simp [laws_FnParts.j1])
              | succ kj17 =>
                have H := HA.out
                clear HA
                simp only [laws_FnParts.j1] at H
                replace H := Option.bind_eq_some_iff.mp H
                obtain ⟨⟨t455, t456⟩, A450, H⟩ := H
                replace H : ((impl_AddParts.f kj17 t455 t456).bind fun bt461 => ((spec_AddParts.f kj17 t455 t456).bind fun bt465 => (if (bt461.2 != bt465.2) = true then (some false) else ((laws_sameParts.f kj17 bt461.1 bt465.1).bind fun t469 => (if t469 = true then (if bt461.2 = true then ((impl_JoinParts.f kj17 t455).bind fun bt470 => ((impl_JoinParts.f kj17 t456).bind fun bt472 => ((impl_JoinParts.f kj17 bt461.1).bind fun bt474 => (if bt470.2 = true then (if bt472.2 = true then (if bt474.2 = true then (if bt474.1 = (Int.tmod (wrap64 (bt470.1 + bt472.1)) 1499) then (laws_FnParts.j2 kj17 l1) else (some false)) else (some false)) else (some false)) else (some false))))) else (laws_FnParts.j2 kj17 l1)) else (some false)))))) = some r := H
                have A45 := Aside0.mk A450
                clear A450
                replace H := Option.bind_eq_some_iff.mp H
                obtain ⟨⟨t461, t462⟩, A460, H⟩ := H
                replace H : ((spec_AddParts.f kj17 t455 t456).bind fun bt465 => (if (t462 != bt465.2) = true then (some false) else ((laws_sameParts.f kj17 t461 bt465.1).bind fun t469 => (if t469 = true then (if t462 = true then ((impl_JoinParts.f kj17 t455).bind fun bt470 => ((impl_JoinParts.f kj17 t456).bind fun bt472 => ((impl_JoinParts.f kj17 t461).bind fun bt474 => (if bt470.2 = true then (if bt472.2 = true then (if bt474.2 = true then (if bt474.1 = (Int.tmod (wrap64 (bt470.1 + bt472.1)) 1499) then (laws_FnParts.j2 kj17 l1) else (some false)) else (some false)) else (some false)) else (some false))))) else (laws_FnParts.j2 kj17 l1)) else (some false))))) = some r := H
                have A46 := Aside0.mk A460
                clear A460
                replace H := Option.bind_eq_some_iff.mp H
                obtain ⟨⟨t465, t466⟩, A470, H⟩ := H
                replace H : (if (t462 != t466) = true then (some false) else ((laws_sameParts.f kj17 t461 t465).bind fun t469 => (if t469 = true then (if t462 = true then ((impl_JoinParts.f kj17 t455).bind fun bt470 => ((impl_JoinParts.f kj17 t456).bind fun bt472 => ((impl_JoinParts.f kj17 t461).bind fun bt474 => (if bt470.2 = true then (if bt472.2 = true then (if bt474.2 = true then (if bt474.1 = (Int.tmod (wrap64 (bt470.1 + bt472.1)) 1499) then (laws_FnParts.j2 kj17 l1) else (some false)) else (some false)) else (some false)) else (some false))))) else (laws_FnParts.j2 kj17 l1)) else (some false)))) = some r := H
                have A47 := Aside0.mk A470
                clear A470
                by_cases c48 : (t462 != t466) = true
                · rw [if_pos c48] at H
                  have c48b0 : (t462 != t466) = true := c48
                  (try (have c48b1 : decide (t462 = t466) = false := by simpa using c48))
                  (try (have c48b2 : (t462 == t466) = false := by simpa using c48))
                  (try (have c48b3 : ¬ (t462 = t466) := by simpa using c48))
                  clear c48
                  obtain rfl := Option.some.inj H
                  exact absurd hr_.out (by simp)
                · rw [if_neg c48] at H
                  have c48b0 : (t462 != t466) = false := by simpa using c48
                  (try (have c48b1 : decide (t462 = t466) = true := by simpa using c48))
                  (try (have c48b2 : (t462 == t466) = true := by simpa using c48))
                  clear c48
                  replace H := Option.bind_eq_some_iff.mp H
                  obtain ⟨t469, A490, H⟩ := H
                  replace H : (if t469 = true then (if t462 = true then ((impl_JoinParts.f kj17 t455).bind fun bt470 => ((impl_JoinParts.f kj17 t456).bind fun bt472 => ((impl_JoinParts.f kj17 t461).bind fun bt474 => (if bt470.2 = true then (if bt472.2 = true then (if bt474.2 = true then (if bt474.1 = (Int.tmod (wrap64 (bt470.1 + bt472.1)) 1499) then (laws_FnParts.j2 kj17 l1) else (some false)) else (some false)) else (some false)) else (some false))))) else (laws_FnParts.j2 kj17 l1)) else (some false)) = some r := H
                  have A49 := Aside0.mk A490
                  clear A490
                  by_cases c50 : t469 = true
                  · subst c50
                    have H1 : (if t462 = true then ((impl_JoinParts.f kj17 t455).bind fun bt470 => ((impl_JoinParts.f kj17 t456).bind fun bt472 => ((impl_JoinParts.f kj17 t461).bind fun bt474 => (if bt470.2 = true then (if bt472.2 = true then (if bt474.2 = true then (if bt474.1 = (Int.tmod (wrap64 (bt470.1 + bt472.1)) 1499) then (laws_FnParts.j2 kj17 l1) else (some false)) else (some false)) else (some false)) else (some false))))) else (laws_FnParts.j2 kj17 l1)) = some r := by rw [if_pos rfl] at H; exact H
                    clear H
                    have H := H1
                    clear H1
                    have HC51 := Aside0.mk H
                    clear H
                    go_upto_if 182 with (first | ((with_reducible refine gate_callee (f := 15) rfl ?_); refine goesL_ (some 158) rfl rfl Try.func15 (by kernel_rfl) rfl #[.slice A1 l1.length c1] rfl (by (try simp only [List.map_toArray, List.map_cons, List.map_nil]); first | done | rfl | (simp only [List.length_drop, List.length_take]; rfl)) ?_; (with_reducible refine (spec_DrawAddParts.calls kj17 _ _ l1 t455 t456 _ ?side1 ?side2 A45.out).mono ?_); (case side1 => repeat (first | exact (Kd.C_below HR1.out HB.out) | (with_reducible refine Kd.C_alloc ?_ _) | (with_reducible refine Kd.C_drewN ?_ _) | (with_reducible refine Kd.C_drew ?_))); (case side2 => exact HC1.out); rintro e w52 ⟨v457, v459, rfl, ho0, ho1, hb⟩; refine ⟨_, rfl, ?_⟩; have n0_ := Aside0.mk (Kd.Q_lower ho0 (below_size (by repeat (first | (with_reducible first | exact HB.out | apply below_alloc | apply pw_below_drewN | apply below_drew1) | exact HB.out)))); have n1_ := Aside0.mk (Kd.R_lower ho1 (below_size (by repeat (first | (with_reducible first | exact HB.out | apply below_alloc | apply pw_below_drewN | apply below_drew1) | exact HB.out)))); have n2_ := Aside0.mk (below_step (by repeat (first | (with_reducible first | exact HB.out | apply below_alloc | apply pw_below_drewN | apply below_drew1) | exact HB.out)) hb); clear HB; have HO458 := n0_; have HO460 := n1_; have HB := n2_; clear n0_ n1_ n2_; (try clear hb); (try clear hb2); (try clear hk); (try clear hi); (try clear ho0); (try clear ho1); obtain ⟨Ao53, co53, eo53, _⟩ := Kd.Q_slice HO458.out; subst eo53; obtain ⟨Ao54, co54, eo54⟩ := Kd.R_slice HO460.out; subst eo54) | ((with_reducible refine gate_callee (f := 16) rfl ?_); refine goesL_ (some 164) rfl rfl Try.func16 (by kernel_rfl) rfl #[.slice Ao53 t455.length co53, .slice Ao54 t456.length co54] rfl (by (try simp only [List.map_toArray, List.map_cons, List.map_nil]); first | done | rfl | (simp only [List.length_drop, List.length_take]; rfl)) ?_; (with_reducible refine (impl_AddParts.calls kj17 _ _ t455 _ _ t456 t461 t462 _ ?side1 ?side2 ?side3 ?side4 A46.out).mono ?_); (case side1 => repeat (first | exact (Kd.Q_reads' HO458.out).2.2 | (with_reducible refine Kd.C_alloc ?_ _) | (with_reducible refine Kd.C_drewN ?_ _) | (with_reducible refine Kd.C_drew ?_))); (case side2 => exact (Kd.Q_reads' HO458.out).2.1); (case side3 => repeat (first | exact (Kd.R_reads' HO460.out).2.2 | (with_reducible refine Kd.C_alloc ?_ _) | (with_reducible refine Kd.C_drewN ?_ _) | (with_reducible refine Kd.C_drew ?_))); (case side4 => exact (Kd.R_reads' HO460.out).2.1); rintro e w55 ⟨v463, rfl, ho0, hb⟩; refine ⟨_, rfl, ?_⟩; have n0_ := Aside0.mk (Kd.Q_elder' (by (with_reducible repeat (first | apply Kd.Q_alloc | apply Kd.Q_drewN | apply Kd.Q_drew)); exact HO458.out) (Kd.R_base ho0) hb); have n1_ := Aside0.mk (Kd.R_elder' (by (with_reducible repeat (first | apply Kd.R_alloc | apply Kd.R_drewN | apply Kd.R_drew)); exact HO460.out) (Kd.R_base ho0) hb); have n2_ := Aside0.mk (Kd.R_lower (Kd.R_new' (Kd.R_new' ho0 (Kd.Q_lt (by (with_reducible repeat (first | apply Kd.Q_alloc | apply Kd.Q_drewN | apply Kd.Q_drew)); exact HO458.out))) (Kd.R_lt (by (with_reducible repeat (first | apply Kd.R_alloc | apply Kd.R_drewN | apply Kd.R_drew)); exact HO460.out))) (below_size (by repeat (first | (with_reducible first | exact HB.out | apply below_alloc | apply pw_below_drewN | apply below_drew1) | exact HB.out)))); have n3_ := Aside0.mk (below_step (by repeat (first | (with_reducible first | exact HB.out | apply below_alloc | apply pw_below_drewN | apply below_drew1) | exact HB.out)) hb); clear HO458; clear HO460; clear HB; have HO458 := n0_; have HO460 := n1_; have HO464 := n2_; have HB := n3_; clear n0_ n1_ n2_ n3_; (try clear hb); (try clear hb2); (try clear hk); (try clear hi); (try clear ho0)) | ((with_reducible refine gate_callee (f := 17) rfl ?_); refine goesL_ (some 170) rfl rfl Try.func17 (by kernel_rfl) rfl #[.slice Ao53 t455.length co53, .slice Ao54 t456.length co54] rfl (by (try simp only [List.map_toArray, List.map_cons, List.map_nil]); first | done | rfl | (simp only [List.length_drop, List.length_take]; rfl)) ?_; (with_reducible refine (spec_AddParts.calls kj17 _ _ t455 _ _ t456 t465 t466 _ ?side1 ?side2 ?side3 ?side4 A47.out).mono ?_); (case side1 => repeat (first | exact (Kd.Q_reads' HO458.out).2.2 | (with_reducible refine Kd.C_alloc ?_ _) | (with_reducible refine Kd.C_drewN ?_ _) | (with_reducible refine Kd.C_drew ?_))); (case side2 => exact (Kd.Q_reads' HO458.out).2.1); (case side3 => repeat (first | exact (Kd.R_reads' HO460.out).2.2 | (with_reducible refine Kd.C_alloc ?_ _) | (with_reducible refine Kd.C_drewN ?_ _) | (with_reducible refine Kd.C_drew ?_))); (case side4 => exact (Kd.R_reads' HO460.out).2.1); rintro e w56 ⟨v467, rfl, ho0, hb⟩; refine ⟨_, rfl, ?_⟩; have n0_ := Aside0.mk (Kd.Q_elder' (by (with_reducible repeat (first | apply Kd.Q_alloc | apply Kd.Q_drewN | apply Kd.Q_drew)); exact HO458.out) (Kd.R_base ho0) hb); have n1_ := Aside0.mk (Kd.R_elder' (by (with_reducible repeat (first | apply Kd.R_alloc | apply Kd.R_drewN | apply Kd.R_drew)); exact HO460.out) (Kd.R_base ho0) hb); have n2_ := Aside0.mk (Kd.R_elder' (by (with_reducible repeat (first | apply Kd.R_alloc | apply Kd.R_drewN | apply Kd.R_drew)); exact HO464.out) (Kd.R_base ho0) hb); have n3_ := Aside0.mk (Kd.R_lower (Kd.R_new' (Kd.R_new' (Kd.R_new' ho0 (Kd.Q_lt (by (with_reducible repeat (first | apply Kd.Q_alloc | apply Kd.Q_drewN | apply Kd.Q_drew)); exact HO458.out))) (Kd.R_lt (by (with_reducible repeat (first | apply Kd.R_alloc | apply Kd.R_drewN | apply Kd.R_drew)); exact HO460.out))) (Kd.R_lt (by (with_reducible repeat (first | apply Kd.R_alloc | apply Kd.R_drewN | apply Kd.R_drew)); exact HO464.out))) (below_size (by repeat (first | (with_reducible first | exact HB.out | apply below_alloc | apply pw_below_drewN | apply below_drew1) | exact HB.out)))); have n4_ := Aside0.mk (below_step (by repeat (first | (with_reducible first | exact HB.out | apply below_alloc | apply pw_below_drewN | apply below_drew1) | exact HB.out)) hb); clear HO458; clear HO460; clear HO464; clear HB; have HO458 := n0_; have HO460 := n1_; have HO464 := n2_; have HO468 := n3_; have HB := n4_; clear n0_ n1_ n2_ n3_ n4_; (try clear hb); (try clear hb2); (try clear hk); (try clear hi); (try clear ho0); obtain ⟨Ao57, co57, eo57⟩ := Kd.R_slice HO464.out; subst eo57; obtain ⟨Ao58, co58, eo58⟩ := Kd.R_slice HO468.out; subst eo58) | (go_at_call 8; (with_reducible refine (laws_sameParts.calls kj17 _ _ t461 _ _ t465 true _ ?side1 ?side2 ?side3 ?side4 A49.out).mono ?_); (case side1 => repeat (first | exact (Kd.R_reads' HO464.out).2.2 | (with_reducible refine Kd.C_alloc ?_ _) | (with_reducible refine Kd.C_drewN ?_ _) | (with_reducible refine Kd.C_drew ?_))); (case side2 => exact (Kd.R_reads' HO464.out).2.1); (case side3 => repeat (first | exact (Kd.R_reads' HO468.out).2.2 | (with_reducible refine Kd.C_alloc ?_ _) | (with_reducible refine Kd.C_drewN ?_ _) | (with_reducible refine Kd.C_drew ?_))); (case side4 => exact (Kd.R_reads' HO468.out).2.1); rintro e w' ⟨rfl, ⟨nd, rfl⟩⟩))
                    (try simp only [Act.put, List.setIfInBounds_toArray, List.set_cons_zero, List.set_cons_succ])
                    go_cut [] from 99999 (fun wc => ∃ (kq : Nat), Aside0 (laws_FnParts.j2 kq l1 = some r) ∧ Aside0 (kq ≤ kj17) ∧ Aside0 (Below w.heap.size w wc))
                    case first =>
                      have H := HC51.out
                      clear HC51
                      by_cases c59 : t462 = true
                      · subst c59
                        have H1 : ((impl_JoinParts.f kj17 t455).bind fun bt470 => ((impl_JoinParts.f kj17 t456).bind fun bt472 => ((impl_JoinParts.f kj17 t461).bind fun bt474 => (if bt470.2 = true then (if bt472.2 = true then (if bt474.2 = true then (if bt474.1 = (Int.tmod (wrap64 (bt470.1 + bt472.1)) 1499) then (laws_FnParts.j2 kj17 l1) else (some false)) else (some false)) else (some false)) else (some false))))) = some r := by rw [if_pos rfl] at H; exact H
                        clear H
                        have H := H1
                        clear H1
                        replace H := Option.bind_eq_some_iff.mp H
                        obtain ⟨⟨t470, t471⟩, A600, H⟩ := H
                        replace H : ((impl_JoinParts.f kj17 t456).bind fun bt472 => ((impl_JoinParts.f kj17 t461).bind fun bt474 => (if t471 = true then (if bt472.2 = true then (if bt474.2 = true then (if bt474.1 = (Int.tmod (wrap64 (t470 + bt472.1)) 1499) then (laws_FnParts.j2 kj17 l1) else (some false)) else (some false)) else (some false)) else (some false)))) = some r := H
                        have A60 := Aside0.mk A600
                        clear A600
                        replace H := Option.bind_eq_some_iff.mp H
                        obtain ⟨⟨t472, t473⟩, A610, H⟩ := H
                        replace H : ((impl_JoinParts.f kj17 t461).bind fun bt474 => (if t471 = true then (if t473 = true then (if bt474.2 = true then (if bt474.1 = (Int.tmod (wrap64 (t470 + t472)) 1499) then (laws_FnParts.j2 kj17 l1) else (some false)) else (some false)) else (some false)) else (some false))) = some r := H
                        have A61 := Aside0.mk A610
                        clear A610
                        replace H := Option.bind_eq_some_iff.mp H
                        obtain ⟨⟨t474, t475⟩, A620, H⟩ := H
                        replace H : (if t471 = true then (if t473 = true then (if t475 = true then (if t474 = (Int.tmod (wrap64 (t470 + t472)) 1499) then (laws_FnParts.j2 kj17 l1) else (some false)) else (some false)) else (some false)) else (some false)) = some r := H
                        have A62 := Aside0.mk A620
                        clear A620
                        by_cases c63 : t471 = true
                        · subst c63
                          have H1 : (if t473 = true then (if t475 = true then (if t474 = (Int.tmod (wrap64 (t470 + t472)) 1499) then (laws_FnParts.j2 kj17 l1) else (some false)) else (some false)) else (some false)) = some r := by rw [if_pos rfl] at H; exact H
                          clear H
                          have H := H1
                          clear H1
                          by_cases c64 : t473 = true
                          · subst c64
                            have H1 : (if t475 = true then (if t474 = (Int.tmod (wrap64 (t470 + t472)) 1499) then (laws_FnParts.j2 kj17 l1) else (some false)) else (some false)) = some r := by rw [if_pos rfl] at H; exact H
                            clear H
                            have H := H1
                            clear H1
                            by_cases c65 : t475 = true
                            · subst c65
                              have H1 : (if t474 = (Int.tmod (wrap64 (t470 + t472)) 1499) then (laws_FnParts.j2 kj17 l1) else (some false)) = some r := by rw [if_pos rfl] at H; exact H
                              clear H
                              have H := H1
                              clear H1
                              by_cases c66 : t474 = (Int.tmod (wrap64 (t470 + t472)) 1499)
                              · rw [if_pos c66] at H
                                have c66b0 : (t474 == (Int.tmod (wrap64 (t470 + t472)) 1499)) = true := beq_iff_eq.mpr c66
                                have c66b1 : (t474 != (Int.tmod (wrap64 (t470 + t472)) 1499)) = false := bne_eq_false_iff_eq.mpr c66
                                clear c66
                                (first | rw [c66b0] | (simp only [i64_w, i32_w]; rw [c66b0]) | skip)
                                have H' := Aside0.mk H
                                clear H
                                go_wp2_with (first | ((with_reducible refine gate_callee (f := 10) rfl ?_); refine goesL_ (some 185) rfl rfl Try.func10 (by kernel_rfl) rfl #[.slice Ao53 t455.length co53] rfl (by (try simp only [List.map_toArray, List.map_cons, List.map_nil]); first | done | rfl | (simp only [List.length_drop, List.length_take]; rfl)) ?_; (with_reducible refine (impl_JoinParts.calls kj17 _ _ t455 t470 true _ ?side1 ?side2 A60.out).mono ?_); (case side1 => repeat (first | exact (Kd.Q_reads' HO458.out).2.2 | (with_reducible refine Kd.C_alloc ?_ _) | (with_reducible refine Kd.C_drewN ?_ _) | (with_reducible refine Kd.C_drew ?_))); (case side2 => exact (Kd.Q_reads' HO458.out).2.1); rintro e w67 ⟨rfl, hb⟩; refine ⟨_, rfl, ?_⟩; have n0_ := Aside0.mk (Kd.Q_below (by (with_reducible repeat (first | apply Kd.Q_alloc | apply Kd.Q_drewN | apply Kd.Q_drew)); exact HO458.out) hb); have n1_ := Aside0.mk (Kd.R_below (by (with_reducible repeat (first | apply Kd.R_alloc | apply Kd.R_drewN | apply Kd.R_drew)); exact HO460.out) hb); have n2_ := Aside0.mk (Kd.R_below (by (with_reducible repeat (first | apply Kd.R_alloc | apply Kd.R_drewN | apply Kd.R_drew)); exact HO464.out) hb); have n3_ := Aside0.mk (Kd.R_below (by (with_reducible repeat (first | apply Kd.R_alloc | apply Kd.R_drewN | apply Kd.R_drew)); exact HO468.out) hb); have n4_ := Aside0.mk (below_step (by repeat (first | (with_reducible first | exact HB.out | apply below_alloc | apply pw_below_drewN | apply below_drew1) | exact HB.out)) hb); clear HO458; clear HO460; clear HO464; clear HO468; clear HB; have HO458 := n0_; have HO460 := n1_; have HO464 := n2_; have HO468 := n3_; have HB := n4_; clear n0_ n1_ n2_ n3_ n4_; (try clear hb); (try clear hb2); (try clear hk); (try clear hi)) | ((with_reducible refine gate_callee (f := 10) rfl ?_); refine goesL_ (some 190) rfl rfl Try.func10 (by kernel_rfl) rfl #[.slice Ao54 t456.length co54] rfl (by (try simp only [List.map_toArray, List.map_cons, List.map_nil]); first | done | rfl | (simp only [List.length_drop, List.length_take]; rfl)) ?_; (with_reducible refine (impl_JoinParts.calls kj17 _ _ t456 t472 true _ ?side1 ?side2 A61.out).mono ?_); (case side1 => repeat (first | exact (Kd.R_reads' HO460.out).2.2 | (with_reducible refine Kd.C_alloc ?_ _) | (with_reducible refine Kd.C_drewN ?_ _) | (with_reducible refine Kd.C_drew ?_))); (case side2 => exact (Kd.R_reads' HO460.out).2.1); rintro e w68 ⟨rfl, hb⟩; refine ⟨_, rfl, ?_⟩; have n0_ := Aside0.mk (Kd.Q_below (by (with_reducible repeat (first | apply Kd.Q_alloc | apply Kd.Q_drewN | apply Kd.Q_drew)); exact HO458.out) hb); have n1_ := Aside0.mk (Kd.R_below (by (with_reducible repeat (first | apply Kd.R_alloc | apply Kd.R_drewN | apply Kd.R_drew)); exact HO460.out) hb); have n2_ := Aside0.mk (Kd.R_below (by (with_reducible repeat (first | apply Kd.R_alloc | apply Kd.R_drewN | apply Kd.R_drew)); exact HO464.out) hb); have n3_ := Aside0.mk (Kd.R_below (by (with_reducible repeat (first | apply Kd.R_alloc | apply Kd.R_drewN | apply Kd.R_drew)); exact HO468.out) hb); have n4_ := Aside0.mk (below_step (by repeat (first | (with_reducible first | exact HB.out | apply below_alloc | apply pw_below_drewN | apply below_drew1) | exact HB.out)) hb); clear HO458; clear HO460; clear HO464; clear HO468; clear HB; have HO458 := n0_; have HO460 := n1_; have HO464 := n2_; have HO468 := n3_; have HB := n4_; clear n0_ n1_ n2_ n3_ n4_; (try clear hb); (try clear hb2); (try clear hk); (try clear hi)) | ((with_reducible refine gate_callee (f := 10) rfl ?_); refine goesL_ (some 195) rfl rfl Try.func10 (by kernel_rfl) rfl #[.slice Ao57 t461.length co57] rfl (by (try simp only [List.map_toArray, List.map_cons, List.map_nil]); first | done | rfl | (simp only [List.length_drop, List.length_take]; rfl)) ?_; (with_reducible refine (impl_JoinParts.calls kj17 _ _ t461 t474 true _ ?side1 ?side2 A62.out).mono ?_); (case side1 => repeat (first | exact (Kd.R_reads' HO464.out).2.2 | (with_reducible refine Kd.C_alloc ?_ _) | (with_reducible refine Kd.C_drewN ?_ _) | (with_reducible refine Kd.C_drew ?_))); (case side2 => exact (Kd.R_reads' HO464.out).2.1); rintro e w69 ⟨rfl, hb⟩; refine ⟨_, rfl, ?_⟩; have n0_ := Aside0.mk (Kd.Q_below (by (with_reducible repeat (first | apply Kd.Q_alloc | apply Kd.Q_drewN | apply Kd.Q_drew)); exact HO458.out) hb); have n1_ := Aside0.mk (Kd.R_below (by (with_reducible repeat (first | apply Kd.R_alloc | apply Kd.R_drewN | apply Kd.R_drew)); exact HO460.out) hb); have n2_ := Aside0.mk (Kd.R_below (by (with_reducible repeat (first | apply Kd.R_alloc | apply Kd.R_drewN | apply Kd.R_drew)); exact HO464.out) hb); have n3_ := Aside0.mk (Kd.R_below (by (with_reducible repeat (first | apply Kd.R_alloc | apply Kd.R_drewN | apply Kd.R_drew)); exact HO468.out) hb); have n4_ := Aside0.mk (below_step (by repeat (first | (with_reducible first | exact HB.out | apply below_alloc | apply pw_below_drewN | apply below_drew1) | exact HB.out)) hb); clear HO458; clear HO460; clear HO464; clear HO468; clear HB; have HO458 := n0_; have HO460 := n1_; have HO464 := n2_; have HO468 := n3_; have HB := n4_; clear n0_ n1_ n2_ n3_ n4_; (try clear hb); (try clear hb2); (try clear hk); (try clear hi)))
                                go_meet
                                case rel => exact ⟨_, H', ⟨by have := HJ9.out; have := HJ17.out; first | omega | exact Nat.le_refl _⟩, ⟨by repeat (first | (with_reducible first | exact HB.out | apply below_alloc | apply pw_below_drewN | apply below_drew1) | exact HB.out)⟩⟩
                              · rw [if_neg c66] at H
                                have c66b0 : (t474 == (Int.tmod (wrap64 (t470 + t472)) 1499)) = false := beq_eq_false_iff_ne.mpr c66
                                have c66b1 : (t474 != (Int.tmod (wrap64 (t470 + t472)) 1499)) = true := bne_iff_ne.mpr c66
                                (first | rw [c66b0] | (simp only [i64_w, i32_w]; rw [c66b0]) | skip)
                                obtain rfl := Option.some.inj H
                                exact absurd hr_.out (by simp)
                            · replace c65 := Bool.eq_false_iff.mpr c65
                              subst c65
                              have H1 : (some false) = some r := by rw [if_neg (show ¬ (false = true) by decide)] at H; exact H
                              clear H
                              have H := H1
                              clear H1
                              obtain rfl := Option.some.inj H
                              exact absurd hr_.out (by simp)
                          · replace c64 := Bool.eq_false_iff.mpr c64
                            subst c64
                            have H1 : (some false) = some r := by rw [if_neg (show ¬ (false = true) by decide)] at H; exact H
                            clear H
                            have H := H1
                            clear H1
                            obtain rfl := Option.some.inj H
                            exact absurd hr_.out (by simp)
                        · replace c63 := Bool.eq_false_iff.mpr c63
                          subst c63
                          have H1 : (some false) = some r := by rw [if_neg (show ¬ (false = true) by decide)] at H; exact H
                          clear H
                          have H := H1
                          clear H1
                          obtain rfl := Option.some.inj H
                          exact absurd hr_.out (by simp)
                      · replace c59 := Bool.eq_false_iff.mpr c59
                        subst c59
                        have H1 : (laws_FnParts.j2 kj17 l1) = some r := by rw [if_neg (show ¬ (false = true) by decide)] at H; exact H
                        clear H
                        have H := H1
                        clear H1
                        have H' := Aside0.mk H
                        clear H
                        go_wp2
                        go_meet
                        case rel => exact ⟨_, H', ⟨by have := HJ9.out; have := HJ17.out; first | omega | exact Nat.le_refl _⟩, ⟨by repeat (first | (with_reducible first | exact HB.out | apply below_alloc | apply pw_below_drewN | apply below_drew1) | exact HB.out)⟩⟩
                    case rest =>
                      clear HC51
                      try clear c1
                      try clear c2
                      try clear p2
                      try clear c3
                      try clear c3b0
                      try clear c4
                      try clear p4
                      try clear q4
                      try clear hx4
                      try clear qi4
                      try clear c5
                      try clear c6
                      try clear p6
                      try clear c7
                      try clear c7b0
                      try clear c7b1
                      try clear c7b2
                      try clear c9
                      try clear c10
                      try clear c11
                      try clear c13
                      try clear c14
                      try clear c15
                      try clear c16
                      try clear c17
                      try clear c19
                      try clear c21
                      try clear c21b0
                      try clear c21b1
                      try clear c23
                      try clear c23b0
                      try clear c23b1
                      try clear c24
                      try clear c24b0
                      try clear c24b1
                      try clear c25
                      try clear c25b0
                      try clear c25b1
                      try clear c28
                      try clear c29
                      try clear c29b0
                      try clear c29b1
                      try clear c30
                      try clear c30b0
                      try clear c30b1
                      try clear c31
                      try clear c33
                      try clear c37
                      try clear c38
                      try clear c39
                      try clear c39b0
                      try clear c39b1
                      try clear c40
                      try clear q40
                      try clear p44
                      try clear q44
                      try clear hx44
                      try clear qi44
                      try clear c48
                      try clear c48b0
                      try clear c48b1
                      try clear c48b2
                      try clear c50
                      try clear c59
                      try clear c63
                      try clear c64
                      try clear p64
                      try clear c65
                      try clear c66
                      try clear c66b0
                      try clear c66b1
                      try clear hx448_0
                      try clear p2
                      try clear p4
                      try clear p44
                      try clear p448
                      try clear p6
                      try clear q040
                      try clear q4
                      try clear q40
                      try clear q44
                      try clear q448
                      obtain ⟨kq, HA, HJ50, HB⟩ := hcut
                      cases kq with
                      | zero => exact absurd HA.out (by simp [laws_FnParts.j2])
                      | succ kj50 =>
                        have H := HA.out
                        clear HA
                        simp only [laws_FnParts.j2] at H
                        replace H := Option.bind_eq_some_iff.mp H
                        obtain ⟨⟨t476, t477⟩, A700, H⟩ := H
                        replace H : ((impl_ValueAt.f kj50 t476 t477).bind fun bt480 => ((spec_ValueAt.f kj50 t476 t477).bind fun bt482 => ((spec_DrawJoinParts.f kj50 l1).bind fun t484 => ((impl_JoinParts.f kj50 t484).bind fun bt487 => ((spec_JoinParts.f kj50 t484).bind fun bt489 => (if (bt480.2 == bt482.2) = true then (if bt480.1 = bt482.1 then (if (bt487.2 == bt489.2) = true then (some (bt487.1 == bt489.1)) else (some false)) else (some false)) else (some false))))))) = some r := H
                        have A70 := Aside0.mk A700
                        clear A700
                        replace H := Option.bind_eq_some_iff.mp H
                        obtain ⟨⟨t480, t481⟩, A710, H⟩ := H
                        replace H : ((spec_ValueAt.f kj50 t476 t477).bind fun bt482 => ((spec_DrawJoinParts.f kj50 l1).bind fun t484 => ((impl_JoinParts.f kj50 t484).bind fun bt487 => ((spec_JoinParts.f kj50 t484).bind fun bt489 => (if (t481 == bt482.2) = true then (if t480 = bt482.1 then (if (bt487.2 == bt489.2) = true then (some (bt487.1 == bt489.1)) else (some false)) else (some false)) else (some false)))))) = some r := H
                        have A71 := Aside0.mk A710
                        clear A710
                        replace H := Option.bind_eq_some_iff.mp H
                        obtain ⟨⟨t482, t483⟩, A720, H⟩ := H
                        replace H : ((spec_DrawJoinParts.f kj50 l1).bind fun t484 => ((impl_JoinParts.f kj50 t484).bind fun bt487 => ((spec_JoinParts.f kj50 t484).bind fun bt489 => (if (t481 == t483) = true then (if t480 = t482 then (if (bt487.2 == bt489.2) = true then (some (bt487.1 == bt489.1)) else (some false)) else (some false)) else (some false))))) = some r := H
                        have A72 := Aside0.mk A720
                        clear A720
                        replace H := Option.bind_eq_some_iff.mp H
                        obtain ⟨t484, A730, H⟩ := H
                        replace H : ((impl_JoinParts.f kj50 t484).bind fun bt487 => ((spec_JoinParts.f kj50 t484).bind fun bt489 => (if (t481 == t483) = true then (if t480 = t482 then (if (bt487.2 == bt489.2) = true then (some (bt487.1 == bt489.1)) else (some false)) else (some false)) else (some false)))) = some r := H
                        have A73 := Aside0.mk A730
                        clear A730
                        replace H := Option.bind_eq_some_iff.mp H
                        obtain ⟨⟨t487, t488⟩, A740, H⟩ := H
                        replace H : ((spec_JoinParts.f kj50 t484).bind fun bt489 => (if (t481 == t483) = true then (if t480 = t482 then (if (t488 == bt489.2) = true then (some (t487 == bt489.1)) else (some false)) else (some false)) else (some false))) = some r := H
                        have A74 := Aside0.mk A740
                        clear A740
                        replace H := Option.bind_eq_some_iff.mp H
                        obtain ⟨⟨t489, t490⟩, A750, H⟩ := H
                        replace H : (if (t481 == t483) = true then (if t480 = t482 then (if (t488 == t490) = true then (some (t487 == t489)) else (some false)) else (some false)) else (some false)) = some r := H
                        have A75 := Aside0.mk A750
                        clear A750
                        by_cases c76 : (t481 == t483) = true
                        · rw [if_pos c76] at H
                          have c76b0 : (t481 == t483) = true := c76
                          (try (have c76b1 : decide (t481 = t483) = true := by simpa using c76))
                          (try (have c76b2 : (t481 == t483) = true := by simpa using c76))
                          clear c76
                          by_cases c77 : t480 = t482
                          · rw [if_pos c77] at H
                            have c77b0 : (t480 == t482) = true := beq_iff_eq.mpr c77
                            have c77b1 : (t480 != t482) = false := bne_eq_false_iff_eq.mpr c77
                            clear c77
                            by_cases c78 : (t488 == t490) = true
                            · rw [if_pos c78] at H
                              have c78b0 : (t488 == t490) = true := c78
                              (try (have c78b1 : decide (t488 = t490) = true := by simpa using c78))
                              (try (have c78b2 : (t488 == t490) = true := by simpa using c78))
                              clear c78
                              obtain rfl := Option.some.inj H
                              simp only [Option.some.injEq, Prod.mk.injEq] at H
                              obtain ⟨rfl⟩ := H
                              go_wp2_with (first | ((with_reducible refine gate_callee (f := 18) rfl ?_); refine goesL_ (some 218) rfl rfl Try.func18 (by kernel_rfl) rfl #[.slice A1 l1.length c1] rfl (by (try simp only [List.map_toArray, List.map_cons, List.map_nil]); first | done | rfl | (simp only [List.length_drop, List.length_take]; rfl)) ?_; (with_reducible refine (spec_DrawValueAt.calls kj50 _ _ l1 t476 t477 _ ?side1 ?side2 A70.out).mono ?_); (case side1 => repeat (first | exact (Kd.C_below HR1.out HB.out) | (with_reducible refine Kd.C_alloc ?_ _) | (with_reducible refine Kd.C_drewN ?_ _) | (with_reducible refine Kd.C_drew ?_))); (case side2 => exact HC1.out); rintro e w79 ⟨v478, rfl, ho0, hb⟩; refine ⟨_, rfl, ?_⟩; have n0_ := Aside0.mk (Kd.R_lower ho0 (below_size (by repeat (first | (with_reducible first | exact HB.out | apply below_alloc | apply pw_below_drewN | apply below_drew1) | exact HB.out)))); have n1_ := Aside0.mk (below_step (by repeat (first | (with_reducible first | exact HB.out | apply below_alloc | apply pw_below_drewN | apply below_drew1) | exact HB.out)) hb); clear HB; have HO479 := n0_; have HB := n1_; clear n0_ n1_; (try clear hb); (try clear hb2); (try clear hk); (try clear hi); (try clear ho0); obtain ⟨Ao80, co80, eo80⟩ := Kd.R_slice HO479.out; subst eo80) | ((with_reducible refine gate_callee (f := 13) rfl ?_); refine goesL_ (some 224) rfl rfl Try.func13 (by kernel_rfl) rfl #[.slice Ao80 t476.length co80, .int .i64 t477] rfl (by (try simp only [List.map_toArray, List.map_cons, List.map_nil]); first | done | rfl | (simp only [List.length_drop, List.length_take]; rfl)) ?_; (with_reducible refine (impl_ValueAt.calls kj50 _ _ t476 t477 t480 t481 _ ?side1 ?side2 A71.out).mono ?_); (case side1 => repeat (first | exact (Kd.R_reads' HO479.out).2.2 | (with_reducible refine Kd.C_alloc ?_ _) | (with_reducible refine Kd.C_drewN ?_ _) | (with_reducible refine Kd.C_drew ?_))); (case side2 => exact (Kd.R_reads' HO479.out).2.1); rintro e w' ⟨rfl, ⟨nd, rfl⟩⟩; refine ⟨_, rfl, ?_⟩) | ((with_reducible refine gate_callee (f := 19) rfl ?_); refine goesL_ (some 230) rfl rfl Try.func19 (by kernel_rfl) rfl #[.slice Ao80 t476.length co80, .int .i64 t477] rfl (by (try simp only [List.map_toArray, List.map_cons, List.map_nil]); first | done | rfl | (simp only [List.length_drop, List.length_take]; rfl)) ?_; (with_reducible refine (spec_ValueAt.calls kj50 _ _ t476 t477 t482 t483 _ ?side1 ?side2 A72.out).mono ?_); (case side1 => repeat (first | exact (Kd.R_reads' HO479.out).2.2 | (with_reducible refine Kd.C_alloc ?_ _) | (with_reducible refine Kd.C_drewN ?_ _) | (with_reducible refine Kd.C_drew ?_))); (case side2 => exact (Kd.R_reads' HO479.out).2.1); rintro e w' ⟨rfl, ⟨nd, rfl⟩⟩; refine ⟨_, rfl, ?_⟩) | ((with_reducible refine gate_callee (f := 20) rfl ?_); refine goesL_ (some 234) rfl rfl Try.func20 (by kernel_rfl) rfl #[.slice A1 l1.length c1] rfl (by (try simp only [List.map_toArray, List.map_cons, List.map_nil]); first | done | rfl | (simp only [List.length_drop, List.length_take]; rfl)) ?_; (with_reducible refine (spec_DrawJoinParts.calls kj50 _ _ l1 t484 _ ?side1 ?side2 A73.out).mono ?_); (case side1 => repeat (first | exact (Kd.C_below HR1.out (by repeat (first | (with_reducible first | exact HB.out | apply below_alloc | apply pw_below_drewN | apply below_drew1) | exact HB.out))) | (with_reducible refine Kd.C_alloc ?_ _) | (with_reducible refine Kd.C_drewN ?_ _) | (with_reducible refine Kd.C_drew ?_))); (case side2 => exact HC1.out); rintro e w81 ⟨v485, rfl, ho0, hb⟩; refine ⟨_, rfl, ?_⟩; have n0_ := Aside0.mk (Kd.R_below (by (with_reducible repeat (first | apply Kd.R_alloc | apply Kd.R_drewN | apply Kd.R_drew)); exact HO479.out) hb); have n1_ := Aside0.mk (Kd.Q_lower ho0 (below_size (by repeat (first | (with_reducible first | exact HB.out | apply below_alloc | apply pw_below_drewN | apply below_drew1) | exact HB.out)))); have n2_ := Aside0.mk (below_step (by repeat (first | (with_reducible first | exact HB.out | apply below_alloc | apply pw_below_drewN | apply below_drew1) | exact HB.out)) hb); clear HO479; clear HB; have HO479 := n0_; have HO486 := n1_; have HB := n2_; clear n0_ n1_ n2_; (try clear hb); (try clear hb2); (try clear hk); (try clear hi); (try clear ho0); obtain ⟨Ao82, co82, eo82, _⟩ := Kd.Q_slice HO486.out; subst eo82) | ((with_reducible refine gate_callee (f := 10) rfl ?_); refine goesL_ (some 237) rfl rfl Try.func10 (by kernel_rfl) rfl #[.slice Ao82 t484.length co82] rfl (by (try simp only [List.map_toArray, List.map_cons, List.map_nil]); first | done | rfl | (simp only [List.length_drop, List.length_take]; rfl)) ?_; (with_reducible refine (impl_JoinParts.calls kj50 _ _ t484 t487 t488 _ ?side1 ?side2 A74.out).mono ?_); (case side1 => repeat (first | exact (Kd.Q_reads' HO486.out).2.2 | (with_reducible refine Kd.C_alloc ?_ _) | (with_reducible refine Kd.C_drewN ?_ _) | (with_reducible refine Kd.C_drew ?_))); (case side2 => exact (Kd.Q_reads' HO486.out).2.1); rintro e w83 ⟨rfl, hb⟩; refine ⟨_, rfl, ?_⟩; have n0_ := Aside0.mk (Kd.R_below (by (with_reducible repeat (first | apply Kd.R_alloc | apply Kd.R_drewN | apply Kd.R_drew)); exact HO479.out) hb); have n1_ := Aside0.mk (Kd.Q_below (by (with_reducible repeat (first | apply Kd.Q_alloc | apply Kd.Q_drewN | apply Kd.Q_drew)); exact HO486.out) hb); have n2_ := Aside0.mk (below_step (by repeat (first | (with_reducible first | exact HB.out | apply below_alloc | apply pw_below_drewN | apply below_drew1) | exact HB.out)) hb); clear HO479; clear HO486; clear HB; have HO479 := n0_; have HO486 := n1_; have HB := n2_; clear n0_ n1_ n2_; (try clear hb); (try clear hb2); (try clear hk); (try clear hi)) | ((with_reducible refine gate_callee (f := 21) rfl ?_); refine goesL_ (some 242) rfl rfl Try.func21 (by kernel_rfl) rfl #[.slice Ao82 t484.length co82] rfl (by (try simp only [List.map_toArray, List.map_cons, List.map_nil]); first | done | rfl | (simp only [List.length_drop, List.length_take]; rfl)) ?_; (with_reducible refine (spec_JoinParts.calls kj50 _ _ t484 t489 t490 _ ?side1 ?side2 A75.out).mono ?_); (case side1 => repeat (first | exact (Kd.Q_reads' HO486.out).2.2 | (with_reducible refine Kd.C_alloc ?_ _) | (with_reducible refine Kd.C_drewN ?_ _) | (with_reducible refine Kd.C_drew ?_))); (case side2 => exact (Kd.Q_reads' HO486.out).2.1); rintro e w84 ⟨rfl, hb⟩; refine ⟨_, rfl, ?_⟩; have n0_ := Aside0.mk (Kd.R_below (by (with_reducible repeat (first | apply Kd.R_alloc | apply Kd.R_drewN | apply Kd.R_drew)); exact HO479.out) hb); have n1_ := Aside0.mk (Kd.Q_below (by (with_reducible repeat (first | apply Kd.Q_alloc | apply Kd.Q_drewN | apply Kd.Q_drew)); exact HO486.out) hb); have n2_ := Aside0.mk (below_step (by repeat (first | (with_reducible first | exact HB.out | apply below_alloc | apply pw_below_drewN | apply below_drew1) | exact HB.out)) hb); clear HO479; clear HO486; clear HB; have HO479 := n0_; have HO486 := n1_; have HB := n2_; clear n0_ n1_ n2_; (try clear hb); (try clear hb2); (try clear hk); (try clear hi)))
                              go_ret
                              exact ⟨by first | rfl | (simp [errW_none, errW_some] <;> rfl) | (simp [*, errW_none, errW_some] <;> rfl), by repeat (first | (with_reducible first | exact HB.out | apply below_alloc | apply pw_below_drewN | apply below_drew1) | exact HB.out)⟩
                            · rw [if_neg c78] at H
                              have c78b0 : (t488 == t490) = false := by simpa using c78
                              (try (have c78b1 : decide (t488 = t490) = false := by simpa using c78))
                              (try (have c78b2 : (t488 == t490) = false := by simpa using c78))
                              (try (have c78b3 : ¬ (t488 = t490) := by simpa using c78))
                              clear c78
                              obtain rfl := Option.some.inj H
                              exact absurd hr_.out (by simp)
                          · rw [if_neg c77] at H
                            have c77b0 : (t480 == t482) = false := beq_eq_false_iff_ne.mpr c77
                            have c77b1 : (t480 != t482) = true := bne_iff_ne.mpr c77
                            obtain rfl := Option.some.inj H
                            exact absurd hr_.out (by simp)
                        · rw [if_neg c76] at H
                          have c76b0 : (t481 == t483) = false := by simpa using c76
                          (try (have c76b1 : decide (t481 = t483) = false := by simpa using c76))
                          (try (have c76b2 : (t481 == t483) = false := by simpa using c76))
                          (try (have c76b3 : ¬ (t481 = t483) := by simpa using c76))
                          clear c76
                          obtain rfl := Option.some.inj H
                          exact absurd hr_.out (by simp)
                  · replace c50 := Bool.eq_false_iff.mpr c50
                    subst c50
                    have H1 : (some false) = some r := by rw [if_neg (show ¬ (false = true) by decide)] at H; exact H
                    clear H
                    have H := H1
                    clear H1
                    obtain rfl := Option.some.inj H
                    exact absurd hr_.out (by simp)
      · replace c9 := Bool.eq_false_iff.mpr c9
        subst c9
        have H1 : (some false) = some r := by rw [if_neg (show ¬ (false = true) by decide)] at H; exact H
        clear H
        have H := H1
        clear H1
        obtain rfl := Option.some.inj H
        exact absurd hr_.out (by simp)

/-- THE ONE PURE STATEMENT of laws_FnParts: yours. -/
def laws_FnParts.Pure : Prop := ∀ (l0 : List Int) (l1 : List Int), l0.length ≤ maxLen → l0.length * 1 ≤ 140737488351232 → (∀ x ∈ l0, (Lit.int .u8 x).wf = true) → l1.length ≤ maxLen → l1.length * 1 ≤ 140737488351232 → (∀ x ∈ l1, (Lit.int .u8 x).wf = true) → ∃ k, laws_FnParts.f k l0 l1 = some true
theorem laws_FnParts.walk (P : laws_FnParts.Pure) (a0 : Option Addr) (len0 cap0 : Nat) (z0 : List Int) (a1 : Option Addr) (len1 cap1 : Nat) (z1 : List Int) (w : World) (w0 : (a0 = none ∧ len0 = 0 ∧ cap0 = 0 ∧ z0 = []) ∨ ∃ x, a0 = some x ∧ len0 ≤ cap0 ∧ cap0 ≤ maxLen ∧ z0.length = cap0 ∧ (∀ i, i < z0.length → w.cell? (x.add i) = some (.int .u8 (z0.getD i 0))) ∧ ∀ n ∈ z0, (Lit.int .u8 n).wf = true) (y0 : len0 * 1 ≤ 140737488351232) (w1 : (a1 = none ∧ len1 = 0 ∧ cap1 = 0 ∧ z1 = []) ∨ ∃ x, a1 = some x ∧ len1 ≤ cap1 ∧ cap1 ≤ maxLen ∧ z1.length = cap1 ∧ (∀ i, i < z1.length → w.cell? (x.add i) = some (.int .u8 (z1.getD i 0))) ∧ ∀ n ∈ z1, (Lit.int .u8 n).wf = true) (y1 : len1 * 1 ≤ 140737488351232) :
    Calls Try.prog 3 #[.slice a0 len0 cap0, .slice a1 len1 cap1] w fun e w' => e = .returned (.bool true) ∧ Below w.heap.size w w' := by
  obtain ⟨l0, rfl, hr0, hm0, hw0, hc0⟩ := ReadsInt.ofRowC w0
  obtain ⟨l1, rfl, hr1, hm1, hw1, hc1⟩ := ReadsInt.ofRowC w1
  obtain ⟨k, h⟩ := P l0 l1 hm0 y0 hw0 hm1 y1 hw1
  refine (laws_FnParts.calls k _ _ l0 _ _ l1 true w (Kd.C_of_reads (d := (0 : Int)) (h1 := fun _ => rfl) hr0) hc0 (Kd.C_of_reads (d := (0 : Int)) (h1 := fun _ => rfl) hr1) hc1 h ⟨rfl⟩).mono ?_
  rintro e w' ⟨rfl, hd⟩
  exact ⟨rfl, hd⟩

end Go.Proofs.Ytdobjdkjflnpmaa.PFnParts
