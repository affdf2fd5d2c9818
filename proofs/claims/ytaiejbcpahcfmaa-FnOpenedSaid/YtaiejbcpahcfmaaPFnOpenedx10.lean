-- Written by a program of this session, after the kit's print (changed in some places; see NOTES.md). Lean checks it.
import Derived.Test.YtaiejbcpahcfmaaPFnOpenedx0
import Derived.Test.YtaiejbcpahcfmaaPFnOpenedx1
import Derived.Test.YtaiejbcpahcfmaaPFnOpenedx2
import Derived.Test.YtaiejbcpahcfmaaPFnOpenedx3
import Derived.Test.YtaiejbcpahcfmaaPFnOpenedx4
import Derived.Test.YtaiejbcpahcfmaaPFnOpenedx5
import Derived.Test.YtaiejbcpahcfmaaPFnOpenedx6
import Derived.Test.YtaiejbcpahcfmaaPFnOpenedx7
import Derived.Test.YtaiejbcpahcfmaaPFnOpenedx8
import Derived.Test.YtaiejbcpahcfmaaPFnOpenedx9
namespace Go.Proofs.Ytaiejbcpahcfmaa.PFnOpened
open Go.RowKit Go.Proofs.YtaiejbcpahcfmaaW.PrintWords Go.Proofs.YtaiejbcpahcfmaaW.PrintLast Go.Proofs.YtaiejbcpahcfmaaW.PrintMore
attribute [local go_sem] max2_int min2_int max_two min_two max_three min_three max_four min_four   -- for this text's walks alone
set_option linter.unusedVariables false
set_option linter.unusedSimpArgs false

attribute [local go_sem high] eqA28
/-! ### laws_FnOpened: function 9 -/
mutual
def laws_FnOpened.j0 : Nat → List Int → List Int → Int → Bool → Bool → Int → Int → Option (Bool)
  | 0, _, _, _, _, _, _, _ => none
  | k + 1, x1, x5, x7, x8, x72, x420000, x420001 => if x72 = true then (some false) else (if x8 = true then (laws_FnOpened.l0 k x1 x7 0 x5 (x5.length : Int) 0 x420000 x420001) else (laws_FnOpened.j2 k x1))
def laws_FnOpened.j2 : Nat → List Int → Option (Bool)
  | 0, _ => none
  | k + 1, x1 => (spec_DrawOpenSum.f k x1).bind fun bt427 => ((impl_OpenSum.f k bt427.1 bt427.2.1 bt427.2.2.1 bt427.2.2.2).bind fun bt434 => ((spec_OpenSum.f k bt427.1 bt427.2.1 bt427.2.2.1 bt427.2.2.2).bind fun bt436 => ((spec_DrawLogOf.f k x1).bind fun bt438 => ((impl_LogOf.f k bt438.1 bt438.2).bind fun bt440 => ((spec_LogOf.f k bt438.1 bt438.2).bind fun bt442 => ((spec_DrawAddVotes.f k x1).bind fun t444 => ((impl_AddVotes.f k t444).bind fun bt447 => ((spec_AddVotes.f k t444).bind fun bt451 => ((spec_DrawOpenPart.f k x1).bind fun bt455 => ((impl_OpenPart.f k bt455.1 bt455.2.1 bt455.2.2).bind fun bt459 => ((spec_OpenPart.f k bt455.1 bt455.2.1 bt455.2.2).bind fun bt461 => (if (bt434.2 != bt436.2) = true then (laws_FnOpened.j3 k bt438.1 bt440.1 bt440.2 true) else (if bt434.1 = bt436.1 then (if (bt440.2 != bt442.2) = true then (laws_FnOpened.j3 k bt438.1 bt440.1 bt440.2 true) else (if bt440.1 = bt442.1 then (if (bt447.2.2 != bt451.2.2) = true then (laws_FnOpened.j3 k bt438.1 bt440.1 bt440.2 true) else (if (!(bt447.1 == bt451.1) || (!(bt447.2.1 == bt451.2.1))) = true then (laws_FnOpened.j3 k bt438.1 bt440.1 bt440.2 true) else (if (bt459.2 != bt461.2) = true then (laws_FnOpened.j3 k bt438.1 bt440.1 bt440.2 true) else (laws_FnOpened.j3 k bt438.1 bt440.1 bt440.2 (bt459.1 != bt461.1))))) else (laws_FnOpened.j3 k bt438.1 bt440.1 bt440.2 true))) else (laws_FnOpened.j3 k bt438.1 bt440.1 bt440.2 true))))))))))))))
def laws_FnOpened.j3 : Nat → Int → Int → Bool → Bool → Option (Bool)
  | 0, _, _, _, _ => none
  | k + 1, x23, x25, x26, x200 => if x200 = true then (some false) else (if x26 = true then ((impl_PowerOf.f k 4 x25).bind fun bt463 => (if bt463.2 = true then (some (bt463.1 == x23)) else (some false))) else (some true))
def laws_FnOpened.l0 : Nat → List Int → Int → Int → List Int → Int → Int → Int → Int → Option (Bool)
  | 0, _, _, _, _, _, _, _, _ => none
  | k + 1, x1, x7, x11, x74, x75, x76, x420000, x420001 => if x76 < x75 then (if 0 ≤ x76 then (if x76 < (x74.length : Int) then (laws_FnOpened.l0 k x1 x7 (Int.tmod (wrap64 (x11 + (rd x74 x76))) 1499) x74 x75 (wrap64 (x76 + 1)) x420000 x420001) else (none)) else (none)) else ((impl_OpenNumber.f k x11 x420000 x420001).bind fun bt425 => (if bt425.2 = true then (if bt425.1 = x7 then (laws_FnOpened.j2 k x1) else (some false)) else (laws_FnOpened.j2 k x1)))
end
def laws_FnOpened.f (k : Nat) (l0 : List Int) (l1 : List Int) : Option (Bool) := if (wrap64 ((l0.length : Int) + (l1.length : Int))) > 1048576 then (some true) else ((spec_DrawOpenAll.f k l0).bind fun bt414 => ((impl_OpenAll.f k bt414.1 bt414.2.1 bt414.2.2).bind fun bt420 => ((spec_OpenAll.f k bt414.1 bt414.2.1 bt414.2.2).bind fun bt422 => (if (bt420.2 != bt422.2) = true then (laws_FnOpened.j0 k l1 bt414.1 bt420.1 bt420.2 true bt414.2.1 bt414.2.2) else (laws_FnOpened.j0 k l1 bt414.1 bt420.1 bt420.2 (bt420.1 != bt422.1) bt414.2.1 bt414.2.2)))))
theorem laws_FnOpened.mono_l : ∀ k, (∀ y0 y1 y2 y3 y4 y5 y6, LeO (laws_FnOpened.j0 k y0 y1 y2 y3 y4 y5 y6) (laws_FnOpened.j0 (k + 1) y0 y1 y2 y3 y4 y5 y6)) ∧ (∀ y0, LeO (laws_FnOpened.j2 k y0) (laws_FnOpened.j2 (k + 1) y0)) ∧ (∀ y0 y1 y2 y3, LeO (laws_FnOpened.j3 k y0 y1 y2 y3) (laws_FnOpened.j3 (k + 1) y0 y1 y2 y3)) ∧ (∀ y0 y1 y2 y3 y4 y5 y6 y7, LeO (laws_FnOpened.l0 k y0 y1 y2 y3 y4 y5 y6 y7) (laws_FnOpened.l0 (k + 1) y0 y1 y2 y3 y4 y5 y6 y7))
  | 0 => ⟨fun _ _ _ _ _ _ _ r h => by simp [laws_FnOpened.j0] at h, fun _ r h => by simp [laws_FnOpened.j2] at h, fun _ _ _ _ r h => by simp [laws_FnOpened.j3] at h, fun _ _ _ _ _ _ _ _ r h => by simp [laws_FnOpened.l0] at h⟩
  | k + 1 => by
    obtain ⟨ih0, ih1, ih2, ih3⟩ := laws_FnOpened.mono_l k
    refine ⟨?_, ?_, ?_, ?_⟩
    · intro y0 y1 y2 y3 y4 y5 y6
      unfold laws_FnOpened.j0
      repeat' first
      | (with_reducible exact ih0 _ _ _ _ _ _ _)
      | (with_reducible exact ih1 _)
      | (with_reducible exact ih2 _ _ _ _)
      | (with_reducible exact ih3 _ _ _ _ _ _ _ _)
      | (with_reducible exact impl_AddVotes.mono _ _)
      | (with_reducible exact impl_LogOf.mono _ _ _)
      | (with_reducible exact impl_OpenAll.mono _ _ _ _)
      | (with_reducible exact impl_OpenNumber.mono _ _ _ _)
      | (with_reducible exact impl_OpenPart.mono _ _ _ _)
      | (with_reducible exact impl_OpenSum.mono _ _ _ _ _)
      | (with_reducible exact impl_PowerOf.mono _ _ _)
      | (with_reducible exact spec_AddVotes.mono _ _)
      | (with_reducible exact spec_DrawAddVotes.mono _ _)
      | (with_reducible exact spec_DrawLogOf.mono _ _)
      | (with_reducible exact spec_DrawOpenAll.mono _ _)
      | (with_reducible exact spec_DrawOpenPart.mono _ _)
      | (with_reducible exact spec_DrawOpenSum.mono _ _)
      | (with_reducible exact spec_LogOf.mono _ _ _)
      | (with_reducible exact spec_OpenAll.mono _ _ _ _)
      | (with_reducible exact spec_OpenPart.mono _ _ _ _)
      | (with_reducible exact spec_OpenSum.mono _ _ _ _ _)
      | (with_reducible exact LeO.refl _)
      | (with_reducible exact LeO.none _)
      | (with_reducible refine LeO.ite ?_ ?_)
      | (with_reducible refine LeO.bind ?_ (fun _ => ?_))
      | exact ih0 _ _ _ _ _ _ _
      | exact ih1 _
      | exact ih2 _ _ _ _
      | exact ih3 _ _ _ _ _ _ _ _
      | exact impl_AddVotes.mono _ _
      | exact impl_LogOf.mono _ _ _
      | exact impl_OpenAll.mono _ _ _ _
      | exact impl_OpenNumber.mono _ _ _ _
      | exact impl_OpenPart.mono _ _ _ _
      | exact impl_OpenSum.mono _ _ _ _ _
      | exact impl_PowerOf.mono _ _ _
      | exact spec_AddVotes.mono _ _
      | exact spec_DrawAddVotes.mono _ _
      | exact spec_DrawLogOf.mono _ _
      | exact spec_DrawOpenAll.mono _ _
      | exact spec_DrawOpenPart.mono _ _
      | exact spec_DrawOpenSum.mono _ _
      | exact spec_LogOf.mono _ _ _
      | exact spec_OpenAll.mono _ _ _ _
      | exact spec_OpenPart.mono _ _ _ _
      | exact spec_OpenSum.mono _ _ _ _ _
      | exact LeO.none _
      | refine LeO.ite ?_ ?_
      | refine LeO.bind ?_ (fun _ => ?_)
    · intro y0
      unfold laws_FnOpened.j2
      repeat' first
      | (with_reducible exact ih0 _ _ _ _ _ _ _)
      | (with_reducible exact ih1 _)
      | (with_reducible exact ih2 _ _ _ _)
      | (with_reducible exact ih3 _ _ _ _ _ _ _ _)
      | (with_reducible exact impl_AddVotes.mono _ _)
      | (with_reducible exact impl_LogOf.mono _ _ _)
      | (with_reducible exact impl_OpenAll.mono _ _ _ _)
      | (with_reducible exact impl_OpenNumber.mono _ _ _ _)
      | (with_reducible exact impl_OpenPart.mono _ _ _ _)
      | (with_reducible exact impl_OpenSum.mono _ _ _ _ _)
      | (with_reducible exact impl_PowerOf.mono _ _ _)
      | (with_reducible exact spec_AddVotes.mono _ _)
      | (with_reducible exact spec_DrawAddVotes.mono _ _)
      | (with_reducible exact spec_DrawLogOf.mono _ _)
      | (with_reducible exact spec_DrawOpenAll.mono _ _)
      | (with_reducible exact spec_DrawOpenPart.mono _ _)
      | (with_reducible exact spec_DrawOpenSum.mono _ _)
      | (with_reducible exact spec_LogOf.mono _ _ _)
      | (with_reducible exact spec_OpenAll.mono _ _ _ _)
      | (with_reducible exact spec_OpenPart.mono _ _ _ _)
      | (with_reducible exact spec_OpenSum.mono _ _ _ _ _)
      | (with_reducible exact LeO.refl _)
      | (with_reducible exact LeO.none _)
      | (with_reducible refine LeO.ite ?_ ?_)
      | (with_reducible refine LeO.bind ?_ (fun _ => ?_))
      | exact ih0 _ _ _ _ _ _ _
      | exact ih1 _
      | exact ih2 _ _ _ _
      | exact ih3 _ _ _ _ _ _ _ _
      | exact impl_AddVotes.mono _ _
      | exact impl_LogOf.mono _ _ _
      | exact impl_OpenAll.mono _ _ _ _
      | exact impl_OpenNumber.mono _ _ _ _
      | exact impl_OpenPart.mono _ _ _ _
      | exact impl_OpenSum.mono _ _ _ _ _
      | exact impl_PowerOf.mono _ _ _
      | exact spec_AddVotes.mono _ _
      | exact spec_DrawAddVotes.mono _ _
      | exact spec_DrawLogOf.mono _ _
      | exact spec_DrawOpenAll.mono _ _
      | exact spec_DrawOpenPart.mono _ _
      | exact spec_DrawOpenSum.mono _ _
      | exact spec_LogOf.mono _ _ _
      | exact spec_OpenAll.mono _ _ _ _
      | exact spec_OpenPart.mono _ _ _ _
      | exact spec_OpenSum.mono _ _ _ _ _
      | exact LeO.none _
      | refine LeO.ite ?_ ?_
      | refine LeO.bind ?_ (fun _ => ?_)
    · intro y0 y1 y2 y3
      unfold laws_FnOpened.j3
      repeat' first
      | (with_reducible exact ih0 _ _ _ _ _ _ _)
      | (with_reducible exact ih1 _)
      | (with_reducible exact ih2 _ _ _ _)
      | (with_reducible exact ih3 _ _ _ _ _ _ _ _)
      | (with_reducible exact impl_AddVotes.mono _ _)
      | (with_reducible exact impl_LogOf.mono _ _ _)
      | (with_reducible exact impl_OpenAll.mono _ _ _ _)
      | (with_reducible exact impl_OpenNumber.mono _ _ _ _)
      | (with_reducible exact impl_OpenPart.mono _ _ _ _)
      | (with_reducible exact impl_OpenSum.mono _ _ _ _ _)
      | (with_reducible exact impl_PowerOf.mono _ _ _)
      | (with_reducible exact spec_AddVotes.mono _ _)
      | (with_reducible exact spec_DrawAddVotes.mono _ _)
      | (with_reducible exact spec_DrawLogOf.mono _ _)
      | (with_reducible exact spec_DrawOpenAll.mono _ _)
      | (with_reducible exact spec_DrawOpenPart.mono _ _)
      | (with_reducible exact spec_DrawOpenSum.mono _ _)
      | (with_reducible exact spec_LogOf.mono _ _ _)
      | (with_reducible exact spec_OpenAll.mono _ _ _ _)
      | (with_reducible exact spec_OpenPart.mono _ _ _ _)
      | (with_reducible exact spec_OpenSum.mono _ _ _ _ _)
      | (with_reducible exact LeO.refl _)
      | (with_reducible exact LeO.none _)
      | (with_reducible refine LeO.ite ?_ ?_)
      | (with_reducible refine LeO.bind ?_ (fun _ => ?_))
      | exact ih0 _ _ _ _ _ _ _
      | exact ih1 _
      | exact ih2 _ _ _ _
      | exact ih3 _ _ _ _ _ _ _ _
      | exact impl_AddVotes.mono _ _
      | exact impl_LogOf.mono _ _ _
      | exact impl_OpenAll.mono _ _ _ _
      | exact impl_OpenNumber.mono _ _ _ _
      | exact impl_OpenPart.mono _ _ _ _
      | exact impl_OpenSum.mono _ _ _ _ _
      | exact impl_PowerOf.mono _ _ _
      | exact spec_AddVotes.mono _ _
      | exact spec_DrawAddVotes.mono _ _
      | exact spec_DrawLogOf.mono _ _
      | exact spec_DrawOpenAll.mono _ _
      | exact spec_DrawOpenPart.mono _ _
      | exact spec_DrawOpenSum.mono _ _
      | exact spec_LogOf.mono _ _ _
      | exact spec_OpenAll.mono _ _ _ _
      | exact spec_OpenPart.mono _ _ _ _
      | exact spec_OpenSum.mono _ _ _ _ _
      | exact LeO.none _
      | refine LeO.ite ?_ ?_
      | refine LeO.bind ?_ (fun _ => ?_)
    · intro y0 y1 y2 y3 y4 y5 y6 y7
      unfold laws_FnOpened.l0
      repeat' first
      | (with_reducible exact ih0 _ _ _ _ _ _ _)
      | (with_reducible exact ih1 _)
      | (with_reducible exact ih2 _ _ _ _)
      | (with_reducible exact ih3 _ _ _ _ _ _ _ _)
      | (with_reducible exact impl_AddVotes.mono _ _)
      | (with_reducible exact impl_LogOf.mono _ _ _)
      | (with_reducible exact impl_OpenAll.mono _ _ _ _)
      | (with_reducible exact impl_OpenNumber.mono _ _ _ _)
      | (with_reducible exact impl_OpenPart.mono _ _ _ _)
      | (with_reducible exact impl_OpenSum.mono _ _ _ _ _)
      | (with_reducible exact impl_PowerOf.mono _ _ _)
      | (with_reducible exact spec_AddVotes.mono _ _)
      | (with_reducible exact spec_DrawAddVotes.mono _ _)
      | (with_reducible exact spec_DrawLogOf.mono _ _)
      | (with_reducible exact spec_DrawOpenAll.mono _ _)
      | (with_reducible exact spec_DrawOpenPart.mono _ _)
      | (with_reducible exact spec_DrawOpenSum.mono _ _)
      | (with_reducible exact spec_LogOf.mono _ _ _)
      | (with_reducible exact spec_OpenAll.mono _ _ _ _)
      | (with_reducible exact spec_OpenPart.mono _ _ _ _)
      | (with_reducible exact spec_OpenSum.mono _ _ _ _ _)
      | (with_reducible exact LeO.refl _)
      | (with_reducible exact LeO.none _)
      | (with_reducible refine LeO.ite ?_ ?_)
      | (with_reducible refine LeO.bind ?_ (fun _ => ?_))
      | exact ih0 _ _ _ _ _ _ _
      | exact ih1 _
      | exact ih2 _ _ _ _
      | exact ih3 _ _ _ _ _ _ _ _
      | exact impl_AddVotes.mono _ _
      | exact impl_LogOf.mono _ _ _
      | exact impl_OpenAll.mono _ _ _ _
      | exact impl_OpenNumber.mono _ _ _ _
      | exact impl_OpenPart.mono _ _ _ _
      | exact impl_OpenSum.mono _ _ _ _ _
      | exact impl_PowerOf.mono _ _ _
      | exact spec_AddVotes.mono _ _
      | exact spec_DrawAddVotes.mono _ _
      | exact spec_DrawLogOf.mono _ _
      | exact spec_DrawOpenAll.mono _ _
      | exact spec_DrawOpenPart.mono _ _
      | exact spec_DrawOpenSum.mono _ _
      | exact spec_LogOf.mono _ _ _
      | exact spec_OpenAll.mono _ _ _ _
      | exact spec_OpenPart.mono _ _ _ _
      | exact spec_OpenSum.mono _ _ _ _ _
      | exact LeO.none _
      | refine LeO.ite ?_ ?_
      | refine LeO.bind ?_ (fun _ => ?_)
theorem laws_FnOpened.mono : ∀ a0 a1 k, LeO (laws_FnOpened.f k a0 a1) (laws_FnOpened.f (k + 1) a0 a1) := by
  intro a0 a1 k
  obtain ⟨ih0, ih1, ih2, ih3⟩ := laws_FnOpened.mono_l k
  unfold laws_FnOpened.f
  repeat' first
      | (with_reducible exact ih0 _ _ _ _ _ _ _)
      | (with_reducible exact ih1 _)
      | (with_reducible exact ih2 _ _ _ _)
      | (with_reducible exact ih3 _ _ _ _ _ _ _ _)
      | (with_reducible exact impl_AddVotes.mono _ _)
      | (with_reducible exact impl_LogOf.mono _ _ _)
      | (with_reducible exact impl_OpenAll.mono _ _ _ _)
      | (with_reducible exact impl_OpenNumber.mono _ _ _ _)
      | (with_reducible exact impl_OpenPart.mono _ _ _ _)
      | (with_reducible exact impl_OpenSum.mono _ _ _ _ _)
      | (with_reducible exact impl_PowerOf.mono _ _ _)
      | (with_reducible exact spec_AddVotes.mono _ _)
      | (with_reducible exact spec_DrawAddVotes.mono _ _)
      | (with_reducible exact spec_DrawLogOf.mono _ _)
      | (with_reducible exact spec_DrawOpenAll.mono _ _)
      | (with_reducible exact spec_DrawOpenPart.mono _ _)
      | (with_reducible exact spec_DrawOpenSum.mono _ _)
      | (with_reducible exact spec_LogOf.mono _ _ _)
      | (with_reducible exact spec_OpenAll.mono _ _ _ _)
      | (with_reducible exact spec_OpenPart.mono _ _ _ _)
      | (with_reducible exact spec_OpenSum.mono _ _ _ _ _)
      | (with_reducible exact LeO.refl _)
      | (with_reducible exact LeO.none _)
      | (with_reducible refine LeO.ite ?_ ?_)
      | (with_reducible refine LeO.bind ?_ (fun _ => ?_))
      | exact ih0 _ _ _ _ _ _ _
      | exact ih1 _
      | exact ih2 _ _ _ _
      | exact ih3 _ _ _ _ _ _ _ _
      | exact impl_AddVotes.mono _ _
      | exact impl_LogOf.mono _ _ _
      | exact impl_OpenAll.mono _ _ _ _
      | exact impl_OpenNumber.mono _ _ _ _
      | exact impl_OpenPart.mono _ _ _ _
      | exact impl_OpenSum.mono _ _ _ _ _
      | exact impl_PowerOf.mono _ _ _
      | exact spec_AddVotes.mono _ _
      | exact spec_DrawAddVotes.mono _ _
      | exact spec_DrawLogOf.mono _ _
      | exact spec_DrawOpenAll.mono _ _
      | exact spec_DrawOpenPart.mono _ _
      | exact spec_DrawOpenSum.mono _ _
      | exact spec_LogOf.mono _ _ _
      | exact spec_OpenAll.mono _ _ _ _
      | exact spec_OpenPart.mono _ _ _ _
      | exact spec_OpenSum.mono _ _ _ _ _
      | exact LeO.none _
      | refine LeO.ite ?_ ?_
      | refine LeO.bind ?_ (fun _ => ?_)
set_option maxHeartbeats 8000000 in
set_option maxRecDepth 100000 in
theorem laws_FnOpened.calls (k : Nat) (A0 : Option Addr) (c0 : Nat) (l0 : List Int) (A1 : Option Addr) (c1 : Nat) (l1 : List Int) (r : Bool) (w : World) (hr0 : Kd.C (Kd.int .u8) w A0 l0.length l0) (hc0 : l0.length ≤ c0) (hr1 : Kd.C (Kd.int .u8) w A1 l1.length l1) (hc1 : l1.length ≤ c1) (h : laws_FnOpened.f k l0 l1 = some r) (hr_ : Aside0 (r = true)) :
    Calls Try.prog 9 #[.slice A0 l0.length c0, .slice A1 l1.length c1] w fun e w' => e = .returned (.bool r) ∧ Below w.heap.size w w' := by
  have hu28 := Try.underlying28
  have HR0 := Aside0.mk hr0
  have HC0 := Aside0.mk hc0
  clear hr0 hc0
  have HR1 := Aside0.mk hr1
  have HC1 := Aside0.mk hc1
  clear hr1 hc1
  have HB := Aside0.mk (Below.refl w.heap.size w)
  have H : (if (wrap64 ((l0.length : Int) + (l1.length : Int))) > 1048576 then (some true) else ((spec_DrawOpenAll.f k l0).bind fun bt414 => ((impl_OpenAll.f k bt414.1 bt414.2.1 bt414.2.2).bind fun bt420 => ((spec_OpenAll.f k bt414.1 bt414.2.1 bt414.2.2).bind fun bt422 => (if (bt420.2 != bt422.2) = true then (laws_FnOpened.j0 k l1 bt414.1 bt420.1 bt420.2 true bt414.2.1 bt414.2.2) else (laws_FnOpened.j0 k l1 bt414.1 bt420.1 bt420.2 (bt420.1 != bt422.1) bt414.2.1 bt414.2.2)))))) = some r := h
  clear h
  by_cases c3 : (wrap64 ((l0.length : Int) + (l1.length : Int))) > 1048576
  · rw [if_pos c3] at H
    have c3b0 : decide (1048576 < (wrap64 ((l0.length : Int) + (l1.length : Int)))) = true := decide_eq_true c3
    clear c3
    as_aux_lemma =>
      obtain rfl := Option.some.inj H
      simp only [Option.some.injEq, Prod.mk.injEq] at H
      obtain ⟨rfl⟩ := H
      go_enter Try.func9, Try.ntmps9
      go_wp2
      go_ret
      exact ⟨by first | rfl | (simp [errW_none, errW_some] <;> rfl) | (simp [*, errW_none, errW_some] <;> rfl), by repeat (first | (with_reducible first | exact HB.out | apply below_alloc | apply pw_below_drewN | apply below_drew1) | exact HB.out)⟩
  · rw [if_neg c3] at H
    have c3b0 : decide (1048576 < (wrap64 ((l0.length : Int) + (l1.length : Int)))) = false := decide_eq_false c3
    clear c3
    replace H := Option.bind_eq_some_iff.mp H
    obtain ⟨⟨t414, t417, t418⟩, A40, H⟩ := H
    replace H : ((impl_OpenAll.f k t414 t417 t418).bind fun bt420 => ((spec_OpenAll.f k t414 t417 t418).bind fun bt422 => (if (bt420.2 != bt422.2) = true then (laws_FnOpened.j0 k l1 t414 bt420.1 bt420.2 true t417 t418) else (laws_FnOpened.j0 k l1 t414 bt420.1 bt420.2 (bt420.1 != bt422.1) t417 t418)))) = some r := H
    have A4 := Aside0.mk A40
    clear A40
    replace H := Option.bind_eq_some_iff.mp H
    obtain ⟨⟨t420, t421⟩, A50, H⟩ := H
    replace H : ((spec_OpenAll.f k t414 t417 t418).bind fun bt422 => (if (t421 != bt422.2) = true then (laws_FnOpened.j0 k l1 t414 t420 t421 true t417 t418) else (laws_FnOpened.j0 k l1 t414 t420 t421 (t420 != bt422.1) t417 t418))) = some r := H
    have A5 := Aside0.mk A50
    clear A50
    replace H := Option.bind_eq_some_iff.mp H
    obtain ⟨⟨t422, t423⟩, A60, H⟩ := H
    replace H : (if (t421 != t423) = true then (laws_FnOpened.j0 k l1 t414 t420 t421 true t417 t418) else (laws_FnOpened.j0 k l1 t414 t420 t421 (t420 != t422) t417 t418)) = some r := H
    have A6 := Aside0.mk A60
    clear A60
    have HC7 := Aside0.mk H
    clear H
    go_enter Try.func9, Try.ntmps9
    go_upto_region 6 with (first | ((with_reducible refine gate_callee (f := 49) rfl ?_); refine goesL_ (some 50) rfl rfl Try.func49 (by kernel_rfl) rfl #[.slice A0 l0.length c0] rfl (by (try simp only [List.map_toArray, List.map_cons, List.map_nil]); first | done | rfl | (simp only [List.length_drop, List.length_take]; rfl)) ?_; (with_reducible refine (spec_DrawOpenAll.calls k _ _ l0 t414 t417 t418 _ ?side1 ?side2 A4.out).mono ?_); (case side1 => repeat (first | exact HR0.out | (with_reducible refine Kd.C_alloc ?_ _) | (with_reducible refine Kd.C_drewN ?_ _) | (with_reducible refine Kd.C_drew ?_))); (case side2 => exact HC0.out); rintro e w8 ⟨v415, rfl, ho0, hb⟩; refine ⟨_, rfl, ?_⟩; have n0_ := Aside0.mk (Kd.R_lower ho0 (below_size (by repeat (first | (with_reducible first | exact HB.out | apply below_alloc | apply pw_below_drewN | apply below_drew1) | exact HB.out)))); have n1_ := Aside0.mk (below_step (by repeat (first | (with_reducible first | exact HB.out | apply below_alloc | apply pw_below_drewN | apply below_drew1) | exact HB.out)) hb); clear HB; have HO416 := n0_; have HB := n1_; clear n0_ n1_; (try clear hb); (try clear hb2); (try clear hk); (try clear hi); (try clear ho0)) | ((with_reducible refine gate_dst (N := 6) rfl ?_); refine box_event ?hg (N := 6) ?hd (cs := #[.int .i64 0, .int .i64 0]) (t := 28) ?hr ?_; (case hd => rfl); (case hg => rfl); (case hr => first | (go_simp; done) | (go_simp; rfl)); intro gb419 hg w9 hbox hb; have n0_ := Aside0.mk (Kd.R_below (by (with_reducible repeat (first | apply Kd.R_alloc | apply Kd.R_drewN | apply Kd.R_drew)); exact HO416.out) hb); have n1_ := Aside0.mk (below_step (by repeat (first | (with_reducible first | exact HB.out | apply below_alloc | apply pw_below_drewN | apply below_drew1) | exact HB.out)) hb); have n2_ := Aside0.mk (hbox); have n3_ := Aside0.mk ((by rw [hg]; exact (below_size (by repeat (first | (with_reducible first | exact HB.out | apply below_alloc | apply pw_below_drewN | apply below_drew1) | exact HB.out))) : w.heap.size ≤ gb419)); have n4_ := Aside0.mk ((by rw [hg]; exact (below_size (by repeat (first | (with_reducible first | exact HB.out | apply below_alloc | apply pw_below_drewN | apply below_drew1) | exact HB.out))) : w.heap.size ≤ gb419)); clear HO416; clear HB; have HO416 := n0_; have HB := n1_; have BK419 := n2_; have GW419 := n3_; have GE419 := n4_; clear n0_ n1_ n2_ n3_ n4_; clear hb hbox hg; have hcz10_0 : w9.cell? ⟨gb419, 0, none⟩ = some (.int .i64 0) := (blk_cell BK419.out 0).trans rfl; have hcz10_1 : w9.cell? ⟨gb419, 1, none⟩ = some (.int .i64 0) := (blk_cell BK419.out 1).trans rfl; have hfz10_0 := blk_frozen BK419.out 0; have hfz10_1 := blk_frozen BK419.out 1; obtain ⟨Ao11, co11, eo11⟩ := Kd.R_slice HO416.out; subst eo11) | ((with_reducible refine gate_callee (f := 15) rfl ?_); refine goesL_ (some 56) rfl rfl Try.func15 (by kernel_rfl) rfl #[.slice Ao11 t414.length co11, .agg #[.int .i64 t417, .int .i64 t418]] rfl (by (try simp only [List.map_toArray, List.map_cons, List.map_nil]); first | done | rfl | (simp only [List.length_drop, List.length_take]; rfl)) ?_; (with_reducible refine (impl_OpenAll.calls k _ _ t414 t417 t418 t420 t421 _ ?side1 ?side2 A5.out).mono ?_); (case side1 => refine (Kd.R_reads' (e := 3) (base := w.heap.size) (ok := fun k_ => True) (n := t414.length) (c := co11) ?_).2.2; exact (by (with_reducible repeat (first | apply Kd.R_alloc | apply Kd.R_drewN | apply Kd.R_drew)); exact (Kd.R_mono (Kd.R_far (p := ⟨gb419, 1, none⟩) (Kd.R_far (p := ⟨gb419, 0, none⟩) (Kd.R_types HO416.out BK419.out (by decide)) (fun _ hk => hk.2) (.int .i64 t417)) (fun _ hk => hk.2) (.int .i64 t418)) (fun _ h_ => h_.1)))); (case side2 => exact (Kd.R_reads' HO416.out).2.1); rintro e w12 ⟨rfl, hb⟩; refine ⟨_, rfl, ?_⟩; have n0_ := Aside0.mk (Kd.R_below (by (with_reducible repeat (first | apply Kd.R_alloc | apply Kd.R_drewN | apply Kd.R_drew)); exact (Kd.R_mono (Kd.R_far (p := ⟨gb419, 1, none⟩) (Kd.R_far (p := ⟨gb419, 0, none⟩) (Kd.R_types HO416.out BK419.out (by decide)) (fun _ hk => hk.2) (.int .i64 t417)) (fun _ hk => hk.2) (.int .i64 t418)) (fun _ h_ => h_.1))) hb); have n1_ := Aside0.mk (blk_below (g := gb419) (o := .cells #[.int .i64 t417, .int .i64 t418] 28 (0, 0)) (by (with_reducible repeat (first | refine blk_drewN ?_ _ | refine blk_drew ?_ | refine blk_alloc ?_ _)); refine blk_put (cs := #[.int .i64 t417, .int .i64 0]) ?_ 1 _ rfl; (with_reducible repeat (first | refine blk_drewN ?_ _ | refine blk_drew ?_ | refine blk_alloc ?_ _)); refine blk_put (cs := #[.int .i64 0, .int .i64 0]) ?_ 0 _ rfl; (with_reducible repeat (first | refine blk_drewN ?_ _ | refine blk_drew ?_ | refine blk_alloc ?_ _)); exact BK419.out) hb); have n2_ := Aside0.mk (below_step (by repeat (first | (with_reducible first | exact HB.out | apply below_alloc | apply pw_below_drewN | apply below_drew1 | refine below_set ?_ GE419.out) | exact HB.out)) hb); clear HO416; clear BK419; clear HB; have HO416 := n0_; have BK419 := n1_; have HB := n2_; clear n0_ n1_ n2_; (try clear hb); (try clear hb2); (try clear hk); (try clear hi); have hcz13_0 : w12.cell? ⟨gb419, 0, none⟩ = some (.int .i64 t417) := (blk_cell BK419.out 0).trans rfl; have hcz13_1 : w12.cell? ⟨gb419, 1, none⟩ = some (.int .i64 t418) := (blk_cell BK419.out 1).trans rfl; have hfz13_0 := blk_frozen BK419.out 0; have hfz13_1 := blk_frozen BK419.out 1) | ((with_reducible refine gate_callee (f := 12) rfl ?_); refine goesL_ (some 62) rfl rfl Try.func12 (by kernel_rfl) rfl #[.slice Ao11 t414.length co11, .agg #[.int .i64 t417, .int .i64 t418]] rfl (by (try simp only [List.map_toArray, List.map_cons, List.map_nil]); first | done | rfl | (simp only [List.length_drop, List.length_take]; rfl)) ?_; (with_reducible refine (spec_OpenAll.calls k _ _ t414 t417 t418 t422 t423 _ ?side1 ?side2 A6.out).mono ?_); (case side1 => repeat (first | exact (Kd.R_reads' HO416.out).2.2 | (with_reducible refine Kd.C_alloc ?_ _) | (with_reducible refine Kd.C_drewN ?_ _) | (with_reducible refine Kd.C_drew ?_))); (case side2 => exact (Kd.R_reads' HO416.out).2.1); rintro e w14 ⟨rfl, hb⟩; refine ⟨_, rfl, ?_⟩; have n0_ := Aside0.mk (Kd.R_below (by (with_reducible repeat (first | apply Kd.R_alloc | apply Kd.R_drewN | apply Kd.R_drew)); exact HO416.out) hb); have n1_ := Aside0.mk (blk_below (g := gb419) (o := .cells #[.int .i64 t417, .int .i64 t418] 28 (0, 0)) (by (with_reducible repeat (first | refine blk_drewN ?_ _ | refine blk_drew ?_ | refine blk_alloc ?_ _)); exact BK419.out) hb); have n2_ := Aside0.mk (below_step (by repeat (first | (with_reducible first | exact HB.out | apply below_alloc | apply pw_below_drewN | apply below_drew1 | refine below_set ?_ GE419.out) | exact HB.out)) hb); clear HO416; clear BK419; clear HB; have HO416 := n0_; have BK419 := n1_; have HB := n2_; clear n0_ n1_ n2_; (try clear hb); (try clear hb2); (try clear hk); (try clear hi)))
    (try simp only [Act.put, List.setIfInBounds_toArray, List.set_cons_zero, List.set_cons_succ])
    go_cut [72] (fun v72 wc => ∃ (kq : Nat) (x72_6 : Bool), v72 = .bool x72_6 ∧ Aside0 (laws_FnOpened.j0 kq l1 t414 t420 t421 x72_6 t417 t418 = some r) ∧ Aside0 (kq ≤ k) ∧ Aside0 (Kd.R (Kd.int .i64) 3 wc w.heap.size (fun _ => True) (.slice Ao11 t414.length co11) t414) ∧ Aside0 (wc.heap[gb419]? = some (.cells #[.int .i64 t417, .int .i64 t418] 28 (0, 0))) ∧ Aside0 (Below w.heap.size w wc))
    case first =>
      have H := HC7.out
      clear HC7
      by_cases c15 : (t421 != t423) = true
      · rw [if_pos c15] at H
        have c15b0 : (t421 != t423) = true := c15
        (try (have c15b1 : decide (t421 = t423) = false := by simpa using c15))
        (try (have c15b2 : (t421 == t423) = false := by simpa using c15))
        (try (have c15b3 : ¬ (t421 = t423) := by simpa using c15))
        clear c15
        (first | rw [c15b0] | (simp only [i64_w, i32_w]; rw [c15b0]) | skip)
        as_aux_lemma =>
          have H' := Aside0.mk H
          clear H
          go_wp2
          go_meet
          case rel => exact ⟨_, (true), (by first | rfl | (simp; done) | (simp [*]; done)), H', ⟨by first | omega | exact Nat.le_refl _⟩, ⟨by (with_reducible repeat (first | apply Kd.R_alloc | apply Kd.R_drewN | apply Kd.R_drew)); exact HO416.out⟩, ⟨by (with_reducible repeat (first | refine blk_drewN ?_ _ | refine blk_drew ?_ | refine blk_alloc ?_ _)); exact BK419.out⟩, ⟨by repeat (first | (with_reducible first | exact HB.out | apply below_alloc | apply pw_below_drewN | apply below_drew1 | refine below_set ?_ GE419.out) | exact HB.out)⟩⟩
      · rw [if_neg c15] at H
        have c15b0 : (t421 != t423) = false := by simpa using c15
        (try (have c15b1 : decide (t421 = t423) = true := by simpa using c15))
        (try (have c15b2 : (t421 == t423) = true := by simpa using c15))
        clear c15
        (first | rw [c15b0] | (simp only [i64_w, i32_w]; rw [c15b0]) | skip)
        as_aux_lemma =>
          have H' := Aside0.mk H
          clear H
          go_wp2
          go_meet
          case rel => exact ⟨_, ((t420 != t422)), (by first | rfl | (simp; done) | (simp [*]; done)), H', ⟨by first | omega | exact Nat.le_refl _⟩, ⟨by (with_reducible repeat (first | apply Kd.R_alloc | apply Kd.R_drewN | apply Kd.R_drew)); exact HO416.out⟩, ⟨by (with_reducible repeat (first | refine blk_drewN ?_ _ | refine blk_drew ?_ | refine blk_alloc ?_ _)); exact BK419.out⟩, ⟨by repeat (first | (with_reducible first | exact HB.out | apply below_alloc | apply pw_below_drewN | apply below_drew1 | refine below_set ?_ GE419.out) | exact HB.out)⟩⟩
    case rest =>
      clear HC7
      try clear c1
      try clear p2
      try clear c3
      try clear c3b0
      try clear c4
      try clear p6
      try clear c9
      try clear c12
      try clear c15
      try clear c15b0
      try clear c15b1
      try clear c15b2
      try clear hcz10_0
      try clear hcz10_1
      try clear hcz13_0
      try clear hcz13_1
      try clear hfz10_0
      try clear hfz10_1
      try clear hfz13_0
      try clear hfz13_1
      obtain ⟨kq, x72_6, rfl, HA, HJ6, HO_5, BK419, HB⟩ := hcut
      cases kq with
      | zero => exact absurd HA.out (by simp [laws_FnOpened.j0])
      | succ kj6 =>
        have H := HA.out
        clear HA
        simp only [laws_FnOpened.j0] at H
        by_cases c16 : x72_6 = true
        · subst c16
          have H1 : (some false) = some r := by rw [if_pos rfl] at H; exact H
          clear H
          have H := H1
          clear H1
          as_aux_lemma =>
            obtain rfl := Option.some.inj H
            exact absurd hr_.out (by simp)
        · replace c16 := Bool.eq_false_iff.mpr c16
          subst c16
          have H1 : (if t421 = true then (laws_FnOpened.l0 kj6 l1 t420 0 t414 (t414.length : Int) 0 t417 t418) else (laws_FnOpened.j2 kj6 l1)) = some r := by rw [if_neg (show ¬ (false = true) by decide)] at H; exact H
          clear H
          have H := H1
          clear H1
          have HC17 := Aside0.mk H
          clear H
          go_upto_if 73 with (fail)
          go_cut [] (fun wc => ∃ (kq : Nat), Aside0 (laws_FnOpened.j2 kq l1 = some r) ∧ Aside0 (kq ≤ kj6) ∧ Aside0 (wc.heap[gb419]? = some (.cells #[.int .i64 t417, .int .i64 t418] 28 (0, 0))) ∧ Aside0 (Below w.heap.size w wc))
          case first =>
            have H := HC17.out
            clear HC17
            by_cases c18 : t421 = true
            · subst c18
              have H1 : (laws_FnOpened.l0 kj6 l1 t420 0 t414 (t414.length : Int) 0 t417 t418) = some r := by rw [if_pos rfl] at H; exact H
              clear H
              have H := H1
              clear H1
              have H' := Aside0.mk H
              clear H
              go_wp2
              go_loopg [11, 76] kj6 (fun kq v11 v76 w' => ∃ (x11_2 : Int) (x76_2 : Int), v11 = .int .i64 x11_2 ∧ v76 = .int .i64 x76_2 ∧ Aside0 (laws_FnOpened.l0 kq l1 t420 x11_2 t414 (t414.length : Int) x76_2 t417 t418 = some r) ∧ Aside0 (kq ≤ kj6) ∧ Aside0 (Kd.R (Kd.int .i64) 3 w' w.heap.size (fun _ => True) (.slice Ao11 t414.length co11) t414) ∧ Aside0 (w'.heap[gb419]? = some (.cells #[.int .i64 t417, .int .i64 t418] 28 (0, 0))) ∧ Aside0 (Below w.heap.size w w'))
              case atStart => exact ⟨(0), (0), (by first | rfl | (simp; done) | (simp [*]; done)), (by first | rfl | (simp; done) | (simp [*]; done)), H', ⟨Nat.le_refl _⟩, ⟨by (with_reducible repeat (first | apply Kd.R_alloc | apply Kd.R_drewN | apply Kd.R_drew)); exact HO_5.out⟩, ⟨by (with_reducible repeat (first | refine blk_drewN ?_ _ | refine blk_drew ?_ | refine blk_alloc ?_ _)); exact BK419.out⟩, ⟨by repeat (first | (with_reducible first | exact HB.out | apply below_alloc | apply pw_below_drewN | apply below_drew1 | refine below_set ?_ GE419.out) | exact HB.out)⟩⟩
              case round =>
                clear H'
                try clear c1
                try clear p2
                try clear c3
                try clear c3b0
                try clear c4
                try clear p6
                try clear c9
                try clear c12
                try clear c15
                try clear c15b0
                try clear c15b1
                try clear c15b2
                try clear c16
                try clear c18
                try clear hcz10_0
                try clear hcz10_1
                try clear hcz13_0
                try clear hcz13_1
                try clear hfz10_0
                try clear hfz10_1
                try clear hfz13_0
                try clear hfz13_1
                try clear p2
                try clear p6
                obtain ⟨x11_2, x76_2, rfl, rfl, HA, HK2, HO_74, BK419, HB⟩ := hrel
                cases gk with
                | zero => exact absurd HA.out (by simp [laws_FnOpened.l0])
                | succ k2 =>
                  have H := HA.out
                  clear HA
                  simp only [laws_FnOpened.l0] at H
                  by_cases c19 : x76_2 < (t414.length : Int)
                  · rw [if_pos c19] at H
                    have c19b0 : decide (x76_2 < (t414.length : Int)) = true := decide_eq_true c19
                    clear c19
                    (first | rw [c19b0] | (simp only [i64_w, i32_w]; rw [c19b0]) | skip)
                    by_cases c20 : 0 ≤ x76_2
                    · rw [if_pos c20] at H
                      have c20b0 : decide (0 ≤ x76_2) = true := decide_eq_true c20
                      clear c20
                      by_cases c21 : x76_2 < (t414.length : Int)
                      · rw [if_pos c21] at H
                        have c21b0 : decide (x76_2 < (t414.length : Int)) = true := decide_eq_true c21
                        clear c21
                        as_aux_lemma =>
                          have H' := Aside0.mk H
                          clear H
                          have p424 : 0 ≤ (x76_2 : Int) := of_decide_eq_true (by first | (with_reducible assumption) | assumption)
                          have q424 : x76_2 < (t414.length : Int) := of_decide_eq_true (by first | (with_reducible assumption) | assumption)
                          obtain ⟨ad424, e424, hx424_0⟩ := Kd.at_int (Kd.R_reads' HO_74.out).2.2 x76_2 p424 q424
                          cases e424
                          replace p424 := eq_true p424
                          replace q424 := eq_true q424
                          go_wp2
                          go_roundg k2
                          case measure => have := HJ6.out; have := HK2.out; omega
                          case rel => exact ⟨(Int.tmod (wrap64 (x11_2 + (rd t414 x76_2))) 1499), (wrap64 (x76_2 + 1)), (by first | rfl | (simp; done) | (simp [*]; done)), (by first | rfl | (simp; done) | (simp [*]; done)), H', ⟨by have := HJ6.out; have := HK2.out; omega⟩, ⟨by (with_reducible repeat (first | apply Kd.R_alloc | apply Kd.R_drewN | apply Kd.R_drew)); exact HO_74.out⟩, ⟨by (with_reducible repeat (first | refine blk_drewN ?_ _ | refine blk_drew ?_ | refine blk_alloc ?_ _)); exact BK419.out⟩, ⟨by repeat (first | (with_reducible first | exact HB.out | apply below_alloc | apply pw_below_drewN | apply below_drew1 | refine below_set ?_ GE419.out) | exact HB.out)⟩⟩
                      · rw [if_neg c21] at H
                        exact absurd H (by simp)
                    · rw [if_neg c20] at H
                      exact absurd H (by simp)
                  · rw [if_neg c19] at H
                    have c19b0 : decide (x76_2 < (t414.length : Int)) = false := decide_eq_false c19
                    clear c19
                    (first | rw [c19b0] | (simp only [i64_w, i32_w]; rw [c19b0]) | skip)
                    replace H := Option.bind_eq_some_iff.mp H
                    obtain ⟨⟨t425, t426⟩, A220, H⟩ := H
                    replace H : (if t426 = true then (if t425 = t420 then (laws_FnOpened.j2 k2 l1) else (some false)) else (laws_FnOpened.j2 k2 l1)) = some r := H
                    have A22 := Aside0.mk A220
                    clear A220
                    by_cases c23 : t426 = true
                    · subst c23
                      have H1 : (if t425 = t420 then (laws_FnOpened.j2 k2 l1) else (some false)) = some r := by rw [if_pos rfl] at H; exact H
                      clear H
                      have H := H1
                      clear H1
                      by_cases c24 : t425 = t420
                      · rw [if_pos c24] at H
                        have c24b0 : (t425 == t420) = true := beq_iff_eq.mpr c24
                        have c24b1 : (t425 != t420) = false := bne_eq_false_iff_eq.mpr c24
                        clear c24
                        as_aux_lemma =>
                          have H' := Aside0.mk H
                          clear H
                          have hcz25_0 : wr.cell? ⟨gb419, 0, none⟩ = some (.int .i64 t417) := (blk_cell BK419.out 0).trans rfl
                          have hcz25_1 : wr.cell? ⟨gb419, 1, none⟩ = some (.int .i64 t418) := (blk_cell BK419.out 1).trans rfl
                          have hfz25_0 := blk_frozen BK419.out 0
                          have hfz25_1 := blk_frozen BK419.out 1
                          go_wp2_with (first | ((with_reducible refine gate_callee (f := 32) rfl ?_); refine goesL_ (some 88) rfl rfl Try.func32 (by kernel_rfl) rfl #[.int .i64 x11_2, .agg #[.int .i64 t417, .int .i64 t418]] rfl (by (try simp only [List.map_toArray, List.map_cons, List.map_nil]); first | done | rfl | (simp only [List.length_drop, List.length_take]; rfl)) ?_; (with_reducible refine (impl_OpenNumber.calls k2 x11_2 t417 t418 t425 true _ A22.out).mono ?_); rintro e w26 ⟨rfl, hb⟩; refine ⟨_, rfl, ?_⟩; have n0_ := Aside0.mk (Kd.R_below (by (with_reducible repeat (first | apply Kd.R_alloc | apply Kd.R_drewN | apply Kd.R_drew)); exact HO_74.out) hb); have n1_ := Aside0.mk (blk_below (g := gb419) (o := .cells #[.int .i64 t417, .int .i64 t418] 28 (0, 0)) (by (with_reducible repeat (first | refine blk_drewN ?_ _ | refine blk_drew ?_ | refine blk_alloc ?_ _)); exact BK419.out) hb); have n2_ := Aside0.mk (below_step (by repeat (first | (with_reducible first | exact HB.out | apply below_alloc | apply pw_below_drewN | apply below_drew1 | refine below_set ?_ GE419.out) | exact HB.out)) hb); clear HO_74; clear BK419; clear HB; have HO_74 := n0_; have BK419 := n1_; have HB := n2_; clear n0_ n1_ n2_; (try clear hb); (try clear hb2); (try clear hk); (try clear hi)))
                          go_meet
                          case rel => exact ⟨_, H', ⟨by have := HJ6.out; have := HK2.out; first | omega | exact Nat.le_refl _⟩, ⟨by (with_reducible repeat (first | refine blk_drewN ?_ _ | refine blk_drew ?_ | refine blk_alloc ?_ _)); exact BK419.out⟩, ⟨by repeat (first | (with_reducible first | exact HB.out | apply below_alloc | apply pw_below_drewN | apply below_drew1 | refine below_set ?_ GE419.out) | exact HB.out)⟩⟩
                      · rw [if_neg c24] at H
                        have c24b0 : (t425 == t420) = false := beq_eq_false_iff_ne.mpr c24
                        have c24b1 : (t425 != t420) = true := bne_iff_ne.mpr c24
                        as_aux_lemma =>
                          obtain rfl := Option.some.inj H
                          exact absurd hr_.out (by simp)
                    · replace c23 := Bool.eq_false_iff.mpr c23
                      subst c23
                      have H1 : (laws_FnOpened.j2 k2 l1) = some r := by rw [if_neg (show ¬ (false = true) by decide)] at H; exact H
                      clear H
                      have H := H1
                      clear H1
                      as_aux_lemma =>
                        have H' := Aside0.mk H
                        clear H
                        have hcz27_0 : wr.cell? ⟨gb419, 0, none⟩ = some (.int .i64 t417) := (blk_cell BK419.out 0).trans rfl
                        have hcz27_1 : wr.cell? ⟨gb419, 1, none⟩ = some (.int .i64 t418) := (blk_cell BK419.out 1).trans rfl
                        have hfz27_0 := blk_frozen BK419.out 0
                        have hfz27_1 := blk_frozen BK419.out 1
                        go_wp2_with (first | ((with_reducible refine gate_callee (f := 32) rfl ?_); refine goesL_ (some 88) rfl rfl Try.func32 (by kernel_rfl) rfl #[.int .i64 x11_2, .agg #[.int .i64 t417, .int .i64 t418]] rfl (by (try simp only [List.map_toArray, List.map_cons, List.map_nil]); first | done | rfl | (simp only [List.length_drop, List.length_take]; rfl)) ?_; (with_reducible refine (impl_OpenNumber.calls k2 x11_2 t417 t418 t425 false _ A22.out).mono ?_); rintro e w28 ⟨rfl, hb⟩; refine ⟨_, rfl, ?_⟩; have n0_ := Aside0.mk (Kd.R_below (by (with_reducible repeat (first | apply Kd.R_alloc | apply Kd.R_drewN | apply Kd.R_drew)); exact HO_74.out) hb); have n1_ := Aside0.mk (blk_below (g := gb419) (o := .cells #[.int .i64 t417, .int .i64 t418] 28 (0, 0)) (by (with_reducible repeat (first | refine blk_drewN ?_ _ | refine blk_drew ?_ | refine blk_alloc ?_ _)); exact BK419.out) hb); have n2_ := Aside0.mk (below_step (by repeat (first | (with_reducible first | exact HB.out | apply below_alloc | apply pw_below_drewN | apply below_drew1 | refine below_set ?_ GE419.out) | exact HB.out)) hb); clear HO_74; clear BK419; clear HB; have HO_74 := n0_; have BK419 := n1_; have HB := n2_; clear n0_ n1_ n2_; (try clear hb); (try clear hb2); (try clear hk); (try clear hi)))
                        go_meet
                        case rel => exact ⟨_, H', ⟨by have := HJ6.out; have := HK2.out; first | omega | exact Nat.le_refl _⟩, ⟨by (with_reducible repeat (first | refine blk_drewN ?_ _ | refine blk_drew ?_ | refine blk_alloc ?_ _)); exact BK419.out⟩, ⟨by repeat (first | (with_reducible first | exact HB.out | apply below_alloc | apply pw_below_drewN | apply below_drew1 | refine below_set ?_ GE419.out) | exact HB.out)⟩⟩
            · replace c18 := Bool.eq_false_iff.mpr c18
              subst c18
              have H1 : (laws_FnOpened.j2 kj6 l1) = some r := by rw [if_neg (show ¬ (false = true) by decide)] at H; exact H
              clear H
              have H := H1
              clear H1
              as_aux_lemma =>
                have H' := Aside0.mk H
                clear H
                go_wp2
                go_meet
                case rel => exact ⟨_, H', ⟨by have := HJ6.out; first | omega | exact Nat.le_refl _⟩, ⟨by (with_reducible repeat (first | refine blk_drewN ?_ _ | refine blk_drew ?_ | refine blk_alloc ?_ _)); exact BK419.out⟩, ⟨by repeat (first | (with_reducible first | exact HB.out | apply below_alloc | apply pw_below_drewN | apply below_drew1 | refine below_set ?_ GE419.out) | exact HB.out)⟩⟩
          case rest =>
            clear HC17
            try clear c1
            try clear c2
            try clear p2
            try clear c3
            try clear c3b0
            try clear c4
            try clear p4
            try clear q4
            try clear hx4
            try clear p6
            try clear c9
            try clear c12
            try clear c15
            try clear c15b0
            try clear c15b1
            try clear c15b2
            try clear c16
            try clear c18
            try clear c19
            try clear c19b0
            try clear c20
            try clear c20b0
            try clear c21
            try clear c21b0
            try clear c23
            try clear c24
            try clear c24b0
            try clear c24b1
            try clear hcz10_0
            try clear hcz10_1
            try clear hcz13_0
            try clear hcz13_1
            try clear hcz25_0
            try clear hcz25_1
            try clear hcz27_0
            try clear hcz27_1
            try clear hfz10_0
            try clear hfz10_1
            try clear hfz13_0
            try clear hfz13_1
            try clear hfz25_0
            try clear hfz25_1
            try clear hfz27_0
            try clear hfz27_1
            try clear hx424_0
            try clear p2
            try clear p424
            try clear p6
            try clear q424
            obtain ⟨kq, HA, HJ16, BK419, HB⟩ := hcut
            cases kq with
            | zero => exact absurd HA.out (by simp [laws_FnOpened.j2])
            | succ kj16 =>
              have H := HA.out
              clear HA
              simp only [laws_FnOpened.j2] at H
              replace H := Option.bind_eq_some_iff.mp H
              obtain ⟨⟨t427, t428, t429, t432⟩, A290, H⟩ := H
              replace H : ((impl_OpenSum.f kj16 t427 t428 t429 t432).bind fun bt434 => ((spec_OpenSum.f kj16 t427 t428 t429 t432).bind fun bt436 => ((spec_DrawLogOf.f kj16 l1).bind fun bt438 => ((impl_LogOf.f kj16 bt438.1 bt438.2).bind fun bt440 => ((spec_LogOf.f kj16 bt438.1 bt438.2).bind fun bt442 => ((spec_DrawAddVotes.f kj16 l1).bind fun t444 => ((impl_AddVotes.f kj16 t444).bind fun bt447 => ((spec_AddVotes.f kj16 t444).bind fun bt451 => ((spec_DrawOpenPart.f kj16 l1).bind fun bt455 => ((impl_OpenPart.f kj16 bt455.1 bt455.2.1 bt455.2.2).bind fun bt459 => ((spec_OpenPart.f kj16 bt455.1 bt455.2.1 bt455.2.2).bind fun bt461 => (if (bt434.2 != bt436.2) = true then (laws_FnOpened.j3 kj16 bt438.1 bt440.1 bt440.2 true) else (if bt434.1 = bt436.1 then (if (bt440.2 != bt442.2) = true then (laws_FnOpened.j3 kj16 bt438.1 bt440.1 bt440.2 true) else (if bt440.1 = bt442.1 then (if (bt447.2.2 != bt451.2.2) = true then (laws_FnOpened.j3 kj16 bt438.1 bt440.1 bt440.2 true) else (if (!(bt447.1 == bt451.1) || (!(bt447.2.1 == bt451.2.1))) = true then (laws_FnOpened.j3 kj16 bt438.1 bt440.1 bt440.2 true) else (if (bt459.2 != bt461.2) = true then (laws_FnOpened.j3 kj16 bt438.1 bt440.1 bt440.2 true) else (laws_FnOpened.j3 kj16 bt438.1 bt440.1 bt440.2 (bt459.1 != bt461.1))))) else (laws_FnOpened.j3 kj16 bt438.1 bt440.1 bt440.2 true))) else (laws_FnOpened.j3 kj16 bt438.1 bt440.1 bt440.2 true)))))))))))))) = some r := H
              have A29 := Aside0.mk A290
              clear A290
              replace H := Option.bind_eq_some_iff.mp H
              obtain ⟨⟨t434, t435⟩, A300, H⟩ := H
              replace H : ((spec_OpenSum.f kj16 t427 t428 t429 t432).bind fun bt436 => ((spec_DrawLogOf.f kj16 l1).bind fun bt438 => ((impl_LogOf.f kj16 bt438.1 bt438.2).bind fun bt440 => ((spec_LogOf.f kj16 bt438.1 bt438.2).bind fun bt442 => ((spec_DrawAddVotes.f kj16 l1).bind fun t444 => ((impl_AddVotes.f kj16 t444).bind fun bt447 => ((spec_AddVotes.f kj16 t444).bind fun bt451 => ((spec_DrawOpenPart.f kj16 l1).bind fun bt455 => ((impl_OpenPart.f kj16 bt455.1 bt455.2.1 bt455.2.2).bind fun bt459 => ((spec_OpenPart.f kj16 bt455.1 bt455.2.1 bt455.2.2).bind fun bt461 => (if (t435 != bt436.2) = true then (laws_FnOpened.j3 kj16 bt438.1 bt440.1 bt440.2 true) else (if t434 = bt436.1 then (if (bt440.2 != bt442.2) = true then (laws_FnOpened.j3 kj16 bt438.1 bt440.1 bt440.2 true) else (if bt440.1 = bt442.1 then (if (bt447.2.2 != bt451.2.2) = true then (laws_FnOpened.j3 kj16 bt438.1 bt440.1 bt440.2 true) else (if (!(bt447.1 == bt451.1) || (!(bt447.2.1 == bt451.2.1))) = true then (laws_FnOpened.j3 kj16 bt438.1 bt440.1 bt440.2 true) else (if (bt459.2 != bt461.2) = true then (laws_FnOpened.j3 kj16 bt438.1 bt440.1 bt440.2 true) else (laws_FnOpened.j3 kj16 bt438.1 bt440.1 bt440.2 (bt459.1 != bt461.1))))) else (laws_FnOpened.j3 kj16 bt438.1 bt440.1 bt440.2 true))) else (laws_FnOpened.j3 kj16 bt438.1 bt440.1 bt440.2 true))))))))))))) = some r := H
              have A30 := Aside0.mk A300
              clear A300
              replace H := Option.bind_eq_some_iff.mp H
              obtain ⟨⟨t436, t437⟩, A310, H⟩ := H
              replace H : ((spec_DrawLogOf.f kj16 l1).bind fun bt438 => ((impl_LogOf.f kj16 bt438.1 bt438.2).bind fun bt440 => ((spec_LogOf.f kj16 bt438.1 bt438.2).bind fun bt442 => ((spec_DrawAddVotes.f kj16 l1).bind fun t444 => ((impl_AddVotes.f kj16 t444).bind fun bt447 => ((spec_AddVotes.f kj16 t444).bind fun bt451 => ((spec_DrawOpenPart.f kj16 l1).bind fun bt455 => ((impl_OpenPart.f kj16 bt455.1 bt455.2.1 bt455.2.2).bind fun bt459 => ((spec_OpenPart.f kj16 bt455.1 bt455.2.1 bt455.2.2).bind fun bt461 => (if (t435 != t437) = true then (laws_FnOpened.j3 kj16 bt438.1 bt440.1 bt440.2 true) else (if t434 = t436 then (if (bt440.2 != bt442.2) = true then (laws_FnOpened.j3 kj16 bt438.1 bt440.1 bt440.2 true) else (if bt440.1 = bt442.1 then (if (bt447.2.2 != bt451.2.2) = true then (laws_FnOpened.j3 kj16 bt438.1 bt440.1 bt440.2 true) else (if (!(bt447.1 == bt451.1) || (!(bt447.2.1 == bt451.2.1))) = true then (laws_FnOpened.j3 kj16 bt438.1 bt440.1 bt440.2 true) else (if (bt459.2 != bt461.2) = true then (laws_FnOpened.j3 kj16 bt438.1 bt440.1 bt440.2 true) else (laws_FnOpened.j3 kj16 bt438.1 bt440.1 bt440.2 (bt459.1 != bt461.1))))) else (laws_FnOpened.j3 kj16 bt438.1 bt440.1 bt440.2 true))) else (laws_FnOpened.j3 kj16 bt438.1 bt440.1 bt440.2 true)))))))))))) = some r := H
              have A31 := Aside0.mk A310
              clear A310
              replace H := Option.bind_eq_some_iff.mp H
              obtain ⟨⟨t438, t439⟩, A320, H⟩ := H
              replace H : ((impl_LogOf.f kj16 t438 t439).bind fun bt440 => ((spec_LogOf.f kj16 t438 t439).bind fun bt442 => ((spec_DrawAddVotes.f kj16 l1).bind fun t444 => ((impl_AddVotes.f kj16 t444).bind fun bt447 => ((spec_AddVotes.f kj16 t444).bind fun bt451 => ((spec_DrawOpenPart.f kj16 l1).bind fun bt455 => ((impl_OpenPart.f kj16 bt455.1 bt455.2.1 bt455.2.2).bind fun bt459 => ((spec_OpenPart.f kj16 bt455.1 bt455.2.1 bt455.2.2).bind fun bt461 => (if (t435 != t437) = true then (laws_FnOpened.j3 kj16 t438 bt440.1 bt440.2 true) else (if t434 = t436 then (if (bt440.2 != bt442.2) = true then (laws_FnOpened.j3 kj16 t438 bt440.1 bt440.2 true) else (if bt440.1 = bt442.1 then (if (bt447.2.2 != bt451.2.2) = true then (laws_FnOpened.j3 kj16 t438 bt440.1 bt440.2 true) else (if (!(bt447.1 == bt451.1) || (!(bt447.2.1 == bt451.2.1))) = true then (laws_FnOpened.j3 kj16 t438 bt440.1 bt440.2 true) else (if (bt459.2 != bt461.2) = true then (laws_FnOpened.j3 kj16 t438 bt440.1 bt440.2 true) else (laws_FnOpened.j3 kj16 t438 bt440.1 bt440.2 (bt459.1 != bt461.1))))) else (laws_FnOpened.j3 kj16 t438 bt440.1 bt440.2 true))) else (laws_FnOpened.j3 kj16 t438 bt440.1 bt440.2 true))))))))))) = some r := H
              have A32 := Aside0.mk A320
              clear A320
              replace H := Option.bind_eq_some_iff.mp H
              obtain ⟨⟨t440, t441⟩, A330, H⟩ := H
              replace H : ((spec_LogOf.f kj16 t438 t439).bind fun bt442 => ((spec_DrawAddVotes.f kj16 l1).bind fun t444 => ((impl_AddVotes.f kj16 t444).bind fun bt447 => ((spec_AddVotes.f kj16 t444).bind fun bt451 => ((spec_DrawOpenPart.f kj16 l1).bind fun bt455 => ((impl_OpenPart.f kj16 bt455.1 bt455.2.1 bt455.2.2).bind fun bt459 => ((spec_OpenPart.f kj16 bt455.1 bt455.2.1 bt455.2.2).bind fun bt461 => (if (t435 != t437) = true then (laws_FnOpened.j3 kj16 t438 t440 t441 true) else (if t434 = t436 then (if (t441 != bt442.2) = true then (laws_FnOpened.j3 kj16 t438 t440 t441 true) else (if t440 = bt442.1 then (if (bt447.2.2 != bt451.2.2) = true then (laws_FnOpened.j3 kj16 t438 t440 t441 true) else (if (!(bt447.1 == bt451.1) || (!(bt447.2.1 == bt451.2.1))) = true then (laws_FnOpened.j3 kj16 t438 t440 t441 true) else (if (bt459.2 != bt461.2) = true then (laws_FnOpened.j3 kj16 t438 t440 t441 true) else (laws_FnOpened.j3 kj16 t438 t440 t441 (bt459.1 != bt461.1))))) else (laws_FnOpened.j3 kj16 t438 t440 t441 true))) else (laws_FnOpened.j3 kj16 t438 t440 t441 true)))))))))) = some r := H
              have A33 := Aside0.mk A330
              clear A330
              replace H := Option.bind_eq_some_iff.mp H
              obtain ⟨⟨t442, t443⟩, A340, H⟩ := H
              replace H : ((spec_DrawAddVotes.f kj16 l1).bind fun t444 => ((impl_AddVotes.f kj16 t444).bind fun bt447 => ((spec_AddVotes.f kj16 t444).bind fun bt451 => ((spec_DrawOpenPart.f kj16 l1).bind fun bt455 => ((impl_OpenPart.f kj16 bt455.1 bt455.2.1 bt455.2.2).bind fun bt459 => ((spec_OpenPart.f kj16 bt455.1 bt455.2.1 bt455.2.2).bind fun bt461 => (if (t435 != t437) = true then (laws_FnOpened.j3 kj16 t438 t440 t441 true) else (if t434 = t436 then (if (t441 != t443) = true then (laws_FnOpened.j3 kj16 t438 t440 t441 true) else (if t440 = t442 then (if (bt447.2.2 != bt451.2.2) = true then (laws_FnOpened.j3 kj16 t438 t440 t441 true) else (if (!(bt447.1 == bt451.1) || (!(bt447.2.1 == bt451.2.1))) = true then (laws_FnOpened.j3 kj16 t438 t440 t441 true) else (if (bt459.2 != bt461.2) = true then (laws_FnOpened.j3 kj16 t438 t440 t441 true) else (laws_FnOpened.j3 kj16 t438 t440 t441 (bt459.1 != bt461.1))))) else (laws_FnOpened.j3 kj16 t438 t440 t441 true))) else (laws_FnOpened.j3 kj16 t438 t440 t441 true))))))))) = some r := H
              have A34 := Aside0.mk A340
              clear A340
              replace H := Option.bind_eq_some_iff.mp H
              obtain ⟨t444, A350, H⟩ := H
              replace H : ((impl_AddVotes.f kj16 t444).bind fun bt447 => ((spec_AddVotes.f kj16 t444).bind fun bt451 => ((spec_DrawOpenPart.f kj16 l1).bind fun bt455 => ((impl_OpenPart.f kj16 bt455.1 bt455.2.1 bt455.2.2).bind fun bt459 => ((spec_OpenPart.f kj16 bt455.1 bt455.2.1 bt455.2.2).bind fun bt461 => (if (t435 != t437) = true then (laws_FnOpened.j3 kj16 t438 t440 t441 true) else (if t434 = t436 then (if (t441 != t443) = true then (laws_FnOpened.j3 kj16 t438 t440 t441 true) else (if t440 = t442 then (if (bt447.2.2 != bt451.2.2) = true then (laws_FnOpened.j3 kj16 t438 t440 t441 true) else (if (!(bt447.1 == bt451.1) || (!(bt447.2.1 == bt451.2.1))) = true then (laws_FnOpened.j3 kj16 t438 t440 t441 true) else (if (bt459.2 != bt461.2) = true then (laws_FnOpened.j3 kj16 t438 t440 t441 true) else (laws_FnOpened.j3 kj16 t438 t440 t441 (bt459.1 != bt461.1))))) else (laws_FnOpened.j3 kj16 t438 t440 t441 true))) else (laws_FnOpened.j3 kj16 t438 t440 t441 true)))))))) = some r := H
              have A35 := Aside0.mk A350
              clear A350
              replace H := Option.bind_eq_some_iff.mp H
              obtain ⟨⟨t447, t448, t449⟩, A360, H⟩ := H
              replace H : ((spec_AddVotes.f kj16 t444).bind fun bt451 => ((spec_DrawOpenPart.f kj16 l1).bind fun bt455 => ((impl_OpenPart.f kj16 bt455.1 bt455.2.1 bt455.2.2).bind fun bt459 => ((spec_OpenPart.f kj16 bt455.1 bt455.2.1 bt455.2.2).bind fun bt461 => (if (t435 != t437) = true then (laws_FnOpened.j3 kj16 t438 t440 t441 true) else (if t434 = t436 then (if (t441 != t443) = true then (laws_FnOpened.j3 kj16 t438 t440 t441 true) else (if t440 = t442 then (if (t449 != bt451.2.2) = true then (laws_FnOpened.j3 kj16 t438 t440 t441 true) else (if (!(t447 == bt451.1) || (!(t448 == bt451.2.1))) = true then (laws_FnOpened.j3 kj16 t438 t440 t441 true) else (if (bt459.2 != bt461.2) = true then (laws_FnOpened.j3 kj16 t438 t440 t441 true) else (laws_FnOpened.j3 kj16 t438 t440 t441 (bt459.1 != bt461.1))))) else (laws_FnOpened.j3 kj16 t438 t440 t441 true))) else (laws_FnOpened.j3 kj16 t438 t440 t441 true))))))) = some r := H
              have A36 := Aside0.mk A360
              clear A360
              replace H := Option.bind_eq_some_iff.mp H
              obtain ⟨⟨t451, t452, t453⟩, A370, H⟩ := H
              replace H : ((spec_DrawOpenPart.f kj16 l1).bind fun bt455 => ((impl_OpenPart.f kj16 bt455.1 bt455.2.1 bt455.2.2).bind fun bt459 => ((spec_OpenPart.f kj16 bt455.1 bt455.2.1 bt455.2.2).bind fun bt461 => (if (t435 != t437) = true then (laws_FnOpened.j3 kj16 t438 t440 t441 true) else (if t434 = t436 then (if (t441 != t443) = true then (laws_FnOpened.j3 kj16 t438 t440 t441 true) else (if t440 = t442 then (if (t449 != t453) = true then (laws_FnOpened.j3 kj16 t438 t440 t441 true) else (if (!(t447 == t451) || (!(t448 == t452))) = true then (laws_FnOpened.j3 kj16 t438 t440 t441 true) else (if (bt459.2 != bt461.2) = true then (laws_FnOpened.j3 kj16 t438 t440 t441 true) else (laws_FnOpened.j3 kj16 t438 t440 t441 (bt459.1 != bt461.1))))) else (laws_FnOpened.j3 kj16 t438 t440 t441 true))) else (laws_FnOpened.j3 kj16 t438 t440 t441 true)))))) = some r := H
              have A37 := Aside0.mk A370
              clear A370
              replace H := Option.bind_eq_some_iff.mp H
              obtain ⟨⟨t455, t456, t457⟩, A380, H⟩ := H
              replace H : ((impl_OpenPart.f kj16 t455 t456 t457).bind fun bt459 => ((spec_OpenPart.f kj16 t455 t456 t457).bind fun bt461 => (if (t435 != t437) = true then (laws_FnOpened.j3 kj16 t438 t440 t441 true) else (if t434 = t436 then (if (t441 != t443) = true then (laws_FnOpened.j3 kj16 t438 t440 t441 true) else (if t440 = t442 then (if (t449 != t453) = true then (laws_FnOpened.j3 kj16 t438 t440 t441 true) else (if (!(t447 == t451) || (!(t448 == t452))) = true then (laws_FnOpened.j3 kj16 t438 t440 t441 true) else (if (bt459.2 != bt461.2) = true then (laws_FnOpened.j3 kj16 t438 t440 t441 true) else (laws_FnOpened.j3 kj16 t438 t440 t441 (bt459.1 != bt461.1))))) else (laws_FnOpened.j3 kj16 t438 t440 t441 true))) else (laws_FnOpened.j3 kj16 t438 t440 t441 true))))) = some r := H
              have A38 := Aside0.mk A380
              clear A380
              replace H := Option.bind_eq_some_iff.mp H
              obtain ⟨⟨t459, t460⟩, A390, H⟩ := H
              replace H : ((spec_OpenPart.f kj16 t455 t456 t457).bind fun bt461 => (if (t435 != t437) = true then (laws_FnOpened.j3 kj16 t438 t440 t441 true) else (if t434 = t436 then (if (t441 != t443) = true then (laws_FnOpened.j3 kj16 t438 t440 t441 true) else (if t440 = t442 then (if (t449 != t453) = true then (laws_FnOpened.j3 kj16 t438 t440 t441 true) else (if (!(t447 == t451) || (!(t448 == t452))) = true then (laws_FnOpened.j3 kj16 t438 t440 t441 true) else (if (t460 != bt461.2) = true then (laws_FnOpened.j3 kj16 t438 t440 t441 true) else (laws_FnOpened.j3 kj16 t438 t440 t441 (t459 != bt461.1))))) else (laws_FnOpened.j3 kj16 t438 t440 t441 true))) else (laws_FnOpened.j3 kj16 t438 t440 t441 true)))) = some r := H
              have A39 := Aside0.mk A390
              clear A390
              replace H := Option.bind_eq_some_iff.mp H
              obtain ⟨⟨t461, t462⟩, A400, H⟩ := H
              replace H : (if (t435 != t437) = true then (laws_FnOpened.j3 kj16 t438 t440 t441 true) else (if t434 = t436 then (if (t441 != t443) = true then (laws_FnOpened.j3 kj16 t438 t440 t441 true) else (if t440 = t442 then (if (t449 != t453) = true then (laws_FnOpened.j3 kj16 t438 t440 t441 true) else (if (!(t447 == t451) || (!(t448 == t452))) = true then (laws_FnOpened.j3 kj16 t438 t440 t441 true) else (if (t460 != t462) = true then (laws_FnOpened.j3 kj16 t438 t440 t441 true) else (laws_FnOpened.j3 kj16 t438 t440 t441 (t459 != t461))))) else (laws_FnOpened.j3 kj16 t438 t440 t441 true))) else (laws_FnOpened.j3 kj16 t438 t440 t441 true))) = some r := H
              have A40 := Aside0.mk A400
              clear A400
              have HC41 := Aside0.mk H
              clear H
              go_upto_region 30 with (first | ((with_reducible refine gate_callee (f := 50) rfl ?_); refine goesL_ (some 99) rfl rfl Try.func50 (by kernel_rfl) rfl #[.slice A1 l1.length c1] rfl (by (try simp only [List.map_toArray, List.map_cons, List.map_nil]); first | done | rfl | (simp only [List.length_drop, List.length_take]; rfl)) ?_; (with_reducible refine (spec_DrawOpenSum.calls kj16 _ _ l1 t427 t428 t429 t432 _ ?side1 ?side2 A29.out).mono ?_); (case side1 => repeat (first | exact (Kd.C_below HR1.out HB.out) | (with_reducible refine Kd.C_alloc ?_ _) | (with_reducible refine Kd.C_drewN ?_ _) | (with_reducible refine Kd.C_drew ?_))); (case side2 => exact HC1.out); rintro e w42 ⟨v430, rfl, ho0, hb⟩; refine ⟨_, rfl, ?_⟩; have n0_ := Aside0.mk (Kd.R_lower ho0 (below_size (by repeat (first | (with_reducible first | exact HB.out | apply below_alloc | apply pw_below_drewN | apply below_drew1 | refine below_set ?_ GE419.out) | exact HB.out)))); have n1_ := Aside0.mk (blk_below (g := gb419) (o := .cells #[.int .i64 t417, .int .i64 t418] 28 (0, 0)) (by (with_reducible repeat (first | refine blk_drewN ?_ _ | refine blk_drew ?_ | refine blk_alloc ?_ _)); exact BK419.out) hb); have n2_ := Aside0.mk (below_step (by repeat (first | (with_reducible first | exact HB.out | apply below_alloc | apply pw_below_drewN | apply below_drew1 | refine below_set ?_ GE419.out) | exact HB.out)) hb); clear BK419; clear HB; have HO431 := n0_; have BK419 := n1_; have HB := n2_; clear n0_ n1_ n2_; (try clear hb); (try clear hb2); (try clear hk); (try clear hi); (try clear ho0)) | ((with_reducible refine gate_dst (N := 16) rfl ?_); refine box_event ?hg (N := 16) ?hd (cs := #[.int .i64 0, .int .i64 0]) (t := 28) ?hr ?_; (case hd => rfl); (case hg => rfl); (case hr => first | (go_simp; done) | (go_simp; rfl)); intro gb433 hg w43 hbox hb; have n0_ := Aside0.mk (Kd.R_below (by (with_reducible repeat (first | apply Kd.R_alloc | apply Kd.R_drewN | apply Kd.R_drew)); exact HO431.out) hb); have n1_ := Aside0.mk (blk_below (g := gb419) (o := .cells #[.int .i64 t417, .int .i64 t418] 28 (0, 0)) (by (with_reducible repeat (first | refine blk_drewN ?_ _ | refine blk_drew ?_ | refine blk_alloc ?_ _)); exact BK419.out) hb); have n2_ := Aside0.mk (below_step (by repeat (first | (with_reducible first | exact HB.out | apply below_alloc | apply pw_below_drewN | apply below_drew1 | refine below_set ?_ GE419.out) | exact HB.out)) hb); have n3_ := Aside0.mk (hbox); have n4_ := Aside0.mk ((by rw [hg]; exact (below_size (by repeat (first | (with_reducible first | exact HB.out | apply below_alloc | apply pw_below_drewN | apply below_drew1 | refine below_set ?_ GE419.out) | exact HB.out))) : w.heap.size ≤ gb433)); have n5_ := Aside0.mk ((by rw [hg]; exact (below_size (by repeat (first | (with_reducible first | exact HB.out | apply below_alloc | apply pw_below_drewN | apply below_drew1 | refine below_set ?_ GE419.out) | exact HB.out))) : w.heap.size ≤ gb433)); have n6_ := Aside0.mk ((by rw [hg]; exact Nat.ne_of_lt (blk_lt (g := gb419) (o := .cells #[.int .i64 t417, .int .i64 t418] 28 (0, 0)) (by (with_reducible repeat (first | refine blk_drewN ?_ _ | refine blk_drew ?_ | refine blk_alloc ?_ _)); exact BK419.out)) : gb419 ≠ gb433)); have n7_ := Aside0.mk ((by rw [hg]; exact Nat.ne_of_gt (blk_lt (g := gb419) (o := .cells #[.int .i64 t417, .int .i64 t418] 28 (0, 0)) (by (with_reducible repeat (first | refine blk_drewN ?_ _ | refine blk_drew ?_ | refine blk_alloc ?_ _)); exact BK419.out)) : gb433 ≠ gb419)); clear HO431; clear BK419; clear HB; have HO431 := n0_; have BK419 := n1_; have HB := n2_; have BK433 := n3_; have GW433 := n4_; have GE433 := n5_; have NB419_433 := n6_; have NB433_419 := n7_; clear n0_ n1_ n2_ n3_ n4_ n5_ n6_ n7_; clear hb hbox hg; have hnb44 := NB433_419.out; have hnc44 := NB419_433.out; have hcz45_0 : w43.cell? ⟨gb433, 0, none⟩ = some (.int .i64 0) := (blk_cell BK433.out 0).trans rfl; have hcz45_1 : w43.cell? ⟨gb433, 1, none⟩ = some (.int .i64 0) := (blk_cell BK433.out 1).trans rfl; have hfz45_0 := blk_frozen BK433.out 0; have hfz45_1 := blk_frozen BK433.out 1; obtain ⟨Ao46, co46, eo46⟩ := Kd.R_slice HO431.out; subst eo46) | ((with_reducible refine gate_callee (f := 24) rfl ?_); refine goesL_ (some 107) rfl rfl Try.func24 (by kernel_rfl) rfl #[.agg #[.int .i64 t427, .int .i64 t428], .slice Ao46 t429.length co46, .int .i64 t432] rfl (by (try simp only [List.map_toArray, List.map_cons, List.map_nil]); first | done | rfl | (simp only [List.length_drop, List.length_take]; rfl)) ?_; (with_reducible refine (impl_OpenSum.calls kj16 t427 t428 _ _ t429 t432 t434 t435 _ ?side1 ?side2 A30.out).mono ?_); (case side1 => refine (Kd.R_reads' (e := 3) (base := w.heap.size) (ok := fun k_ => True) (n := t429.length) (c := co46) ?_).2.2; exact (by (with_reducible repeat (first | apply Kd.R_alloc | apply Kd.R_drewN | apply Kd.R_drew)); exact (Kd.R_mono (Kd.R_far (p := ⟨gb433, 1, none⟩) (Kd.R_far (p := ⟨gb433, 0, none⟩) (Kd.R_types HO431.out BK433.out (by decide)) (fun _ hk => hk.2) (.int .i64 t427)) (fun _ hk => hk.2) (.int .i64 t428)) (fun _ h_ => h_.1)))); (case side2 => exact (Kd.R_reads' HO431.out).2.1); rintro e w47 ⟨rfl, hb⟩; refine ⟨_, rfl, ?_⟩; have n0_ := Aside0.mk (Kd.R_below (by (with_reducible repeat (first | apply Kd.R_alloc | apply Kd.R_drewN | apply Kd.R_drew)); exact (Kd.R_mono (Kd.R_far (p := ⟨gb433, 1, none⟩) (Kd.R_far (p := ⟨gb433, 0, none⟩) (Kd.R_types HO431.out BK433.out (by decide)) (fun _ hk => hk.2) (.int .i64 t427)) (fun _ hk => hk.2) (.int .i64 t428)) (fun _ h_ => h_.1))) hb); have n1_ := Aside0.mk (blk_below (g := gb419) (o := .cells #[.int .i64 t417, .int .i64 t418] 28 (0, 0)) (by (with_reducible repeat (first | refine blk_drewN ?_ _ | refine blk_drew ?_ | refine blk_alloc ?_ _)); refine blk_far ?_ NB419_433.out _; (with_reducible repeat (first | refine blk_drewN ?_ _ | refine blk_drew ?_ | refine blk_alloc ?_ _)); refine blk_far ?_ NB419_433.out _; (with_reducible repeat (first | refine blk_drewN ?_ _ | refine blk_drew ?_ | refine blk_alloc ?_ _)); exact BK419.out) hb); have n2_ := Aside0.mk (blk_below (g := gb433) (o := .cells #[.int .i64 t427, .int .i64 t428] 28 (0, 0)) (by (with_reducible repeat (first | refine blk_drewN ?_ _ | refine blk_drew ?_ | refine blk_alloc ?_ _)); refine blk_put (cs := #[.int .i64 t427, .int .i64 0]) ?_ 1 _ rfl; (with_reducible repeat (first | refine blk_drewN ?_ _ | refine blk_drew ?_ | refine blk_alloc ?_ _)); refine blk_put (cs := #[.int .i64 0, .int .i64 0]) ?_ 0 _ rfl; (with_reducible repeat (first | refine blk_drewN ?_ _ | refine blk_drew ?_ | refine blk_alloc ?_ _)); exact BK433.out) hb); have n3_ := Aside0.mk (below_step (by repeat (first | (with_reducible first | exact HB.out | apply below_alloc | apply pw_below_drewN | apply below_drew1 | refine below_set ?_ GE419.out | refine below_set ?_ GE433.out) | exact HB.out)) hb); clear HO431; clear BK419; clear BK433; clear HB; have HO431 := n0_; have BK419 := n1_; have BK433 := n2_; have HB := n3_; clear n0_ n1_ n2_ n3_; (try clear hb); (try clear hb2); (try clear hk); (try clear hi); have hcz48_0 : w47.cell? ⟨gb433, 0, none⟩ = some (.int .i64 t427) := (blk_cell BK433.out 0).trans rfl; have hcz48_1 : w47.cell? ⟨gb433, 1, none⟩ = some (.int .i64 t428) := (blk_cell BK433.out 1).trans rfl; have hfz48_0 := blk_frozen BK433.out 0; have hfz48_1 := blk_frozen BK433.out 1) | ((with_reducible refine gate_callee (f := 23) rfl ?_); refine goesL_ (some 114) rfl rfl Try.func23 (by kernel_rfl) rfl #[.agg #[.int .i64 t427, .int .i64 t428], .slice Ao46 t429.length co46, .int .i64 t432] rfl (by (try simp only [List.map_toArray, List.map_cons, List.map_nil]); first | done | rfl | (simp only [List.length_drop, List.length_take]; rfl)) ?_; (with_reducible refine (spec_OpenSum.calls kj16 t427 t428 _ _ t429 t432 t436 t437 _ ?side1 ?side2 A31.out).mono ?_); (case side1 => repeat (first | exact (Kd.R_reads' HO431.out).2.2 | (with_reducible refine Kd.C_alloc ?_ _) | (with_reducible refine Kd.C_drewN ?_ _) | (with_reducible refine Kd.C_drew ?_))); (case side2 => exact (Kd.R_reads' HO431.out).2.1); rintro e w49 ⟨rfl, hb⟩; refine ⟨_, rfl, ?_⟩; have n0_ := Aside0.mk (Kd.R_below (by (with_reducible repeat (first | apply Kd.R_alloc | apply Kd.R_drewN | apply Kd.R_drew)); exact HO431.out) hb); have n1_ := Aside0.mk (blk_below (g := gb419) (o := .cells #[.int .i64 t417, .int .i64 t418] 28 (0, 0)) (by (with_reducible repeat (first | refine blk_drewN ?_ _ | refine blk_drew ?_ | refine blk_alloc ?_ _)); exact BK419.out) hb); have n2_ := Aside0.mk (blk_below (g := gb433) (o := .cells #[.int .i64 t427, .int .i64 t428] 28 (0, 0)) (by (with_reducible repeat (first | refine blk_drewN ?_ _ | refine blk_drew ?_ | refine blk_alloc ?_ _)); exact BK433.out) hb); have n3_ := Aside0.mk (below_step (by repeat (first | (with_reducible first | exact HB.out | apply below_alloc | apply pw_below_drewN | apply below_drew1 | refine below_set ?_ GE419.out | refine below_set ?_ GE433.out) | exact HB.out)) hb); clear HO431; clear BK419; clear BK433; clear HB; have HO431 := n0_; have BK419 := n1_; have BK433 := n2_; have HB := n3_; clear n0_ n1_ n2_ n3_; (try clear hb); (try clear hb2); (try clear hk); (try clear hi)) | ((with_reducible refine gate_callee (f := 51) rfl ?_); refine goesL_ (some 119) rfl rfl Try.func51 (by kernel_rfl) rfl #[.slice A1 l1.length c1] rfl (by (try simp only [List.map_toArray, List.map_cons, List.map_nil]); first | done | rfl | (simp only [List.length_drop, List.length_take]; rfl)) ?_; (with_reducible refine (spec_DrawLogOf.calls kj16 _ _ l1 t438 t439 _ ?side1 ?side2 A32.out).mono ?_); (case side1 => repeat (first | exact (Kd.C_below HR1.out HB.out) | (with_reducible refine Kd.C_alloc ?_ _) | (with_reducible refine Kd.C_drewN ?_ _) | (with_reducible refine Kd.C_drew ?_))); (case side2 => exact HC1.out); rintro e w50 ⟨rfl, hb⟩; refine ⟨_, rfl, ?_⟩; have n0_ := Aside0.mk (Kd.R_below (by (with_reducible repeat (first | apply Kd.R_alloc | apply Kd.R_drewN | apply Kd.R_drew)); exact HO431.out) hb); have n1_ := Aside0.mk (blk_below (g := gb419) (o := .cells #[.int .i64 t417, .int .i64 t418] 28 (0, 0)) (by (with_reducible repeat (first | refine blk_drewN ?_ _ | refine blk_drew ?_ | refine blk_alloc ?_ _)); exact BK419.out) hb); have n2_ := Aside0.mk (blk_below (g := gb433) (o := .cells #[.int .i64 t427, .int .i64 t428] 28 (0, 0)) (by (with_reducible repeat (first | refine blk_drewN ?_ _ | refine blk_drew ?_ | refine blk_alloc ?_ _)); exact BK433.out) hb); have n3_ := Aside0.mk (below_step (by repeat (first | (with_reducible first | exact HB.out | apply below_alloc | apply pw_below_drewN | apply below_drew1 | refine below_set ?_ GE419.out | refine below_set ?_ GE433.out) | exact HB.out)) hb); clear HO431; clear BK419; clear BK433; clear HB; have HO431 := n0_; have BK419 := n1_; have BK433 := n2_; have HB := n3_; clear n0_ n1_ n2_ n3_; (try clear hb); (try clear hb2); (try clear hk); (try clear hi)) | ((with_reducible refine gate_callee (f := 52) rfl ?_); refine goesL_ (some 125) rfl rfl Try.func52 (by kernel_rfl) rfl #[.int .i64 t438, .int .i64 t439] rfl (by (try simp only [List.map_toArray, List.map_cons, List.map_nil]); first | done | rfl | (simp only [List.length_drop, List.length_take]; rfl)) ?_; (with_reducible refine (impl_LogOf.calls kj16 t438 t439 t440 t441 _ A33.out).mono ?_); rintro e w' ⟨rfl, ⟨nd, rfl⟩⟩; refine ⟨_, rfl, ?_⟩; (try (rw [drewN_self w50]; generalize hq_ : World.drewN w50 _ = w50; have n0_ : Aside0 (Kd.R (Kd.int .i64) 3 w50 w.heap.size (fun _ => True) (.slice Ao46 t429.length co46) t429) := ⟨by rw [← hq_]; exact (by (with_reducible repeat (first | apply Kd.R_alloc | apply Kd.R_drewN | apply Kd.R_drew)); exact HO431.out)⟩; have n1_ : Aside0 (w50.heap[gb419]? = some (.cells #[.int .i64 t417, .int .i64 t418] 28 (0, 0))) := ⟨by rw [← hq_]; exact (by (with_reducible repeat (first | refine blk_drewN ?_ _ | refine blk_drew ?_ | refine blk_alloc ?_ _)); exact BK419.out)⟩; have n2_ : Aside0 (w50.heap[gb433]? = some (.cells #[.int .i64 t427, .int .i64 t428] 28 (0, 0))) := ⟨by rw [← hq_]; exact (by (with_reducible repeat (first | refine blk_drewN ?_ _ | refine blk_drew ?_ | refine blk_alloc ?_ _)); exact BK433.out)⟩; have n3_ : Aside0 (Below w.heap.size w w50) := ⟨by rw [← hq_]; exact (by repeat (first | (with_reducible first | exact HB.out | apply below_alloc | apply pw_below_drewN | apply below_drew1 | refine below_set ?_ GE419.out | refine below_set ?_ GE433.out) | exact HB.out))⟩; clear HO431 BK419 BK433 HB hq_; have HO431 := n0_; have BK419 := n1_; have BK433 := n2_; have HB := n3_; clear n0_ n1_ n2_ n3_))) | ((with_reducible refine gate_callee (f := 53) rfl ?_); refine goesL_ (some 131) rfl rfl Try.func53 (by kernel_rfl) rfl #[.int .i64 t438, .int .i64 t439] rfl (by (try simp only [List.map_toArray, List.map_cons, List.map_nil]); first | done | rfl | (simp only [List.length_drop, List.length_take]; rfl)) ?_; (with_reducible refine (spec_LogOf.calls kj16 t438 t439 t442 t443 _ A34.out).mono ?_); rintro e w' ⟨rfl, ⟨nd, rfl⟩⟩; refine ⟨_, rfl, ?_⟩; (try (rw [drewN_self w50]; generalize hq_ : World.drewN w50 _ = w50; have n0_ : Aside0 (Kd.R (Kd.int .i64) 3 w50 w.heap.size (fun _ => True) (.slice Ao46 t429.length co46) t429) := ⟨by rw [← hq_]; exact (by (with_reducible repeat (first | apply Kd.R_alloc | apply Kd.R_drewN | apply Kd.R_drew)); exact HO431.out)⟩; have n1_ : Aside0 (w50.heap[gb419]? = some (.cells #[.int .i64 t417, .int .i64 t418] 28 (0, 0))) := ⟨by rw [← hq_]; exact (by (with_reducible repeat (first | refine blk_drewN ?_ _ | refine blk_drew ?_ | refine blk_alloc ?_ _)); exact BK419.out)⟩; have n2_ : Aside0 (w50.heap[gb433]? = some (.cells #[.int .i64 t427, .int .i64 t428] 28 (0, 0))) := ⟨by rw [← hq_]; exact (by (with_reducible repeat (first | refine blk_drewN ?_ _ | refine blk_drew ?_ | refine blk_alloc ?_ _)); exact BK433.out)⟩; have n3_ : Aside0 (Below w.heap.size w w50) := ⟨by rw [← hq_]; exact (by repeat (first | (with_reducible first | exact HB.out | apply below_alloc | apply pw_below_drewN | apply below_drew1 | refine below_set ?_ GE419.out | refine below_set ?_ GE433.out) | exact HB.out))⟩; clear HO431 BK419 BK433 HB hq_; have HO431 := n0_; have BK419 := n1_; have BK433 := n2_; have HB := n3_; clear n0_ n1_ n2_ n3_))) | ((with_reducible refine gate_callee (f := 54) rfl ?_); refine goesL_ (some 135) rfl rfl Try.func54 (by kernel_rfl) rfl #[.slice A1 l1.length c1] rfl (by (try simp only [List.map_toArray, List.map_cons, List.map_nil]); first | done | rfl | (simp only [List.length_drop, List.length_take]; rfl)) ?_; (with_reducible refine (spec_DrawAddVotes.calls kj16 _ _ l1 t444 _ ?side1 ?side2 A35.out).mono ?_); (case side1 => repeat (first | exact (Kd.C_below HR1.out HB.out) | (with_reducible refine Kd.C_alloc ?_ _) | (with_reducible refine Kd.C_drewN ?_ _) | (with_reducible refine Kd.C_drew ?_))); (case side2 => exact HC1.out); rintro e w51 ⟨v445, rfl, ho0, hb⟩; refine ⟨_, rfl, ?_⟩; have n0_ := Aside0.mk (Kd.R_below (by (with_reducible repeat (first | apply Kd.R_alloc | apply Kd.R_drewN | apply Kd.R_drew)); exact HO431.out) hb); have n1_ := Aside0.mk (Kd.R_lower (Kd.R_newB (Kd.R_newB ho0 (g := gb419) (o := .cells #[.int .i64 t417, .int .i64 t418] 28 (0, 0)) (by (with_reducible repeat (first | refine blk_drewN ?_ _ | refine blk_drew ?_ | refine blk_alloc ?_ _)); exact BK419.out)) (g := gb433) (o := .cells #[.int .i64 t427, .int .i64 t428] 28 (0, 0)) (by (with_reducible repeat (first | refine blk_drewN ?_ _ | refine blk_drew ?_ | refine blk_alloc ?_ _)); exact BK433.out)) (below_size (by repeat (first | (with_reducible first | exact HB.out | apply below_alloc | apply pw_below_drewN | apply below_drew1 | refine below_set ?_ GE419.out | refine below_set ?_ GE433.out) | exact HB.out)))); have n2_ := Aside0.mk (blk_below (g := gb419) (o := .cells #[.int .i64 t417, .int .i64 t418] 28 (0, 0)) (by (with_reducible repeat (first | refine blk_drewN ?_ _ | refine blk_drew ?_ | refine blk_alloc ?_ _)); exact BK419.out) hb); have n3_ := Aside0.mk (blk_below (g := gb433) (o := .cells #[.int .i64 t427, .int .i64 t428] 28 (0, 0)) (by (with_reducible repeat (first | refine blk_drewN ?_ _ | refine blk_drew ?_ | refine blk_alloc ?_ _)); exact BK433.out) hb); have n4_ := Aside0.mk (below_step (by repeat (first | (with_reducible first | exact HB.out | apply below_alloc | apply pw_below_drewN | apply below_drew1 | refine below_set ?_ GE419.out | refine below_set ?_ GE433.out) | exact HB.out)) hb); clear HO431; clear BK419; clear BK433; clear HB; have HO431 := n0_; have HO446 := n1_; have BK419 := n2_; have BK433 := n3_; have HB := n4_; clear n0_ n1_ n2_ n3_ n4_; (try clear hb); (try clear hb2); (try clear hk); (try clear hi); (try clear ho0); obtain ⟨Ao52, co52, eo52⟩ := Kd.R_slice HO446.out; subst eo52) | ((with_reducible refine gate_callee (f := 20) rfl ?_); refine goesL_ (some 138) rfl rfl Try.func20 (by kernel_rfl) rfl #[.slice Ao52 t444.length co52] rfl (by (try simp only [List.map_toArray, List.map_cons, List.map_nil]); first | done | rfl | (simp only [List.length_drop, List.length_take]; rfl)) ?_; (with_reducible refine (impl_AddVotes.calls kj16 _ _ t444 t447 t448 t449 _ ?side1 ?side2 A36.out).mono ?_); (case side1 => repeat (first | exact (Kd.R_reads' HO446.out).2.2 | (with_reducible refine Kd.C_alloc ?_ _) | (with_reducible refine Kd.C_drewN ?_ _) | (with_reducible refine Kd.C_drew ?_))); (case side2 => exact (Kd.R_reads' HO446.out).2.1); rintro e w53 ⟨rfl, hb⟩; refine ⟨_, rfl, ?_⟩; have n0_ := Aside0.mk (Kd.R_below (by (with_reducible repeat (first | apply Kd.R_alloc | apply Kd.R_drewN | apply Kd.R_drew)); exact HO431.out) hb); have n1_ := Aside0.mk (Kd.R_below (by (with_reducible repeat (first | apply Kd.R_alloc | apply Kd.R_drewN | apply Kd.R_drew)); exact HO446.out) hb); have n2_ := Aside0.mk (blk_below (g := gb419) (o := .cells #[.int .i64 t417, .int .i64 t418] 28 (0, 0)) (by (with_reducible repeat (first | refine blk_drewN ?_ _ | refine blk_drew ?_ | refine blk_alloc ?_ _)); exact BK419.out) hb); have n3_ := Aside0.mk (blk_below (g := gb433) (o := .cells #[.int .i64 t427, .int .i64 t428] 28 (0, 0)) (by (with_reducible repeat (first | refine blk_drewN ?_ _ | refine blk_drew ?_ | refine blk_alloc ?_ _)); exact BK433.out) hb); have n4_ := Aside0.mk (below_step (by repeat (first | (with_reducible first | exact HB.out | apply below_alloc | apply pw_below_drewN | apply below_drew1 | refine below_set ?_ GE419.out | refine below_set ?_ GE433.out) | exact HB.out)) hb); clear HO431; clear HO446; clear BK419; clear BK433; clear HB; have HO431 := n0_; have HO446 := n1_; have BK419 := n2_; have BK433 := n3_; have HB := n4_; clear n0_ n1_ n2_ n3_ n4_; (try clear hb); (try clear hb2); (try clear hk); (try clear hi)) | ((with_reducible refine gate_dst (N := 30) rfl ?_); refine box_event ?hg (N := 30) ?hd (cs := #[.int .i64 0, .int .i64 0]) (t := 28) ?hr ?_; (case hd => rfl); (case hg => rfl); (case hr => first | (go_simp; done) | (go_simp; rfl)); intro gb450 hg w54 hbox hb; have n0_ := Aside0.mk (Kd.R_below (by (with_reducible repeat (first | apply Kd.R_alloc | apply Kd.R_drewN | apply Kd.R_drew)); exact HO431.out) hb); have n1_ := Aside0.mk (Kd.R_below (Kd.R_elderB (by (with_reducible repeat (first | apply Kd.R_alloc | apply Kd.R_drewN | apply Kd.R_drew)); exact HO446.out) gb450 (Nat.le_of_eq hg.symm)) hb); have n2_ := Aside0.mk (blk_below (g := gb419) (o := .cells #[.int .i64 t417, .int .i64 t418] 28 (0, 0)) (by (with_reducible repeat (first | refine blk_drewN ?_ _ | refine blk_drew ?_ | refine blk_alloc ?_ _)); exact BK419.out) hb); have n3_ := Aside0.mk (blk_below (g := gb433) (o := .cells #[.int .i64 t427, .int .i64 t428] 28 (0, 0)) (by (with_reducible repeat (first | refine blk_drewN ?_ _ | refine blk_drew ?_ | refine blk_alloc ?_ _)); exact BK433.out) hb); have n4_ := Aside0.mk (below_step (by repeat (first | (with_reducible first | exact HB.out | apply below_alloc | apply pw_below_drewN | apply below_drew1 | refine below_set ?_ GE419.out | refine below_set ?_ GE433.out) | exact HB.out)) hb); have n5_ := Aside0.mk (hbox); have n6_ := Aside0.mk ((by rw [hg]; exact (below_size (by repeat (first | (with_reducible first | exact HB.out | apply below_alloc | apply pw_below_drewN | apply below_drew1 | refine below_set ?_ GE419.out | refine below_set ?_ GE433.out) | exact HB.out))) : w.heap.size ≤ gb450)); have n7_ := Aside0.mk ((by rw [hg]; exact (below_size (by repeat (first | (with_reducible first | exact HB.out | apply below_alloc | apply pw_below_drewN | apply below_drew1 | refine below_set ?_ GE419.out | refine below_set ?_ GE433.out) | exact HB.out))) : w.heap.size ≤ gb450)); have n8_ := Aside0.mk ((by rw [hg]; exact Nat.ne_of_lt (blk_lt (g := gb419) (o := .cells #[.int .i64 t417, .int .i64 t418] 28 (0, 0)) (by (with_reducible repeat (first | refine blk_drewN ?_ _ | refine blk_drew ?_ | refine blk_alloc ?_ _)); exact BK419.out)) : gb419 ≠ gb450)); have n9_ := Aside0.mk ((by rw [hg]; exact Nat.ne_of_gt (blk_lt (g := gb419) (o := .cells #[.int .i64 t417, .int .i64 t418] 28 (0, 0)) (by (with_reducible repeat (first | refine blk_drewN ?_ _ | refine blk_drew ?_ | refine blk_alloc ?_ _)); exact BK419.out)) : gb450 ≠ gb419)); have n10_ := Aside0.mk ((by rw [hg]; exact Nat.ne_of_lt (blk_lt (g := gb433) (o := .cells #[.int .i64 t427, .int .i64 t428] 28 (0, 0)) (by (with_reducible repeat (first | refine blk_drewN ?_ _ | refine blk_drew ?_ | refine blk_alloc ?_ _)); exact BK433.out)) : gb433 ≠ gb450)); have n11_ := Aside0.mk ((by rw [hg]; exact Nat.ne_of_gt (blk_lt (g := gb433) (o := .cells #[.int .i64 t427, .int .i64 t428] 28 (0, 0)) (by (with_reducible repeat (first | refine blk_drewN ?_ _ | refine blk_drew ?_ | refine blk_alloc ?_ _)); exact BK433.out)) : gb450 ≠ gb433)); clear HO431; clear HO446; clear BK419; clear BK433; clear HB; have HO431 := n0_; have HO446 := n1_; have BK419 := n2_; have BK433 := n3_; have HB := n4_; have BK450 := n5_; have GW450 := n6_; have GE450 := n7_; have NB419_450 := n8_; have NB450_419 := n9_; have NB433_450 := n10_; have NB450_433 := n11_; clear n0_ n1_ n2_ n3_ n4_ n5_ n6_ n7_ n8_ n9_ n10_ n11_; clear hb hbox hg; have hnb55 := NB450_419.out; have hnc55 := NB419_450.out; have hnb56 := NB450_433.out; have hnc56 := NB433_450.out; have hcz57_0 : w54.cell? ⟨gb450, 0, none⟩ = some (.int .i64 0) := (blk_cell BK450.out 0).trans rfl; have hcz57_1 : w54.cell? ⟨gb450, 1, none⟩ = some (.int .i64 0) := (blk_cell BK450.out 1).trans rfl; have hfz57_0 := blk_frozen BK450.out 0; have hfz57_1 := blk_frozen BK450.out 1) | ((with_reducible refine gate_callee (f := 18) rfl ?_); refine goesL_ (some 143) rfl rfl Try.func18 (by kernel_rfl) rfl #[.slice Ao52 t444.length co52] rfl (by (try simp only [List.map_toArray, List.map_cons, List.map_nil]); first | done | rfl | (simp only [List.length_drop, List.length_take]; rfl)) ?_; (with_reducible refine (spec_AddVotes.calls kj16 _ _ t444 t451 t452 t453 _ ?side1 ?side2 A37.out).mono ?_); (case side1 => refine (Kd.R_reads' (e := 28) (base := w.heap.size) (ok := fun k_ => (((True ∧ k_ ≠ gb419) ∧ k_ ≠ gb433) ∧ k_ ≠ gb450)) (n := t444.length) (c := co52) ?_).2.2; exact (by (with_reducible repeat (first | apply Kd.R_alloc | apply Kd.R_drewN | apply Kd.R_drew)); exact (Kd.R_mono (Kd.R_far (p := ⟨gb450, 1, none⟩) (Kd.R_far (p := ⟨gb450, 0, none⟩) (Kd.R_mono HO446.out (fun k_ hk => (⟨hk, hk.2⟩ : _ ∧ k_ ≠ gb450))) (fun _ hk => hk.2) (.int .i64 t447)) (fun _ hk => hk.2) (.int .i64 t448)) (fun _ h_ => h_.1)))); (case side2 => exact (Kd.R_reads' HO446.out).2.1); rintro e w58 ⟨rfl, hb⟩; refine ⟨_, rfl, ?_⟩; have n0_ := Aside0.mk (Kd.R_below (by (with_reducible repeat (first | apply Kd.R_alloc | apply Kd.R_drewN | apply Kd.R_drew)); exact (Kd.R_mono (Kd.R_far (p := ⟨gb450, 1, none⟩) (Kd.R_far (p := ⟨gb450, 0, none⟩) (Kd.R_types HO431.out BK450.out (by decide)) (fun _ hk => hk.2) (.int .i64 t447)) (fun _ hk => hk.2) (.int .i64 t448)) (fun _ h_ => h_.1))) hb); have n1_ := Aside0.mk (Kd.R_below (by (with_reducible repeat (first | apply Kd.R_alloc | apply Kd.R_drewN | apply Kd.R_drew)); exact (Kd.R_mono (Kd.R_far (p := ⟨gb450, 1, none⟩) (Kd.R_far (p := ⟨gb450, 0, none⟩) (Kd.R_mono HO446.out (fun k_ hk => (⟨hk, hk.2⟩ : _ ∧ k_ ≠ gb450))) (fun _ hk => hk.2) (.int .i64 t447)) (fun _ hk => hk.2) (.int .i64 t448)) (fun _ h_ => h_.1))) hb); have n2_ := Aside0.mk (blk_below (g := gb419) (o := .cells #[.int .i64 t417, .int .i64 t418] 28 (0, 0)) (by (with_reducible repeat (first | refine blk_drewN ?_ _ | refine blk_drew ?_ | refine blk_alloc ?_ _)); refine blk_far ?_ NB419_450.out _; (with_reducible repeat (first | refine blk_drewN ?_ _ | refine blk_drew ?_ | refine blk_alloc ?_ _)); refine blk_far ?_ NB419_450.out _; (with_reducible repeat (first | refine blk_drewN ?_ _ | refine blk_drew ?_ | refine blk_alloc ?_ _)); exact BK419.out) hb); have n3_ := Aside0.mk (blk_below (g := gb433) (o := .cells #[.int .i64 t427, .int .i64 t428] 28 (0, 0)) (by (with_reducible repeat (first | refine blk_drewN ?_ _ | refine blk_drew ?_ | refine blk_alloc ?_ _)); refine blk_far ?_ NB433_450.out _; (with_reducible repeat (first | refine blk_drewN ?_ _ | refine blk_drew ?_ | refine blk_alloc ?_ _)); refine blk_far ?_ NB433_450.out _; (with_reducible repeat (first | refine blk_drewN ?_ _ | refine blk_drew ?_ | refine blk_alloc ?_ _)); exact BK433.out) hb); have n4_ := Aside0.mk (blk_below (g := gb450) (o := .cells #[.int .i64 t447, .int .i64 t448] 28 (0, 0)) (by (with_reducible repeat (first | refine blk_drewN ?_ _ | refine blk_drew ?_ | refine blk_alloc ?_ _)); refine blk_put (cs := #[.int .i64 t447, .int .i64 0]) ?_ 1 _ rfl; (with_reducible repeat (first | refine blk_drewN ?_ _ | refine blk_drew ?_ | refine blk_alloc ?_ _)); refine blk_put (cs := #[.int .i64 0, .int .i64 0]) ?_ 0 _ rfl; (with_reducible repeat (first | refine blk_drewN ?_ _ | refine blk_drew ?_ | refine blk_alloc ?_ _)); exact BK450.out) hb); have n5_ := Aside0.mk (below_step (by repeat (first | (with_reducible first | exact HB.out | apply below_alloc | apply pw_below_drewN | apply below_drew1 | refine below_set ?_ GE419.out | refine below_set ?_ GE433.out | refine below_set ?_ GE450.out) | exact HB.out)) hb); clear HO431; clear HO446; clear BK419; clear BK433; clear BK450; clear HB; have HO431 := n0_; have HO446 := n1_; have BK419 := n2_; have BK433 := n3_; have BK450 := n4_; have HB := n5_; clear n0_ n1_ n2_ n3_ n4_ n5_; (try clear hb); (try clear hb2); (try clear hk); (try clear hi)) | ((with_reducible refine gate_dst (N := 32) rfl ?_); refine box_event ?hg (N := 32) ?hd (cs := #[.int .i64 0, .int .i64 0]) (t := 28) ?hr ?_; (case hd => rfl); (case hg => rfl); (case hr => first | (go_simp; done) | (go_simp; rfl)); intro gb454 hg w59 hbox hb; have n0_ := Aside0.mk (Kd.R_below (by (with_reducible repeat (first | apply Kd.R_alloc | apply Kd.R_drewN | apply Kd.R_drew)); exact HO431.out) hb); have n1_ := Aside0.mk (Kd.R_below (Kd.R_elderB (by (with_reducible repeat (first | apply Kd.R_alloc | apply Kd.R_drewN | apply Kd.R_drew)); exact HO446.out) gb454 (Nat.le_of_eq hg.symm)) hb); have n2_ := Aside0.mk (blk_below (g := gb419) (o := .cells #[.int .i64 t417, .int .i64 t418] 28 (0, 0)) (by (with_reducible repeat (first | refine blk_drewN ?_ _ | refine blk_drew ?_ | refine blk_alloc ?_ _)); exact BK419.out) hb); have n3_ := Aside0.mk (blk_below (g := gb433) (o := .cells #[.int .i64 t427, .int .i64 t428] 28 (0, 0)) (by (with_reducible repeat (first | refine blk_drewN ?_ _ | refine blk_drew ?_ | refine blk_alloc ?_ _)); exact BK433.out) hb); have n4_ := Aside0.mk (blk_below (g := gb450) (o := .cells #[.int .i64 t447, .int .i64 t448] 28 (0, 0)) (by (with_reducible repeat (first | refine blk_drewN ?_ _ | refine blk_drew ?_ | refine blk_alloc ?_ _)); exact BK450.out) hb); have n5_ := Aside0.mk (below_step (by repeat (first | (with_reducible first | exact HB.out | apply below_alloc | apply pw_below_drewN | apply below_drew1 | refine below_set ?_ GE419.out | refine below_set ?_ GE433.out | refine below_set ?_ GE450.out) | exact HB.out)) hb); have n6_ := Aside0.mk (hbox); have n7_ := Aside0.mk ((by rw [hg]; exact (below_size (by repeat (first | (with_reducible first | exact HB.out | apply below_alloc | apply pw_below_drewN | apply below_drew1 | refine below_set ?_ GE419.out | refine below_set ?_ GE433.out | refine below_set ?_ GE450.out) | exact HB.out))) : w.heap.size ≤ gb454)); have n8_ := Aside0.mk ((by rw [hg]; exact (below_size (by repeat (first | (with_reducible first | exact HB.out | apply below_alloc | apply pw_below_drewN | apply below_drew1 | refine below_set ?_ GE419.out | refine below_set ?_ GE433.out | refine below_set ?_ GE450.out) | exact HB.out))) : w.heap.size ≤ gb454)); have n9_ := Aside0.mk ((by rw [hg]; exact Nat.ne_of_lt (blk_lt (g := gb419) (o := .cells #[.int .i64 t417, .int .i64 t418] 28 (0, 0)) (by (with_reducible repeat (first | refine blk_drewN ?_ _ | refine blk_drew ?_ | refine blk_alloc ?_ _)); exact BK419.out)) : gb419 ≠ gb454)); have n10_ := Aside0.mk ((by rw [hg]; exact Nat.ne_of_gt (blk_lt (g := gb419) (o := .cells #[.int .i64 t417, .int .i64 t418] 28 (0, 0)) (by (with_reducible repeat (first | refine blk_drewN ?_ _ | refine blk_drew ?_ | refine blk_alloc ?_ _)); exact BK419.out)) : gb454 ≠ gb419)); have n11_ := Aside0.mk ((by rw [hg]; exact Nat.ne_of_lt (blk_lt (g := gb433) (o := .cells #[.int .i64 t427, .int .i64 t428] 28 (0, 0)) (by (with_reducible repeat (first | refine blk_drewN ?_ _ | refine blk_drew ?_ | refine blk_alloc ?_ _)); exact BK433.out)) : gb433 ≠ gb454)); have n12_ := Aside0.mk ((by rw [hg]; exact Nat.ne_of_gt (blk_lt (g := gb433) (o := .cells #[.int .i64 t427, .int .i64 t428] 28 (0, 0)) (by (with_reducible repeat (first | refine blk_drewN ?_ _ | refine blk_drew ?_ | refine blk_alloc ?_ _)); exact BK433.out)) : gb454 ≠ gb433)); have n13_ := Aside0.mk ((by rw [hg]; exact Nat.ne_of_lt (blk_lt (g := gb450) (o := .cells #[.int .i64 t447, .int .i64 t448] 28 (0, 0)) (by (with_reducible repeat (first | refine blk_drewN ?_ _ | refine blk_drew ?_ | refine blk_alloc ?_ _)); exact BK450.out)) : gb450 ≠ gb454)); have n14_ := Aside0.mk ((by rw [hg]; exact Nat.ne_of_gt (blk_lt (g := gb450) (o := .cells #[.int .i64 t447, .int .i64 t448] 28 (0, 0)) (by (with_reducible repeat (first | refine blk_drewN ?_ _ | refine blk_drew ?_ | refine blk_alloc ?_ _)); exact BK450.out)) : gb454 ≠ gb450)); clear HO431; clear HO446; clear BK419; clear BK433; clear BK450; clear HB; have HO431 := n0_; have HO446 := n1_; have BK419 := n2_; have BK433 := n3_; have BK450 := n4_; have HB := n5_; have BK454 := n6_; have GW454 := n7_; have GE454 := n8_; have NB419_454 := n9_; have NB454_419 := n10_; have NB433_454 := n11_; have NB454_433 := n12_; have NB450_454 := n13_; have NB454_450 := n14_; clear n0_ n1_ n2_ n3_ n4_ n5_ n6_ n7_ n8_ n9_ n10_ n11_ n12_ n13_ n14_; clear hb hbox hg; have hnb60 := NB454_419.out; have hnc60 := NB419_454.out; have hnb61 := NB454_433.out; have hnc61 := NB433_454.out; have hnb62 := NB454_450.out; have hnc62 := NB450_454.out; have hcz63_0 : w59.cell? ⟨gb454, 0, none⟩ = some (.int .i64 0) := (blk_cell BK454.out 0).trans rfl; have hcz63_1 : w59.cell? ⟨gb454, 1, none⟩ = some (.int .i64 0) := (blk_cell BK454.out 1).trans rfl; have hfz63_0 := blk_frozen BK454.out 0; have hfz63_1 := blk_frozen BK454.out 1) | ((with_reducible refine gate_callee (f := 55) rfl ?_); refine goesL_ (some 148) rfl rfl Try.func55 (by kernel_rfl) rfl #[.slice A1 l1.length c1] rfl (by (try simp only [List.map_toArray, List.map_cons, List.map_nil]); first | done | rfl | (simp only [List.length_drop, List.length_take]; rfl)) ?_; (with_reducible refine (spec_DrawOpenPart.calls kj16 _ _ l1 t455 t456 t457 _ ?side1 ?side2 A38.out).mono ?_); (case side1 => exact Kd.C_below HR1.out (by repeat (first | (with_reducible first | exact HB.out | apply below_alloc | apply pw_below_drewN | apply below_drew1 | refine below_set ?_ GE419.out | refine below_set ?_ GE433.out | refine below_set ?_ GE450.out | refine below_set ?_ GE454.out) | exact HB.out))); (case side2 => exact HC1.out); rintro e w64 ⟨rfl, hb⟩; refine ⟨_, rfl, ?_⟩; have n0_ := Aside0.mk (Kd.R_below (by (with_reducible repeat (first | apply Kd.R_alloc | apply Kd.R_drewN | apply Kd.R_drew)); exact (Kd.R_mono (Kd.R_far (p := ⟨gb454, 1, none⟩) (Kd.R_far (p := ⟨gb454, 0, none⟩) (Kd.R_types HO431.out BK454.out (by decide)) (fun _ hk => hk.2) (.int .i64 t451)) (fun _ hk => hk.2) (.int .i64 t452)) (fun _ h_ => h_.1))) hb); have n1_ := Aside0.mk (Kd.R_below (by (with_reducible repeat (first | apply Kd.R_alloc | apply Kd.R_drewN | apply Kd.R_drew)); exact (Kd.R_mono (Kd.R_far (p := ⟨gb454, 1, none⟩) (Kd.R_far (p := ⟨gb454, 0, none⟩) (Kd.R_mono HO446.out (fun k_ hk => (⟨hk, hk.2⟩ : _ ∧ k_ ≠ gb454))) (fun _ hk => hk.2) (.int .i64 t451)) (fun _ hk => hk.2) (.int .i64 t452)) (fun _ h_ => h_.1))) hb); have n2_ := Aside0.mk (blk_below (g := gb419) (o := .cells #[.int .i64 t417, .int .i64 t418] 28 (0, 0)) (by (with_reducible repeat (first | refine blk_drewN ?_ _ | refine blk_drew ?_ | refine blk_alloc ?_ _)); refine blk_far ?_ NB419_454.out _; (with_reducible repeat (first | refine blk_drewN ?_ _ | refine blk_drew ?_ | refine blk_alloc ?_ _)); refine blk_far ?_ NB419_454.out _; (with_reducible repeat (first | refine blk_drewN ?_ _ | refine blk_drew ?_ | refine blk_alloc ?_ _)); exact BK419.out) hb); have n3_ := Aside0.mk (blk_below (g := gb433) (o := .cells #[.int .i64 t427, .int .i64 t428] 28 (0, 0)) (by (with_reducible repeat (first | refine blk_drewN ?_ _ | refine blk_drew ?_ | refine blk_alloc ?_ _)); refine blk_far ?_ NB433_454.out _; (with_reducible repeat (first | refine blk_drewN ?_ _ | refine blk_drew ?_ | refine blk_alloc ?_ _)); refine blk_far ?_ NB433_454.out _; (with_reducible repeat (first | refine blk_drewN ?_ _ | refine blk_drew ?_ | refine blk_alloc ?_ _)); exact BK433.out) hb); have n4_ := Aside0.mk (blk_below (g := gb450) (o := .cells #[.int .i64 t447, .int .i64 t448] 28 (0, 0)) (by (with_reducible repeat (first | refine blk_drewN ?_ _ | refine blk_drew ?_ | refine blk_alloc ?_ _)); refine blk_far ?_ NB450_454.out _; (with_reducible repeat (first | refine blk_drewN ?_ _ | refine blk_drew ?_ | refine blk_alloc ?_ _)); refine blk_far ?_ NB450_454.out _; (with_reducible repeat (first | refine blk_drewN ?_ _ | refine blk_drew ?_ | refine blk_alloc ?_ _)); exact BK450.out) hb); have n5_ := Aside0.mk (blk_below (g := gb454) (o := .cells #[.int .i64 t451, .int .i64 t452] 28 (0, 0)) (by (with_reducible repeat (first | refine blk_drewN ?_ _ | refine blk_drew ?_ | refine blk_alloc ?_ _)); refine blk_put (cs := #[.int .i64 t451, .int .i64 0]) ?_ 1 _ rfl; (with_reducible repeat (first | refine blk_drewN ?_ _ | refine blk_drew ?_ | refine blk_alloc ?_ _)); refine blk_put (cs := #[.int .i64 0, .int .i64 0]) ?_ 0 _ rfl; (with_reducible repeat (first | refine blk_drewN ?_ _ | refine blk_drew ?_ | refine blk_alloc ?_ _)); exact BK454.out) hb); have n6_ := Aside0.mk (below_step (by repeat (first | (with_reducible first | exact HB.out | apply below_alloc | apply pw_below_drewN | apply below_drew1 | refine below_set ?_ GE419.out | refine below_set ?_ GE433.out | refine below_set ?_ GE450.out | refine below_set ?_ GE454.out) | exact HB.out)) hb); clear HO431; clear HO446; clear BK419; clear BK433; clear BK450; clear BK454; clear HB; have HO431 := n0_; have HO446 := n1_; have BK419 := n2_; have BK433 := n3_; have BK450 := n4_; have BK454 := n5_; have HB := n6_; clear n0_ n1_ n2_ n3_ n4_ n5_ n6_; (try clear hb); (try clear hb2); (try clear hk); (try clear hi)) | ((with_reducible refine gate_dst (N := 35) rfl ?_); refine box_event ?hg (N := 35) ?hd (cs := #[.int .i64 0, .int .i64 0]) (t := 28) ?hr ?_; (case hd => rfl); (case hg => rfl); (case hr => first | (go_simp; done) | (go_simp; rfl)); intro gb458 hg w65 hbox hb; have n0_ := Aside0.mk (Kd.R_below (by (with_reducible repeat (first | apply Kd.R_alloc | apply Kd.R_drewN | apply Kd.R_drew)); exact HO431.out) hb); have n1_ := Aside0.mk (Kd.R_below (Kd.R_elderB (by (with_reducible repeat (first | apply Kd.R_alloc | apply Kd.R_drewN | apply Kd.R_drew)); exact HO446.out) gb458 (Nat.le_of_eq hg.symm)) hb); have n2_ := Aside0.mk (blk_below (g := gb419) (o := .cells #[.int .i64 t417, .int .i64 t418] 28 (0, 0)) (by (with_reducible repeat (first | refine blk_drewN ?_ _ | refine blk_drew ?_ | refine blk_alloc ?_ _)); exact BK419.out) hb); have n3_ := Aside0.mk (blk_below (g := gb433) (o := .cells #[.int .i64 t427, .int .i64 t428] 28 (0, 0)) (by (with_reducible repeat (first | refine blk_drewN ?_ _ | refine blk_drew ?_ | refine blk_alloc ?_ _)); exact BK433.out) hb); have n4_ := Aside0.mk (blk_below (g := gb450) (o := .cells #[.int .i64 t447, .int .i64 t448] 28 (0, 0)) (by (with_reducible repeat (first | refine blk_drewN ?_ _ | refine blk_drew ?_ | refine blk_alloc ?_ _)); exact BK450.out) hb); have n5_ := Aside0.mk (blk_below (g := gb454) (o := .cells #[.int .i64 t451, .int .i64 t452] 28 (0, 0)) (by (with_reducible repeat (first | refine blk_drewN ?_ _ | refine blk_drew ?_ | refine blk_alloc ?_ _)); exact BK454.out) hb); have n6_ := Aside0.mk (below_step (by repeat (first | (with_reducible first | exact HB.out | apply below_alloc | apply pw_below_drewN | apply below_drew1 | refine below_set ?_ GE419.out | refine below_set ?_ GE433.out | refine below_set ?_ GE450.out | refine below_set ?_ GE454.out) | exact HB.out)) hb); have n7_ := Aside0.mk (hbox); have n8_ := Aside0.mk ((by rw [hg]; exact (below_size (by repeat (first | (with_reducible first | exact HB.out | apply below_alloc | apply pw_below_drewN | apply below_drew1 | refine below_set ?_ GE419.out | refine below_set ?_ GE433.out | refine below_set ?_ GE450.out | refine below_set ?_ GE454.out) | exact HB.out))) : w.heap.size ≤ gb458)); have n9_ := Aside0.mk ((by rw [hg]; exact (below_size (by repeat (first | (with_reducible first | exact HB.out | apply below_alloc | apply pw_below_drewN | apply below_drew1 | refine below_set ?_ GE419.out | refine below_set ?_ GE433.out | refine below_set ?_ GE450.out | refine below_set ?_ GE454.out) | exact HB.out))) : w.heap.size ≤ gb458)); have n10_ := Aside0.mk ((by rw [hg]; exact Nat.ne_of_lt (blk_lt (g := gb419) (o := .cells #[.int .i64 t417, .int .i64 t418] 28 (0, 0)) (by (with_reducible repeat (first | refine blk_drewN ?_ _ | refine blk_drew ?_ | refine blk_alloc ?_ _)); exact BK419.out)) : gb419 ≠ gb458)); have n11_ := Aside0.mk ((by rw [hg]; exact Nat.ne_of_gt (blk_lt (g := gb419) (o := .cells #[.int .i64 t417, .int .i64 t418] 28 (0, 0)) (by (with_reducible repeat (first | refine blk_drewN ?_ _ | refine blk_drew ?_ | refine blk_alloc ?_ _)); exact BK419.out)) : gb458 ≠ gb419)); have n12_ := Aside0.mk ((by rw [hg]; exact Nat.ne_of_lt (blk_lt (g := gb433) (o := .cells #[.int .i64 t427, .int .i64 t428] 28 (0, 0)) (by (with_reducible repeat (first | refine blk_drewN ?_ _ | refine blk_drew ?_ | refine blk_alloc ?_ _)); exact BK433.out)) : gb433 ≠ gb458)); have n13_ := Aside0.mk ((by rw [hg]; exact Nat.ne_of_gt (blk_lt (g := gb433) (o := .cells #[.int .i64 t427, .int .i64 t428] 28 (0, 0)) (by (with_reducible repeat (first | refine blk_drewN ?_ _ | refine blk_drew ?_ | refine blk_alloc ?_ _)); exact BK433.out)) : gb458 ≠ gb433)); have n14_ := Aside0.mk ((by rw [hg]; exact Nat.ne_of_lt (blk_lt (g := gb450) (o := .cells #[.int .i64 t447, .int .i64 t448] 28 (0, 0)) (by (with_reducible repeat (first | refine blk_drewN ?_ _ | refine blk_drew ?_ | refine blk_alloc ?_ _)); exact BK450.out)) : gb450 ≠ gb458)); have n15_ := Aside0.mk ((by rw [hg]; exact Nat.ne_of_gt (blk_lt (g := gb450) (o := .cells #[.int .i64 t447, .int .i64 t448] 28 (0, 0)) (by (with_reducible repeat (first | refine blk_drewN ?_ _ | refine blk_drew ?_ | refine blk_alloc ?_ _)); exact BK450.out)) : gb458 ≠ gb450)); have n16_ := Aside0.mk ((by rw [hg]; exact Nat.ne_of_lt (blk_lt (g := gb454) (o := .cells #[.int .i64 t451, .int .i64 t452] 28 (0, 0)) (by (with_reducible repeat (first | refine blk_drewN ?_ _ | refine blk_drew ?_ | refine blk_alloc ?_ _)); exact BK454.out)) : gb454 ≠ gb458)); have n17_ := Aside0.mk ((by rw [hg]; exact Nat.ne_of_gt (blk_lt (g := gb454) (o := .cells #[.int .i64 t451, .int .i64 t452] 28 (0, 0)) (by (with_reducible repeat (first | refine blk_drewN ?_ _ | refine blk_drew ?_ | refine blk_alloc ?_ _)); exact BK454.out)) : gb458 ≠ gb454)); clear HO431; clear HO446; clear BK419; clear BK433; clear BK450; clear BK454; clear HB; have HO431 := n0_; have HO446 := n1_; have BK419 := n2_; have BK433 := n3_; have BK450 := n4_; have BK454 := n5_; have HB := n6_; have BK458 := n7_; have GW458 := n8_; have GE458 := n9_; have NB419_458 := n10_; have NB458_419 := n11_; have NB433_458 := n12_; have NB458_433 := n13_; have NB450_458 := n14_; have NB458_450 := n15_; have NB454_458 := n16_; have NB458_454 := n17_; clear n0_ n1_ n2_ n3_ n4_ n5_ n6_ n7_ n8_ n9_ n10_ n11_ n12_ n13_ n14_ n15_ n16_ n17_; clear hb hbox hg; have hnb66 := NB458_419.out; have hnc66 := NB419_458.out; have hnb67 := NB458_433.out; have hnc67 := NB433_458.out; have hnb68 := NB458_450.out; have hnc68 := NB450_458.out; have hnb69 := NB458_454.out; have hnc69 := NB454_458.out; have hcz70_0 : w65.cell? ⟨gb458, 0, none⟩ = some (.int .i64 0) := (blk_cell BK458.out 0).trans rfl; have hcz70_1 : w65.cell? ⟨gb458, 1, none⟩ = some (.int .i64 0) := (blk_cell BK458.out 1).trans rfl; have hfz70_0 := blk_frozen BK458.out 0; have hfz70_1 := blk_frozen BK458.out 1) | ((with_reducible refine gate_callee (f := 44) rfl ?_); refine goesL_ (some 154) rfl rfl Try.func44 (by kernel_rfl) rfl #[.int .i64 t455, .agg #[.int .i64 t456, .int .i64 t457]] rfl (by (try simp only [List.map_toArray, List.map_cons, List.map_nil]); first | done | rfl | (simp only [List.length_drop, List.length_take]; rfl)) ?_; (with_reducible refine (impl_OpenPart.calls kj16 t455 t456 t457 t459 t460 _ A39.out).mono ?_); rintro e w71 ⟨rfl, hb⟩; refine ⟨_, rfl, ?_⟩; have n0_ := Aside0.mk (Kd.R_below (by (with_reducible repeat (first | apply Kd.R_alloc | apply Kd.R_drewN | apply Kd.R_drew)); exact (Kd.R_mono (Kd.R_far (p := ⟨gb458, 1, none⟩) (Kd.R_far (p := ⟨gb458, 0, none⟩) (Kd.R_types HO431.out BK458.out (by decide)) (fun _ hk => hk.2) (.int .i64 t456)) (fun _ hk => hk.2) (.int .i64 t457)) (fun _ h_ => h_.1))) hb); have n1_ := Aside0.mk (Kd.R_below (by (with_reducible repeat (first | apply Kd.R_alloc | apply Kd.R_drewN | apply Kd.R_drew)); exact (Kd.R_mono (Kd.R_far (p := ⟨gb458, 1, none⟩) (Kd.R_far (p := ⟨gb458, 0, none⟩) (Kd.R_mono HO446.out (fun k_ hk => (⟨hk, hk.2⟩ : _ ∧ k_ ≠ gb458))) (fun _ hk => hk.2) (.int .i64 t456)) (fun _ hk => hk.2) (.int .i64 t457)) (fun _ h_ => h_.1))) hb); have n2_ := Aside0.mk (blk_below (g := gb419) (o := .cells #[.int .i64 t417, .int .i64 t418] 28 (0, 0)) (by (with_reducible repeat (first | refine blk_drewN ?_ _ | refine blk_drew ?_ | refine blk_alloc ?_ _)); refine blk_far ?_ NB419_458.out _; (with_reducible repeat (first | refine blk_drewN ?_ _ | refine blk_drew ?_ | refine blk_alloc ?_ _)); refine blk_far ?_ NB419_458.out _; (with_reducible repeat (first | refine blk_drewN ?_ _ | refine blk_drew ?_ | refine blk_alloc ?_ _)); exact BK419.out) hb); have n3_ := Aside0.mk (blk_below (g := gb433) (o := .cells #[.int .i64 t427, .int .i64 t428] 28 (0, 0)) (by (with_reducible repeat (first | refine blk_drewN ?_ _ | refine blk_drew ?_ | refine blk_alloc ?_ _)); refine blk_far ?_ NB433_458.out _; (with_reducible repeat (first | refine blk_drewN ?_ _ | refine blk_drew ?_ | refine blk_alloc ?_ _)); refine blk_far ?_ NB433_458.out _; (with_reducible repeat (first | refine blk_drewN ?_ _ | refine blk_drew ?_ | refine blk_alloc ?_ _)); exact BK433.out) hb); have n4_ := Aside0.mk (blk_below (g := gb450) (o := .cells #[.int .i64 t447, .int .i64 t448] 28 (0, 0)) (by (with_reducible repeat (first | refine blk_drewN ?_ _ | refine blk_drew ?_ | refine blk_alloc ?_ _)); refine blk_far ?_ NB450_458.out _; (with_reducible repeat (first | refine blk_drewN ?_ _ | refine blk_drew ?_ | refine blk_alloc ?_ _)); refine blk_far ?_ NB450_458.out _; (with_reducible repeat (first | refine blk_drewN ?_ _ | refine blk_drew ?_ | refine blk_alloc ?_ _)); exact BK450.out) hb); have n5_ := Aside0.mk (blk_below (g := gb454) (o := .cells #[.int .i64 t451, .int .i64 t452] 28 (0, 0)) (by (with_reducible repeat (first | refine blk_drewN ?_ _ | refine blk_drew ?_ | refine blk_alloc ?_ _)); refine blk_far ?_ NB454_458.out _; (with_reducible repeat (first | refine blk_drewN ?_ _ | refine blk_drew ?_ | refine blk_alloc ?_ _)); refine blk_far ?_ NB454_458.out _; (with_reducible repeat (first | refine blk_drewN ?_ _ | refine blk_drew ?_ | refine blk_alloc ?_ _)); exact BK454.out) hb); have n6_ := Aside0.mk (blk_below (g := gb458) (o := .cells #[.int .i64 t456, .int .i64 t457] 28 (0, 0)) (by (with_reducible repeat (first | refine blk_drewN ?_ _ | refine blk_drew ?_ | refine blk_alloc ?_ _)); refine blk_put (cs := #[.int .i64 t456, .int .i64 0]) ?_ 1 _ rfl; (with_reducible repeat (first | refine blk_drewN ?_ _ | refine blk_drew ?_ | refine blk_alloc ?_ _)); refine blk_put (cs := #[.int .i64 0, .int .i64 0]) ?_ 0 _ rfl; (with_reducible repeat (first | refine blk_drewN ?_ _ | refine blk_drew ?_ | refine blk_alloc ?_ _)); exact BK458.out) hb); have n7_ := Aside0.mk (below_step (by repeat (first | (with_reducible first | exact HB.out | apply below_alloc | apply pw_below_drewN | apply below_drew1 | refine below_set ?_ GE419.out | refine below_set ?_ GE433.out | refine below_set ?_ GE450.out | refine below_set ?_ GE454.out | refine below_set ?_ GE458.out) | exact HB.out)) hb); clear HO431; clear HO446; clear BK419; clear BK433; clear BK450; clear BK454; clear BK458; clear HB; have HO431 := n0_; have HO446 := n1_; have BK419 := n2_; have BK433 := n3_; have BK450 := n4_; have BK454 := n5_; have BK458 := n6_; have HB := n7_; clear n0_ n1_ n2_ n3_ n4_ n5_ n6_ n7_; (try clear hb); (try clear hb2); (try clear hk); (try clear hi); have hcz72_0 : w71.cell? ⟨gb458, 0, none⟩ = some (.int .i64 t456) := (blk_cell BK458.out 0).trans rfl; have hcz72_1 : w71.cell? ⟨gb458, 1, none⟩ = some (.int .i64 t457) := (blk_cell BK458.out 1).trans rfl; have hfz72_0 := blk_frozen BK458.out 0; have hfz72_1 := blk_frozen BK458.out 1) | ((with_reducible refine gate_callee (f := 56) rfl ?_); refine goesL_ (some 160) rfl rfl Try.func56 (by kernel_rfl) rfl #[.int .i64 t455, .agg #[.int .i64 t456, .int .i64 t457]] rfl (by (try simp only [List.map_toArray, List.map_cons, List.map_nil]); first | done | rfl | (simp only [List.length_drop, List.length_take]; rfl)) ?_; (with_reducible refine (spec_OpenPart.calls kj16 t455 t456 t457 t461 t462 _ A40.out).mono ?_); rintro e w73 ⟨rfl, hb⟩; refine ⟨_, rfl, ?_⟩; have n0_ := Aside0.mk (Kd.R_below (by (with_reducible repeat (first | apply Kd.R_alloc | apply Kd.R_drewN | apply Kd.R_drew)); exact HO431.out) hb); have n1_ := Aside0.mk (Kd.R_below (by (with_reducible repeat (first | apply Kd.R_alloc | apply Kd.R_drewN | apply Kd.R_drew)); exact HO446.out) hb); have n2_ := Aside0.mk (blk_below (g := gb419) (o := .cells #[.int .i64 t417, .int .i64 t418] 28 (0, 0)) (by (with_reducible repeat (first | refine blk_drewN ?_ _ | refine blk_drew ?_ | refine blk_alloc ?_ _)); exact BK419.out) hb); have n3_ := Aside0.mk (blk_below (g := gb433) (o := .cells #[.int .i64 t427, .int .i64 t428] 28 (0, 0)) (by (with_reducible repeat (first | refine blk_drewN ?_ _ | refine blk_drew ?_ | refine blk_alloc ?_ _)); exact BK433.out) hb); have n4_ := Aside0.mk (blk_below (g := gb450) (o := .cells #[.int .i64 t447, .int .i64 t448] 28 (0, 0)) (by (with_reducible repeat (first | refine blk_drewN ?_ _ | refine blk_drew ?_ | refine blk_alloc ?_ _)); exact BK450.out) hb); have n5_ := Aside0.mk (blk_below (g := gb454) (o := .cells #[.int .i64 t451, .int .i64 t452] 28 (0, 0)) (by (with_reducible repeat (first | refine blk_drewN ?_ _ | refine blk_drew ?_ | refine blk_alloc ?_ _)); exact BK454.out) hb); have n6_ := Aside0.mk (blk_below (g := gb458) (o := .cells #[.int .i64 t456, .int .i64 t457] 28 (0, 0)) (by (with_reducible repeat (first | refine blk_drewN ?_ _ | refine blk_drew ?_ | refine blk_alloc ?_ _)); exact BK458.out) hb); have n7_ := Aside0.mk (below_step (by repeat (first | (with_reducible first | exact HB.out | apply below_alloc | apply pw_below_drewN | apply below_drew1 | refine below_set ?_ GE419.out | refine below_set ?_ GE433.out | refine below_set ?_ GE450.out | refine below_set ?_ GE454.out | refine below_set ?_ GE458.out) | exact HB.out)) hb); clear HO431; clear HO446; clear BK419; clear BK433; clear BK450; clear BK454; clear BK458; clear HB; have HO431 := n0_; have HO446 := n1_; have BK419 := n2_; have BK433 := n3_; have BK450 := n4_; have BK454 := n5_; have BK458 := n6_; have HB := n7_; clear n0_ n1_ n2_ n3_ n4_ n5_ n6_ n7_; (try clear hb); (try clear hb2); (try clear hk); (try clear hi)))
              (try simp only [Act.put, List.setIfInBounds_toArray, List.set_cons_zero, List.set_cons_succ])
              go_cut [200] (fun v200 wc => ∃ (kq : Nat) (x200_40 : Bool), v200 = .bool x200_40 ∧ Aside0 (laws_FnOpened.j3 kq t438 t440 t441 x200_40 = some r) ∧ Aside0 (kq ≤ kj16) ∧ Aside0 (wc.heap[gb419]? = some (.cells #[.int .i64 t417, .int .i64 t418] 28 (0, 0))) ∧ Aside0 (wc.heap[gb433]? = some (.cells #[.int .i64 t427, .int .i64 t428] 28 (0, 0))) ∧ Aside0 (wc.heap[gb450]? = some (.cells #[.int .i64 t447, .int .i64 t448] 28 (0, 0))) ∧ Aside0 (wc.heap[gb454]? = some (.cells #[.int .i64 t451, .int .i64 t452] 28 (0, 0))) ∧ Aside0 (wc.heap[gb458]? = some (.cells #[.int .i64 t456, .int .i64 t457] 28 (0, 0))) ∧ Aside0 (Below w.heap.size w wc))
              case first =>
                have H := HC41.out
                clear HC41
                by_cases c74 : (t435 != t437) = true
                · rw [if_pos c74] at H
                  have c74b0 : (t435 != t437) = true := c74
                  (try (have c74b1 : decide (t435 = t437) = false := by simpa using c74))
                  (try (have c74b2 : (t435 == t437) = false := by simpa using c74))
                  (try (have c74b3 : ¬ (t435 = t437) := by simpa using c74))
                  clear c74
                  (first | rw [c74b0] | (simp only [i64_w, i32_w]; rw [c74b0]) | skip)
                  as_aux_lemma =>
                    have H' := Aside0.mk H
                    clear H
                    go_wp2
                    go_meet
                    case rel => exact ⟨_, (true), (by first | rfl | (simp; done) | (simp [*]; done)), H', ⟨by have := HJ6.out; have := HJ16.out; first | omega | exact Nat.le_refl _⟩, ⟨by (with_reducible repeat (first | refine blk_drewN ?_ _ | refine blk_drew ?_ | refine blk_alloc ?_ _)); exact BK419.out⟩, ⟨by (with_reducible repeat (first | refine blk_drewN ?_ _ | refine blk_drew ?_ | refine blk_alloc ?_ _)); exact BK433.out⟩, ⟨by (with_reducible repeat (first | refine blk_drewN ?_ _ | refine blk_drew ?_ | refine blk_alloc ?_ _)); exact BK450.out⟩, ⟨by (with_reducible repeat (first | refine blk_drewN ?_ _ | refine blk_drew ?_ | refine blk_alloc ?_ _)); exact BK454.out⟩, ⟨by (with_reducible repeat (first | refine blk_drewN ?_ _ | refine blk_drew ?_ | refine blk_alloc ?_ _)); exact BK458.out⟩, ⟨by repeat (first | (with_reducible first | exact HB.out | apply below_alloc | apply pw_below_drewN | apply below_drew1 | refine below_set ?_ GE419.out | refine below_set ?_ GE433.out | refine below_set ?_ GE450.out | refine below_set ?_ GE454.out | refine below_set ?_ GE458.out) | exact HB.out)⟩⟩
                · rw [if_neg c74] at H
                  have c74b0 : (t435 != t437) = false := by simpa using c74
                  (try (have c74b1 : decide (t435 = t437) = true := by simpa using c74))
                  (try (have c74b2 : (t435 == t437) = true := by simpa using c74))
                  clear c74
                  (first | rw [c74b0] | (simp only [i64_w, i32_w]; rw [c74b0]) | skip)
                  by_cases c75 : t434 = t436
                  · rw [if_pos c75] at H
                    have c75b0 : (t434 == t436) = true := beq_iff_eq.mpr c75
                    have c75b1 : (t434 != t436) = false := bne_eq_false_iff_eq.mpr c75
                    clear c75
                    by_cases c76 : (t441 != t443) = true
                    · rw [if_pos c76] at H
                      have c76b0 : (t441 != t443) = true := c76
                      (try (have c76b1 : decide (t441 = t443) = false := by simpa using c76))
                      (try (have c76b2 : (t441 == t443) = false := by simpa using c76))
                      (try (have c76b3 : ¬ (t441 = t443) := by simpa using c76))
                      clear c76
                      as_aux_lemma =>
                        have H' := Aside0.mk H
                        clear H
                        go_wp2
                        go_meet
                        case rel => exact ⟨_, (true), (by first | rfl | (simp; done) | (simp [*]; done)), H', ⟨by have := HJ6.out; have := HJ16.out; first | omega | exact Nat.le_refl _⟩, ⟨by (with_reducible repeat (first | refine blk_drewN ?_ _ | refine blk_drew ?_ | refine blk_alloc ?_ _)); exact BK419.out⟩, ⟨by (with_reducible repeat (first | refine blk_drewN ?_ _ | refine blk_drew ?_ | refine blk_alloc ?_ _)); exact BK433.out⟩, ⟨by (with_reducible repeat (first | refine blk_drewN ?_ _ | refine blk_drew ?_ | refine blk_alloc ?_ _)); exact BK450.out⟩, ⟨by (with_reducible repeat (first | refine blk_drewN ?_ _ | refine blk_drew ?_ | refine blk_alloc ?_ _)); exact BK454.out⟩, ⟨by (with_reducible repeat (first | refine blk_drewN ?_ _ | refine blk_drew ?_ | refine blk_alloc ?_ _)); exact BK458.out⟩, ⟨by repeat (first | (with_reducible first | exact HB.out | apply below_alloc | apply pw_below_drewN | apply below_drew1 | refine below_set ?_ GE419.out | refine below_set ?_ GE433.out | refine below_set ?_ GE450.out | refine below_set ?_ GE454.out | refine below_set ?_ GE458.out) | exact HB.out)⟩⟩
                    · rw [if_neg c76] at H
                      have c76b0 : (t441 != t443) = false := by simpa using c76
                      (try (have c76b1 : decide (t441 = t443) = true := by simpa using c76))
                      (try (have c76b2 : (t441 == t443) = true := by simpa using c76))
                      clear c76
                      by_cases c77 : t440 = t442
                      · rw [if_pos c77] at H
                        have c77b0 : (t440 == t442) = true := beq_iff_eq.mpr c77
                        have c77b1 : (t440 != t442) = false := bne_eq_false_iff_eq.mpr c77
                        clear c77
                        by_cases c78 : (t449 != t453) = true
                        · rw [if_pos c78] at H
                          have c78b0 : (t449 != t453) = true := c78
                          (try (have c78b1 : decide (t449 = t453) = false := by simpa using c78))
                          (try (have c78b2 : (t449 == t453) = false := by simpa using c78))
                          (try (have c78b3 : ¬ (t449 = t453) := by simpa using c78))
                          clear c78
                          as_aux_lemma =>
                            have H' := Aside0.mk H
                            clear H
                            go_wp2
                            go_meet
                            case rel => exact ⟨_, (true), (by first | rfl | (simp; done) | (simp [*]; done)), H', ⟨by have := HJ6.out; have := HJ16.out; first | omega | exact Nat.le_refl _⟩, ⟨by (with_reducible repeat (first | refine blk_drewN ?_ _ | refine blk_drew ?_ | refine blk_alloc ?_ _)); exact BK419.out⟩, ⟨by (with_reducible repeat (first | refine blk_drewN ?_ _ | refine blk_drew ?_ | refine blk_alloc ?_ _)); exact BK433.out⟩, ⟨by (with_reducible repeat (first | refine blk_drewN ?_ _ | refine blk_drew ?_ | refine blk_alloc ?_ _)); exact BK450.out⟩, ⟨by (with_reducible repeat (first | refine blk_drewN ?_ _ | refine blk_drew ?_ | refine blk_alloc ?_ _)); exact BK454.out⟩, ⟨by (with_reducible repeat (first | refine blk_drewN ?_ _ | refine blk_drew ?_ | refine blk_alloc ?_ _)); exact BK458.out⟩, ⟨by repeat (first | (with_reducible first | exact HB.out | apply below_alloc | apply pw_below_drewN | apply below_drew1 | refine below_set ?_ GE419.out | refine below_set ?_ GE433.out | refine below_set ?_ GE450.out | refine below_set ?_ GE454.out | refine below_set ?_ GE458.out) | exact HB.out)⟩⟩
                        · rw [if_neg c78] at H
                          have c78b0 : (t449 != t453) = false := by simpa using c78
                          (try (have c78b1 : decide (t449 = t453) = true := by simpa using c78))
                          (try (have c78b2 : (t449 == t453) = true := by simpa using c78))
                          clear c78
                          by_cases c79 : (!(t447 == t451) || (!(t448 == t452))) = true
                          · rw [if_pos c79] at H
                            have c79b0 : (!(t447 == t451) || (!(t448 == t452))) = true := c79
                            clear c79
                            as_aux_lemma =>
                              have H' := Aside0.mk H
                              clear H
                              have hnb80 := NB450_419.out
                              have hnc80 := NB419_450.out
                              have hnb81 := NB450_433.out
                              have hnc81 := NB433_450.out
                              have hnb82 := NB450_454.out
                              have hnc82 := NB454_450.out
                              have hnb83 := NB450_458.out
                              have hnc83 := NB458_450.out
                              have hcz84_0 : w73.cell? ⟨gb450, 0, none⟩ = some (.int .i64 t447) := (blk_cell BK450.out 0).trans rfl
                              have hcz84_1 : w73.cell? ⟨gb450, 1, none⟩ = some (.int .i64 t448) := (blk_cell BK450.out 1).trans rfl
                              have hfz84_0 := blk_frozen BK450.out 0
                              have hfz84_1 := blk_frozen BK450.out 1
                              have hnb85 := NB454_419.out
                              have hnc85 := NB419_454.out
                              have hnb86 := NB454_433.out
                              have hnc86 := NB433_454.out
                              have hnb87 := NB454_458.out
                              have hnc87 := NB458_454.out
                              have hcz88_0 : w73.cell? ⟨gb454, 0, none⟩ = some (.int .i64 t451) := (blk_cell BK454.out 0).trans rfl
                              have hcz88_1 : w73.cell? ⟨gb454, 1, none⟩ = some (.int .i64 t452) := (blk_cell BK454.out 1).trans rfl
                              have hfz88_0 := blk_frozen BK454.out 0
                              have hfz88_1 := blk_frozen BK454.out 1
                              go_wp2
                              go_meet
                              case rel => exact ⟨_, (true), (by first | rfl | (simp; done) | (simp [*]; done)), H', ⟨by have := HJ6.out; have := HJ16.out; first | omega | exact Nat.le_refl _⟩, ⟨by (with_reducible repeat (first | refine blk_drewN ?_ _ | refine blk_drew ?_ | refine blk_alloc ?_ _)); exact BK419.out⟩, ⟨by (with_reducible repeat (first | refine blk_drewN ?_ _ | refine blk_drew ?_ | refine blk_alloc ?_ _)); exact BK433.out⟩, ⟨by (with_reducible repeat (first | refine blk_drewN ?_ _ | refine blk_drew ?_ | refine blk_alloc ?_ _)); exact BK450.out⟩, ⟨by (with_reducible repeat (first | refine blk_drewN ?_ _ | refine blk_drew ?_ | refine blk_alloc ?_ _)); exact BK454.out⟩, ⟨by (with_reducible repeat (first | refine blk_drewN ?_ _ | refine blk_drew ?_ | refine blk_alloc ?_ _)); exact BK458.out⟩, ⟨by repeat (first | (with_reducible first | exact HB.out | apply below_alloc | apply pw_below_drewN | apply below_drew1 | refine below_set ?_ GE419.out | refine below_set ?_ GE433.out | refine below_set ?_ GE450.out | refine below_set ?_ GE454.out | refine below_set ?_ GE458.out) | exact HB.out)⟩⟩
                          · rw [if_neg c79] at H
                            have c79b0 : (!(t447 == t451) || (!(t448 == t452))) = false := by simpa using c79
                            clear c79
                            by_cases c89 : (t460 != t462) = true
                            · rw [if_pos c89] at H
                              have c89b0 : (t460 != t462) = true := c89
                              (try (have c89b1 : decide (t460 = t462) = false := by simpa using c89))
                              (try (have c89b2 : (t460 == t462) = false := by simpa using c89))
                              (try (have c89b3 : ¬ (t460 = t462) := by simpa using c89))
                              clear c89
                              as_aux_lemma =>
                                have H' := Aside0.mk H
                                clear H
                                have hnb90 := NB450_419.out
                                have hnc90 := NB419_450.out
                                have hnb91 := NB450_433.out
                                have hnc91 := NB433_450.out
                                have hnb92 := NB450_454.out
                                have hnc92 := NB454_450.out
                                have hnb93 := NB450_458.out
                                have hnc93 := NB458_450.out
                                have hcz94_0 : w73.cell? ⟨gb450, 0, none⟩ = some (.int .i64 t447) := (blk_cell BK450.out 0).trans rfl
                                have hcz94_1 : w73.cell? ⟨gb450, 1, none⟩ = some (.int .i64 t448) := (blk_cell BK450.out 1).trans rfl
                                have hfz94_0 := blk_frozen BK450.out 0
                                have hfz94_1 := blk_frozen BK450.out 1
                                have hnb95 := NB454_419.out
                                have hnc95 := NB419_454.out
                                have hnb96 := NB454_433.out
                                have hnc96 := NB433_454.out
                                have hnb97 := NB454_458.out
                                have hnc97 := NB458_454.out
                                have hcz98_0 : w73.cell? ⟨gb454, 0, none⟩ = some (.int .i64 t451) := (blk_cell BK454.out 0).trans rfl
                                have hcz98_1 : w73.cell? ⟨gb454, 1, none⟩ = some (.int .i64 t452) := (blk_cell BK454.out 1).trans rfl
                                have hfz98_0 := blk_frozen BK454.out 0
                                have hfz98_1 := blk_frozen BK454.out 1
                                go_wp2
                                go_meet
                                case rel => exact ⟨_, (true), (by first | rfl | (simp; done) | (simp [*]; done)), H', ⟨by have := HJ6.out; have := HJ16.out; first | omega | exact Nat.le_refl _⟩, ⟨by (with_reducible repeat (first | refine blk_drewN ?_ _ | refine blk_drew ?_ | refine blk_alloc ?_ _)); exact BK419.out⟩, ⟨by (with_reducible repeat (first | refine blk_drewN ?_ _ | refine blk_drew ?_ | refine blk_alloc ?_ _)); exact BK433.out⟩, ⟨by (with_reducible repeat (first | refine blk_drewN ?_ _ | refine blk_drew ?_ | refine blk_alloc ?_ _)); exact BK450.out⟩, ⟨by (with_reducible repeat (first | refine blk_drewN ?_ _ | refine blk_drew ?_ | refine blk_alloc ?_ _)); exact BK454.out⟩, ⟨by (with_reducible repeat (first | refine blk_drewN ?_ _ | refine blk_drew ?_ | refine blk_alloc ?_ _)); exact BK458.out⟩, ⟨by repeat (first | (with_reducible first | exact HB.out | apply below_alloc | apply pw_below_drewN | apply below_drew1 | refine below_set ?_ GE419.out | refine below_set ?_ GE433.out | refine below_set ?_ GE450.out | refine below_set ?_ GE454.out | refine below_set ?_ GE458.out) | exact HB.out)⟩⟩
                            · rw [if_neg c89] at H
                              have c89b0 : (t460 != t462) = false := by simpa using c89
                              (try (have c89b1 : decide (t460 = t462) = true := by simpa using c89))
                              (try (have c89b2 : (t460 == t462) = true := by simpa using c89))
                              clear c89
                              as_aux_lemma =>
                                have H' := Aside0.mk H
                                clear H
                                have hnb99 := NB450_419.out
                                have hnc99 := NB419_450.out
                                have hnb100 := NB450_433.out
                                have hnc100 := NB433_450.out
                                have hnb101 := NB450_454.out
                                have hnc101 := NB454_450.out
                                have hnb102 := NB450_458.out
                                have hnc102 := NB458_450.out
                                have hcz103_0 : w73.cell? ⟨gb450, 0, none⟩ = some (.int .i64 t447) := (blk_cell BK450.out 0).trans rfl
                                have hcz103_1 : w73.cell? ⟨gb450, 1, none⟩ = some (.int .i64 t448) := (blk_cell BK450.out 1).trans rfl
                                have hfz103_0 := blk_frozen BK450.out 0
                                have hfz103_1 := blk_frozen BK450.out 1
                                have hnb104 := NB454_419.out
                                have hnc104 := NB419_454.out
                                have hnb105 := NB454_433.out
                                have hnc105 := NB433_454.out
                                have hnb106 := NB454_458.out
                                have hnc106 := NB458_454.out
                                have hcz107_0 : w73.cell? ⟨gb454, 0, none⟩ = some (.int .i64 t451) := (blk_cell BK454.out 0).trans rfl
                                have hcz107_1 : w73.cell? ⟨gb454, 1, none⟩ = some (.int .i64 t452) := (blk_cell BK454.out 1).trans rfl
                                have hfz107_0 := blk_frozen BK454.out 0
                                have hfz107_1 := blk_frozen BK454.out 1
                                go_wp2
                                go_meet
                                case rel => exact ⟨_, ((t459 != t461)), (by first | rfl | (simp; done) | (simp [*]; done)), H', ⟨by have := HJ6.out; have := HJ16.out; first | omega | exact Nat.le_refl _⟩, ⟨by (with_reducible repeat (first | refine blk_drewN ?_ _ | refine blk_drew ?_ | refine blk_alloc ?_ _)); exact BK419.out⟩, ⟨by (with_reducible repeat (first | refine blk_drewN ?_ _ | refine blk_drew ?_ | refine blk_alloc ?_ _)); exact BK433.out⟩, ⟨by (with_reducible repeat (first | refine blk_drewN ?_ _ | refine blk_drew ?_ | refine blk_alloc ?_ _)); exact BK450.out⟩, ⟨by (with_reducible repeat (first | refine blk_drewN ?_ _ | refine blk_drew ?_ | refine blk_alloc ?_ _)); exact BK454.out⟩, ⟨by (with_reducible repeat (first | refine blk_drewN ?_ _ | refine blk_drew ?_ | refine blk_alloc ?_ _)); exact BK458.out⟩, ⟨by repeat (first | (with_reducible first | exact HB.out | apply below_alloc | apply pw_below_drewN | apply below_drew1 | refine below_set ?_ GE419.out | refine below_set ?_ GE433.out | refine below_set ?_ GE450.out | refine below_set ?_ GE454.out | refine below_set ?_ GE458.out) | exact HB.out)⟩⟩
                      · rw [if_neg c77] at H
                        have c77b0 : (t440 == t442) = false := beq_eq_false_iff_ne.mpr c77
                        have c77b1 : (t440 != t442) = true := bne_iff_ne.mpr c77
                        as_aux_lemma =>
                          have H' := Aside0.mk H
                          clear H
                          go_wp2
                          go_meet
                          case rel => exact ⟨_, (true), (by first | rfl | (simp; done) | (simp [*]; done)), H', ⟨by have := HJ6.out; have := HJ16.out; first | omega | exact Nat.le_refl _⟩, ⟨by (with_reducible repeat (first | refine blk_drewN ?_ _ | refine blk_drew ?_ | refine blk_alloc ?_ _)); exact BK419.out⟩, ⟨by (with_reducible repeat (first | refine blk_drewN ?_ _ | refine blk_drew ?_ | refine blk_alloc ?_ _)); exact BK433.out⟩, ⟨by (with_reducible repeat (first | refine blk_drewN ?_ _ | refine blk_drew ?_ | refine blk_alloc ?_ _)); exact BK450.out⟩, ⟨by (with_reducible repeat (first | refine blk_drewN ?_ _ | refine blk_drew ?_ | refine blk_alloc ?_ _)); exact BK454.out⟩, ⟨by (with_reducible repeat (first | refine blk_drewN ?_ _ | refine blk_drew ?_ | refine blk_alloc ?_ _)); exact BK458.out⟩, ⟨by repeat (first | (with_reducible first | exact HB.out | apply below_alloc | apply pw_below_drewN | apply below_drew1 | refine below_set ?_ GE419.out | refine below_set ?_ GE433.out | refine below_set ?_ GE450.out | refine below_set ?_ GE454.out | refine below_set ?_ GE458.out) | exact HB.out)⟩⟩
                  · rw [if_neg c75] at H
                    have c75b0 : (t434 == t436) = false := beq_eq_false_iff_ne.mpr c75
                    have c75b1 : (t434 != t436) = true := bne_iff_ne.mpr c75
                    as_aux_lemma =>
                      have H' := Aside0.mk H
                      clear H
                      go_wp2
                      go_meet
                      case rel => exact ⟨_, (true), (by first | rfl | (simp; done) | (simp [*]; done)), H', ⟨by have := HJ6.out; have := HJ16.out; first | omega | exact Nat.le_refl _⟩, ⟨by (with_reducible repeat (first | refine blk_drewN ?_ _ | refine blk_drew ?_ | refine blk_alloc ?_ _)); exact BK419.out⟩, ⟨by (with_reducible repeat (first | refine blk_drewN ?_ _ | refine blk_drew ?_ | refine blk_alloc ?_ _)); exact BK433.out⟩, ⟨by (with_reducible repeat (first | refine blk_drewN ?_ _ | refine blk_drew ?_ | refine blk_alloc ?_ _)); exact BK450.out⟩, ⟨by (with_reducible repeat (first | refine blk_drewN ?_ _ | refine blk_drew ?_ | refine blk_alloc ?_ _)); exact BK454.out⟩, ⟨by (with_reducible repeat (first | refine blk_drewN ?_ _ | refine blk_drew ?_ | refine blk_alloc ?_ _)); exact BK458.out⟩, ⟨by repeat (first | (with_reducible first | exact HB.out | apply below_alloc | apply pw_below_drewN | apply below_drew1 | refine below_set ?_ GE419.out | refine below_set ?_ GE433.out | refine below_set ?_ GE450.out | refine below_set ?_ GE454.out | refine below_set ?_ GE458.out) | exact HB.out)⟩⟩
              case rest =>
                clear HC41
                try clear c1
                try clear c2
                try clear p2
                try clear c3
                try clear c3b0
                try clear c4
                try clear p4
                try clear q4
                try clear hx4
                try clear c5
                try clear c6
                try clear p6
                try clear c7
                try clear c8
                try clear c9
                try clear c10
                try clear c12
                try clear c15
                try clear c15b0
                try clear c15b1
                try clear c15b2
                try clear c16
                try clear c18
                try clear c19
                try clear c19b0
                try clear c20
                try clear c20b0
                try clear c21
                try clear c21b0
                try clear c23
                try clear c24
                try clear c24b0
                try clear c24b1
                try clear c32
                try clear p42
                try clear q42
                try clear hx42
                try clear c44
                try clear c49
                try clear c50
                try clear c51
                try clear c52
                try clear c53
                try clear c54
                try clear c55
                try clear c56
                try clear c60
                try clear c61
                try clear c62
                try clear p64
                try clear c66
                try clear c67
                try clear c68
                try clear c69
                try clear c74
                try clear c74b0
                try clear c74b1
                try clear c74b2
                try clear c75
                try clear c75b0
                try clear c75b1
                try clear c76
                try clear c76b0
                try clear c76b1
                try clear c76b2
                try clear c77
                try clear c77b0
                try clear c77b1
                try clear c78
                try clear c78b0
                try clear c78b1
                try clear c78b2
                try clear c79
                try clear c79b0
                try clear c80
                try clear c81
                try clear c82
                try clear c83
                try clear c85
                try clear c86
                try clear c87
                try clear c89
                try clear c89b0
                try clear c89b1
                try clear c89b2
                try clear c90
                try clear c91
                try clear c92
                try clear c93
                try clear c95
                try clear c96
                try clear c97
                try clear c99
                try clear c100
                try clear c101
                try clear c102
                try clear c104
                try clear c105
                try clear c106
                try clear hcz103_0
                try clear hcz103_1
                try clear hcz107_0
                try clear hcz107_1
                try clear hcz10_0
                try clear hcz10_1
                try clear hcz13_0
                try clear hcz13_1
                try clear hcz25_0
                try clear hcz25_1
                try clear hcz27_0
                try clear hcz27_1
                try clear hcz45_0
                try clear hcz45_1
                try clear hcz48_0
                try clear hcz48_1
                try clear hcz57_0
                try clear hcz57_1
                try clear hcz63_0
                try clear hcz63_1
                try clear hcz70_0
                try clear hcz70_1
                try clear hcz72_0
                try clear hcz72_1
                try clear hcz84_0
                try clear hcz84_1
                try clear hcz88_0
                try clear hcz88_1
                try clear hcz94_0
                try clear hcz94_1
                try clear hcz98_0
                try clear hcz98_1
                try clear hfz103_0
                try clear hfz103_1
                try clear hfz107_0
                try clear hfz107_1
                try clear hfz10_0
                try clear hfz10_1
                try clear hfz13_0
                try clear hfz13_1
                try clear hfz25_0
                try clear hfz25_1
                try clear hfz27_0
                try clear hfz27_1
                try clear hfz45_0
                try clear hfz45_1
                try clear hfz48_0
                try clear hfz48_1
                try clear hfz57_0
                try clear hfz57_1
                try clear hfz63_0
                try clear hfz63_1
                try clear hfz70_0
                try clear hfz70_1
                try clear hfz72_0
                try clear hfz72_1
                try clear hfz84_0
                try clear hfz84_1
                try clear hfz88_0
                try clear hfz88_1
                try clear hfz94_0
                try clear hfz94_1
                try clear hfz98_0
                try clear hfz98_1
                try clear hx424_0
                try clear p2
                try clear p4
                try clear p424
                try clear p6
                try clear q4
                try clear q424
                obtain ⟨kq, x200_40, rfl, HA, HJ40, BK419, BK433, BK450, BK454, BK458, HB⟩ := hcut
                cases kq with
                | zero => exact absurd HA.out (by simp [laws_FnOpened.j3])
                | succ kj40 =>
                  have H := HA.out
                  clear HA
                  simp only [laws_FnOpened.j3] at H
                  by_cases c108 : x200_40 = true
                  · subst c108
                    have H1 : (some false) = some r := by rw [if_pos rfl] at H; exact H
                    clear H
                    have H := H1
                    clear H1
                    as_aux_lemma =>
                      obtain rfl := Option.some.inj H
                      exact absurd hr_.out (by simp)
                  · replace c108 := Bool.eq_false_iff.mpr c108
                    subst c108
                    have H1 : (if t441 = true then ((impl_PowerOf.f kj40 4 t440).bind fun bt463 => (if bt463.2 = true then (some (bt463.1 == t438)) else (some false))) else (some true)) = some r := by rw [if_neg (show ¬ (false = true) by decide)] at H; exact H
                    clear H
                    have H := H1
                    clear H1
                    by_cases c109 : t441 = true
                    · subst c109
                      have H1 : ((impl_PowerOf.f kj40 4 t440).bind fun bt463 => (if bt463.2 = true then (some (bt463.1 == t438)) else (some false))) = some r := by rw [if_pos rfl] at H; exact H
                      clear H
                      have H := H1
                      clear H1
                      replace H := Option.bind_eq_some_iff.mp H
                      obtain ⟨⟨t463, t464⟩, A1100, H⟩ := H
                      replace H : (if t464 = true then (some (t463 == t438)) else (some false)) = some r := H
                      have A110 := Aside0.mk A1100
                      clear A1100
                      by_cases c111 : t464 = true
                      · subst c111
                        have H1 : (some (t463 == t438)) = some r := by rw [if_pos rfl] at H; exact H
                        clear H
                        have H := H1
                        clear H1
                        as_aux_lemma =>
                          obtain rfl := Option.some.inj H
                          simp only [Option.some.injEq, Prod.mk.injEq] at H
                          obtain ⟨rfl⟩ := H
                          go_wp2_with (first | ((with_reducible refine gate_callee (f := 57) rfl ?_); refine goesL_ (some 204) rfl rfl Try.func57 (by kernel_rfl) rfl #[.int .i64 4, .int .i64 t440] rfl (by (try simp only [List.map_toArray, List.map_cons, List.map_nil]); first | done | rfl | (simp only [List.length_drop, List.length_take]; rfl)) ?_; (with_reducible refine (impl_PowerOf.calls kj40 4 t440 t463 true _ A110.out).mono ?_); rintro e w' ⟨rfl, ⟨nd, rfl⟩⟩; refine ⟨_, rfl, ?_⟩))
                          go_ret
                          exact ⟨by first | rfl | (simp [errW_none, errW_some] <;> rfl) | (simp [*, errW_none, errW_some] <;> rfl), by repeat (first | (with_reducible first | exact HB.out | apply below_alloc | apply pw_below_drewN | apply below_drew1 | refine below_set ?_ GE419.out | refine below_set ?_ GE433.out | refine below_set ?_ GE450.out | refine below_set ?_ GE454.out | refine below_set ?_ GE458.out) | exact HB.out)⟩
                      · replace c111 := Bool.eq_false_iff.mpr c111
                        subst c111
                        have H1 : (some false) = some r := by rw [if_neg (show ¬ (false = true) by decide)] at H; exact H
                        clear H
                        have H := H1
                        clear H1
                        as_aux_lemma =>
                          obtain rfl := Option.some.inj H
                          exact absurd hr_.out (by simp)
                    · replace c109 := Bool.eq_false_iff.mpr c109
                      subst c109
                      have H1 : (some true) = some r := by rw [if_neg (show ¬ (false = true) by decide)] at H; exact H
                      clear H
                      have H := H1
                      clear H1
                      as_aux_lemma =>
                        obtain rfl := Option.some.inj H
                        simp only [Option.some.injEq, Prod.mk.injEq] at H
                        obtain ⟨rfl⟩ := H
                        go_wp2
                        go_ret
                        exact ⟨by first | rfl | (simp [errW_none, errW_some] <;> rfl) | (simp [*, errW_none, errW_some] <;> rfl), by repeat (first | (with_reducible first | exact HB.out | apply below_alloc | apply pw_below_drewN | apply below_drew1 | refine below_set ?_ GE419.out | refine below_set ?_ GE433.out | refine below_set ?_ GE450.out | refine below_set ?_ GE454.out | refine below_set ?_ GE458.out) | exact HB.out)⟩

/-- THE ONE PURE STATEMENT of laws_FnOpened: yours. -/
def laws_FnOpened.Pure : Prop := ∀ (l0 : List Int) (l1 : List Int), l0.length ≤ maxLen → l0.length * 1 ≤ 140737488351232 → (∀ x ∈ l0, (Lit.int .u8 x).wf = true) → l1.length ≤ maxLen → l1.length * 1 ≤ 140737488351232 → (∀ x ∈ l1, (Lit.int .u8 x).wf = true) → ∃ k, laws_FnOpened.f k l0 l1 = some true
theorem laws_FnOpened.walk (P : laws_FnOpened.Pure) (a0 : Option Addr) (len0 cap0 : Nat) (z0 : List Int) (a1 : Option Addr) (len1 cap1 : Nat) (z1 : List Int) (w : World) (w0 : (a0 = none ∧ len0 = 0 ∧ cap0 = 0 ∧ z0 = []) ∨ ∃ x, a0 = some x ∧ len0 ≤ cap0 ∧ cap0 ≤ maxLen ∧ z0.length = cap0 ∧ (∀ i, i < z0.length → w.cell? (x.add i) = some (.int .u8 (z0.getD i 0))) ∧ ∀ n ∈ z0, (Lit.int .u8 n).wf = true) (y0 : len0 * 1 ≤ 140737488351232) (w1 : (a1 = none ∧ len1 = 0 ∧ cap1 = 0 ∧ z1 = []) ∨ ∃ x, a1 = some x ∧ len1 ≤ cap1 ∧ cap1 ≤ maxLen ∧ z1.length = cap1 ∧ (∀ i, i < z1.length → w.cell? (x.add i) = some (.int .u8 (z1.getD i 0))) ∧ ∀ n ∈ z1, (Lit.int .u8 n).wf = true) (y1 : len1 * 1 ≤ 140737488351232) :
    Calls Try.prog 9 #[.slice a0 len0 cap0, .slice a1 len1 cap1] w fun e w' => e = .returned (.bool true) ∧ Below w.heap.size w w' := by
  obtain ⟨l0, rfl, hr0, hm0, hw0, hc0⟩ := ReadsInt.ofRowC w0
  obtain ⟨l1, rfl, hr1, hm1, hw1, hc1⟩ := ReadsInt.ofRowC w1
  obtain ⟨k, h⟩ := P l0 l1 hm0 y0 hw0 hm1 y1 hw1
  refine (laws_FnOpened.calls k _ _ l0 _ _ l1 true w (Kd.C_of_reads (d := (0 : Int)) (h1 := fun _ => rfl) hr0) hc0 (Kd.C_of_reads (d := (0 : Int)) (h1 := fun _ => rfl) hr1) hc1 h ⟨rfl⟩).mono ?_
  rintro e w' ⟨rfl, hd⟩
  exact ⟨rfl, hd⟩

end Go.Proofs.Ytaiejbcpahcfmaa.PFnOpened
