-- Written by a program of this session, after the kit's print (changed in some places; see NOTES.md). Lean checks it.
import Derived.Test.YtobfeehelmbljaaDoorPFnBodiesx0
import Derived.Test.YtobfeehelmbljaaDoorPFnBodiesx1
import Derived.Test.YtobfeehelmbljaaDoorPFnBodiesx2
import Derived.Test.YtobfeehelmbljaaDoorPFnBodiesx3
import Derived.Test.YtobfeehelmbljaaDoorPFnBodiesx4
import Derived.Test.YtobfeehelmbljaaDoorPFnBodiesx5
import Derived.Test.YtobfeehelmbljaaDoorPFnBodiesx6
namespace Go.Proofs.YtobfeehelmbljaaDoor.PFnBodies
open Go.RowKit Go.Proofs.YtobfeehelmbljaaDoorW.PrintWords Go.Proofs.YtobfeehelmbljaaDoorW.PrintLast Go.Proofs.YtobfeehelmbljaaDoorW.PrintMore
attribute [local go_sem] max2_int min2_int max_two min_two max_three min_three max_four min_four   -- for this text's walks alone
set_option linter.unusedVariables false
set_option linter.unusedSimpArgs false

/-! ### laws_FnBodies: function 6 -/
mutual
def laws_FnBodies.j0 : Nat → List Int → ByteArray → ByteArray → Bool → Bool → Option (Bool)
  | 0, _, _, _, _, _ => none
  | k + 1, x1, x5, x6, x7, x63 => if x63 = true then (some false) else (if x7 = true then ((impl_UnpadBody.f x6).bind fun bt283 => (if (x6.size : Int) = 16 then (if bt283.2 = true then (if bt283.1.toList = x5.toList then (laws_FnBodies.j1 k x1) else (some false)) else (some false)) else (some false))) else (laws_FnBodies.j1 k x1))
def laws_FnBodies.j1 : Nat → List Int → Option (Bool)
  | 0, _ => none
  | k + 1, x1 => (spec_DrawUnpadBody.f k x1).bind fun t285 => ((impl_UnpadBody.f t285).bind fun bt286 => ((spec_UnpadBody.f k t285).bind fun bt288 => (if (bt286.2 != bt288.2) = true then (laws_FnBodies.j2 k x1 t285 bt286.1 bt286.2 true) else (laws_FnBodies.j2 k x1 t285 bt286.1 bt286.2 (bt286.1.toList != bt288.1.toList)))))
def laws_FnBodies.j2 : Nat → List Int → ByteArray → ByteArray → Bool → Bool → Option (Bool)
  | 0, _, _, _, _, _ => none
  | k + 1, x1, x12, x13, x14, x101 => if x101 = true then (some false) else (if x14 = true then ((impl_PadBody.f x13).bind fun bt290 => (if bt290.2 = true then (if bt290.1.toList = x12.toList then (laws_FnBodies.j3 k x1) else (some false)) else (some false))) else (laws_FnBodies.j3 k x1))
def laws_FnBodies.j3 : Nat → List Int → Option (Bool)
  | 0, _ => none
  | k + 1, x1 => (spec_DrawXorTexts.f k x1).bind fun bt292 => ((impl_XorTexts.f bt292.1 bt292.2).bind fun bt294 => ((spec_XorTexts.f bt292.1 bt292.2).bind fun bt296 => ((spec_DrawPadFor.f x1).bind fun bt298 => ((impl_PadFor.f k bt298.1 bt298.2).bind fun bt300 => ((spec_PadFor.f k bt298.1 bt298.2).bind fun bt302 => ((spec_DrawCheckOf.f x1).bind fun t304 => ((impl_CheckOf.f k t304).bind fun bt305 => ((spec_CheckOf.f k t304).bind fun bt307 => (if (bt294.2 != bt296.2) = true then (laws_FnBodies.j4 k bt292.1 bt292.2 bt294.1 bt294.2 true) else (if bt294.1.toList = bt296.1.toList then (if (bt300.2 != bt302.2) = true then (laws_FnBodies.j4 k bt292.1 bt292.2 bt294.1 bt294.2 true) else (if bt300.1.toList = bt302.1.toList then (if (bt305.2 != bt307.2) = true then (laws_FnBodies.j4 k bt292.1 bt292.2 bt294.1 bt294.2 true) else (laws_FnBodies.j4 k bt292.1 bt292.2 bt294.1 bt294.2 (bt305.1 != bt307.1))) else (laws_FnBodies.j4 k bt292.1 bt292.2 bt294.1 bt294.2 true))) else (laws_FnBodies.j4 k bt292.1 bt292.2 bt294.1 bt294.2 true)))))))))))
def laws_FnBodies.j4 : Nat → ByteArray → ByteArray → ByteArray → Bool → Bool → Option (Bool)
  | 0, _, _, _, _, _ => none
  | k + 1, x19, x20, x21, x22, x188 => if x188 = true then (some false) else (if x22 = true then ((impl_XorTexts.f x21 x20).bind fun bt309 => (if bt309.2 = true then (some (bt309.1.toList == x19.toList)) else (some false))) else (some true))
end
def laws_FnBodies.f (k : Nat) (l0 : List Int) (l1 : List Int) : Option (Bool) := if (wrap64 ((l0.length : Int) + (l1.length : Int))) > 1048576 then (some true) else ((spec_DrawPadBody.f l0).bind fun t278 => ((impl_PadBody.f t278).bind fun bt279 => ((spec_PadBody.f t278).bind fun bt281 => (if (bt279.2 != bt281.2) = true then (laws_FnBodies.j0 k l1 t278 bt279.1 bt279.2 true) else (laws_FnBodies.j0 k l1 t278 bt279.1 bt279.2 (bt279.1.toList != bt281.1.toList))))))
theorem laws_FnBodies.mono_l : ∀ k, (∀ y0 y1 y2 y3 y4, LeO (laws_FnBodies.j0 k y0 y1 y2 y3 y4) (laws_FnBodies.j0 (k + 1) y0 y1 y2 y3 y4)) ∧ (∀ y0, LeO (laws_FnBodies.j1 k y0) (laws_FnBodies.j1 (k + 1) y0)) ∧ (∀ y0 y1 y2 y3 y4, LeO (laws_FnBodies.j2 k y0 y1 y2 y3 y4) (laws_FnBodies.j2 (k + 1) y0 y1 y2 y3 y4)) ∧ (∀ y0, LeO (laws_FnBodies.j3 k y0) (laws_FnBodies.j3 (k + 1) y0)) ∧ (∀ y0 y1 y2 y3 y4, LeO (laws_FnBodies.j4 k y0 y1 y2 y3 y4) (laws_FnBodies.j4 (k + 1) y0 y1 y2 y3 y4))
  | 0 => ⟨fun _ _ _ _ _ r h => by simp [laws_FnBodies.j0] at h, fun _ r h => by simp [laws_FnBodies.j1] at h, fun _ _ _ _ _ r h => by simp [laws_FnBodies.j2] at h, fun _ r h => by simp [laws_FnBodies.j3] at h, fun _ _ _ _ _ r h => by simp [laws_FnBodies.j4] at h⟩
  | k + 1 => by
    obtain ⟨ih0, ih1, ih2, ih3, ih4⟩ := laws_FnBodies.mono_l k
    refine ⟨?_, ?_, ?_, ?_, ?_⟩
    · intro y0 y1 y2 y3 y4
      unfold laws_FnBodies.j0
      repeat' first
      | (with_reducible exact ih0 _ _ _ _ _)
      | (with_reducible exact ih1 _)
      | (with_reducible exact ih2 _ _ _ _ _)
      | (with_reducible exact ih3 _)
      | (with_reducible exact ih4 _ _ _ _ _)
      | (with_reducible exact impl_CheckOf.mono _ _)
      | (with_reducible exact impl_PadFor.mono _ _ _)
      | (with_reducible exact spec_CheckOf.mono _ _)
      | (with_reducible exact spec_DrawUnpadBody.mono _ _)
      | (with_reducible exact spec_DrawXorTexts.mono _ _)
      | (with_reducible exact spec_PadFor.mono _ _ _)
      | (with_reducible exact spec_UnpadBody.mono _ _)
      | (with_reducible exact LeO.refl _)
      | (with_reducible exact LeO.none _)
      | (with_reducible refine LeO.ite ?_ ?_)
      | (with_reducible refine LeO.bind ?_ (fun _ => ?_))
      | exact ih0 _ _ _ _ _
      | exact ih1 _
      | exact ih2 _ _ _ _ _
      | exact ih3 _
      | exact ih4 _ _ _ _ _
      | exact impl_CheckOf.mono _ _
      | exact impl_PadFor.mono _ _ _
      | exact spec_CheckOf.mono _ _
      | exact spec_DrawUnpadBody.mono _ _
      | exact spec_DrawXorTexts.mono _ _
      | exact spec_PadFor.mono _ _ _
      | exact spec_UnpadBody.mono _ _
      | exact LeO.none _
      | refine LeO.ite ?_ ?_
      | refine LeO.bind ?_ (fun _ => ?_)
    · intro y0
      unfold laws_FnBodies.j1
      repeat' first
      | (with_reducible exact ih0 _ _ _ _ _)
      | (with_reducible exact ih1 _)
      | (with_reducible exact ih2 _ _ _ _ _)
      | (with_reducible exact ih3 _)
      | (with_reducible exact ih4 _ _ _ _ _)
      | (with_reducible exact impl_CheckOf.mono _ _)
      | (with_reducible exact impl_PadFor.mono _ _ _)
      | (with_reducible exact spec_CheckOf.mono _ _)
      | (with_reducible exact spec_DrawUnpadBody.mono _ _)
      | (with_reducible exact spec_DrawXorTexts.mono _ _)
      | (with_reducible exact spec_PadFor.mono _ _ _)
      | (with_reducible exact spec_UnpadBody.mono _ _)
      | (with_reducible exact LeO.refl _)
      | (with_reducible exact LeO.none _)
      | (with_reducible refine LeO.ite ?_ ?_)
      | (with_reducible refine LeO.bind ?_ (fun _ => ?_))
      | exact ih0 _ _ _ _ _
      | exact ih1 _
      | exact ih2 _ _ _ _ _
      | exact ih3 _
      | exact ih4 _ _ _ _ _
      | exact impl_CheckOf.mono _ _
      | exact impl_PadFor.mono _ _ _
      | exact spec_CheckOf.mono _ _
      | exact spec_DrawUnpadBody.mono _ _
      | exact spec_DrawXorTexts.mono _ _
      | exact spec_PadFor.mono _ _ _
      | exact spec_UnpadBody.mono _ _
      | exact LeO.none _
      | refine LeO.ite ?_ ?_
      | refine LeO.bind ?_ (fun _ => ?_)
    · intro y0 y1 y2 y3 y4
      unfold laws_FnBodies.j2
      repeat' first
      | (with_reducible exact ih0 _ _ _ _ _)
      | (with_reducible exact ih1 _)
      | (with_reducible exact ih2 _ _ _ _ _)
      | (with_reducible exact ih3 _)
      | (with_reducible exact ih4 _ _ _ _ _)
      | (with_reducible exact impl_CheckOf.mono _ _)
      | (with_reducible exact impl_PadFor.mono _ _ _)
      | (with_reducible exact spec_CheckOf.mono _ _)
      | (with_reducible exact spec_DrawUnpadBody.mono _ _)
      | (with_reducible exact spec_DrawXorTexts.mono _ _)
      | (with_reducible exact spec_PadFor.mono _ _ _)
      | (with_reducible exact spec_UnpadBody.mono _ _)
      | (with_reducible exact LeO.refl _)
      | (with_reducible exact LeO.none _)
      | (with_reducible refine LeO.ite ?_ ?_)
      | (with_reducible refine LeO.bind ?_ (fun _ => ?_))
      | exact ih0 _ _ _ _ _
      | exact ih1 _
      | exact ih2 _ _ _ _ _
      | exact ih3 _
      | exact ih4 _ _ _ _ _
      | exact impl_CheckOf.mono _ _
      | exact impl_PadFor.mono _ _ _
      | exact spec_CheckOf.mono _ _
      | exact spec_DrawUnpadBody.mono _ _
      | exact spec_DrawXorTexts.mono _ _
      | exact spec_PadFor.mono _ _ _
      | exact spec_UnpadBody.mono _ _
      | exact LeO.none _
      | refine LeO.ite ?_ ?_
      | refine LeO.bind ?_ (fun _ => ?_)
    · intro y0
      unfold laws_FnBodies.j3
      repeat' first
      | (with_reducible exact ih0 _ _ _ _ _)
      | (with_reducible exact ih1 _)
      | (with_reducible exact ih2 _ _ _ _ _)
      | (with_reducible exact ih3 _)
      | (with_reducible exact ih4 _ _ _ _ _)
      | (with_reducible exact impl_CheckOf.mono _ _)
      | (with_reducible exact impl_PadFor.mono _ _ _)
      | (with_reducible exact spec_CheckOf.mono _ _)
      | (with_reducible exact spec_DrawUnpadBody.mono _ _)
      | (with_reducible exact spec_DrawXorTexts.mono _ _)
      | (with_reducible exact spec_PadFor.mono _ _ _)
      | (with_reducible exact spec_UnpadBody.mono _ _)
      | (with_reducible exact LeO.refl _)
      | (with_reducible exact LeO.none _)
      | (with_reducible refine LeO.ite ?_ ?_)
      | (with_reducible refine LeO.bind ?_ (fun _ => ?_))
      | exact ih0 _ _ _ _ _
      | exact ih1 _
      | exact ih2 _ _ _ _ _
      | exact ih3 _
      | exact ih4 _ _ _ _ _
      | exact impl_CheckOf.mono _ _
      | exact impl_PadFor.mono _ _ _
      | exact spec_CheckOf.mono _ _
      | exact spec_DrawUnpadBody.mono _ _
      | exact spec_DrawXorTexts.mono _ _
      | exact spec_PadFor.mono _ _ _
      | exact spec_UnpadBody.mono _ _
      | exact LeO.none _
      | refine LeO.ite ?_ ?_
      | refine LeO.bind ?_ (fun _ => ?_)
    · intro y0 y1 y2 y3 y4
      unfold laws_FnBodies.j4
      repeat' first
      | (with_reducible exact ih0 _ _ _ _ _)
      | (with_reducible exact ih1 _)
      | (with_reducible exact ih2 _ _ _ _ _)
      | (with_reducible exact ih3 _)
      | (with_reducible exact ih4 _ _ _ _ _)
      | (with_reducible exact impl_CheckOf.mono _ _)
      | (with_reducible exact impl_PadFor.mono _ _ _)
      | (with_reducible exact spec_CheckOf.mono _ _)
      | (with_reducible exact spec_DrawUnpadBody.mono _ _)
      | (with_reducible exact spec_DrawXorTexts.mono _ _)
      | (with_reducible exact spec_PadFor.mono _ _ _)
      | (with_reducible exact spec_UnpadBody.mono _ _)
      | (with_reducible exact LeO.refl _)
      | (with_reducible exact LeO.none _)
      | (with_reducible refine LeO.ite ?_ ?_)
      | (with_reducible refine LeO.bind ?_ (fun _ => ?_))
      | exact ih0 _ _ _ _ _
      | exact ih1 _
      | exact ih2 _ _ _ _ _
      | exact ih3 _
      | exact ih4 _ _ _ _ _
      | exact impl_CheckOf.mono _ _
      | exact impl_PadFor.mono _ _ _
      | exact spec_CheckOf.mono _ _
      | exact spec_DrawUnpadBody.mono _ _
      | exact spec_DrawXorTexts.mono _ _
      | exact spec_PadFor.mono _ _ _
      | exact spec_UnpadBody.mono _ _
      | exact LeO.none _
      | refine LeO.ite ?_ ?_
      | refine LeO.bind ?_ (fun _ => ?_)
theorem laws_FnBodies.mono : ∀ a0 a1 k, LeO (laws_FnBodies.f k a0 a1) (laws_FnBodies.f (k + 1) a0 a1) := by
  intro a0 a1 k
  obtain ⟨ih0, ih1, ih2, ih3, ih4⟩ := laws_FnBodies.mono_l k
  unfold laws_FnBodies.f
  repeat' first
      | (with_reducible exact ih0 _ _ _ _ _)
      | (with_reducible exact ih1 _)
      | (with_reducible exact ih2 _ _ _ _ _)
      | (with_reducible exact ih3 _)
      | (with_reducible exact ih4 _ _ _ _ _)
      | (with_reducible exact impl_CheckOf.mono _ _)
      | (with_reducible exact impl_PadFor.mono _ _ _)
      | (with_reducible exact spec_CheckOf.mono _ _)
      | (with_reducible exact spec_DrawUnpadBody.mono _ _)
      | (with_reducible exact spec_DrawXorTexts.mono _ _)
      | (with_reducible exact spec_PadFor.mono _ _ _)
      | (with_reducible exact spec_UnpadBody.mono _ _)
      | (with_reducible exact LeO.refl _)
      | (with_reducible exact LeO.none _)
      | (with_reducible refine LeO.ite ?_ ?_)
      | (with_reducible refine LeO.bind ?_ (fun _ => ?_))
      | exact ih0 _ _ _ _ _
      | exact ih1 _
      | exact ih2 _ _ _ _ _
      | exact ih3 _
      | exact ih4 _ _ _ _ _
      | exact impl_CheckOf.mono _ _
      | exact impl_PadFor.mono _ _ _
      | exact spec_CheckOf.mono _ _
      | exact spec_DrawUnpadBody.mono _ _
      | exact spec_DrawXorTexts.mono _ _
      | exact spec_PadFor.mono _ _ _
      | exact spec_UnpadBody.mono _ _
      | exact LeO.none _
      | refine LeO.ite ?_ ?_
      | refine LeO.bind ?_ (fun _ => ?_)
set_option maxHeartbeats 8000000 in
set_option maxRecDepth 100000 in
theorem laws_FnBodies.calls (k : Nat) (A0 : Option Addr) (c0 : Nat) (l0 : List Int) (A1 : Option Addr) (c1 : Nat) (l1 : List Int) (r : Bool) (w : World) (hr0 : Kd.C (Kd.int .u8) w A0 l0.length l0) (hc0 : l0.length ≤ c0) (hr1 : Kd.C (Kd.int .u8) w A1 l1.length l1) (hc1 : l1.length ≤ c1) (h : laws_FnBodies.f k l0 l1 = some r) (hr_ : Aside0 (r = true)) :
    Calls Tryd.prog 6 #[.slice A0 l0.length c0, .slice A1 l1.length c1] w fun e w' => e = .returned (.bool r) ∧ Below w.heap.size w w' := by
  have HR0 := Aside0.mk hr0
  have HC0 := Aside0.mk hc0
  clear hr0 hc0
  have HR1 := Aside0.mk hr1
  have HC1 := Aside0.mk hc1
  clear hr1 hc1
  have HB := Aside0.mk (Below.refl w.heap.size w)
  have H : (if (wrap64 ((l0.length : Int) + (l1.length : Int))) > 1048576 then (some true) else ((spec_DrawPadBody.f l0).bind fun t278 => ((impl_PadBody.f t278).bind fun bt279 => ((spec_PadBody.f t278).bind fun bt281 => (if (bt279.2 != bt281.2) = true then (laws_FnBodies.j0 k l1 t278 bt279.1 bt279.2 true) else (laws_FnBodies.j0 k l1 t278 bt279.1 bt279.2 (bt279.1.toList != bt281.1.toList))))))) = some r := h
  clear h
  by_cases c3 : (wrap64 ((l0.length : Int) + (l1.length : Int))) > 1048576
  · rw [if_pos c3] at H
    have c3b0 : decide (1048576 < (wrap64 ((l0.length : Int) + (l1.length : Int)))) = true := decide_eq_true c3
    clear c3
    obtain rfl := Option.some.inj H
    simp only [Option.some.injEq, Prod.mk.injEq] at H
    obtain ⟨rfl⟩ := H
    go_enter Tryd.func6, Tryd.ntmps6
    go_wp2
    go_ret
    exact ⟨by first | rfl | (simp [errW_none, errW_some] <;> rfl) | (simp [*, errW_none, errW_some] <;> rfl), by repeat (first | (with_reducible first | exact HB.out | apply below_alloc | apply pw_below_drewN | apply below_drew1) | exact HB.out)⟩
  · rw [if_neg c3] at H
    have c3b0 : decide (1048576 < (wrap64 ((l0.length : Int) + (l1.length : Int)))) = false := decide_eq_false c3
    clear c3
    replace H := Option.bind_eq_some_iff.mp H
    obtain ⟨t278, A40, H⟩ := H
    replace H : ((impl_PadBody.f t278).bind fun bt279 => ((spec_PadBody.f t278).bind fun bt281 => (if (bt279.2 != bt281.2) = true then (laws_FnBodies.j0 k l1 t278 bt279.1 bt279.2 true) else (laws_FnBodies.j0 k l1 t278 bt279.1 bt279.2 (bt279.1.toList != bt281.1.toList))))) = some r := H
    have A4 := Aside0.mk A40
    clear A40
    replace H := Option.bind_eq_some_iff.mp H
    obtain ⟨⟨t279, t280⟩, A50, H⟩ := H
    replace H : ((spec_PadBody.f t278).bind fun bt281 => (if (t280 != bt281.2) = true then (laws_FnBodies.j0 k l1 t278 t279 t280 true) else (laws_FnBodies.j0 k l1 t278 t279 t280 (t279.toList != bt281.1.toList)))) = some r := H
    have A5 := Aside0.mk A50
    clear A50
    replace H := Option.bind_eq_some_iff.mp H
    obtain ⟨⟨t281, t282⟩, A60, H⟩ := H
    replace H : (if (t280 != t282) = true then (laws_FnBodies.j0 k l1 t278 t279 t280 true) else (laws_FnBodies.j0 k l1 t278 t279 t280 (t279.toList != t281.toList))) = some r := H
    have A6 := Aside0.mk A60
    clear A60
    have HC7 := Aside0.mk H
    clear H
    go_enter Tryd.func6, Tryd.ntmps6
    go_upto_region 6 with (first | ((with_reducible refine gate_callee (f := 19) rfl ?_); refine goesL_ (some 45) rfl rfl Tryd.func19 (by kernel_rfl) rfl #[.slice A0 l0.length c0] rfl (by (try simp only [List.map_toArray, List.map_cons, List.map_nil]); first | done | rfl | (simp only [List.length_drop, List.length_take]; rfl)) ?_; (with_reducible refine (spec_DrawPadBody.calls _ _ l0 t278 _ ?side1 ?side2 A4.out).mono ?_); (case side1 => repeat (first | exact HR0.out | (with_reducible refine Kd.C_alloc ?_ _) | (with_reducible refine Kd.C_drewN ?_ _) | (with_reducible refine Kd.C_drew ?_))); (case side2 => exact HC0.out); rintro e w8 ⟨rfl, hb⟩; refine ⟨_, rfl, ?_⟩; have n0_ := Aside0.mk (below_step (by repeat (first | (with_reducible first | exact HB.out | apply below_alloc | apply pw_below_drewN | apply below_drew1) | exact HB.out)) hb); clear HB; have HB := n0_; clear n0_; (try clear hb); (try clear hb2); (try clear hk); (try clear hi)) | ((with_reducible refine gate_callee (f := 20) rfl ?_); refine goesL_ (some 48) rfl rfl Tryd.func20 (by kernel_rfl) rfl #[.string t278] rfl (by (try simp only [List.map_toArray, List.map_cons, List.map_nil]); first | done | rfl | (simp only [List.length_drop, List.length_take]; rfl)) ?_; (with_reducible refine (impl_PadBody.calls t278 t279 t280 _ A5.out).mono ?_); rintro e w9 ⟨rfl, hb⟩; refine ⟨_, rfl, ?_⟩; have n0_ := Aside0.mk (below_step (by repeat (first | (with_reducible first | exact HB.out | apply below_alloc | apply pw_below_drewN | apply below_drew1) | exact HB.out)) hb); clear HB; have HB := n0_; clear n0_; (try clear hb); (try clear hb2); (try clear hk); (try clear hi)) | ((with_reducible refine gate_callee (f := 21) rfl ?_); refine goesL_ (some 53) rfl rfl Tryd.func21 (by kernel_rfl) rfl #[.string t278] rfl (by (try simp only [List.map_toArray, List.map_cons, List.map_nil]); first | done | rfl | (simp only [List.length_drop, List.length_take]; rfl)) ?_; (with_reducible refine (spec_PadBody.calls t278 t281 t282 _ A6.out).mono ?_); rintro e w10 ⟨rfl, hb⟩; refine ⟨_, rfl, ?_⟩; have n0_ := Aside0.mk (below_step (by repeat (first | (with_reducible first | exact HB.out | apply below_alloc | apply pw_below_drewN | apply below_drew1) | exact HB.out)) hb); clear HB; have HB := n0_; clear n0_; (try clear hb); (try clear hb2); (try clear hk); (try clear hi)))
    (try simp only [Act.put, List.setIfInBounds_toArray, List.set_cons_zero, List.set_cons_succ])
    go_cut [63] (fun v63 wc => ∃ (kq : Nat) (x63_6 : Bool), v63 = .bool x63_6 ∧ Aside0 (laws_FnBodies.j0 kq l1 t278 t279 t280 x63_6 = some r) ∧ Aside0 (kq ≤ k) ∧ Aside0 (Below w.heap.size w wc))
    case first =>
      have H := HC7.out
      clear HC7
      by_cases c11 : (t280 != t282) = true
      · rw [if_pos c11] at H
        have c11b0 : (t280 != t282) = true := c11
        (try (have c11b1 : decide (t280 = t282) = false := by simpa using c11))
        (try (have c11b2 : (t280 == t282) = false := by simpa using c11))
        (try (have c11b3 : ¬ (t280 = t282) := by simpa using c11))
        clear c11
        (first | rw [c11b0] | (simp only [i64_w, i32_w]; rw [c11b0]) | skip)
        have H' := Aside0.mk H
        clear H
        go_wp2
        go_meet
        case rel => exact ⟨_, (true), (by first | rfl | (simp; done) | (simp [*]; done)), H', ⟨by first | omega | exact Nat.le_refl _⟩, ⟨by repeat (first | (with_reducible first | exact HB.out | apply below_alloc | apply pw_below_drewN | apply below_drew1) | exact HB.out)⟩⟩
      · rw [if_neg c11] at H
        have c11b0 : (t280 != t282) = false := by simpa using c11
        (try (have c11b1 : decide (t280 = t282) = true := by simpa using c11))
        (try (have c11b2 : (t280 == t282) = true := by simpa using c11))
        clear c11
        (first | rw [c11b0] | (simp only [i64_w, i32_w]; rw [c11b0]) | skip)
        have H' := Aside0.mk H
        clear H
        go_wp2
        go_meet
        case rel => exact ⟨_, ((t279.toList != t281.toList)), (by first | rfl | (simp; done) | (simp [*]; done)), H', ⟨by first | omega | exact Nat.le_refl _⟩, ⟨by repeat (first | (with_reducible first | exact HB.out | apply below_alloc | apply pw_below_drewN | apply below_drew1) | exact HB.out)⟩⟩
    case rest =>
      clear HC7
      try clear c1
      try clear c2
      try clear p2
      try clear c3
      try clear c3b0
      try clear c6
      try clear p6
      try clear c11
      try clear c11b0
      try clear c11b1
      try clear c11b2
      obtain ⟨kq, x63_6, rfl, HA, HJ6, HB⟩ := hcut
      cases kq with
      | zero => exact absurd HA.out (by simp [laws_FnBodies.j0])
      | succ kj6 =>
        have H := HA.out
        clear HA
        simp only [laws_FnBodies.j0] at H
        by_cases c12 : x63_6 = true
        · subst c12
          have H1 : (some false) = some r := by rw [if_pos rfl] at H; exact H
          clear H
          have H := H1
          clear H1
          obtain rfl := Option.some.inj H
          exact absurd hr_.out (by simp)
        · replace c12 := Bool.eq_false_iff.mpr c12
          subst c12
          have H1 : (if t280 = true then ((impl_UnpadBody.f t279).bind fun bt283 => (if (t279.size : Int) = 16 then (if bt283.2 = true then (if bt283.1.toList = t278.toList then (laws_FnBodies.j1 kj6 l1) else (some false)) else (some false)) else (some false))) else (laws_FnBodies.j1 kj6 l1)) = some r := by rw [if_neg (show ¬ (false = true) by decide)] at H; exact H
          clear H
          have H := H1
          clear H1
          have HC13 := Aside0.mk H
          clear H
          go_upto_if 64 with (fail)
          go_cut [] (fun wc => ∃ (kq : Nat), Aside0 (laws_FnBodies.j1 kq l1 = some r) ∧ Aside0 (kq ≤ kj6) ∧ Aside0 (Below w.heap.size w wc))
          case first =>
            have H := HC13.out
            clear HC13
            by_cases c14 : t280 = true
            · subst c14
              have H1 : ((impl_UnpadBody.f t279).bind fun bt283 => (if (t279.size : Int) = 16 then (if bt283.2 = true then (if bt283.1.toList = t278.toList then (laws_FnBodies.j1 kj6 l1) else (some false)) else (some false)) else (some false))) = some r := by rw [if_pos rfl] at H; exact H
              clear H
              have H := H1
              clear H1
              replace H := Option.bind_eq_some_iff.mp H
              obtain ⟨⟨t283, t284⟩, A150, H⟩ := H
              replace H : (if (t279.size : Int) = 16 then (if t284 = true then (if t283.toList = t278.toList then (laws_FnBodies.j1 kj6 l1) else (some false)) else (some false)) else (some false)) = some r := H
              have A15 := Aside0.mk A150
              clear A150
              by_cases c16 : (t279.size : Int) = 16
              · rw [if_pos c16] at H
                have c16b0 : ((t279.size : Int) == 16) = true := beq_iff_eq.mpr c16
                have c16b1 : ((t279.size : Int) != 16) = false := bne_eq_false_iff_eq.mpr c16
                clear c16
                (first | rw [c16b0] | (simp only [i64_w, i32_w]; rw [c16b0]) | skip)
                by_cases c17 : t284 = true
                · subst c17
                  have H1 : (if t283.toList = t278.toList then (laws_FnBodies.j1 kj6 l1) else (some false)) = some r := by rw [if_pos rfl] at H; exact H
                  clear H
                  have H := H1
                  clear H1
                  by_cases c18 : t283.toList = t278.toList
                  · rw [if_pos c18] at H
                    have c18b0 : (t283.toList == t278.toList) = true := beq_iff_eq.mpr c18
                    have c18b1 : (t283.toList != t278.toList) = false := bne_eq_false_iff_eq.mpr c18
                    clear c18
                    have H' := Aside0.mk H
                    clear H
                    go_wp2_with (first | ((with_reducible refine gate_callee (f := 9) rfl ?_); refine goesL_ (some 67) rfl rfl Tryd.func9 (by kernel_rfl) rfl #[.string t279] rfl (by (try simp only [List.map_toArray, List.map_cons, List.map_nil]); first | done | rfl | (simp only [List.length_drop, List.length_take]; rfl)) ?_; (with_reducible refine (impl_UnpadBody.calls t279 t283 true _ A15.out).mono ?_); rintro e w' ⟨rfl, ⟨nd, rfl⟩⟩; refine ⟨_, rfl, ?_⟩))
                    go_meet
                    case rel => exact ⟨_, H', ⟨by have := HJ6.out; first | omega | exact Nat.le_refl _⟩, ⟨by repeat (first | (with_reducible first | exact HB.out | apply below_alloc | apply pw_below_drewN | apply below_drew1) | exact HB.out)⟩⟩
                  · rw [if_neg c18] at H
                    have c18b0 : (t283.toList == t278.toList) = false := beq_eq_false_iff_ne.mpr c18
                    have c18b1 : (t283.toList != t278.toList) = true := bne_iff_ne.mpr c18
                    obtain rfl := Option.some.inj H
                    exact absurd hr_.out (by simp)
                · replace c17 := Bool.eq_false_iff.mpr c17
                  subst c17
                  have H1 : (some false) = some r := by rw [if_neg (show ¬ (false = true) by decide)] at H; exact H
                  clear H
                  have H := H1
                  clear H1
                  obtain rfl := Option.some.inj H
                  exact absurd hr_.out (by simp)
              · rw [if_neg c16] at H
                have c16b0 : ((t279.size : Int) == 16) = false := beq_eq_false_iff_ne.mpr c16
                have c16b1 : ((t279.size : Int) != 16) = true := bne_iff_ne.mpr c16
                (first | rw [c16b0] | (simp only [i64_w, i32_w]; rw [c16b0]) | skip)
                obtain rfl := Option.some.inj H
                exact absurd hr_.out (by simp)
            · replace c14 := Bool.eq_false_iff.mpr c14
              subst c14
              have H1 : (laws_FnBodies.j1 kj6 l1) = some r := by rw [if_neg (show ¬ (false = true) by decide)] at H; exact H
              clear H
              have H := H1
              clear H1
              have H' := Aside0.mk H
              clear H
              go_wp2
              go_meet
              case rel => exact ⟨_, H', ⟨by have := HJ6.out; first | omega | exact Nat.le_refl _⟩, ⟨by repeat (first | (with_reducible first | exact HB.out | apply below_alloc | apply pw_below_drewN | apply below_drew1) | exact HB.out)⟩⟩
          case rest =>
            clear HC13
            try clear c1
            try clear c2
            try clear p2
            try clear c3
            try clear c3b0
            try clear c6
            try clear p6
            try clear c9
            try clear c11
            try clear c11b0
            try clear c11b1
            try clear c11b2
            try clear c12
            try clear c14
            try clear c16
            try clear c16b0
            try clear c16b1
            try clear c17
            try clear c18
            try clear c18b0
            try clear c18b1
            try clear p2
            try clear p6
            obtain ⟨kq, HA, HJ12, HB⟩ := hcut
            cases kq with
            | zero => exact absurd HA.out (by simp [laws_FnBodies.j1])
            | succ kj12 =>
              have H := HA.out
              clear HA
              simp only [laws_FnBodies.j1] at H
              replace H := Option.bind_eq_some_iff.mp H
              obtain ⟨t285, A190, H⟩ := H
              replace H : ((impl_UnpadBody.f t285).bind fun bt286 => ((spec_UnpadBody.f kj12 t285).bind fun bt288 => (if (bt286.2 != bt288.2) = true then (laws_FnBodies.j2 kj12 l1 t285 bt286.1 bt286.2 true) else (laws_FnBodies.j2 kj12 l1 t285 bt286.1 bt286.2 (bt286.1.toList != bt288.1.toList))))) = some r := H
              have A19 := Aside0.mk A190
              clear A190
              replace H := Option.bind_eq_some_iff.mp H
              obtain ⟨⟨t286, t287⟩, A200, H⟩ := H
              replace H : ((spec_UnpadBody.f kj12 t285).bind fun bt288 => (if (t287 != bt288.2) = true then (laws_FnBodies.j2 kj12 l1 t285 t286 t287 true) else (laws_FnBodies.j2 kj12 l1 t285 t286 t287 (t286.toList != bt288.1.toList)))) = some r := H
              have A20 := Aside0.mk A200
              clear A200
              replace H := Option.bind_eq_some_iff.mp H
              obtain ⟨⟨t288, t289⟩, A210, H⟩ := H
              replace H : (if (t287 != t289) = true then (laws_FnBodies.j2 kj12 l1 t285 t286 t287 true) else (laws_FnBodies.j2 kj12 l1 t285 t286 t287 (t286.toList != t288.toList))) = some r := H
              have A21 := Aside0.mk A210
              clear A210
              have HC22 := Aside0.mk H
              clear H
              go_upto_region 15 with (first | ((with_reducible refine gate_callee (f := 22) rfl ?_); refine goesL_ (some 83) rfl rfl Tryd.func22 (by kernel_rfl) rfl #[.slice A1 l1.length c1] rfl (by (try simp only [List.map_toArray, List.map_cons, List.map_nil]); first | done | rfl | (simp only [List.length_drop, List.length_take]; rfl)) ?_; (with_reducible refine (spec_DrawUnpadBody.calls kj12 _ _ l1 t285 _ ?side1 ?side2 A19.out).mono ?_); (case side1 => repeat (first | exact (Kd.C_below HR1.out HB.out) | (with_reducible refine Kd.C_alloc ?_ _) | (with_reducible refine Kd.C_drewN ?_ _) | (with_reducible refine Kd.C_drew ?_))); (case side2 => exact HC1.out); rintro e w23 ⟨rfl, hb⟩; refine ⟨_, rfl, ?_⟩; have n0_ := Aside0.mk (below_step (by repeat (first | (with_reducible first | exact HB.out | apply below_alloc | apply pw_below_drewN | apply below_drew1) | exact HB.out)) hb); clear HB; have HB := n0_; clear n0_; (try clear hb); (try clear hb2); (try clear hk); (try clear hi)) | ((with_reducible refine gate_callee (f := 9) rfl ?_); refine goesL_ (some 86) rfl rfl Tryd.func9 (by kernel_rfl) rfl #[.string t285] rfl (by (try simp only [List.map_toArray, List.map_cons, List.map_nil]); first | done | rfl | (simp only [List.length_drop, List.length_take]; rfl)) ?_; (with_reducible refine (impl_UnpadBody.calls t285 t286 t287 _ A20.out).mono ?_); rintro e w' ⟨rfl, ⟨nd, rfl⟩⟩; refine ⟨_, rfl, ?_⟩) | ((with_reducible refine gate_callee (f := 8) rfl ?_); refine goesL_ (some 91) rfl rfl Tryd.func8 (by kernel_rfl) rfl #[.string t285] rfl (by (try simp only [List.map_toArray, List.map_cons, List.map_nil]); first | done | rfl | (simp only [List.length_drop, List.length_take]; rfl)) ?_; (with_reducible refine (spec_UnpadBody.calls kj12 t285 t288 t289 _ A21.out).mono ?_); rintro e w' ⟨rfl, ⟨nd, rfl⟩⟩; refine ⟨_, rfl, ?_⟩))
              (try simp only [Act.put, List.setIfInBounds_toArray, List.set_cons_zero, List.set_cons_succ])
              go_cut [101] (fun v101 wc => ∃ (kq : Nat) (x101_21 : Bool), v101 = .bool x101_21 ∧ Aside0 (laws_FnBodies.j2 kq l1 t285 t286 t287 x101_21 = some r) ∧ Aside0 (kq ≤ kj12) ∧ Aside0 (Below w.heap.size w wc))
              case first =>
                have H := HC22.out
                clear HC22
                by_cases c24 : (t287 != t289) = true
                · rw [if_pos c24] at H
                  have c24b0 : (t287 != t289) = true := c24
                  (try (have c24b1 : decide (t287 = t289) = false := by simpa using c24))
                  (try (have c24b2 : (t287 == t289) = false := by simpa using c24))
                  (try (have c24b3 : ¬ (t287 = t289) := by simpa using c24))
                  clear c24
                  (first | rw [c24b0] | (simp only [i64_w, i32_w]; rw [c24b0]) | skip)
                  have H' := Aside0.mk H
                  clear H
                  go_wp2
                  go_meet
                  case rel => exact ⟨_, (true), (by first | rfl | (simp; done) | (simp [*]; done)), H', ⟨by have := HJ6.out; have := HJ12.out; first | omega | exact Nat.le_refl _⟩, ⟨by repeat (first | (with_reducible first | exact HB.out | apply below_alloc | apply pw_below_drewN | apply below_drew1) | exact HB.out)⟩⟩
                · rw [if_neg c24] at H
                  have c24b0 : (t287 != t289) = false := by simpa using c24
                  (try (have c24b1 : decide (t287 = t289) = true := by simpa using c24))
                  (try (have c24b2 : (t287 == t289) = true := by simpa using c24))
                  clear c24
                  (first | rw [c24b0] | (simp only [i64_w, i32_w]; rw [c24b0]) | skip)
                  have H' := Aside0.mk H
                  clear H
                  go_wp2
                  go_meet
                  case rel => exact ⟨_, ((t286.toList != t288.toList)), (by first | rfl | (simp; done) | (simp [*]; done)), H', ⟨by have := HJ6.out; have := HJ12.out; first | omega | exact Nat.le_refl _⟩, ⟨by repeat (first | (with_reducible first | exact HB.out | apply below_alloc | apply pw_below_drewN | apply below_drew1) | exact HB.out)⟩⟩
              case rest =>
                clear HC22
                try clear c1
                try clear c2
                try clear p2
                try clear c3
                try clear c3b0
                try clear c6
                try clear p6
                try clear c8
                try clear c9
                try clear c11
                try clear c11b0
                try clear c11b1
                try clear c11b2
                try clear c12
                try clear c14
                try clear c16
                try clear c16b0
                try clear c16b1
                try clear c17
                try clear c18
                try clear c18b0
                try clear c18b1
                try clear c19
                try clear c20
                try clear c21
                try clear c22
                try clear c24
                try clear c24b0
                try clear c24b1
                try clear c24b2
                try clear p2
                try clear p6
                obtain ⟨kq, x101_21, rfl, HA, HJ21, HB⟩ := hcut
                cases kq with
                | zero => exact absurd HA.out (by simp [laws_FnBodies.j2])
                | succ kj21 =>
                  have H := HA.out
                  clear HA
                  simp only [laws_FnBodies.j2] at H
                  by_cases c25 : x101_21 = true
                  · subst c25
                    have H1 : (some false) = some r := by rw [if_pos rfl] at H; exact H
                    clear H
                    have H := H1
                    clear H1
                    obtain rfl := Option.some.inj H
                    exact absurd hr_.out (by simp)
                  · replace c25 := Bool.eq_false_iff.mpr c25
                    subst c25
                    have H1 : (if t287 = true then ((impl_PadBody.f t286).bind fun bt290 => (if bt290.2 = true then (if bt290.1.toList = t285.toList then (laws_FnBodies.j3 kj21 l1) else (some false)) else (some false))) else (laws_FnBodies.j3 kj21 l1)) = some r := by rw [if_neg (show ¬ (false = true) by decide)] at H; exact H
                    clear H
                    have H := H1
                    clear H1
                    have HC26 := Aside0.mk H
                    clear H
                    go_upto_if 102 with (fail)
                    go_cut [] (fun wc => ∃ (kq : Nat), Aside0 (laws_FnBodies.j3 kq l1 = some r) ∧ Aside0 (kq ≤ kj21) ∧ Aside0 (Below w.heap.size w wc))
                    case first =>
                      have H := HC26.out
                      clear HC26
                      by_cases c27 : t287 = true
                      · subst c27
                        have H1 : ((impl_PadBody.f t286).bind fun bt290 => (if bt290.2 = true then (if bt290.1.toList = t285.toList then (laws_FnBodies.j3 kj21 l1) else (some false)) else (some false))) = some r := by rw [if_pos rfl] at H; exact H
                        clear H
                        have H := H1
                        clear H1
                        replace H := Option.bind_eq_some_iff.mp H
                        obtain ⟨⟨t290, t291⟩, A280, H⟩ := H
                        replace H : (if t291 = true then (if t290.toList = t285.toList then (laws_FnBodies.j3 kj21 l1) else (some false)) else (some false)) = some r := H
                        have A28 := Aside0.mk A280
                        clear A280
                        by_cases c29 : t291 = true
                        · subst c29
                          have H1 : (if t290.toList = t285.toList then (laws_FnBodies.j3 kj21 l1) else (some false)) = some r := by rw [if_pos rfl] at H; exact H
                          clear H
                          have H := H1
                          clear H1
                          by_cases c30 : t290.toList = t285.toList
                          · rw [if_pos c30] at H
                            have c30b0 : (t290.toList == t285.toList) = true := beq_iff_eq.mpr c30
                            have c30b1 : (t290.toList != t285.toList) = false := bne_eq_false_iff_eq.mpr c30
                            clear c30
                            (first | rw [c30b0] | (simp only [i64_w, i32_w]; rw [c30b0]) | skip)
                            have H' := Aside0.mk H
                            clear H
                            go_wp2_with (first | ((with_reducible refine gate_callee (f := 20) rfl ?_); refine goesL_ (some 105) rfl rfl Tryd.func20 (by kernel_rfl) rfl #[.string t286] rfl (by (try simp only [List.map_toArray, List.map_cons, List.map_nil]); first | done | rfl | (simp only [List.length_drop, List.length_take]; rfl)) ?_; (with_reducible refine (impl_PadBody.calls t286 t290 true _ A28.out).mono ?_); rintro e w31 ⟨rfl, hb⟩; refine ⟨_, rfl, ?_⟩; have n0_ := Aside0.mk (below_step (by repeat (first | (with_reducible first | exact HB.out | apply below_alloc | apply pw_below_drewN | apply below_drew1) | exact HB.out)) hb); clear HB; have HB := n0_; clear n0_; (try clear hb); (try clear hb2); (try clear hk); (try clear hi)))
                            go_meet
                            case rel => exact ⟨_, H', ⟨by have := HJ6.out; have := HJ12.out; have := HJ21.out; first | omega | exact Nat.le_refl _⟩, ⟨by repeat (first | (with_reducible first | exact HB.out | apply below_alloc | apply pw_below_drewN | apply below_drew1) | exact HB.out)⟩⟩
                          · rw [if_neg c30] at H
                            have c30b0 : (t290.toList == t285.toList) = false := beq_eq_false_iff_ne.mpr c30
                            have c30b1 : (t290.toList != t285.toList) = true := bne_iff_ne.mpr c30
                            (first | rw [c30b0] | (simp only [i64_w, i32_w]; rw [c30b0]) | skip)
                            obtain rfl := Option.some.inj H
                            exact absurd hr_.out (by simp)
                        · replace c29 := Bool.eq_false_iff.mpr c29
                          subst c29
                          have H1 : (some false) = some r := by rw [if_neg (show ¬ (false = true) by decide)] at H; exact H
                          clear H
                          have H := H1
                          clear H1
                          obtain rfl := Option.some.inj H
                          exact absurd hr_.out (by simp)
                      · replace c27 := Bool.eq_false_iff.mpr c27
                        subst c27
                        have H1 : (laws_FnBodies.j3 kj21 l1) = some r := by rw [if_neg (show ¬ (false = true) by decide)] at H; exact H
                        clear H
                        have H := H1
                        clear H1
                        have H' := Aside0.mk H
                        clear H
                        go_wp2
                        go_meet
                        case rel => exact ⟨_, H', ⟨by have := HJ6.out; have := HJ12.out; have := HJ21.out; first | omega | exact Nat.le_refl _⟩, ⟨by repeat (first | (with_reducible first | exact HB.out | apply below_alloc | apply pw_below_drewN | apply below_drew1) | exact HB.out)⟩⟩
                    case rest =>
                      clear HC26
                      try clear c1
                      try clear c2
                      try clear p2
                      try clear c3
                      try clear c3b0
                      try clear c6
                      try clear p6
                      try clear c8
                      try clear c9
                      try clear c11
                      try clear c11b0
                      try clear c11b1
                      try clear c11b2
                      try clear c12
                      try clear c14
                      try clear c16
                      try clear c16b0
                      try clear c16b1
                      try clear c17
                      try clear c18
                      try clear c18b0
                      try clear c18b1
                      try clear c19
                      try clear c20
                      try clear c21
                      try clear c22
                      try clear c24
                      try clear c24b0
                      try clear c24b1
                      try clear c24b2
                      try clear c25
                      try clear c27
                      try clear c29
                      try clear c30
                      try clear c30b0
                      try clear c30b1
                      try clear p2
                      try clear p6
                      obtain ⟨kq, HA, HJ25, HB⟩ := hcut
                      cases kq with
                      | zero => exact absurd HA.out (by simp [laws_FnBodies.j3])
                      | succ kj25 =>
                        have H := HA.out
                        clear HA
                        simp only [laws_FnBodies.j3] at H
                        replace H := Option.bind_eq_some_iff.mp H
                        obtain ⟨⟨t292, t293⟩, A320, H⟩ := H
                        replace H : ((impl_XorTexts.f t292 t293).bind fun bt294 => ((spec_XorTexts.f t292 t293).bind fun bt296 => ((spec_DrawPadFor.f l1).bind fun bt298 => ((impl_PadFor.f kj25 bt298.1 bt298.2).bind fun bt300 => ((spec_PadFor.f kj25 bt298.1 bt298.2).bind fun bt302 => ((spec_DrawCheckOf.f l1).bind fun t304 => ((impl_CheckOf.f kj25 t304).bind fun bt305 => ((spec_CheckOf.f kj25 t304).bind fun bt307 => (if (bt294.2 != bt296.2) = true then (laws_FnBodies.j4 kj25 t292 t293 bt294.1 bt294.2 true) else (if bt294.1.toList = bt296.1.toList then (if (bt300.2 != bt302.2) = true then (laws_FnBodies.j4 kj25 t292 t293 bt294.1 bt294.2 true) else (if bt300.1.toList = bt302.1.toList then (if (bt305.2 != bt307.2) = true then (laws_FnBodies.j4 kj25 t292 t293 bt294.1 bt294.2 true) else (laws_FnBodies.j4 kj25 t292 t293 bt294.1 bt294.2 (bt305.1 != bt307.1))) else (laws_FnBodies.j4 kj25 t292 t293 bt294.1 bt294.2 true))) else (laws_FnBodies.j4 kj25 t292 t293 bt294.1 bt294.2 true))))))))))) = some r := H
                        have A32 := Aside0.mk A320
                        clear A320
                        replace H := Option.bind_eq_some_iff.mp H
                        obtain ⟨⟨t294, t295⟩, A330, H⟩ := H
                        replace H : ((spec_XorTexts.f t292 t293).bind fun bt296 => ((spec_DrawPadFor.f l1).bind fun bt298 => ((impl_PadFor.f kj25 bt298.1 bt298.2).bind fun bt300 => ((spec_PadFor.f kj25 bt298.1 bt298.2).bind fun bt302 => ((spec_DrawCheckOf.f l1).bind fun t304 => ((impl_CheckOf.f kj25 t304).bind fun bt305 => ((spec_CheckOf.f kj25 t304).bind fun bt307 => (if (t295 != bt296.2) = true then (laws_FnBodies.j4 kj25 t292 t293 t294 t295 true) else (if t294.toList = bt296.1.toList then (if (bt300.2 != bt302.2) = true then (laws_FnBodies.j4 kj25 t292 t293 t294 t295 true) else (if bt300.1.toList = bt302.1.toList then (if (bt305.2 != bt307.2) = true then (laws_FnBodies.j4 kj25 t292 t293 t294 t295 true) else (laws_FnBodies.j4 kj25 t292 t293 t294 t295 (bt305.1 != bt307.1))) else (laws_FnBodies.j4 kj25 t292 t293 t294 t295 true))) else (laws_FnBodies.j4 kj25 t292 t293 t294 t295 true)))))))))) = some r := H
                        have A33 := Aside0.mk A330
                        clear A330
                        replace H := Option.bind_eq_some_iff.mp H
                        obtain ⟨⟨t296, t297⟩, A340, H⟩ := H
                        replace H : ((spec_DrawPadFor.f l1).bind fun bt298 => ((impl_PadFor.f kj25 bt298.1 bt298.2).bind fun bt300 => ((spec_PadFor.f kj25 bt298.1 bt298.2).bind fun bt302 => ((spec_DrawCheckOf.f l1).bind fun t304 => ((impl_CheckOf.f kj25 t304).bind fun bt305 => ((spec_CheckOf.f kj25 t304).bind fun bt307 => (if (t295 != t297) = true then (laws_FnBodies.j4 kj25 t292 t293 t294 t295 true) else (if t294.toList = t296.toList then (if (bt300.2 != bt302.2) = true then (laws_FnBodies.j4 kj25 t292 t293 t294 t295 true) else (if bt300.1.toList = bt302.1.toList then (if (bt305.2 != bt307.2) = true then (laws_FnBodies.j4 kj25 t292 t293 t294 t295 true) else (laws_FnBodies.j4 kj25 t292 t293 t294 t295 (bt305.1 != bt307.1))) else (laws_FnBodies.j4 kj25 t292 t293 t294 t295 true))) else (laws_FnBodies.j4 kj25 t292 t293 t294 t295 true))))))))) = some r := H
                        have A34 := Aside0.mk A340
                        clear A340
                        replace H := Option.bind_eq_some_iff.mp H
                        obtain ⟨⟨t298, t299⟩, A350, H⟩ := H
                        replace H : ((impl_PadFor.f kj25 t298 t299).bind fun bt300 => ((spec_PadFor.f kj25 t298 t299).bind fun bt302 => ((spec_DrawCheckOf.f l1).bind fun t304 => ((impl_CheckOf.f kj25 t304).bind fun bt305 => ((spec_CheckOf.f kj25 t304).bind fun bt307 => (if (t295 != t297) = true then (laws_FnBodies.j4 kj25 t292 t293 t294 t295 true) else (if t294.toList = t296.toList then (if (bt300.2 != bt302.2) = true then (laws_FnBodies.j4 kj25 t292 t293 t294 t295 true) else (if bt300.1.toList = bt302.1.toList then (if (bt305.2 != bt307.2) = true then (laws_FnBodies.j4 kj25 t292 t293 t294 t295 true) else (laws_FnBodies.j4 kj25 t292 t293 t294 t295 (bt305.1 != bt307.1))) else (laws_FnBodies.j4 kj25 t292 t293 t294 t295 true))) else (laws_FnBodies.j4 kj25 t292 t293 t294 t295 true)))))))) = some r := H
                        have A35 := Aside0.mk A350
                        clear A350
                        replace H := Option.bind_eq_some_iff.mp H
                        obtain ⟨⟨t300, t301⟩, A360, H⟩ := H
                        replace H : ((spec_PadFor.f kj25 t298 t299).bind fun bt302 => ((spec_DrawCheckOf.f l1).bind fun t304 => ((impl_CheckOf.f kj25 t304).bind fun bt305 => ((spec_CheckOf.f kj25 t304).bind fun bt307 => (if (t295 != t297) = true then (laws_FnBodies.j4 kj25 t292 t293 t294 t295 true) else (if t294.toList = t296.toList then (if (t301 != bt302.2) = true then (laws_FnBodies.j4 kj25 t292 t293 t294 t295 true) else (if t300.toList = bt302.1.toList then (if (bt305.2 != bt307.2) = true then (laws_FnBodies.j4 kj25 t292 t293 t294 t295 true) else (laws_FnBodies.j4 kj25 t292 t293 t294 t295 (bt305.1 != bt307.1))) else (laws_FnBodies.j4 kj25 t292 t293 t294 t295 true))) else (laws_FnBodies.j4 kj25 t292 t293 t294 t295 true))))))) = some r := H
                        have A36 := Aside0.mk A360
                        clear A360
                        replace H := Option.bind_eq_some_iff.mp H
                        obtain ⟨⟨t302, t303⟩, A370, H⟩ := H
                        replace H : ((spec_DrawCheckOf.f l1).bind fun t304 => ((impl_CheckOf.f kj25 t304).bind fun bt305 => ((spec_CheckOf.f kj25 t304).bind fun bt307 => (if (t295 != t297) = true then (laws_FnBodies.j4 kj25 t292 t293 t294 t295 true) else (if t294.toList = t296.toList then (if (t301 != t303) = true then (laws_FnBodies.j4 kj25 t292 t293 t294 t295 true) else (if t300.toList = t302.toList then (if (bt305.2 != bt307.2) = true then (laws_FnBodies.j4 kj25 t292 t293 t294 t295 true) else (laws_FnBodies.j4 kj25 t292 t293 t294 t295 (bt305.1 != bt307.1))) else (laws_FnBodies.j4 kj25 t292 t293 t294 t295 true))) else (laws_FnBodies.j4 kj25 t292 t293 t294 t295 true)))))) = some r := H
                        have A37 := Aside0.mk A370
                        clear A370
                        replace H := Option.bind_eq_some_iff.mp H
                        obtain ⟨t304, A380, H⟩ := H
                        replace H : ((impl_CheckOf.f kj25 t304).bind fun bt305 => ((spec_CheckOf.f kj25 t304).bind fun bt307 => (if (t295 != t297) = true then (laws_FnBodies.j4 kj25 t292 t293 t294 t295 true) else (if t294.toList = t296.toList then (if (t301 != t303) = true then (laws_FnBodies.j4 kj25 t292 t293 t294 t295 true) else (if t300.toList = t302.toList then (if (bt305.2 != bt307.2) = true then (laws_FnBodies.j4 kj25 t292 t293 t294 t295 true) else (laws_FnBodies.j4 kj25 t292 t293 t294 t295 (bt305.1 != bt307.1))) else (laws_FnBodies.j4 kj25 t292 t293 t294 t295 true))) else (laws_FnBodies.j4 kj25 t292 t293 t294 t295 true))))) = some r := H
                        have A38 := Aside0.mk A380
                        clear A380
                        replace H := Option.bind_eq_some_iff.mp H
                        obtain ⟨⟨t305, t306⟩, A390, H⟩ := H
                        replace H : ((spec_CheckOf.f kj25 t304).bind fun bt307 => (if (t295 != t297) = true then (laws_FnBodies.j4 kj25 t292 t293 t294 t295 true) else (if t294.toList = t296.toList then (if (t301 != t303) = true then (laws_FnBodies.j4 kj25 t292 t293 t294 t295 true) else (if t300.toList = t302.toList then (if (t306 != bt307.2) = true then (laws_FnBodies.j4 kj25 t292 t293 t294 t295 true) else (laws_FnBodies.j4 kj25 t292 t293 t294 t295 (t305 != bt307.1))) else (laws_FnBodies.j4 kj25 t292 t293 t294 t295 true))) else (laws_FnBodies.j4 kj25 t292 t293 t294 t295 true)))) = some r := H
                        have A39 := Aside0.mk A390
                        clear A390
                        replace H := Option.bind_eq_some_iff.mp H
                        obtain ⟨⟨t307, t308⟩, A400, H⟩ := H
                        replace H : (if (t295 != t297) = true then (laws_FnBodies.j4 kj25 t292 t293 t294 t295 true) else (if t294.toList = t296.toList then (if (t301 != t303) = true then (laws_FnBodies.j4 kj25 t292 t293 t294 t295 true) else (if t300.toList = t302.toList then (if (t306 != t308) = true then (laws_FnBodies.j4 kj25 t292 t293 t294 t295 true) else (laws_FnBodies.j4 kj25 t292 t293 t294 t295 (t305 != t307))) else (laws_FnBodies.j4 kj25 t292 t293 t294 t295 true))) else (laws_FnBodies.j4 kj25 t292 t293 t294 t295 true))) = some r := H
                        have A40 := Aside0.mk A400
                        clear A400
                        have HC41 := Aside0.mk H
                        clear H
                        go_upto_region 30 with (first | ((with_reducible refine gate_callee (f := 23) rfl ?_); refine goesL_ (some 117) rfl rfl Tryd.func23 (by kernel_rfl) rfl #[.slice A1 l1.length c1] rfl (by (try simp only [List.map_toArray, List.map_cons, List.map_nil]); first | done | rfl | (simp only [List.length_drop, List.length_take]; rfl)) ?_; (with_reducible refine (spec_DrawXorTexts.calls kj25 _ _ l1 t292 t293 _ ?side1 ?side2 A32.out).mono ?_); (case side1 => repeat (first | exact (Kd.C_below HR1.out HB.out) | (with_reducible refine Kd.C_alloc ?_ _) | (with_reducible refine Kd.C_drewN ?_ _) | (with_reducible refine Kd.C_drew ?_))); (case side2 => exact HC1.out); rintro e w42 ⟨rfl, hb⟩; refine ⟨_, rfl, ?_⟩; have n0_ := Aside0.mk (below_step (by repeat (first | (with_reducible first | exact HB.out | apply below_alloc | apply pw_below_drewN | apply below_drew1) | exact HB.out)) hb); clear HB; have HB := n0_; clear n0_; (try clear hb); (try clear hb2); (try clear hk); (try clear hi)) | ((with_reducible refine gate_callee (f := 24) rfl ?_); refine goesL_ (some 123) rfl rfl Tryd.func24 (by kernel_rfl) rfl #[.string t292, .string t293] rfl (by (try simp only [List.map_toArray, List.map_cons, List.map_nil]); first | done | rfl | (simp only [List.length_drop, List.length_take]; rfl)) ?_; (with_reducible refine (impl_XorTexts.calls t292 t293 t294 t295 _ A33.out).mono ?_); rintro e w43 ⟨rfl, hb⟩; refine ⟨_, rfl, ?_⟩; have n0_ := Aside0.mk (below_step (by repeat (first | (with_reducible first | exact HB.out | apply below_alloc | apply pw_below_drewN | apply below_drew1) | exact HB.out)) hb); clear HB; have HB := n0_; clear n0_; (try clear hb); (try clear hb2); (try clear hk); (try clear hi)) | ((with_reducible refine gate_callee (f := 25) rfl ?_); refine goesL_ (some 129) rfl rfl Tryd.func25 (by kernel_rfl) rfl #[.string t292, .string t293] rfl (by (try simp only [List.map_toArray, List.map_cons, List.map_nil]); first | done | rfl | (simp only [List.length_drop, List.length_take]; rfl)) ?_; (with_reducible refine (spec_XorTexts.calls t292 t293 t296 t297 _ A34.out).mono ?_); rintro e w44 ⟨rfl, hb⟩; refine ⟨_, rfl, ?_⟩; have n0_ := Aside0.mk (below_step (by repeat (first | (with_reducible first | exact HB.out | apply below_alloc | apply pw_below_drewN | apply below_drew1) | exact HB.out)) hb); clear HB; have HB := n0_; clear n0_; (try clear hb); (try clear hb2); (try clear hk); (try clear hi)) | ((with_reducible refine gate_callee (f := 26) rfl ?_); refine goesL_ (some 134) rfl rfl Tryd.func26 (by kernel_rfl) rfl #[.slice A1 l1.length c1] rfl (by (try simp only [List.map_toArray, List.map_cons, List.map_nil]); first | done | rfl | (simp only [List.length_drop, List.length_take]; rfl)) ?_; (with_reducible refine (spec_DrawPadFor.calls _ _ l1 t298 t299 _ ?side1 ?side2 A35.out).mono ?_); (case side1 => repeat (first | exact (Kd.C_below HR1.out HB.out) | (with_reducible refine Kd.C_alloc ?_ _) | (with_reducible refine Kd.C_drewN ?_ _) | (with_reducible refine Kd.C_drew ?_))); (case side2 => exact HC1.out); rintro e w45 ⟨rfl, hb⟩; refine ⟨_, rfl, ?_⟩; have n0_ := Aside0.mk (below_step (by repeat (first | (with_reducible first | exact HB.out | apply below_alloc | apply pw_below_drewN | apply below_drew1) | exact HB.out)) hb); clear HB; have HB := n0_; clear n0_; (try clear hb); (try clear hb2); (try clear hk); (try clear hi)) | ((with_reducible refine gate_callee (f := 27) rfl ?_); refine goesL_ (some 140) rfl rfl Tryd.func27 (by kernel_rfl) rfl #[.int .i64 t298, .int .i64 t299] rfl (by (try simp only [List.map_toArray, List.map_cons, List.map_nil]); first | done | rfl | (simp only [List.length_drop, List.length_take]; rfl)) ?_; (with_reducible refine (impl_PadFor.calls kj25 t298 t299 t300 t301 _ A36.out).mono ?_); rintro e w46 ⟨rfl, hb⟩; refine ⟨_, rfl, ?_⟩; have n0_ := Aside0.mk (below_step (by repeat (first | (with_reducible first | exact HB.out | apply below_alloc | apply pw_below_drewN | apply below_drew1) | exact HB.out)) hb); clear HB; have HB := n0_; clear n0_; (try clear hb); (try clear hb2); (try clear hk); (try clear hi)) | ((with_reducible refine gate_callee (f := 28) rfl ?_); refine goesL_ (some 146) rfl rfl Tryd.func28 (by kernel_rfl) rfl #[.int .i64 t298, .int .i64 t299] rfl (by (try simp only [List.map_toArray, List.map_cons, List.map_nil]); first | done | rfl | (simp only [List.length_drop, List.length_take]; rfl)) ?_; (with_reducible refine (spec_PadFor.calls kj25 t298 t299 t302 t303 _ A37.out).mono ?_); rintro e w47 ⟨rfl, hb⟩; refine ⟨_, rfl, ?_⟩; have n0_ := Aside0.mk (below_step (by repeat (first | (with_reducible first | exact HB.out | apply below_alloc | apply pw_below_drewN | apply below_drew1) | exact HB.out)) hb); clear HB; have HB := n0_; clear n0_; (try clear hb); (try clear hb2); (try clear hk); (try clear hi)) | ((with_reducible refine gate_callee (f := 29) rfl ?_); refine goesL_ (some 150) rfl rfl Tryd.func29 (by kernel_rfl) rfl #[.slice A1 l1.length c1] rfl (by (try simp only [List.map_toArray, List.map_cons, List.map_nil]); first | done | rfl | (simp only [List.length_drop, List.length_take]; rfl)) ?_; (with_reducible refine (spec_DrawCheckOf.calls _ _ l1 t304 _ ?side1 ?side2 A38.out).mono ?_); (case side1 => repeat (first | exact (Kd.C_below HR1.out HB.out) | (with_reducible refine Kd.C_alloc ?_ _) | (with_reducible refine Kd.C_drewN ?_ _) | (with_reducible refine Kd.C_drew ?_))); (case side2 => exact HC1.out); rintro e w48 ⟨rfl, hb⟩; refine ⟨_, rfl, ?_⟩; have n0_ := Aside0.mk (below_step (by repeat (first | (with_reducible first | exact HB.out | apply below_alloc | apply pw_below_drewN | apply below_drew1) | exact HB.out)) hb); clear HB; have HB := n0_; clear n0_; (try clear hb); (try clear hb2); (try clear hk); (try clear hi)) | ((with_reducible refine gate_callee (f := 30) rfl ?_); refine goesL_ (some 153) rfl rfl Tryd.func30 (by kernel_rfl) rfl #[.string t304] rfl (by (try simp only [List.map_toArray, List.map_cons, List.map_nil]); first | done | rfl | (simp only [List.length_drop, List.length_take]; rfl)) ?_; (with_reducible refine (impl_CheckOf.calls kj25 t304 t305 t306 _ A39.out).mono ?_); rintro e w' ⟨rfl, ⟨nd, rfl⟩⟩; refine ⟨_, rfl, ?_⟩) | ((with_reducible refine gate_callee (f := 31) rfl ?_); refine goesL_ (some 158) rfl rfl Tryd.func31 (by kernel_rfl) rfl #[.string t304] rfl (by (try simp only [List.map_toArray, List.map_cons, List.map_nil]); first | done | rfl | (simp only [List.length_drop, List.length_take]; rfl)) ?_; (with_reducible refine (spec_CheckOf.calls kj25 t304 t307 t308 _ A40.out).mono ?_); rintro e w' ⟨rfl, ⟨nd, rfl⟩⟩; refine ⟨_, rfl, ?_⟩))
                        (try simp only [Act.put, List.setIfInBounds_toArray, List.set_cons_zero, List.set_cons_succ])
                        go_cut [188] (fun v188 wc => ∃ (kq : Nat) (x188_40 : Bool), v188 = .bool x188_40 ∧ Aside0 (laws_FnBodies.j4 kq t292 t293 t294 t295 x188_40 = some r) ∧ Aside0 (kq ≤ kj25) ∧ Aside0 (Below w.heap.size w wc))
                        case first =>
                          have H := HC41.out
                          clear HC41
                          by_cases c49 : (t295 != t297) = true
                          · rw [if_pos c49] at H
                            have c49b0 : (t295 != t297) = true := c49
                            (try (have c49b1 : decide (t295 = t297) = false := by simpa using c49))
                            (try (have c49b2 : (t295 == t297) = false := by simpa using c49))
                            (try (have c49b3 : ¬ (t295 = t297) := by simpa using c49))
                            clear c49
                            (first | rw [c49b0] | (simp only [i64_w, i32_w]; rw [c49b0]) | skip)
                            have H' := Aside0.mk H
                            clear H
                            go_wp2
                            go_meet
                            case rel => exact ⟨_, (true), (by first | rfl | (simp; done) | (simp [*]; done)), H', ⟨by have := HJ6.out; have := HJ12.out; have := HJ21.out; have := HJ25.out; first | omega | exact Nat.le_refl _⟩, ⟨by repeat (first | (with_reducible first | exact HB.out | apply below_alloc | apply pw_below_drewN | apply below_drew1) | exact HB.out)⟩⟩
                          · rw [if_neg c49] at H
                            have c49b0 : (t295 != t297) = false := by simpa using c49
                            (try (have c49b1 : decide (t295 = t297) = true := by simpa using c49))
                            (try (have c49b2 : (t295 == t297) = true := by simpa using c49))
                            clear c49
                            (first | rw [c49b0] | (simp only [i64_w, i32_w]; rw [c49b0]) | skip)
                            by_cases c50 : t294.toList = t296.toList
                            · rw [if_pos c50] at H
                              have c50b0 : (t294.toList == t296.toList) = true := beq_iff_eq.mpr c50
                              have c50b1 : (t294.toList != t296.toList) = false := bne_eq_false_iff_eq.mpr c50
                              clear c50
                              by_cases c51 : (t301 != t303) = true
                              · rw [if_pos c51] at H
                                have c51b0 : (t301 != t303) = true := c51
                                (try (have c51b1 : decide (t301 = t303) = false := by simpa using c51))
                                (try (have c51b2 : (t301 == t303) = false := by simpa using c51))
                                (try (have c51b3 : ¬ (t301 = t303) := by simpa using c51))
                                clear c51
                                have H' := Aside0.mk H
                                clear H
                                go_wp2
                                go_meet
                                case rel => exact ⟨_, (true), (by first | rfl | (simp; done) | (simp [*]; done)), H', ⟨by have := HJ6.out; have := HJ12.out; have := HJ21.out; have := HJ25.out; first | omega | exact Nat.le_refl _⟩, ⟨by repeat (first | (with_reducible first | exact HB.out | apply below_alloc | apply pw_below_drewN | apply below_drew1) | exact HB.out)⟩⟩
                              · rw [if_neg c51] at H
                                have c51b0 : (t301 != t303) = false := by simpa using c51
                                (try (have c51b1 : decide (t301 = t303) = true := by simpa using c51))
                                (try (have c51b2 : (t301 == t303) = true := by simpa using c51))
                                clear c51
                                by_cases c52 : t300.toList = t302.toList
                                · rw [if_pos c52] at H
                                  have c52b0 : (t300.toList == t302.toList) = true := beq_iff_eq.mpr c52
                                  have c52b1 : (t300.toList != t302.toList) = false := bne_eq_false_iff_eq.mpr c52
                                  clear c52
                                  by_cases c53 : (t306 != t308) = true
                                  · rw [if_pos c53] at H
                                    have c53b0 : (t306 != t308) = true := c53
                                    (try (have c53b1 : decide (t306 = t308) = false := by simpa using c53))
                                    (try (have c53b2 : (t306 == t308) = false := by simpa using c53))
                                    (try (have c53b3 : ¬ (t306 = t308) := by simpa using c53))
                                    clear c53
                                    have H' := Aside0.mk H
                                    clear H
                                    go_wp2
                                    go_meet
                                    case rel => exact ⟨_, (true), (by first | rfl | (simp; done) | (simp [*]; done)), H', ⟨by have := HJ6.out; have := HJ12.out; have := HJ21.out; have := HJ25.out; first | omega | exact Nat.le_refl _⟩, ⟨by repeat (first | (with_reducible first | exact HB.out | apply below_alloc | apply pw_below_drewN | apply below_drew1) | exact HB.out)⟩⟩
                                  · rw [if_neg c53] at H
                                    have c53b0 : (t306 != t308) = false := by simpa using c53
                                    (try (have c53b1 : decide (t306 = t308) = true := by simpa using c53))
                                    (try (have c53b2 : (t306 == t308) = true := by simpa using c53))
                                    clear c53
                                    have H' := Aside0.mk H
                                    clear H
                                    go_wp2
                                    go_meet
                                    case rel => exact ⟨_, ((t305 != t307)), (by first | rfl | (simp; done) | (simp [*]; done)), H', ⟨by have := HJ6.out; have := HJ12.out; have := HJ21.out; have := HJ25.out; first | omega | exact Nat.le_refl _⟩, ⟨by repeat (first | (with_reducible first | exact HB.out | apply below_alloc | apply pw_below_drewN | apply below_drew1) | exact HB.out)⟩⟩
                                · rw [if_neg c52] at H
                                  have c52b0 : (t300.toList == t302.toList) = false := beq_eq_false_iff_ne.mpr c52
                                  have c52b1 : (t300.toList != t302.toList) = true := bne_iff_ne.mpr c52
                                  have H' := Aside0.mk H
                                  clear H
                                  go_wp2
                                  go_meet
                                  case rel => exact ⟨_, (true), (by first | rfl | (simp; done) | (simp [*]; done)), H', ⟨by have := HJ6.out; have := HJ12.out; have := HJ21.out; have := HJ25.out; first | omega | exact Nat.le_refl _⟩, ⟨by repeat (first | (with_reducible first | exact HB.out | apply below_alloc | apply pw_below_drewN | apply below_drew1) | exact HB.out)⟩⟩
                            · rw [if_neg c50] at H
                              have c50b0 : (t294.toList == t296.toList) = false := beq_eq_false_iff_ne.mpr c50
                              have c50b1 : (t294.toList != t296.toList) = true := bne_iff_ne.mpr c50
                              have H' := Aside0.mk H
                              clear H
                              go_wp2
                              go_meet
                              case rel => exact ⟨_, (true), (by first | rfl | (simp; done) | (simp [*]; done)), H', ⟨by have := HJ6.out; have := HJ12.out; have := HJ21.out; have := HJ25.out; first | omega | exact Nat.le_refl _⟩, ⟨by repeat (first | (with_reducible first | exact HB.out | apply below_alloc | apply pw_below_drewN | apply below_drew1) | exact HB.out)⟩⟩
                        case rest =>
                          clear HC41
                          try clear c1
                          try clear c2
                          try clear p2
                          try clear c3
                          try clear c3b0
                          try clear c4
                          try clear c5
                          try clear c6
                          try clear p6
                          try clear c8
                          try clear c9
                          try clear c11
                          try clear c11b0
                          try clear c11b1
                          try clear c11b2
                          try clear c12
                          try clear c14
                          try clear c16
                          try clear c16b0
                          try clear c16b1
                          try clear c17
                          try clear c18
                          try clear c18b0
                          try clear c18b1
                          try clear c19
                          try clear c20
                          try clear c21
                          try clear c22
                          try clear c23
                          try clear c24
                          try clear c24b0
                          try clear c24b1
                          try clear c24b2
                          try clear c25
                          try clear c26
                          try clear c27
                          try clear c28
                          try clear c29
                          try clear c30
                          try clear c30b0
                          try clear c30b1
                          try clear c31
                          try clear c49
                          try clear c49b0
                          try clear c49b1
                          try clear c49b2
                          try clear c50
                          try clear c50b0
                          try clear c50b1
                          try clear c51
                          try clear c51b0
                          try clear c51b1
                          try clear c51b2
                          try clear c52
                          try clear c52b0
                          try clear c52b1
                          try clear c53
                          try clear c53b0
                          try clear c53b1
                          try clear c53b2
                          try clear p2
                          try clear p6
                          obtain ⟨kq, x188_40, rfl, HA, HJ40, HB⟩ := hcut
                          cases kq with
                          | zero => exact absurd HA.out (by simp [laws_FnBodies.j4])
                          | succ kj40 =>
                            have H := HA.out
                            clear HA
                            simp only [laws_FnBodies.j4] at H
                            by_cases c54 : x188_40 = true
                            · subst c54
                              have H1 : (some false) = some r := by rw [if_pos rfl] at H; exact H
                              clear H
                              have H := H1
                              clear H1
                              obtain rfl := Option.some.inj H
                              exact absurd hr_.out (by simp)
                            · replace c54 := Bool.eq_false_iff.mpr c54
                              subst c54
                              have H1 : (if t295 = true then ((impl_XorTexts.f t294 t293).bind fun bt309 => (if bt309.2 = true then (some (bt309.1.toList == t292.toList)) else (some false))) else (some true)) = some r := by rw [if_neg (show ¬ (false = true) by decide)] at H; exact H
                              clear H
                              have H := H1
                              clear H1
                              by_cases c55 : t295 = true
                              · subst c55
                                have H1 : ((impl_XorTexts.f t294 t293).bind fun bt309 => (if bt309.2 = true then (some (bt309.1.toList == t292.toList)) else (some false))) = some r := by rw [if_pos rfl] at H; exact H
                                clear H
                                have H := H1
                                clear H1
                                replace H := Option.bind_eq_some_iff.mp H
                                obtain ⟨⟨t309, t310⟩, A560, H⟩ := H
                                replace H : (if t310 = true then (some (t309.toList == t292.toList)) else (some false)) = some r := H
                                have A56 := Aside0.mk A560
                                clear A560
                                by_cases c57 : t310 = true
                                · subst c57
                                  have H1 : (some (t309.toList == t292.toList)) = some r := by rw [if_pos rfl] at H; exact H
                                  clear H
                                  have H := H1
                                  clear H1
                                  obtain rfl := Option.some.inj H
                                  simp only [Option.some.injEq, Prod.mk.injEq] at H
                                  obtain ⟨rfl⟩ := H
                                  go_wp2_with (first | ((with_reducible refine gate_callee (f := 24) rfl ?_); refine goesL_ (some 193) rfl rfl Tryd.func24 (by kernel_rfl) rfl #[.string t294, .string t293] rfl (by (try simp only [List.map_toArray, List.map_cons, List.map_nil]); first | done | rfl | (simp only [List.length_drop, List.length_take]; rfl)) ?_; (with_reducible refine (impl_XorTexts.calls t294 t293 t309 true _ A56.out).mono ?_); rintro e w58 ⟨rfl, hb⟩; refine ⟨_, rfl, ?_⟩; have n0_ := Aside0.mk (below_step (by repeat (first | (with_reducible first | exact HB.out | apply below_alloc | apply pw_below_drewN | apply below_drew1) | exact HB.out)) hb); clear HB; have HB := n0_; clear n0_; (try clear hb); (try clear hb2); (try clear hk); (try clear hi)))
                                  go_ret
                                  exact ⟨by first | rfl | (simp [errW_none, errW_some] <;> rfl) | (simp [*, errW_none, errW_some] <;> rfl), by repeat (first | (with_reducible first | exact HB.out | apply below_alloc | apply pw_below_drewN | apply below_drew1) | exact HB.out)⟩
                                · replace c57 := Bool.eq_false_iff.mpr c57
                                  subst c57
                                  have H1 : (some false) = some r := by rw [if_neg (show ¬ (false = true) by decide)] at H; exact H
                                  clear H
                                  have H := H1
                                  clear H1
                                  obtain rfl := Option.some.inj H
                                  exact absurd hr_.out (by simp)
                              · replace c55 := Bool.eq_false_iff.mpr c55
                                subst c55
                                have H1 : (some true) = some r := by rw [if_neg (show ¬ (false = true) by decide)] at H; exact H
                                clear H
                                have H := H1
                                clear H1
                                obtain rfl := Option.some.inj H
                                simp only [Option.some.injEq, Prod.mk.injEq] at H
                                obtain ⟨rfl⟩ := H
                                go_wp2
                                go_ret
                                exact ⟨by first | rfl | (simp [errW_none, errW_some] <;> rfl) | (simp [*, errW_none, errW_some] <;> rfl), by repeat (first | (with_reducible first | exact HB.out | apply below_alloc | apply pw_below_drewN | apply below_drew1) | exact HB.out)⟩

/-- THE ONE PURE STATEMENT of laws_FnBodies: yours. -/
def laws_FnBodies.Pure : Prop := ∀ (l0 : List Int) (l1 : List Int), l0.length ≤ maxLen → l0.length * 1 ≤ 140737488351232 → (∀ x ∈ l0, (Lit.int .u8 x).wf = true) → l1.length ≤ maxLen → l1.length * 1 ≤ 140737488351232 → (∀ x ∈ l1, (Lit.int .u8 x).wf = true) → ∃ k, laws_FnBodies.f k l0 l1 = some true
theorem laws_FnBodies.walk (P : laws_FnBodies.Pure) (a0 : Option Addr) (len0 cap0 : Nat) (z0 : List Int) (a1 : Option Addr) (len1 cap1 : Nat) (z1 : List Int) (w : World) (w0 : (a0 = none ∧ len0 = 0 ∧ cap0 = 0 ∧ z0 = []) ∨ ∃ x, a0 = some x ∧ len0 ≤ cap0 ∧ cap0 ≤ maxLen ∧ z0.length = cap0 ∧ (∀ i, i < z0.length → w.cell? (x.add i) = some (.int .u8 (z0.getD i 0))) ∧ ∀ n ∈ z0, (Lit.int .u8 n).wf = true) (y0 : len0 * 1 ≤ 140737488351232) (w1 : (a1 = none ∧ len1 = 0 ∧ cap1 = 0 ∧ z1 = []) ∨ ∃ x, a1 = some x ∧ len1 ≤ cap1 ∧ cap1 ≤ maxLen ∧ z1.length = cap1 ∧ (∀ i, i < z1.length → w.cell? (x.add i) = some (.int .u8 (z1.getD i 0))) ∧ ∀ n ∈ z1, (Lit.int .u8 n).wf = true) (y1 : len1 * 1 ≤ 140737488351232) :
    Calls Tryd.prog 6 #[.slice a0 len0 cap0, .slice a1 len1 cap1] w fun e w' => e = .returned (.bool true) ∧ Below w.heap.size w w' := by
  obtain ⟨l0, rfl, hr0, hm0, hw0, hc0⟩ := ReadsInt.ofRowC w0
  obtain ⟨l1, rfl, hr1, hm1, hw1, hc1⟩ := ReadsInt.ofRowC w1
  obtain ⟨k, h⟩ := P l0 l1 hm0 y0 hw0 hm1 y1 hw1
  refine (laws_FnBodies.calls k _ _ l0 _ _ l1 true w (Kd.C_of_reads (d := (0 : Int)) (h1 := fun _ => rfl) hr0) hc0 (Kd.C_of_reads (d := (0 : Int)) (h1 := fun _ => rfl) hr1) hc1 h ⟨rfl⟩).mono ?_
  rintro e w' ⟨rfl, hd⟩
  exact ⟨rfl, hd⟩

end Go.Proofs.YtobfeehelmbljaaDoor.PFnBodies
