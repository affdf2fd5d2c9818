-- Written by a program of this session, after the kit's print (changed in some places; see NOTES.md). Lean checks it.
import Derived.Test.YtebpikejljgfgaaPFnSwitchesx0
import Derived.Test.YtebpikejljgfgaaPFnSwitchesx1
import Derived.Test.YtebpikejljgfgaaPFnSwitchesx2
import Derived.Test.YtebpikejljgfgaaPFnSwitchesx5
import Derived.Test.YtebpikejljgfgaaPFnSwitchesx6
import Derived.Test.YtebpikejljgfgaaPFnSwitchesx7
import Derived.Test.YtebpikejljgfgaaPFnSwitchesx9
import Derived.Test.YtebpikejljgfgaaPFnSwitchesx10
namespace Go.Proofs.Ytebpikejljgfgaa.PFnSwitches
open Go.RowKit Go.Proofs.YtebpikejljgfgaaW.PrintWords Go.Proofs.YtebpikejljgfgaaW.PrintLast Go.Proofs.YtebpikejljgfgaaW.PrintMore
attribute [local go_sem] max2_int min2_int max_two min_two max_three min_three max_four min_four   -- for this text's walks alone
set_option linter.unusedVariables false
set_option linter.unusedSimpArgs false

/-! ### laws_FnSwitches: function 5 -/
mutual
def laws_FnSwitches.j1 : Nat → List Int → Option (Bool)
  | 0, _ => none
  | k + 1, x1 => (spec_DrawRunSwitches.f k x1).bind fun bt542 => ((impl_RunSwitches.f k bt542.1 bt542.2.1 bt542.2.2).bind fun bt549 => ((spec_RunSwitches.f k bt542.1 bt542.2.1 bt542.2.2).bind fun bt553 => ((spec_DrawSwitchCount.f x1).bind fun t557 => ((impl_SwitchCount.f k t557).bind fun bt558 => ((spec_SwitchCount.f k t557).bind fun bt560 => (if (bt549.2 == bt553.2) = true then ((laws_sameTexts.f k bt549.1 bt553.1).bind fun t562 => (if t562 = true then (if (bt558.2 == bt560.2) = true then (some (bt558.1 == bt560.1)) else (some false)) else (some false))) else (some false)))))))
def laws_FnSwitches.l0 : Nat → List Int → List Int → List Bool → List ByteArray → Int → Int → Option (Bool)
  | 0, _, _, _, _, _, _ => none
  | k + 1, x1, x5, x6, x10, x59, x60 => if x60 < x59 then (if x10.length < 8796093022208 then (laws_FnSwitches.l0 k x1 x5 x6 (x10 ++ [strOfNums (([(wrap64 (65 + x60)) % 256] : List Int))]) x59 (wrap64 (x60 + 1))) else (none)) else ((impl_ApplyOrder.f k x5 x10).bind fun bt531 => ((impl_RunSwitches.f k (x5.length : Int) x6 x10).bind fun bt535 => ((impl_SwitchCount.f k (x5.length : Int)).bind fun bt539 => (if bt531.2 = true then (if bt535.2 = true then ((laws_sameTexts.f k bt531.1 bt535.1).bind fun t541 => (if t541 = true then (if bt539.2 = true then (if bt539.1 = (x6.length : Int) then (laws_FnSwitches.j1 k x1) else (some false)) else (some false)) else (some false))) else (some false)) else (some false)))))
end
def laws_FnSwitches.f (k : Nat) (l0 : List Int) (l1 : List Int) : Option (Bool) := if (wrap64 ((l0.length : Int) + (l1.length : Int))) > 1048576 then (some true) else ((spec_DrawRouteOrder.f k l0).bind fun t513 => ((impl_RouteOrder.f k t513).bind fun bt516 => ((spec_RouteOrder.f k t513).bind fun bt520 => (if (bt516.2 != bt520.2) = true then (some false) else ((laws_sameBools.f k bt516.1 bt520.1).bind fun t524 => (if t524 = true then (if bt516.2 = true then (laws_FnSwitches.l0 k l1 t513 bt516.1 ([] : List ByteArray) (t513.length : Int) 0) else (laws_FnSwitches.j1 k l1)) else (some false)))))))
theorem laws_FnSwitches.mono_l : ∀ k, (∀ y0, LeO (laws_FnSwitches.j1 k y0) (laws_FnSwitches.j1 (k + 1) y0)) ∧ (∀ y0 y1 y2 y3 y4 y5, LeO (laws_FnSwitches.l0 k y0 y1 y2 y3 y4 y5) (laws_FnSwitches.l0 (k + 1) y0 y1 y2 y3 y4 y5))
  | 0 => ⟨fun _ r h => by simp [laws_FnSwitches.j1] at h, fun _ _ _ _ _ _ r h => by simp [laws_FnSwitches.l0] at h⟩
  | k + 1 => by
    obtain ⟨ih0, ih1⟩ := laws_FnSwitches.mono_l k
    refine ⟨?_, ?_⟩
    · intro y0
      unfold laws_FnSwitches.j1
      repeat' first
      | (with_reducible exact ih0 _)
      | (with_reducible exact ih1 _ _ _ _ _ _)
      | (with_reducible exact impl_ApplyOrder.mono _ _ _)
      | (with_reducible exact impl_RouteOrder.mono _ _)
      | (with_reducible exact impl_RunSwitches.mono _ _ _ _)
      | (with_reducible exact impl_SwitchCount.mono _ _)
      | (with_reducible exact laws_sameBools.mono _ _ _)
      | (with_reducible exact laws_sameTexts.mono _ _ _)
      | (with_reducible exact spec_DrawRouteOrder.mono _ _)
      | (with_reducible exact spec_DrawRunSwitches.mono _ _)
      | (with_reducible exact spec_RouteOrder.mono _ _)
      | (with_reducible exact spec_RunSwitches.mono _ _ _ _)
      | (with_reducible exact spec_SwitchCount.mono _ _)
      | (with_reducible exact LeO.refl _)
      | (with_reducible exact LeO.none _)
      | (with_reducible refine LeO.ite ?_ ?_)
      | (with_reducible refine LeO.bind ?_ (fun _ => ?_))
      | exact ih0 _
      | exact ih1 _ _ _ _ _ _
      | exact impl_ApplyOrder.mono _ _ _
      | exact impl_RouteOrder.mono _ _
      | exact impl_RunSwitches.mono _ _ _ _
      | exact impl_SwitchCount.mono _ _
      | exact laws_sameBools.mono _ _ _
      | exact laws_sameTexts.mono _ _ _
      | exact spec_DrawRouteOrder.mono _ _
      | exact spec_DrawRunSwitches.mono _ _
      | exact spec_RouteOrder.mono _ _
      | exact spec_RunSwitches.mono _ _ _ _
      | exact spec_SwitchCount.mono _ _
      | exact LeO.none _
      | refine LeO.ite ?_ ?_
      | refine LeO.bind ?_ (fun _ => ?_)
    · intro y0 y1 y2 y3 y4 y5
      unfold laws_FnSwitches.l0
      repeat' first
      | (with_reducible exact ih0 _)
      | (with_reducible exact ih1 _ _ _ _ _ _)
      | (with_reducible exact impl_ApplyOrder.mono _ _ _)
      | (with_reducible exact impl_RouteOrder.mono _ _)
      | (with_reducible exact impl_RunSwitches.mono _ _ _ _)
      | (with_reducible exact impl_SwitchCount.mono _ _)
      | (with_reducible exact laws_sameBools.mono _ _ _)
      | (with_reducible exact laws_sameTexts.mono _ _ _)
      | (with_reducible exact spec_DrawRouteOrder.mono _ _)
      | (with_reducible exact spec_DrawRunSwitches.mono _ _)
      | (with_reducible exact spec_RouteOrder.mono _ _)
      | (with_reducible exact spec_RunSwitches.mono _ _ _ _)
      | (with_reducible exact spec_SwitchCount.mono _ _)
      | (with_reducible exact LeO.refl _)
      | (with_reducible exact LeO.none _)
      | (with_reducible refine LeO.ite ?_ ?_)
      | (with_reducible refine LeO.bind ?_ (fun _ => ?_))
      | exact ih0 _
      | exact ih1 _ _ _ _ _ _
      | exact impl_ApplyOrder.mono _ _ _
      | exact impl_RouteOrder.mono _ _
      | exact impl_RunSwitches.mono _ _ _ _
      | exact impl_SwitchCount.mono _ _
      | exact laws_sameBools.mono _ _ _
      | exact laws_sameTexts.mono _ _ _
      | exact spec_DrawRouteOrder.mono _ _
      | exact spec_DrawRunSwitches.mono _ _
      | exact spec_RouteOrder.mono _ _
      | exact spec_RunSwitches.mono _ _ _ _
      | exact spec_SwitchCount.mono _ _
      | exact LeO.none _
      | refine LeO.ite ?_ ?_
      | refine LeO.bind ?_ (fun _ => ?_)
theorem laws_FnSwitches.mono : ∀ a0 a1 k, LeO (laws_FnSwitches.f k a0 a1) (laws_FnSwitches.f (k + 1) a0 a1) := by
  intro a0 a1 k
  obtain ⟨ih0, ih1⟩ := laws_FnSwitches.mono_l k
  unfold laws_FnSwitches.f
  repeat' first
      | (with_reducible exact ih0 _)
      | (with_reducible exact ih1 _ _ _ _ _ _)
      | (with_reducible exact impl_ApplyOrder.mono _ _ _)
      | (with_reducible exact impl_RouteOrder.mono _ _)
      | (with_reducible exact impl_RunSwitches.mono _ _ _ _)
      | (with_reducible exact impl_SwitchCount.mono _ _)
      | (with_reducible exact laws_sameBools.mono _ _ _)
      | (with_reducible exact laws_sameTexts.mono _ _ _)
      | (with_reducible exact spec_DrawRouteOrder.mono _ _)
      | (with_reducible exact spec_DrawRunSwitches.mono _ _)
      | (with_reducible exact spec_RouteOrder.mono _ _)
      | (with_reducible exact spec_RunSwitches.mono _ _ _ _)
      | (with_reducible exact spec_SwitchCount.mono _ _)
      | (with_reducible exact LeO.refl _)
      | (with_reducible exact LeO.none _)
      | (with_reducible refine LeO.ite ?_ ?_)
      | (with_reducible refine LeO.bind ?_ (fun _ => ?_))
      | exact ih0 _
      | exact ih1 _ _ _ _ _ _
      | exact impl_ApplyOrder.mono _ _ _
      | exact impl_RouteOrder.mono _ _
      | exact impl_RunSwitches.mono _ _ _ _
      | exact impl_SwitchCount.mono _ _
      | exact laws_sameBools.mono _ _ _
      | exact laws_sameTexts.mono _ _ _
      | exact spec_DrawRouteOrder.mono _ _
      | exact spec_DrawRunSwitches.mono _ _
      | exact spec_RouteOrder.mono _ _
      | exact spec_RunSwitches.mono _ _ _ _
      | exact spec_SwitchCount.mono _ _
      | exact LeO.none _
      | refine LeO.ite ?_ ?_
      | refine LeO.bind ?_ (fun _ => ?_)
set_option maxHeartbeats 8000000 in
set_option maxRecDepth 100000 in
theorem laws_FnSwitches.calls (k : Nat) (A0 : Option Addr) (c0 : Nat) (l0 : List Int) (A1 : Option Addr) (c1 : Nat) (l1 : List Int) (r : Bool) (w : World) (hr0 : Kd.C (Kd.int .u8) w A0 l0.length l0) (hc0 : l0.length ≤ c0) (hr1 : Kd.C (Kd.int .u8) w A1 l1.length l1) (hc1 : l1.length ≤ c1) (h : laws_FnSwitches.f k l0 l1 = some r) (hr_ : Aside0 (r = true)) :
    Calls Try.prog 5 #[.slice A0 l0.length c0, .slice A1 l1.length c1] w fun e w' => e = .returned (.bool r) ∧ Below w.heap.size w w' := by
  have HR0 := Aside0.mk hr0
  have HC0 := Aside0.mk hc0
  clear hr0 hc0
  have HR1 := Aside0.mk hr1
  have HC1 := Aside0.mk hc1
  clear hr1 hc1
  have HB := Aside0.mk (Below.refl w.heap.size w)
  have H : (if (wrap64 ((l0.length : Int) + (l1.length : Int))) > 1048576 then (some true) else ((spec_DrawRouteOrder.f k l0).bind fun t513 => ((impl_RouteOrder.f k t513).bind fun bt516 => ((spec_RouteOrder.f k t513).bind fun bt520 => (if (bt516.2 != bt520.2) = true then (some false) else ((laws_sameBools.f k bt516.1 bt520.1).bind fun t524 => (if t524 = true then (if bt516.2 = true then (laws_FnSwitches.l0 k l1 t513 bt516.1 ([] : List ByteArray) (t513.length : Int) 0) else (laws_FnSwitches.j1 k l1)) else (some false)))))))) = some r := h
  clear h
  by_cases c3 : (wrap64 ((l0.length : Int) + (l1.length : Int))) > 1048576
  · rw [if_pos c3] at H
    have c3b0 : decide (1048576 < (wrap64 ((l0.length : Int) + (l1.length : Int)))) = true := decide_eq_true c3
    clear c3
    obtain rfl := Option.some.inj H
    simp only [Option.some.injEq, Prod.mk.injEq] at H
    obtain ⟨rfl⟩ := H
    go_enter Try.func5, Try.ntmps5
    go_wp2
    go_ret
    exact ⟨by first | rfl | (simp [errW_none, errW_some] <;> rfl) | (simp [*, errW_none, errW_some] <;> rfl), by repeat (first | (with_reducible first | exact HB.out | apply below_alloc | apply pw_below_drewN | apply below_drew1) | exact HB.out)⟩
  · rw [if_neg c3] at H
    have c3b0 : decide (1048576 < (wrap64 ((l0.length : Int) + (l1.length : Int)))) = false := decide_eq_false c3
    clear c3
    replace H := Option.bind_eq_some_iff.mp H
    obtain ⟨t513, A40, H⟩ := H
    replace H : ((impl_RouteOrder.f k t513).bind fun bt516 => ((spec_RouteOrder.f k t513).bind fun bt520 => (if (bt516.2 != bt520.2) = true then (some false) else ((laws_sameBools.f k bt516.1 bt520.1).bind fun t524 => (if t524 = true then (if bt516.2 = true then (laws_FnSwitches.l0 k l1 t513 bt516.1 ([] : List ByteArray) (t513.length : Int) 0) else (laws_FnSwitches.j1 k l1)) else (some false)))))) = some r := H
    have A4 := Aside0.mk A40
    clear A40
    replace H := Option.bind_eq_some_iff.mp H
    obtain ⟨⟨t516, t517⟩, A50, H⟩ := H
    replace H : ((spec_RouteOrder.f k t513).bind fun bt520 => (if (t517 != bt520.2) = true then (some false) else ((laws_sameBools.f k t516 bt520.1).bind fun t524 => (if t524 = true then (if t517 = true then (laws_FnSwitches.l0 k l1 t513 t516 ([] : List ByteArray) (t513.length : Int) 0) else (laws_FnSwitches.j1 k l1)) else (some false))))) = some r := H
    have A5 := Aside0.mk A50
    clear A50
    replace H := Option.bind_eq_some_iff.mp H
    obtain ⟨⟨t520, t521⟩, A60, H⟩ := H
    replace H : (if (t517 != t521) = true then (some false) else ((laws_sameBools.f k t516 t520).bind fun t524 => (if t524 = true then (if t517 = true then (laws_FnSwitches.l0 k l1 t513 t516 ([] : List ByteArray) (t513.length : Int) 0) else (laws_FnSwitches.j1 k l1)) else (some false)))) = some r := H
    have A6 := Aside0.mk A60
    clear A60
    by_cases c7 : (t517 != t521) = true
    · rw [if_pos c7] at H
      have c7b0 : (t517 != t521) = true := c7
      (try (have c7b1 : decide (t517 = t521) = false := by simpa using c7))
      (try (have c7b2 : (t517 == t521) = false := by simpa using c7))
      (try (have c7b3 : ¬ (t517 = t521) := by simpa using c7))
      clear c7
      obtain rfl := Option.some.inj H
      exact absurd hr_.out (by simp)
    · rw [if_neg c7] at H
      have c7b0 : (t517 != t521) = false := by simpa using c7
      (try (have c7b1 : decide (t517 = t521) = true := by simpa using c7))
      (try (have c7b2 : (t517 == t521) = true := by simpa using c7))
      clear c7
      replace H := Option.bind_eq_some_iff.mp H
      obtain ⟨t524, A80, H⟩ := H
      replace H : (if t524 = true then (if t517 = true then (laws_FnSwitches.l0 k l1 t513 t516 ([] : List ByteArray) (t513.length : Int) 0) else (laws_FnSwitches.j1 k l1)) else (some false)) = some r := H
      have A8 := Aside0.mk A80
      clear A80
      by_cases c9 : t524 = true
      · subst c9
        have H1 : (if t517 = true then (laws_FnSwitches.l0 k l1 t513 t516 ([] : List ByteArray) (t513.length : Int) 0) else (laws_FnSwitches.j1 k l1)) = some r := by rw [if_pos rfl] at H; exact H
        clear H
        have H := H1
        clear H1
        have HC10 := Aside0.mk H
        clear H
        go_enter Try.func5, Try.ntmps5
        go_upto_if 57 with (first | ((with_reducible refine gate_callee (f := 38) rfl ?_); refine goesL_ (some 37) rfl rfl Try.func38 (by kernel_rfl) rfl #[.slice A0 l0.length c0] rfl (by (try simp only [List.map_toArray, List.map_cons, List.map_nil]); first | done | rfl | (simp only [List.length_drop, List.length_take]; rfl)) ?_; (with_reducible refine (spec_DrawRouteOrder.calls k _ _ l0 t513 _ ?side1 ?side2 A4.out).mono ?_); (case side1 => repeat (first | exact HR0.out | (with_reducible refine Kd.C_alloc ?_ _) | (with_reducible refine Kd.C_drewN ?_ _) | (with_reducible refine Kd.C_drew ?_))); (case side2 => exact HC0.out); rintro e w11 ⟨v514, rfl, ho0, hb⟩; refine ⟨_, rfl, ?_⟩; have n0_ := Aside0.mk (Kd.R_lower ho0 (below_size (by repeat (first | (with_reducible first | exact HB.out | apply below_alloc | apply pw_below_drewN | apply below_drew1) | exact HB.out)))); have n1_ := Aside0.mk (below_step (by repeat (first | (with_reducible first | exact HB.out | apply below_alloc | apply pw_below_drewN | apply below_drew1) | exact HB.out)) hb); clear HB; have HO515 := n0_; have HB := n1_; clear n0_ n1_; (try clear hb); (try clear hb2); (try clear hk); (try clear hi); (try clear ho0); obtain ⟨Ao12, co12, eo12⟩ := Kd.R_slice HO515.out; subst eo12) | ((with_reducible refine gate_callee (f := 39) rfl ?_); refine goesL_ (some 40) rfl rfl Try.func39 (by kernel_rfl) rfl #[.slice Ao12 t513.length co12] rfl (by (try simp only [List.map_toArray, List.map_cons, List.map_nil]); first | done | rfl | (simp only [List.length_drop, List.length_take]; rfl)) ?_; (with_reducible refine (impl_RouteOrder.calls k _ _ t513 t516 t517 _ ?side1 ?side2 A5.out).mono ?_); (case side1 => repeat (first | exact (Kd.R_reads' HO515.out).2.2 | (with_reducible refine Kd.C_alloc ?_ _) | (with_reducible refine Kd.C_drewN ?_ _) | (with_reducible refine Kd.C_drew ?_))); (case side2 => exact (Kd.R_reads' HO515.out).2.1); rintro e w13 ⟨v518, rfl, ho0, hb⟩; refine ⟨_, rfl, ?_⟩; have n0_ := Aside0.mk (Kd.R_below (by (with_reducible repeat (first | apply Kd.R_alloc | apply Kd.R_drewN | apply Kd.R_drew)); exact HO515.out) hb); have n1_ := Aside0.mk (Kd.R_lower ho0 (below_size (by repeat (first | (with_reducible first | exact HB.out | apply below_alloc | apply pw_below_drewN | apply below_drew1) | exact HB.out)))); have n2_ := Aside0.mk (below_step (by repeat (first | (with_reducible first | exact HB.out | apply below_alloc | apply pw_below_drewN | apply below_drew1) | exact HB.out)) hb); clear HO515; clear HB; have HO515 := n0_; have HO519 := n1_; have HB := n2_; clear n0_ n1_ n2_; (try clear hb); (try clear hb2); (try clear hk); (try clear hi); (try clear ho0)) | ((with_reducible refine gate_callee (f := 40) rfl ?_); refine goesL_ (some 45) rfl rfl Try.func40 (by kernel_rfl) rfl #[.slice Ao12 t513.length co12] rfl (by (try simp only [List.map_toArray, List.map_cons, List.map_nil]); first | done | rfl | (simp only [List.length_drop, List.length_take]; rfl)) ?_; (with_reducible refine (spec_RouteOrder.calls k _ _ t513 t520 t521 _ ?side1 ?side2 A6.out).mono ?_); (case side1 => repeat (first | exact (Kd.R_reads' HO515.out).2.2 | (with_reducible refine Kd.C_alloc ?_ _) | (with_reducible refine Kd.C_drewN ?_ _) | (with_reducible refine Kd.C_drew ?_))); (case side2 => exact (Kd.R_reads' HO515.out).2.1); rintro e w14 ⟨v522, rfl, ho0, hb⟩; refine ⟨_, rfl, ?_⟩; have n0_ := Aside0.mk (Kd.R_below (by (with_reducible repeat (first | apply Kd.R_alloc | apply Kd.R_drewN | apply Kd.R_drew)); exact HO515.out) hb); have n1_ := Aside0.mk (Kd.R_elder' (by (with_reducible repeat (first | apply Kd.R_alloc | apply Kd.R_drewN | apply Kd.R_drew)); exact HO519.out) (Kd.R_base ho0) hb); have n2_ := Aside0.mk (Kd.R_lower (Kd.R_new' ho0 (Kd.R_lt (by (with_reducible repeat (first | apply Kd.R_alloc | apply Kd.R_drewN | apply Kd.R_drew)); exact HO519.out))) (below_size (by repeat (first | (with_reducible first | exact HB.out | apply below_alloc | apply pw_below_drewN | apply below_drew1) | exact HB.out)))); have n3_ := Aside0.mk (below_step (by repeat (first | (with_reducible first | exact HB.out | apply below_alloc | apply pw_below_drewN | apply below_drew1) | exact HB.out)) hb); clear HO515; clear HO519; clear HB; have HO515 := n0_; have HO519 := n1_; have HO523 := n2_; have HB := n3_; clear n0_ n1_ n2_ n3_; (try clear hb); (try clear hb2); (try clear hk); (try clear hi); (try clear ho0); obtain ⟨Ao15, co15, eo15⟩ := Kd.R_slice HO519.out; subst eo15; obtain ⟨Ao16, co16, eo16⟩ := Kd.R_slice HO523.out; subst eo16) | (go_at_call 41; (with_reducible refine (laws_sameBools.calls k _ _ t516 _ _ t520 true _ ?side1 ?side2 ?side3 ?side4 A8.out).mono ?_); (case side1 => repeat (first | exact (Kd.R_reads' HO519.out).2.2 | (with_reducible refine Kd.C_alloc ?_ _) | (with_reducible refine Kd.C_drewN ?_ _) | (with_reducible refine Kd.C_drew ?_))); (case side2 => exact (Kd.R_reads' HO519.out).2.1); (case side3 => repeat (first | exact (Kd.R_reads' HO523.out).2.2 | (with_reducible refine Kd.C_alloc ?_ _) | (with_reducible refine Kd.C_drewN ?_ _) | (with_reducible refine Kd.C_drew ?_))); (case side4 => exact (Kd.R_reads' HO523.out).2.1); rintro e w' ⟨rfl, ⟨nd, rfl⟩⟩))
        (try simp only [Act.put, List.setIfInBounds_toArray, List.set_cons_zero, List.set_cons_succ])
        go_cut [] from 99999 (fun wc => ∃ (kq : Nat), Aside0 (laws_FnSwitches.j1 kq l1 = some r) ∧ Aside0 (kq ≤ k) ∧ Aside0 (Below w.heap.size w wc))
        case first =>
          have H := HC10.out
          clear HC10
          by_cases c17 : t517 = true
          · subst c17
            have H1 : (laws_FnSwitches.l0 k l1 t513 t516 ([] : List ByteArray) (t513.length : Int) 0) = some r := by rw [if_pos rfl] at H; exact H
            clear H
            have H := H1
            clear H1
            have H' := Aside0.mk H
            clear H
            go_wp2
            go_loopg [10, 60] k (fun kq v10 v60 w' => ∃ (x10_1 : List ByteArray) (x60_1 : Int), v60 = .int .i64 x60_1 ∧ Aside0 (laws_FnSwitches.l0 kq l1 t513 t516 x10_1 (t513.length : Int) x60_1 = some r) ∧ Aside0 (kq ≤ k) ∧ Aside0 (Kd.R (Kd.int .i64) 3 w' w.heap.size (fun _ => True) (.slice Ao12 t513.length co12) t513) ∧ Aside0 (Kd.R Kd.bool 4 w' w.heap.size (fun _ => True) (.slice Ao15 t516.length co15) t516) ∧ Aside0 (Kd.R Kd.string 9 w' w.heap.size (fun _ => True) v10 x10_1) ∧ Aside0 (Below w.heap.size w w'))
            case atStart => exact ⟨(([] : List ByteArray)), (0), (by first | rfl | (simp; done) | (simp [*]; done)), H', ⟨Nat.le_refl _⟩, ⟨by (with_reducible repeat (first | apply Kd.R_alloc | apply Kd.R_drewN | apply Kd.R_drew)); exact HO515.out⟩, ⟨by (with_reducible repeat (first | apply Kd.R_alloc | apply Kd.R_drewN | apply Kd.R_drew)); exact Kd.R_mono HO519.out (fun _ hk => trivial)⟩, ⟨by first | exact Kd.R_nil _ _ _ _ _ | exact Kd.N_nil _ _ _ _ _ | exact Kd.V_nil _ _ _ _ _ | exact Kd.Q_nil _ _ _ _ _ | exact Kd.S_nil _ _ _ _ _⟩, ⟨by repeat (first | (with_reducible first | exact HB.out | apply below_alloc | apply pw_below_drewN | apply below_drew1) | exact HB.out)⟩⟩
            case round =>
              clear H'
              try clear c1
              try clear p2
              try clear c3
              try clear c3b0
              try clear c4
              try clear c5
              try clear p6
              try clear c7
              try clear c7b0
              try clear c7b1
              try clear c7b2
              try clear c9
              try clear c17
              obtain ⟨x10_1, x60_1, rfl, HA, HK1, HO_5, HO_6, HO_10, HB⟩ := hrel
              cases gk with
              | zero => exact absurd HA.out (by simp [laws_FnSwitches.l0])
              | succ k1 =>
                have H := HA.out
                clear HA
                simp only [laws_FnSwitches.l0] at H
                by_cases c18 : x60_1 < (t513.length : Int)
                · rw [if_pos c18] at H
                  have c18b0 : decide (x60_1 < (t513.length : Int)) = true := decide_eq_true c18
                  clear c18
                  (first | rw [c18b0] | (simp only [i64_w, i32_w]; rw [c18b0]) | skip)
                  obtain ⟨y525, hy525⟩ : ∃ y_ : List Int, y_ = (([(wrap64 (65 + x60_1)) % 256] : List Int)) := ⟨_, rfl⟩
                  replace H : (if x10_1.length < 8796093022208 then (laws_FnSwitches.l0 k1 l1 t513 t516 (x10_1 ++ [strOfNums y525]) (t513.length : Int) (wrap64 (x60_1 + 1))) else (none)) = some r := by first | (rw [hy525]; with_reducible exact H) | (have H2_ := (Option.bind_some _ _).symm.trans H; rw [hy525]; with_reducible exact H2_) | (have H2_ := (Option.bind_some _ _).symm.trans H; with_reducible exact H2_) | with_reducible exact H | (rw [hy525]; exact H) | exact H
                  have Ny525 := Aside0.mk hy525
                  clear hy525
                  by_cases c19 : x10_1.length < 8796093022208
                  · rw [if_pos c19] at H
                    have LMc19 := Aside0.mk c19
                    clear c19
                    obtain ⟨y528, hy528⟩ : ∃ y_ : List ByteArray, y_ = (x10_1 ++ [strOfNums y525]) := ⟨_, rfl⟩
                    replace H : (laws_FnSwitches.l0 k1 l1 t513 t516 y528 (t513.length : Int) (wrap64 (x60_1 + 1))) = some r := by first | (rw [hy528]; with_reducible exact H) | (have H2_ := (Option.bind_some _ _).symm.trans H; rw [hy528]; with_reducible exact H2_) | (have H2_ := (Option.bind_some _ _).symm.trans H; with_reducible exact H2_) | with_reducible exact H | (rw [hy528]; exact H) | exact H
                    have Ny528 := Aside0.mk hy528
                    clear hy528
                    have H' := Aside0.mk H
                    clear H
                    go_wp2_with (first | ((with_reducible refine gate_dst (N := 67) rfl ?_); (try (refine gate_guard (by rfl) ?_; dsimp only)); refine Kd.R_lit (Kd.int .u8) _ 5 ?hg (N := 67) ?hd (xs := ([(wrap64 (65 + x60_1)) % 256] : List Int)) (inner := [.int .u8 ((wrap64 (65 + x60_1)) % 256)]) (ok := fun _ => True) (okp := fun _ => True) ?hr ?hp (fun _ hk => hk) trivial (Below.refl _ _) (Nat.le_refl _) (by simp) ?_; (case hd => rfl); (case hg => rfl); (case hr => first | (go_simp; done) | (go_simp; rfl)); (case hp => exact (Reps.one (show Kd.M (Kd.int .u8) _ _ _ ((wrap64 (65 + x60_1)) % 256) [.int .u8 ((wrap64 (65 + x60_1)) % 256)] from rfl) (Reps.none _ _))); intro v526 w20 ho21 hb hg_ hnew_; clear hg_ hnew_; (first | rw [← Ny525.out] at ho21 | (simp only [Int.reduceToNat] at ho21; rw [← Ny525.out] at ho21)); have n0_ := Aside0.mk (Kd.R_below (by (with_reducible repeat (first | apply Kd.R_alloc | apply Kd.R_drewN | apply Kd.R_drew)); exact HO_5.out) hb); have n1_ := Aside0.mk (Kd.R_below (by (with_reducible repeat (first | apply Kd.R_alloc | apply Kd.R_drewN | apply Kd.R_drew)); exact HO_6.out) hb); have n2_ := Aside0.mk (Kd.R_below (by (with_reducible repeat (first | apply Kd.R_alloc | apply Kd.R_drewN | apply Kd.R_drew)); exact HO_10.out) hb); have n3_ := Aside0.mk (Kd.R_lower ho21 (below_size (by repeat (first | (with_reducible first | exact HB.out | apply below_alloc | apply pw_below_drewN | apply below_drew1) | exact HB.out)))); have n4_ := Aside0.mk (below_step (by repeat (first | (with_reducible first | exact HB.out | apply below_alloc | apply pw_below_drewN | apply below_drew1) | exact HB.out)) hb); clear HO_5; clear HO_6; clear HO_10; clear HB; have HO_5 := n0_; have HO_6 := n1_; have HO_10 := n2_; have HO527 := n3_; have HB := n4_; clear n0_ n1_ n2_ n3_ n4_; clear hb ho21; have hcv22 := own_string (P := Try.prog) Try.underlying22 Try.underlying5 Try.underlying9 (Kd.own_of_R HO527.out)) | ((with_reducible refine gate_builtin (b := .append) (xs := #[.tmp 63, .tmp 69]) rfl ?_); (try (refine gate_guard (by rfl) ?_; dsimp only)); at_builtin; refine Kd.R_append Kd.string (w0 := w) w.heap.size rfl (.tmp 63) (.tmp 69) 33 9 (.string ⟨#[]⟩) 16 rfl Try.underlying33 info9 rfl (by decide) (by omega) u10 x10_1 (strOfNums y525) [.string (strOfNums y525)] (fun _ => True) (fun _ => False) rfl rfl ?aP (fun _ hk => hk.elim) ?aF ?aO ?aB ?aS ?aL ?_; (case aP => exact rfl); (case aB => exact (by repeat (first | (with_reducible first | exact HB.out | apply below_alloc | apply pw_below_drewN | apply below_drew1) | exact HB.out))); (case aF => exact (fun _ _ => trivial)); (case aO => exact (by (with_reducible repeat (first | apply Kd.R_alloc | apply Kd.R_drewN | apply Kd.R_drew)); exact HO_10.out)); (case aS => exact (below_size (by repeat (first | (with_reducible first | exact HB.out | apply below_alloc | apply pw_below_drewN | apply below_drew1) | exact HB.out)))); (case aL => have := LMc19.out; omega); intro v529 w23 ho hb hg hat; rw [← Ny528.out] at ho; have n0_ := Aside0.mk (Kd.R_over' (by (with_reducible repeat (first | apply Kd.R_alloc | apply Kd.R_drewN | apply Kd.R_drew)); exact HO_5.out) (Kd.R_typed (by (with_reducible repeat (first | apply Kd.R_alloc | apply Kd.R_drewN | apply Kd.R_drew)); exact HO_10.out)) (by decide) hg); have n1_ := Aside0.mk (Kd.R_over' (by (with_reducible repeat (first | apply Kd.R_alloc | apply Kd.R_drewN | apply Kd.R_drew)); exact HO_6.out) (Kd.R_typed (by (with_reducible repeat (first | apply Kd.R_alloc | apply Kd.R_drewN | apply Kd.R_drew)); exact HO_10.out)) (by decide) hg); have n2_ := Aside0.mk (Kd.R_over' (by (with_reducible repeat (first | apply Kd.R_alloc | apply Kd.R_drewN | apply Kd.R_drew)); exact HO527.out) (Kd.R_typed (by (with_reducible repeat (first | apply Kd.R_alloc | apply Kd.R_drewN | apply Kd.R_drew)); exact HO_10.out)) (by decide) hg); have n3_ := Aside0.mk (hb); have n4_ := Aside0.mk (ho); clear HO_5; clear HO_6; clear HO527; clear HB; clear HO_10; have HO_5 := n0_; have HO_6 := n1_; have HO527 := n2_; have HB := n3_; have HO530 := n4_; clear n0_ n1_ n2_ n3_ n4_; clear ho hb hg hat))
                    go_roundg k1
                    case measure => have := HK1.out; omega
                    case rel => exact ⟨(y528), (wrap64 (x60_1 + 1)), (by first | rfl | (simp; done) | (simp [*]; done)), H', ⟨by have := HK1.out; omega⟩, ⟨by (with_reducible repeat (first | apply Kd.R_alloc | apply Kd.R_drewN | apply Kd.R_drew)); exact HO_5.out⟩, ⟨by (with_reducible repeat (first | apply Kd.R_alloc | apply Kd.R_drewN | apply Kd.R_drew)); exact HO_6.out⟩, ⟨by (with_reducible repeat (first | apply Kd.R_alloc | apply Kd.R_drewN | apply Kd.R_drew)); exact HO530.out⟩, ⟨by repeat (first | (with_reducible first | exact HB.out | apply below_alloc | apply pw_below_drewN | apply below_drew1) | exact HB.out)⟩⟩
                  · rw [if_neg c19] at H
                    exact absurd H (by simp)
                · rw [if_neg c18] at H
                  have c18b0 : decide (x60_1 < (t513.length : Int)) = false := decide_eq_false c18
                  clear c18
                  (first | rw [c18b0] | (simp only [i64_w, i32_w]; rw [c18b0]) | skip)
                  replace H := Option.bind_eq_some_iff.mp H
                  obtain ⟨⟨t531, t532⟩, A240, H⟩ := H
                  replace H : ((impl_RunSwitches.f k1 (t513.length : Int) t516 x10_1).bind fun bt535 => ((impl_SwitchCount.f k1 (t513.length : Int)).bind fun bt539 => (if t532 = true then (if bt535.2 = true then ((laws_sameTexts.f k1 t531 bt535.1).bind fun t541 => (if t541 = true then (if bt539.2 = true then (if bt539.1 = (t516.length : Int) then (laws_FnSwitches.j1 k1 l1) else (some false)) else (some false)) else (some false))) else (some false)) else (some false)))) = some r := H
                  have A24 := Aside0.mk A240
                  clear A240
                  replace H := Option.bind_eq_some_iff.mp H
                  obtain ⟨⟨t535, t536⟩, A250, H⟩ := H
                  replace H : ((impl_SwitchCount.f k1 (t513.length : Int)).bind fun bt539 => (if t532 = true then (if t536 = true then ((laws_sameTexts.f k1 t531 t535).bind fun t541 => (if t541 = true then (if bt539.2 = true then (if bt539.1 = (t516.length : Int) then (laws_FnSwitches.j1 k1 l1) else (some false)) else (some false)) else (some false))) else (some false)) else (some false))) = some r := H
                  have A25 := Aside0.mk A250
                  clear A250
                  replace H := Option.bind_eq_some_iff.mp H
                  obtain ⟨⟨t539, t540⟩, A260, H⟩ := H
                  replace H : (if t532 = true then (if t536 = true then ((laws_sameTexts.f k1 t531 t535).bind fun t541 => (if t541 = true then (if t540 = true then (if t539 = (t516.length : Int) then (laws_FnSwitches.j1 k1 l1) else (some false)) else (some false)) else (some false))) else (some false)) else (some false)) = some r := H
                  have A26 := Aside0.mk A260
                  clear A260
                  by_cases c27 : t532 = true
                  · subst c27
                    have H1 : (if t536 = true then ((laws_sameTexts.f k1 t531 t535).bind fun t541 => (if t541 = true then (if t540 = true then (if t539 = (t516.length : Int) then (laws_FnSwitches.j1 k1 l1) else (some false)) else (some false)) else (some false))) else (some false)) = some r := by rw [if_pos rfl] at H; exact H
                    clear H
                    have H := H1
                    clear H1
                    by_cases c28 : t536 = true
                    · subst c28
                      have H1 : ((laws_sameTexts.f k1 t531 t535).bind fun t541 => (if t541 = true then (if t540 = true then (if t539 = (t516.length : Int) then (laws_FnSwitches.j1 k1 l1) else (some false)) else (some false)) else (some false))) = some r := by rw [if_pos rfl] at H; exact H
                      clear H
                      have H := H1
                      clear H1
                      replace H := Option.bind_eq_some_iff.mp H
                      obtain ⟨t541, A290, H⟩ := H
                      replace H : (if t541 = true then (if t540 = true then (if t539 = (t516.length : Int) then (laws_FnSwitches.j1 k1 l1) else (some false)) else (some false)) else (some false)) = some r := H
                      have A29 := Aside0.mk A290
                      clear A290
                      by_cases c30 : t541 = true
                      · subst c30
                        have H1 : (if t540 = true then (if t539 = (t516.length : Int) then (laws_FnSwitches.j1 k1 l1) else (some false)) else (some false)) = some r := by rw [if_pos rfl] at H; exact H
                        clear H
                        have H := H1
                        clear H1
                        by_cases c31 : t540 = true
                        · subst c31
                          have H1 : (if t539 = (t516.length : Int) then (laws_FnSwitches.j1 k1 l1) else (some false)) = some r := by rw [if_pos rfl] at H; exact H
                          clear H
                          have H := H1
                          clear H1
                          by_cases c32 : t539 = (t516.length : Int)
                          · rw [if_pos c32] at H
                            have c32b0 : (t539 == (t516.length : Int)) = true := beq_iff_eq.mpr c32
                            have c32b1 : (t539 != (t516.length : Int)) = false := bne_eq_false_iff_eq.mpr c32
                            clear c32
                            have H' := Aside0.mk H
                            clear H
                            obtain ⟨Ao33, co33, eo33⟩ := Kd.R_slice HO_10.out
                            subst eo33
                            go_wp2_with (first | ((with_reducible refine gate_callee (f := 36) rfl ?_); refine goesL_ (some 75) rfl rfl Try.func36 (by kernel_rfl) rfl #[.slice Ao12 t513.length co12, .slice Ao33 x10_1.length co33] rfl (by (try simp only [List.map_toArray, List.map_cons, List.map_nil]); first | done | rfl | (simp only [List.length_drop, List.length_take]; rfl)) ?_; (with_reducible refine (impl_ApplyOrder.calls k1 _ _ t513 _ _ x10_1 t531 true _ ?side1 ?side2 ?side3 ?side4 A24.out).mono ?_); (case side1 => repeat (first | exact (Kd.R_reads' HO_5.out).2.2 | (with_reducible refine Kd.C_alloc ?_ _) | (with_reducible refine Kd.C_drewN ?_ _) | (with_reducible refine Kd.C_drew ?_))); (case side2 => exact (Kd.R_reads' HO_5.out).2.1); (case side3 => repeat (first | exact (Kd.R_reads' HO_10.out).2.2 | (with_reducible refine Kd.C_alloc ?_ _) | (with_reducible refine Kd.C_drewN ?_ _) | (with_reducible refine Kd.C_drew ?_))); (case side4 => exact (Kd.R_reads' HO_10.out).2.1); rintro e w34 ⟨v533, rfl, ho0, hb⟩; refine ⟨_, rfl, ?_⟩; have n0_ := Aside0.mk (Kd.R_below (by (with_reducible repeat (first | apply Kd.R_alloc | apply Kd.R_drewN | apply Kd.R_drew)); exact HO_5.out) hb); have n1_ := Aside0.mk (Kd.R_below (by (with_reducible repeat (first | apply Kd.R_alloc | apply Kd.R_drewN | apply Kd.R_drew)); exact HO_6.out) hb); have n2_ := Aside0.mk (Kd.R_elder' (by (with_reducible repeat (first | apply Kd.R_alloc | apply Kd.R_drewN | apply Kd.R_drew)); exact HO_10.out) (Kd.R_base ho0) hb); have n3_ := Aside0.mk (Kd.R_lower (Kd.R_new' ho0 (Kd.R_lt (by (with_reducible repeat (first | apply Kd.R_alloc | apply Kd.R_drewN | apply Kd.R_drew)); exact HO_10.out))) (below_size (by repeat (first | (with_reducible first | exact HB.out | apply below_alloc | apply pw_below_drewN | apply below_drew1) | exact HB.out)))); have n4_ := Aside0.mk (below_step (by repeat (first | (with_reducible first | exact HB.out | apply below_alloc | apply pw_below_drewN | apply below_drew1) | exact HB.out)) hb); clear HO_5; clear HO_6; clear HO_10; clear HB; have HO_5 := n0_; have HO_6 := n1_; have HO_10 := n2_; have HO534 := n3_; have HB := n4_; clear n0_ n1_ n2_ n3_ n4_; (try clear hb); (try clear hb2); (try clear hk); (try clear hi); (try clear ho0)) | ((with_reducible refine gate_callee (f := 42) rfl ?_); refine goesL_ (some 83) rfl rfl Try.func42 (by kernel_rfl) rfl #[.int .i64 (t513.length : Int), .slice Ao15 t516.length co15, .slice Ao33 x10_1.length co33] rfl (by (try simp only [List.map_toArray, List.map_cons, List.map_nil]); first | done | rfl | (simp only [List.length_drop, List.length_take]; rfl)) ?_; (with_reducible refine (impl_RunSwitches.calls k1 (t513.length : Int) _ _ t516 _ _ x10_1 t535 true _ ?side1 ?side2 ?side3 ?side4 A25.out).mono ?_); (case side1 => repeat (first | exact (Kd.R_reads' HO_6.out).2.2 | (with_reducible refine Kd.C_alloc ?_ _) | (with_reducible refine Kd.C_drewN ?_ _) | (with_reducible refine Kd.C_drew ?_))); (case side2 => exact (Kd.R_reads' HO_6.out).2.1); (case side3 => repeat (first | exact (Kd.R_reads' HO_10.out).2.2 | (with_reducible refine Kd.C_alloc ?_ _) | (with_reducible refine Kd.C_drewN ?_ _) | (with_reducible refine Kd.C_drew ?_))); (case side4 => exact (Kd.R_reads' HO_10.out).2.1); rintro e w35 ⟨v537, rfl, ho0, hb⟩; refine ⟨_, rfl, ?_⟩; have n0_ := Aside0.mk (Kd.R_below (by (with_reducible repeat (first | apply Kd.R_alloc | apply Kd.R_drewN | apply Kd.R_drew)); exact HO_5.out) hb); have n1_ := Aside0.mk (Kd.R_below (by (with_reducible repeat (first | apply Kd.R_alloc | apply Kd.R_drewN | apply Kd.R_drew)); exact HO_6.out) hb); have n2_ := Aside0.mk (Kd.R_elder' (by (with_reducible repeat (first | apply Kd.R_alloc | apply Kd.R_drewN | apply Kd.R_drew)); exact HO_10.out) (Kd.R_base ho0) hb); have n3_ := Aside0.mk (Kd.R_elder' (by (with_reducible repeat (first | apply Kd.R_alloc | apply Kd.R_drewN | apply Kd.R_drew)); exact HO534.out) (Kd.R_base ho0) hb); have n4_ := Aside0.mk (Kd.R_lower (Kd.R_new' (Kd.R_new' ho0 (Kd.R_lt (by (with_reducible repeat (first | apply Kd.R_alloc | apply Kd.R_drewN | apply Kd.R_drew)); exact HO_10.out))) (Kd.R_lt (by (with_reducible repeat (first | apply Kd.R_alloc | apply Kd.R_drewN | apply Kd.R_drew)); exact HO534.out))) (below_size (by repeat (first | (with_reducible first | exact HB.out | apply below_alloc | apply pw_below_drewN | apply below_drew1) | exact HB.out)))); have n5_ := Aside0.mk (below_step (by repeat (first | (with_reducible first | exact HB.out | apply below_alloc | apply pw_below_drewN | apply below_drew1) | exact HB.out)) hb); clear HO_5; clear HO_6; clear HO_10; clear HO534; clear HB; have HO_5 := n0_; have HO_6 := n1_; have HO_10 := n2_; have HO534 := n3_; have HO538 := n4_; have HB := n5_; clear n0_ n1_ n2_ n3_ n4_ n5_; (try clear hb); (try clear hb2); (try clear hk); (try clear hi); (try clear ho0)) | ((with_reducible refine gate_callee (f := 43) rfl ?_); refine goesL_ (some 89) rfl rfl Try.func43 (by kernel_rfl) rfl #[.int .i64 (t513.length : Int)] rfl (by (try simp only [List.map_toArray, List.map_cons, List.map_nil]); first | done | rfl | (simp only [List.length_drop, List.length_take]; rfl)) ?_; (with_reducible refine (impl_SwitchCount.calls k1 (t513.length : Int) t539 true _ A26.out).mono ?_); rintro e w' ⟨rfl, ⟨nd, rfl⟩⟩; refine ⟨_, rfl, ?_⟩; obtain ⟨Ao36, co36, eo36⟩ := Kd.R_slice HO534.out; subst eo36; obtain ⟨Ao37, co37, eo37⟩ := Kd.R_slice HO538.out; subst eo37) | (go_at_call 20; (with_reducible refine (laws_sameTexts.calls k1 _ _ t531 _ _ t535 true _ ?side1 ?side2 ?side3 ?side4 A29.out).mono ?_); (case side1 => repeat (first | exact (Kd.R_reads' HO534.out).2.2 | (with_reducible refine Kd.C_alloc ?_ _) | (with_reducible refine Kd.C_drewN ?_ _) | (with_reducible refine Kd.C_drew ?_))); (case side2 => exact (Kd.R_reads' HO534.out).2.1); (case side3 => repeat (first | exact (Kd.R_reads' HO538.out).2.2 | (with_reducible refine Kd.C_alloc ?_ _) | (with_reducible refine Kd.C_drewN ?_ _) | (with_reducible refine Kd.C_drew ?_))); (case side4 => exact (Kd.R_reads' HO538.out).2.1); rintro e w' ⟨rfl, ⟨nd, rfl⟩⟩))
                            go_meet
                            case rel => exact ⟨_, H', ⟨by have := HK1.out; first | omega | exact Nat.le_refl _⟩, ⟨by repeat (first | (with_reducible first | exact HB.out | apply below_alloc | apply pw_below_drewN | apply below_drew1) | exact HB.out)⟩⟩
                          · rw [if_neg c32] at H
                            have c32b0 : (t539 == (t516.length : Int)) = false := beq_eq_false_iff_ne.mpr c32
                            have c32b1 : (t539 != (t516.length : Int)) = true := bne_iff_ne.mpr c32
                            obtain rfl := Option.some.inj H
                            exact absurd hr_.out (by simp)
                        · replace c31 := Bool.eq_false_iff.mpr c31
                          subst c31
                          have H1 : (some false) = some r := by rw [if_neg (show ¬ (false = true) by decide)] at H; exact H
                          clear H
                          have H := H1
                          clear H1
                          obtain rfl := Option.some.inj H
                          exact absurd hr_.out (by simp)
                      · replace c30 := Bool.eq_false_iff.mpr c30
                        subst c30
                        have H1 : (some false) = some r := by rw [if_neg (show ¬ (false = true) by decide)] at H; exact H
                        clear H
                        have H := H1
                        clear H1
                        obtain rfl := Option.some.inj H
                        exact absurd hr_.out (by simp)
                    · replace c28 := Bool.eq_false_iff.mpr c28
                      subst c28
                      have H1 : (some false) = some r := by rw [if_neg (show ¬ (false = true) by decide)] at H; exact H
                      clear H
                      have H := H1
                      clear H1
                      obtain rfl := Option.some.inj H
                      exact absurd hr_.out (by simp)
                  · replace c27 := Bool.eq_false_iff.mpr c27
                    subst c27
                    have H1 : (some false) = some r := by rw [if_neg (show ¬ (false = true) by decide)] at H; exact H
                    clear H
                    have H := H1
                    clear H1
                    obtain rfl := Option.some.inj H
                    exact absurd hr_.out (by simp)
          · replace c17 := Bool.eq_false_iff.mpr c17
            subst c17
            have H1 : (laws_FnSwitches.j1 k l1) = some r := by rw [if_neg (show ¬ (false = true) by decide)] at H; exact H
            clear H
            have H := H1
            clear H1
            have H' := Aside0.mk H
            clear H
            go_wp2
            go_meet
            case rel => exact ⟨_, H', ⟨by first | omega | exact Nat.le_refl _⟩, ⟨by repeat (first | (with_reducible first | exact HB.out | apply below_alloc | apply pw_below_drewN | apply below_drew1) | exact HB.out)⟩⟩
        case rest =>
          clear HC10
          try clear c1
          try clear c2
          try clear p2
          try clear hcv2
          try clear c3
          try clear c3b0
          try clear c4
          try clear c5
          try clear p6
          try clear c7
          try clear c7b0
          try clear c7b1
          try clear c7b2
          try clear c9
          try clear c17
          try clear c18
          try clear c18b0
          try clear c19
          try clear hcv22
          try clear c27
          try clear c28
          try clear c30
          try clear c31
          try clear c32
          try clear c32b0
          try clear c32b1
          try clear c36
          try clear p2
          try clear p6
          obtain ⟨kq, HA, HJ9, HB⟩ := hcut
          cases kq with
          | zero => exact absurd HA.out (by simp [laws_FnSwitches.j1])
          | succ kj9 =>
            have H := HA.out
            clear HA
            simp only [laws_FnSwitches.j1] at H
            replace H := Option.bind_eq_some_iff.mp H
            obtain ⟨⟨t542, t543, t544⟩, A380, H⟩ := H
            replace H : ((impl_RunSwitches.f kj9 t542 t543 t544).bind fun bt549 => ((spec_RunSwitches.f kj9 t542 t543 t544).bind fun bt553 => ((spec_DrawSwitchCount.f l1).bind fun t557 => ((impl_SwitchCount.f kj9 t557).bind fun bt558 => ((spec_SwitchCount.f kj9 t557).bind fun bt560 => (if (bt549.2 == bt553.2) = true then ((laws_sameTexts.f kj9 bt549.1 bt553.1).bind fun t562 => (if t562 = true then (if (bt558.2 == bt560.2) = true then (some (bt558.1 == bt560.1)) else (some false)) else (some false))) else (some false))))))) = some r := H
            have A38 := Aside0.mk A380
            clear A380
            replace H := Option.bind_eq_some_iff.mp H
            obtain ⟨⟨t549, t550⟩, A390, H⟩ := H
            replace H : ((spec_RunSwitches.f kj9 t542 t543 t544).bind fun bt553 => ((spec_DrawSwitchCount.f l1).bind fun t557 => ((impl_SwitchCount.f kj9 t557).bind fun bt558 => ((spec_SwitchCount.f kj9 t557).bind fun bt560 => (if (t550 == bt553.2) = true then ((laws_sameTexts.f kj9 t549 bt553.1).bind fun t562 => (if t562 = true then (if (bt558.2 == bt560.2) = true then (some (bt558.1 == bt560.1)) else (some false)) else (some false))) else (some false)))))) = some r := H
            have A39 := Aside0.mk A390
            clear A390
            replace H := Option.bind_eq_some_iff.mp H
            obtain ⟨⟨t553, t554⟩, A400, H⟩ := H
            replace H : ((spec_DrawSwitchCount.f l1).bind fun t557 => ((impl_SwitchCount.f kj9 t557).bind fun bt558 => ((spec_SwitchCount.f kj9 t557).bind fun bt560 => (if (t550 == t554) = true then ((laws_sameTexts.f kj9 t549 t553).bind fun t562 => (if t562 = true then (if (bt558.2 == bt560.2) = true then (some (bt558.1 == bt560.1)) else (some false)) else (some false))) else (some false))))) = some r := H
            have A40 := Aside0.mk A400
            clear A400
            replace H := Option.bind_eq_some_iff.mp H
            obtain ⟨t557, A410, H⟩ := H
            replace H : ((impl_SwitchCount.f kj9 t557).bind fun bt558 => ((spec_SwitchCount.f kj9 t557).bind fun bt560 => (if (t550 == t554) = true then ((laws_sameTexts.f kj9 t549 t553).bind fun t562 => (if t562 = true then (if (bt558.2 == bt560.2) = true then (some (bt558.1 == bt560.1)) else (some false)) else (some false))) else (some false)))) = some r := H
            have A41 := Aside0.mk A410
            clear A410
            replace H := Option.bind_eq_some_iff.mp H
            obtain ⟨⟨t558, t559⟩, A420, H⟩ := H
            replace H : ((spec_SwitchCount.f kj9 t557).bind fun bt560 => (if (t550 == t554) = true then ((laws_sameTexts.f kj9 t549 t553).bind fun t562 => (if t562 = true then (if (t559 == bt560.2) = true then (some (t558 == bt560.1)) else (some false)) else (some false))) else (some false))) = some r := H
            have A42 := Aside0.mk A420
            clear A420
            replace H := Option.bind_eq_some_iff.mp H
            obtain ⟨⟨t560, t561⟩, A430, H⟩ := H
            replace H : (if (t550 == t554) = true then ((laws_sameTexts.f kj9 t549 t553).bind fun t562 => (if t562 = true then (if (t559 == t561) = true then (some (t558 == t560)) else (some false)) else (some false))) else (some false)) = some r := H
            have A43 := Aside0.mk A430
            clear A430
            by_cases c44 : (t550 == t554) = true
            · rw [if_pos c44] at H
              have c44b0 : (t550 == t554) = true := c44
              (try (have c44b1 : decide (t550 = t554) = true := by simpa using c44))
              (try (have c44b2 : (t550 == t554) = true := by simpa using c44))
              clear c44
              replace H := Option.bind_eq_some_iff.mp H
              obtain ⟨t562, A450, H⟩ := H
              replace H : (if t562 = true then (if (t559 == t561) = true then (some (t558 == t560)) else (some false)) else (some false)) = some r := H
              have A45 := Aside0.mk A450
              clear A450
              by_cases c46 : t562 = true
              · subst c46
                have H1 : (if (t559 == t561) = true then (some (t558 == t560)) else (some false)) = some r := by rw [if_pos rfl] at H; exact H
                clear H
                have H := H1
                clear H1
                by_cases c47 : (t559 == t561) = true
                · rw [if_pos c47] at H
                  have c47b0 : (t559 == t561) = true := c47
                  (try (have c47b1 : decide (t559 = t561) = true := by simpa using c47))
                  (try (have c47b2 : (t559 == t561) = true := by simpa using c47))
                  clear c47
                  obtain rfl := Option.some.inj H
                  simp only [Option.some.injEq, Prod.mk.injEq] at H
                  obtain ⟨rfl⟩ := H
                  go_wp2_with (first | ((with_reducible refine gate_callee (f := 44) rfl ?_); refine goesL_ (some 116) rfl rfl Try.func44 (by kernel_rfl) rfl #[.slice A1 l1.length c1] rfl (by (try simp only [List.map_toArray, List.map_cons, List.map_nil]); first | done | rfl | (simp only [List.length_drop, List.length_take]; rfl)) ?_; (with_reducible refine (spec_DrawRunSwitches.calls kj9 _ _ l1 t542 t543 t544 _ ?side1 ?side2 A38.out).mono ?_); (case side1 => repeat (first | exact (Kd.C_below HR1.out HB.out) | (with_reducible refine Kd.C_alloc ?_ _) | (with_reducible refine Kd.C_drewN ?_ _) | (with_reducible refine Kd.C_drew ?_))); (case side2 => exact HC1.out); rintro e w48 ⟨v545, v547, rfl, ho0, ho1, hb⟩; refine ⟨_, rfl, ?_⟩; have n0_ := Aside0.mk (Kd.R_lower ho0 (below_size (by repeat (first | (with_reducible first | exact HB.out | apply below_alloc | apply pw_below_drewN | apply below_drew1) | exact HB.out)))); have n1_ := Aside0.mk (Kd.R_lower ho1 (below_size (by repeat (first | (with_reducible first | exact HB.out | apply below_alloc | apply pw_below_drewN | apply below_drew1) | exact HB.out)))); have n2_ := Aside0.mk (below_step (by repeat (first | (with_reducible first | exact HB.out | apply below_alloc | apply pw_below_drewN | apply below_drew1) | exact HB.out)) hb); clear HB; have HO546 := n0_; have HO548 := n1_; have HB := n2_; clear n0_ n1_ n2_; (try clear hb); (try clear hb2); (try clear hk); (try clear hi); (try clear ho0); (try clear ho1); obtain ⟨Ao49, co49, eo49⟩ := Kd.R_slice HO546.out; subst eo49; obtain ⟨Ao50, co50, eo50⟩ := Kd.R_slice HO548.out; subst eo50) | ((with_reducible refine gate_callee (f := 42) rfl ?_); refine goesL_ (some 124) rfl rfl Try.func42 (by kernel_rfl) rfl #[.int .i64 t542, .slice Ao49 t543.length co49, .slice Ao50 t544.length co50] rfl (by (try simp only [List.map_toArray, List.map_cons, List.map_nil]); first | done | rfl | (simp only [List.length_drop, List.length_take]; rfl)) ?_; (with_reducible refine (impl_RunSwitches.calls kj9 t542 _ _ t543 _ _ t544 t549 t550 _ ?side1 ?side2 ?side3 ?side4 A39.out).mono ?_); (case side1 => repeat (first | exact (Kd.R_reads' HO546.out).2.2 | (with_reducible refine Kd.C_alloc ?_ _) | (with_reducible refine Kd.C_drewN ?_ _) | (with_reducible refine Kd.C_drew ?_))); (case side2 => exact (Kd.R_reads' HO546.out).2.1); (case side3 => repeat (first | exact (Kd.R_reads' HO548.out).2.2 | (with_reducible refine Kd.C_alloc ?_ _) | (with_reducible refine Kd.C_drewN ?_ _) | (with_reducible refine Kd.C_drew ?_))); (case side4 => exact (Kd.R_reads' HO548.out).2.1); rintro e w51 ⟨v551, rfl, ho0, hb⟩; refine ⟨_, rfl, ?_⟩; have n0_ := Aside0.mk (Kd.R_below (by (with_reducible repeat (first | apply Kd.R_alloc | apply Kd.R_drewN | apply Kd.R_drew)); exact HO546.out) hb); have n1_ := Aside0.mk (Kd.R_elder' (by (with_reducible repeat (first | apply Kd.R_alloc | apply Kd.R_drewN | apply Kd.R_drew)); exact HO548.out) (Kd.R_base ho0) hb); have n2_ := Aside0.mk (Kd.R_lower (Kd.R_new' ho0 (Kd.R_lt (by (with_reducible repeat (first | apply Kd.R_alloc | apply Kd.R_drewN | apply Kd.R_drew)); exact HO548.out))) (below_size (by repeat (first | (with_reducible first | exact HB.out | apply below_alloc | apply pw_below_drewN | apply below_drew1) | exact HB.out)))); have n3_ := Aside0.mk (below_step (by repeat (first | (with_reducible first | exact HB.out | apply below_alloc | apply pw_below_drewN | apply below_drew1) | exact HB.out)) hb); clear HO546; clear HO548; clear HB; have HO546 := n0_; have HO548 := n1_; have HO552 := n2_; have HB := n3_; clear n0_ n1_ n2_ n3_; (try clear hb); (try clear hb2); (try clear hk); (try clear hi); (try clear ho0)) | ((with_reducible refine gate_callee (f := 45) rfl ?_); refine goesL_ (some 131) rfl rfl Try.func45 (by kernel_rfl) rfl #[.int .i64 t542, .slice Ao49 t543.length co49, .slice Ao50 t544.length co50] rfl (by (try simp only [List.map_toArray, List.map_cons, List.map_nil]); first | done | rfl | (simp only [List.length_drop, List.length_take]; rfl)) ?_; (with_reducible refine (spec_RunSwitches.calls kj9 t542 _ _ t543 _ _ t544 t553 t554 _ ?side1 ?side2 ?side3 ?side4 A40.out).mono ?_); (case side1 => repeat (first | exact (Kd.R_reads' HO546.out).2.2 | (with_reducible refine Kd.C_alloc ?_ _) | (with_reducible refine Kd.C_drewN ?_ _) | (with_reducible refine Kd.C_drew ?_))); (case side2 => exact (Kd.R_reads' HO546.out).2.1); (case side3 => repeat (first | exact (Kd.R_reads' HO548.out).2.2 | (with_reducible refine Kd.C_alloc ?_ _) | (with_reducible refine Kd.C_drewN ?_ _) | (with_reducible refine Kd.C_drew ?_))); (case side4 => exact (Kd.R_reads' HO548.out).2.1); rintro e w52 ⟨v555, rfl, ho0, hb⟩; refine ⟨_, rfl, ?_⟩; have n0_ := Aside0.mk (Kd.R_below (by (with_reducible repeat (first | apply Kd.R_alloc | apply Kd.R_drewN | apply Kd.R_drew)); exact HO546.out) hb); have n1_ := Aside0.mk (Kd.R_elder' (by (with_reducible repeat (first | apply Kd.R_alloc | apply Kd.R_drewN | apply Kd.R_drew)); exact HO548.out) (Kd.R_base ho0) hb); have n2_ := Aside0.mk (Kd.R_elder' (by (with_reducible repeat (first | apply Kd.R_alloc | apply Kd.R_drewN | apply Kd.R_drew)); exact HO552.out) (Kd.R_base ho0) hb); have n3_ := Aside0.mk (Kd.R_lower (Kd.R_new' (Kd.R_new' ho0 (Kd.R_lt (by (with_reducible repeat (first | apply Kd.R_alloc | apply Kd.R_drewN | apply Kd.R_drew)); exact HO548.out))) (Kd.R_lt (by (with_reducible repeat (first | apply Kd.R_alloc | apply Kd.R_drewN | apply Kd.R_drew)); exact HO552.out))) (below_size (by repeat (first | (with_reducible first | exact HB.out | apply below_alloc | apply pw_below_drewN | apply below_drew1) | exact HB.out)))); have n4_ := Aside0.mk (below_step (by repeat (first | (with_reducible first | exact HB.out | apply below_alloc | apply pw_below_drewN | apply below_drew1) | exact HB.out)) hb); clear HO546; clear HO548; clear HO552; clear HB; have HO546 := n0_; have HO548 := n1_; have HO552 := n2_; have HO556 := n3_; have HB := n4_; clear n0_ n1_ n2_ n3_ n4_; (try clear hb); (try clear hb2); (try clear hk); (try clear hi); (try clear ho0)) | ((with_reducible refine gate_callee (f := 46) rfl ?_); refine goesL_ (some 135) rfl rfl Try.func46 (by kernel_rfl) rfl #[.slice A1 l1.length c1] rfl (by (try simp only [List.map_toArray, List.map_cons, List.map_nil]); first | done | rfl | (simp only [List.length_drop, List.length_take]; rfl)) ?_; (with_reducible refine (spec_DrawSwitchCount.calls _ _ l1 t557 _ ?side1 ?side2 A41.out).mono ?_); (case side1 => repeat (first | exact (Kd.C_below HR1.out HB.out) | (with_reducible refine Kd.C_alloc ?_ _) | (with_reducible refine Kd.C_drewN ?_ _) | (with_reducible refine Kd.C_drew ?_))); (case side2 => exact HC1.out); rintro e w53 ⟨rfl, hb⟩; refine ⟨_, rfl, ?_⟩; have n0_ := Aside0.mk (Kd.R_below (by (with_reducible repeat (first | apply Kd.R_alloc | apply Kd.R_drewN | apply Kd.R_drew)); exact HO546.out) hb); have n1_ := Aside0.mk (Kd.R_below (by (with_reducible repeat (first | apply Kd.R_alloc | apply Kd.R_drewN | apply Kd.R_drew)); exact HO548.out) hb); have n2_ := Aside0.mk (Kd.R_below (by (with_reducible repeat (first | apply Kd.R_alloc | apply Kd.R_drewN | apply Kd.R_drew)); exact HO552.out) hb); have n3_ := Aside0.mk (Kd.R_below (by (with_reducible repeat (first | apply Kd.R_alloc | apply Kd.R_drewN | apply Kd.R_drew)); exact HO556.out) hb); have n4_ := Aside0.mk (below_step (by repeat (first | (with_reducible first | exact HB.out | apply below_alloc | apply pw_below_drewN | apply below_drew1) | exact HB.out)) hb); clear HO546; clear HO548; clear HO552; clear HO556; clear HB; have HO546 := n0_; have HO548 := n1_; have HO552 := n2_; have HO556 := n3_; have HB := n4_; clear n0_ n1_ n2_ n3_ n4_; (try clear hb); (try clear hb2); (try clear hk); (try clear hi)) | ((with_reducible refine gate_callee (f := 43) rfl ?_); refine goesL_ (some 138) rfl rfl Try.func43 (by kernel_rfl) rfl #[.int .i64 t557] rfl (by (try simp only [List.map_toArray, List.map_cons, List.map_nil]); first | done | rfl | (simp only [List.length_drop, List.length_take]; rfl)) ?_; (with_reducible refine (impl_SwitchCount.calls kj9 t557 t558 t559 _ A42.out).mono ?_); rintro e w' ⟨rfl, ⟨nd, rfl⟩⟩; refine ⟨_, rfl, ?_⟩) | ((with_reducible refine gate_callee (f := 47) rfl ?_); refine goesL_ (some 143) rfl rfl Try.func47 (by kernel_rfl) rfl #[.int .i64 t557] rfl (by (try simp only [List.map_toArray, List.map_cons, List.map_nil]); first | done | rfl | (simp only [List.length_drop, List.length_take]; rfl)) ?_; (with_reducible refine (spec_SwitchCount.calls kj9 t557 t560 t561 _ A43.out).mono ?_); rintro e w' ⟨rfl, ⟨nd, rfl⟩⟩; refine ⟨_, rfl, ?_⟩; obtain ⟨Ao54, co54, eo54⟩ := Kd.R_slice HO552.out; subst eo54; obtain ⟨Ao55, co55, eo55⟩ := Kd.R_slice HO556.out; subst eo55) | (go_at_call 20; (with_reducible refine (laws_sameTexts.calls kj9 _ _ t549 _ _ t553 true _ ?side1 ?side2 ?side3 ?side4 A45.out).mono ?_); (case side1 => repeat (first | exact (Kd.R_reads' HO552.out).2.2 | (with_reducible refine Kd.C_alloc ?_ _) | (with_reducible refine Kd.C_drewN ?_ _) | (with_reducible refine Kd.C_drew ?_))); (case side2 => exact (Kd.R_reads' HO552.out).2.1); (case side3 => repeat (first | exact (Kd.R_reads' HO556.out).2.2 | (with_reducible refine Kd.C_alloc ?_ _) | (with_reducible refine Kd.C_drewN ?_ _) | (with_reducible refine Kd.C_drew ?_))); (case side4 => exact (Kd.R_reads' HO556.out).2.1); rintro e w' ⟨rfl, ⟨nd, rfl⟩⟩))
                  go_ret
                  exact ⟨by first | rfl | (simp [errW_none, errW_some] <;> rfl) | (simp [*, errW_none, errW_some] <;> rfl), by repeat (first | (with_reducible first | exact HB.out | apply below_alloc | apply pw_below_drewN | apply below_drew1) | exact HB.out)⟩
                · rw [if_neg c47] at H
                  have c47b0 : (t559 == t561) = false := by simpa using c47
                  (try (have c47b1 : decide (t559 = t561) = false := by simpa using c47))
                  (try (have c47b2 : (t559 == t561) = false := by simpa using c47))
                  (try (have c47b3 : ¬ (t559 = t561) := by simpa using c47))
                  clear c47
                  obtain rfl := Option.some.inj H
                  exact absurd hr_.out (by simp)
              · replace c46 := Bool.eq_false_iff.mpr c46
                subst c46
                have H1 : (some false) = some r := by rw [if_neg (show ¬ (false = true) by decide)] at H; exact H
                clear H
                have H := H1
                clear H1
                obtain rfl := Option.some.inj H
                exact absurd hr_.out (by simp)
            · rw [if_neg c44] at H
              have c44b0 : (t550 == t554) = false := by simpa using c44
              (try (have c44b1 : decide (t550 = t554) = false := by simpa using c44))
              (try (have c44b2 : (t550 == t554) = false := by simpa using c44))
              (try (have c44b3 : ¬ (t550 = t554) := by simpa using c44))
              clear c44
              obtain rfl := Option.some.inj H
              exact absurd hr_.out (by simp)
      · replace c9 := Bool.eq_false_iff.mpr c9
        subst c9
        have H1 : (some false) = some r := by rw [if_neg (show ¬ (false = true) by decide)] at H; exact H
        clear H
        have H := H1
        clear H1
        obtain rfl := Option.some.inj H
        exact absurd hr_.out (by simp)

/-- THE ONE PURE STATEMENT of laws_FnSwitches: yours. -/
def laws_FnSwitches.Pure : Prop := ∀ (l0 : List Int) (l1 : List Int), l0.length ≤ maxLen → l0.length * 1 ≤ 140737488351232 → (∀ x ∈ l0, (Lit.int .u8 x).wf = true) → l1.length ≤ maxLen → l1.length * 1 ≤ 140737488351232 → (∀ x ∈ l1, (Lit.int .u8 x).wf = true) → ∃ k, laws_FnSwitches.f k l0 l1 = some true
theorem laws_FnSwitches.walk (P : laws_FnSwitches.Pure) (a0 : Option Addr) (len0 cap0 : Nat) (z0 : List Int) (a1 : Option Addr) (len1 cap1 : Nat) (z1 : List Int) (w : World) (w0 : (a0 = none ∧ len0 = 0 ∧ cap0 = 0 ∧ z0 = []) ∨ ∃ x, a0 = some x ∧ len0 ≤ cap0 ∧ cap0 ≤ maxLen ∧ z0.length = cap0 ∧ (∀ i, i < z0.length → w.cell? (x.add i) = some (.int .u8 (z0.getD i 0))) ∧ ∀ n ∈ z0, (Lit.int .u8 n).wf = true) (y0 : len0 * 1 ≤ 140737488351232) (w1 : (a1 = none ∧ len1 = 0 ∧ cap1 = 0 ∧ z1 = []) ∨ ∃ x, a1 = some x ∧ len1 ≤ cap1 ∧ cap1 ≤ maxLen ∧ z1.length = cap1 ∧ (∀ i, i < z1.length → w.cell? (x.add i) = some (.int .u8 (z1.getD i 0))) ∧ ∀ n ∈ z1, (Lit.int .u8 n).wf = true) (y1 : len1 * 1 ≤ 140737488351232) :
    Calls Try.prog 5 #[.slice a0 len0 cap0, .slice a1 len1 cap1] w fun e w' => e = .returned (.bool true) ∧ Below w.heap.size w w' := by
  obtain ⟨l0, rfl, hr0, hm0, hw0, hc0⟩ := ReadsInt.ofRowC w0
  obtain ⟨l1, rfl, hr1, hm1, hw1, hc1⟩ := ReadsInt.ofRowC w1
  obtain ⟨k, h⟩ := P l0 l1 hm0 y0 hw0 hm1 y1 hw1
  refine (laws_FnSwitches.calls k _ _ l0 _ _ l1 true w (Kd.C_of_reads (d := (0 : Int)) (h1 := fun _ => rfl) hr0) hc0 (Kd.C_of_reads (d := (0 : Int)) (h1 := fun _ => rfl) hr1) hc1 h ⟨rfl⟩).mono ?_
  rintro e w' ⟨rfl, hd⟩
  exact ⟨rfl, hd⟩

end Go.Proofs.Ytebpikejljgfgaa.PFnSwitches
