-- Written by a program of this session, after the kit's print (changed in some places; see NOTES.md). Lean checks it.
import Derived.Test.YtlhcibfliapbpaaPFnExactRouteOrderx0
import Derived.Test.YtlhcibfliapbpaaPFnExactRouteOrderx2
import Derived.Test.YtlhcibfliapbpaaPFnExactRouteOrderx3
import Derived.Test.YtlhcibfliapbpaaPFnExactRouteOrderx5
namespace Go.Proofs.Ytlhcibfliapbpaa.PFnExactRouteOrder
open Go.RowKit Go.Proofs.YtlhcibfliapbpaaW.PrintWords Go.Proofs.YtlhcibfliapbpaaW.PrintLast Go.Proofs.YtlhcibfliapbpaaW.PrintMore
attribute [local go_sem] max2_int min2_int max_two min_two max_three min_three max_four min_four   -- for this text's walks alone
set_option linter.unusedVariables false
set_option linter.unusedSimpArgs false

/-! ### laws_FnExactRouteOrder: function 3 -/
def laws_FnExactRouteOrder.f (k : Nat) (l0 : List Int) : Option (Bool) := if (l0.length : Int) > 1048576 then (some true) else ((laws_toIntS.f k l0).bind fun t260 => ((spec_RouteOrder.f k t260).bind fun bt263 => ((laws_toIntS.f k l0).bind fun t267 => ((impl_RouteOrder.f k t267).bind fun bt270 => ((laws_eqBoolS.f k bt270.1 bt263.1).bind fun t274 => (if t274 = true then (if (bt270.2 != bt263.2) = true then (some false) else ((laws_toIntS.f k l0).bind fun t275 => ((laws_eqIntS.f k t267 t275).bind fun t278 => (if t278 = true then ((laws_markIntS.f k t267 1).bind fun bt279 => (if bt279.1 < 0 then (some false) else ((laws_eqBoolS.f k bt270.1 bt263.1).bind fun t281 => (if t281 = true then ((laws_markBoolS.f k bt270.1 1).bind fun bt282 => ((laws_heldBoolS.f k bt282.2 1).bind fun t284 => (if t284 < 0 then (some false) else (if t284 = bt282.1 then ((laws_toIntS.f k l0).bind fun t285 => ((impl_RouteOrder.f k t285).bind fun bt288 => ((laws_eqBoolS.f k bt288.1 bt263.1).bind fun t292 => (if t292 = true then (if (bt288.2 != bt263.2) = true then (some false) else ((laws_heldBoolS.f k bt282.2 1).bind fun t293 => (if t293 < 0 then (some false) else (if t293 = bt282.1 then (some true) else (some false))))) else (some false))))) else (some false))))) else (some false))))) else (some false))))) else (some false)))))))
theorem laws_FnExactRouteOrder.mono : ∀ a0 k, LeO (laws_FnExactRouteOrder.f k a0) (laws_FnExactRouteOrder.f (k + 1) a0) := by
  intro a0 k
  unfold laws_FnExactRouteOrder.f
  repeat' first
      | (with_reducible exact impl_RouteOrder.mono _ _)
      | (with_reducible exact laws_eqBoolS.mono _ _ _)
      | (with_reducible exact laws_eqIntS.mono _ _ _)
      | (with_reducible exact laws_heldBoolS.mono _ _ _)
      | (with_reducible exact laws_markBoolS.mono _ _ _)
      | (with_reducible exact laws_markIntS.mono _ _ _)
      | (with_reducible exact laws_toIntS.mono _ _)
      | (with_reducible exact spec_RouteOrder.mono _ _)
      | (with_reducible exact LeO.refl _)
      | (with_reducible exact LeO.none _)
      | (with_reducible refine LeO.ite ?_ ?_)
      | (with_reducible refine LeO.bind ?_ (fun _ => ?_))
      | exact impl_RouteOrder.mono _ _
      | exact laws_eqBoolS.mono _ _ _
      | exact laws_eqIntS.mono _ _ _
      | exact laws_heldBoolS.mono _ _ _
      | exact laws_markBoolS.mono _ _ _
      | exact laws_markIntS.mono _ _ _
      | exact laws_toIntS.mono _ _
      | exact spec_RouteOrder.mono _ _
      | exact LeO.none _
      | refine LeO.ite ?_ ?_
      | refine LeO.bind ?_ (fun _ => ?_)
set_option maxHeartbeats 8000000 in
set_option maxRecDepth 100000 in
theorem laws_FnExactRouteOrder.calls (k : Nat) (A0 : Option Addr) (c0 : Nat) (l0 : List Int) (r : Bool) (w : World) (hr0 : Kd.C (Kd.int .i64) w A0 l0.length l0) (hc0 : l0.length ≤ c0) (h : laws_FnExactRouteOrder.f k l0 = some r) (hr_ : Aside0 (r = true)) :
    Calls Try.prog 3 #[.slice A0 l0.length c0] w fun e w' => e = .returned (.bool r) ∧ Below w.heap.size w w' := by
  have HR0 := Aside0.mk hr0
  have HC0 := Aside0.mk hc0
  clear hr0 hc0
  have HB := Aside0.mk (Below.refl w.heap.size w)
  have H : (if (l0.length : Int) > 1048576 then (some true) else ((laws_toIntS.f k l0).bind fun t260 => ((spec_RouteOrder.f k t260).bind fun bt263 => ((laws_toIntS.f k l0).bind fun t267 => ((impl_RouteOrder.f k t267).bind fun bt270 => ((laws_eqBoolS.f k bt270.1 bt263.1).bind fun t274 => (if t274 = true then (if (bt270.2 != bt263.2) = true then (some false) else ((laws_toIntS.f k l0).bind fun t275 => ((laws_eqIntS.f k t267 t275).bind fun t278 => (if t278 = true then ((laws_markIntS.f k t267 1).bind fun bt279 => (if bt279.1 < 0 then (some false) else ((laws_eqBoolS.f k bt270.1 bt263.1).bind fun t281 => (if t281 = true then ((laws_markBoolS.f k bt270.1 1).bind fun bt282 => ((laws_heldBoolS.f k bt282.2 1).bind fun t284 => (if t284 < 0 then (some false) else (if t284 = bt282.1 then ((laws_toIntS.f k l0).bind fun t285 => ((impl_RouteOrder.f k t285).bind fun bt288 => ((laws_eqBoolS.f k bt288.1 bt263.1).bind fun t292 => (if t292 = true then (if (bt288.2 != bt263.2) = true then (some false) else ((laws_heldBoolS.f k bt282.2 1).bind fun t293 => (if t293 < 0 then (some false) else (if t293 = bt282.1 then (some true) else (some false))))) else (some false))))) else (some false))))) else (some false))))) else (some false))))) else (some false)))))))) = some r := h
  clear h
  by_cases c2 : (l0.length : Int) > 1048576
  · rw [if_pos c2] at H
    have c2b0 : decide (1048576 < (l0.length : Int)) = true := decide_eq_true c2
    have c2b1 : decide (1048576 < l0.length) = true := decide_eq_true (by omega)
    clear c2
    obtain rfl := Option.some.inj H
    simp only [Option.some.injEq, Prod.mk.injEq] at H
    obtain ⟨rfl⟩ := H
    go_enter Try.func3, Try.ntmps3
    go_wp2
    go_ret
    exact ⟨by first | rfl | (simp [errW_none, errW_some] <;> rfl) | (simp [*, errW_none, errW_some] <;> rfl), by repeat (first | (with_reducible first | exact HB.out | apply below_alloc | apply pw_below_drewN | apply below_drew1) | exact HB.out)⟩
  · rw [if_neg c2] at H
    have c2b0 : decide (1048576 < (l0.length : Int)) = false := decide_eq_false c2
    have c2b1 : decide (1048576 < l0.length) = false := decide_eq_false (by omega)
    clear c2
    replace H := Option.bind_eq_some_iff.mp H
    obtain ⟨t260, A30, H⟩ := H
    replace H : ((spec_RouteOrder.f k t260).bind fun bt263 => ((laws_toIntS.f k l0).bind fun t267 => ((impl_RouteOrder.f k t267).bind fun bt270 => ((laws_eqBoolS.f k bt270.1 bt263.1).bind fun t274 => (if t274 = true then (if (bt270.2 != bt263.2) = true then (some false) else ((laws_toIntS.f k l0).bind fun t275 => ((laws_eqIntS.f k t267 t275).bind fun t278 => (if t278 = true then ((laws_markIntS.f k t267 1).bind fun bt279 => (if bt279.1 < 0 then (some false) else ((laws_eqBoolS.f k bt270.1 bt263.1).bind fun t281 => (if t281 = true then ((laws_markBoolS.f k bt270.1 1).bind fun bt282 => ((laws_heldBoolS.f k bt282.2 1).bind fun t284 => (if t284 < 0 then (some false) else (if t284 = bt282.1 then ((laws_toIntS.f k l0).bind fun t285 => ((impl_RouteOrder.f k t285).bind fun bt288 => ((laws_eqBoolS.f k bt288.1 bt263.1).bind fun t292 => (if t292 = true then (if (bt288.2 != bt263.2) = true then (some false) else ((laws_heldBoolS.f k bt282.2 1).bind fun t293 => (if t293 < 0 then (some false) else (if t293 = bt282.1 then (some true) else (some false))))) else (some false))))) else (some false))))) else (some false))))) else (some false))))) else (some false)))))) = some r := H
    have A3 := Aside0.mk A30
    clear A30
    replace H := Option.bind_eq_some_iff.mp H
    obtain ⟨⟨t263, t264⟩, A40, H⟩ := H
    replace H : ((laws_toIntS.f k l0).bind fun t267 => ((impl_RouteOrder.f k t267).bind fun bt270 => ((laws_eqBoolS.f k bt270.1 t263).bind fun t274 => (if t274 = true then (if (bt270.2 != t264) = true then (some false) else ((laws_toIntS.f k l0).bind fun t275 => ((laws_eqIntS.f k t267 t275).bind fun t278 => (if t278 = true then ((laws_markIntS.f k t267 1).bind fun bt279 => (if bt279.1 < 0 then (some false) else ((laws_eqBoolS.f k bt270.1 t263).bind fun t281 => (if t281 = true then ((laws_markBoolS.f k bt270.1 1).bind fun bt282 => ((laws_heldBoolS.f k bt282.2 1).bind fun t284 => (if t284 < 0 then (some false) else (if t284 = bt282.1 then ((laws_toIntS.f k l0).bind fun t285 => ((impl_RouteOrder.f k t285).bind fun bt288 => ((laws_eqBoolS.f k bt288.1 t263).bind fun t292 => (if t292 = true then (if (bt288.2 != t264) = true then (some false) else ((laws_heldBoolS.f k bt282.2 1).bind fun t293 => (if t293 < 0 then (some false) else (if t293 = bt282.1 then (some true) else (some false))))) else (some false))))) else (some false))))) else (some false))))) else (some false))))) else (some false))))) = some r := H
    have A4 := Aside0.mk A40
    clear A40
    replace H := Option.bind_eq_some_iff.mp H
    obtain ⟨t267, A50, H⟩ := H
    replace H : ((impl_RouteOrder.f k t267).bind fun bt270 => ((laws_eqBoolS.f k bt270.1 t263).bind fun t274 => (if t274 = true then (if (bt270.2 != t264) = true then (some false) else ((laws_toIntS.f k l0).bind fun t275 => ((laws_eqIntS.f k t267 t275).bind fun t278 => (if t278 = true then ((laws_markIntS.f k t267 1).bind fun bt279 => (if bt279.1 < 0 then (some false) else ((laws_eqBoolS.f k bt270.1 t263).bind fun t281 => (if t281 = true then ((laws_markBoolS.f k bt270.1 1).bind fun bt282 => ((laws_heldBoolS.f k bt282.2 1).bind fun t284 => (if t284 < 0 then (some false) else (if t284 = bt282.1 then ((laws_toIntS.f k l0).bind fun t285 => ((impl_RouteOrder.f k t285).bind fun bt288 => ((laws_eqBoolS.f k bt288.1 t263).bind fun t292 => (if t292 = true then (if (bt288.2 != t264) = true then (some false) else ((laws_heldBoolS.f k bt282.2 1).bind fun t293 => (if t293 < 0 then (some false) else (if t293 = bt282.1 then (some true) else (some false))))) else (some false))))) else (some false))))) else (some false))))) else (some false))))) else (some false)))) = some r := H
    have A5 := Aside0.mk A50
    clear A50
    replace H := Option.bind_eq_some_iff.mp H
    obtain ⟨⟨t270, t271⟩, A60, H⟩ := H
    replace H : ((laws_eqBoolS.f k t270 t263).bind fun t274 => (if t274 = true then (if (t271 != t264) = true then (some false) else ((laws_toIntS.f k l0).bind fun t275 => ((laws_eqIntS.f k t267 t275).bind fun t278 => (if t278 = true then ((laws_markIntS.f k t267 1).bind fun bt279 => (if bt279.1 < 0 then (some false) else ((laws_eqBoolS.f k t270 t263).bind fun t281 => (if t281 = true then ((laws_markBoolS.f k t270 1).bind fun bt282 => ((laws_heldBoolS.f k bt282.2 1).bind fun t284 => (if t284 < 0 then (some false) else (if t284 = bt282.1 then ((laws_toIntS.f k l0).bind fun t285 => ((impl_RouteOrder.f k t285).bind fun bt288 => ((laws_eqBoolS.f k bt288.1 t263).bind fun t292 => (if t292 = true then (if (bt288.2 != t264) = true then (some false) else ((laws_heldBoolS.f k bt282.2 1).bind fun t293 => (if t293 < 0 then (some false) else (if t293 = bt282.1 then (some true) else (some false))))) else (some false))))) else (some false))))) else (some false))))) else (some false))))) else (some false))) = some r := H
    have A6 := Aside0.mk A60
    clear A60
    replace H := Option.bind_eq_some_iff.mp H
    obtain ⟨t274, A70, H⟩ := H
    replace H : (if t274 = true then (if (t271 != t264) = true then (some false) else ((laws_toIntS.f k l0).bind fun t275 => ((laws_eqIntS.f k t267 t275).bind fun t278 => (if t278 = true then ((laws_markIntS.f k t267 1).bind fun bt279 => (if bt279.1 < 0 then (some false) else ((laws_eqBoolS.f k t270 t263).bind fun t281 => (if t281 = true then ((laws_markBoolS.f k t270 1).bind fun bt282 => ((laws_heldBoolS.f k bt282.2 1).bind fun t284 => (if t284 < 0 then (some false) else (if t284 = bt282.1 then ((laws_toIntS.f k l0).bind fun t285 => ((impl_RouteOrder.f k t285).bind fun bt288 => ((laws_eqBoolS.f k bt288.1 t263).bind fun t292 => (if t292 = true then (if (bt288.2 != t264) = true then (some false) else ((laws_heldBoolS.f k bt282.2 1).bind fun t293 => (if t293 < 0 then (some false) else (if t293 = bt282.1 then (some true) else (some false))))) else (some false))))) else (some false))))) else (some false))))) else (some false))))) else (some false)) = some r := H
    have A7 := Aside0.mk A70
    clear A70
    by_cases c8 : t274 = true
    · subst c8
      have H1 : (if (t271 != t264) = true then (some false) else ((laws_toIntS.f k l0).bind fun t275 => ((laws_eqIntS.f k t267 t275).bind fun t278 => (if t278 = true then ((laws_markIntS.f k t267 1).bind fun bt279 => (if bt279.1 < 0 then (some false) else ((laws_eqBoolS.f k t270 t263).bind fun t281 => (if t281 = true then ((laws_markBoolS.f k t270 1).bind fun bt282 => ((laws_heldBoolS.f k bt282.2 1).bind fun t284 => (if t284 < 0 then (some false) else (if t284 = bt282.1 then ((laws_toIntS.f k l0).bind fun t285 => ((impl_RouteOrder.f k t285).bind fun bt288 => ((laws_eqBoolS.f k bt288.1 t263).bind fun t292 => (if t292 = true then (if (bt288.2 != t264) = true then (some false) else ((laws_heldBoolS.f k bt282.2 1).bind fun t293 => (if t293 < 0 then (some false) else (if t293 = bt282.1 then (some true) else (some false))))) else (some false))))) else (some false))))) else (some false))))) else (some false))))) = some r := by rw [if_pos rfl] at H; exact H
      clear H
      have H := H1
      clear H1
      by_cases c9 : (t271 != t264) = true
      · rw [if_pos c9] at H
        have c9b0 : (t271 != t264) = true := c9
        (try (have c9b1 : decide (t271 = t264) = false := by simpa using c9))
        (try (have c9b2 : (t271 == t264) = false := by simpa using c9))
        (try (have c9b3 : ¬ (t271 = t264) := by simpa using c9))
        clear c9
        obtain rfl := Option.some.inj H
        exact absurd hr_.out (by simp)
      · rw [if_neg c9] at H
        have c9b0 : (t271 != t264) = false := by simpa using c9
        (try (have c9b1 : decide (t271 = t264) = true := by simpa using c9))
        (try (have c9b2 : (t271 == t264) = true := by simpa using c9))
        clear c9
        replace H := Option.bind_eq_some_iff.mp H
        obtain ⟨t275, A100, H⟩ := H
        replace H : ((laws_eqIntS.f k t267 t275).bind fun t278 => (if t278 = true then ((laws_markIntS.f k t267 1).bind fun bt279 => (if bt279.1 < 0 then (some false) else ((laws_eqBoolS.f k t270 t263).bind fun t281 => (if t281 = true then ((laws_markBoolS.f k t270 1).bind fun bt282 => ((laws_heldBoolS.f k bt282.2 1).bind fun t284 => (if t284 < 0 then (some false) else (if t284 = bt282.1 then ((laws_toIntS.f k l0).bind fun t285 => ((impl_RouteOrder.f k t285).bind fun bt288 => ((laws_eqBoolS.f k bt288.1 t263).bind fun t292 => (if t292 = true then (if (bt288.2 != t264) = true then (some false) else ((laws_heldBoolS.f k bt282.2 1).bind fun t293 => (if t293 < 0 then (some false) else (if t293 = bt282.1 then (some true) else (some false))))) else (some false))))) else (some false))))) else (some false))))) else (some false))) = some r := H
        have A10 := Aside0.mk A100
        clear A100
        replace H := Option.bind_eq_some_iff.mp H
        obtain ⟨t278, A110, H⟩ := H
        replace H : (if t278 = true then ((laws_markIntS.f k t267 1).bind fun bt279 => (if bt279.1 < 0 then (some false) else ((laws_eqBoolS.f k t270 t263).bind fun t281 => (if t281 = true then ((laws_markBoolS.f k t270 1).bind fun bt282 => ((laws_heldBoolS.f k bt282.2 1).bind fun t284 => (if t284 < 0 then (some false) else (if t284 = bt282.1 then ((laws_toIntS.f k l0).bind fun t285 => ((impl_RouteOrder.f k t285).bind fun bt288 => ((laws_eqBoolS.f k bt288.1 t263).bind fun t292 => (if t292 = true then (if (bt288.2 != t264) = true then (some false) else ((laws_heldBoolS.f k bt282.2 1).bind fun t293 => (if t293 < 0 then (some false) else (if t293 = bt282.1 then (some true) else (some false))))) else (some false))))) else (some false))))) else (some false))))) else (some false)) = some r := H
        have A11 := Aside0.mk A110
        clear A110
        by_cases c12 : t278 = true
        · subst c12
          have H1 : ((laws_markIntS.f k t267 1).bind fun bt279 => (if bt279.1 < 0 then (some false) else ((laws_eqBoolS.f k t270 t263).bind fun t281 => (if t281 = true then ((laws_markBoolS.f k t270 1).bind fun bt282 => ((laws_heldBoolS.f k bt282.2 1).bind fun t284 => (if t284 < 0 then (some false) else (if t284 = bt282.1 then ((laws_toIntS.f k l0).bind fun t285 => ((impl_RouteOrder.f k t285).bind fun bt288 => ((laws_eqBoolS.f k bt288.1 t263).bind fun t292 => (if t292 = true then (if (bt288.2 != t264) = true then (some false) else ((laws_heldBoolS.f k bt282.2 1).bind fun t293 => (if t293 < 0 then (some false) else (if t293 = bt282.1 then (some true) else (some false))))) else (some false))))) else (some false))))) else (some false))))) = some r := by rw [if_pos rfl] at H; exact H
          clear H
          have H := H1
          clear H1
          replace H := Option.bind_eq_some_iff.mp H
          obtain ⟨⟨t279, t280⟩, A130, H⟩ := H
          replace H : (if t279 < 0 then (some false) else ((laws_eqBoolS.f k t270 t263).bind fun t281 => (if t281 = true then ((laws_markBoolS.f k t270 1).bind fun bt282 => ((laws_heldBoolS.f k bt282.2 1).bind fun t284 => (if t284 < 0 then (some false) else (if t284 = bt282.1 then ((laws_toIntS.f k l0).bind fun t285 => ((impl_RouteOrder.f k t285).bind fun bt288 => ((laws_eqBoolS.f k bt288.1 t263).bind fun t292 => (if t292 = true then (if (bt288.2 != t264) = true then (some false) else ((laws_heldBoolS.f k bt282.2 1).bind fun t293 => (if t293 < 0 then (some false) else (if t293 = bt282.1 then (some true) else (some false))))) else (some false))))) else (some false))))) else (some false)))) = some r := H
          have A13 := Aside0.mk A130
          clear A130
          by_cases c14 : t279 < 0
          · rw [if_pos c14] at H
            have c14b0 : decide (t279 < 0) = true := decide_eq_true c14
            clear c14
            obtain rfl := Option.some.inj H
            exact absurd hr_.out (by simp)
          · rw [if_neg c14] at H
            have c14b0 : decide (t279 < 0) = false := decide_eq_false c14
            clear c14
            replace H := Option.bind_eq_some_iff.mp H
            obtain ⟨t281, A150, H⟩ := H
            replace H : (if t281 = true then ((laws_markBoolS.f k t270 1).bind fun bt282 => ((laws_heldBoolS.f k bt282.2 1).bind fun t284 => (if t284 < 0 then (some false) else (if t284 = bt282.1 then ((laws_toIntS.f k l0).bind fun t285 => ((impl_RouteOrder.f k t285).bind fun bt288 => ((laws_eqBoolS.f k bt288.1 t263).bind fun t292 => (if t292 = true then (if (bt288.2 != t264) = true then (some false) else ((laws_heldBoolS.f k bt282.2 1).bind fun t293 => (if t293 < 0 then (some false) else (if t293 = bt282.1 then (some true) else (some false))))) else (some false))))) else (some false))))) else (some false)) = some r := H
            have A15 := Aside0.mk A150
            clear A150
            by_cases c16 : t281 = true
            · subst c16
              have H1 : ((laws_markBoolS.f k t270 1).bind fun bt282 => ((laws_heldBoolS.f k bt282.2 1).bind fun t284 => (if t284 < 0 then (some false) else (if t284 = bt282.1 then ((laws_toIntS.f k l0).bind fun t285 => ((impl_RouteOrder.f k t285).bind fun bt288 => ((laws_eqBoolS.f k bt288.1 t263).bind fun t292 => (if t292 = true then (if (bt288.2 != t264) = true then (some false) else ((laws_heldBoolS.f k bt282.2 1).bind fun t293 => (if t293 < 0 then (some false) else (if t293 = bt282.1 then (some true) else (some false))))) else (some false))))) else (some false))))) = some r := by rw [if_pos rfl] at H; exact H
              clear H
              have H := H1
              clear H1
              replace H := Option.bind_eq_some_iff.mp H
              obtain ⟨⟨t282, t283⟩, A170, H⟩ := H
              replace H : ((laws_heldBoolS.f k t283 1).bind fun t284 => (if t284 < 0 then (some false) else (if t284 = t282 then ((laws_toIntS.f k l0).bind fun t285 => ((impl_RouteOrder.f k t285).bind fun bt288 => ((laws_eqBoolS.f k bt288.1 t263).bind fun t292 => (if t292 = true then (if (bt288.2 != t264) = true then (some false) else ((laws_heldBoolS.f k t283 1).bind fun t293 => (if t293 < 0 then (some false) else (if t293 = t282 then (some true) else (some false))))) else (some false))))) else (some false)))) = some r := H
              have A17 := Aside0.mk A170
              clear A170
              replace H := Option.bind_eq_some_iff.mp H
              obtain ⟨t284, A180, H⟩ := H
              replace H : (if t284 < 0 then (some false) else (if t284 = t282 then ((laws_toIntS.f k l0).bind fun t285 => ((impl_RouteOrder.f k t285).bind fun bt288 => ((laws_eqBoolS.f k bt288.1 t263).bind fun t292 => (if t292 = true then (if (bt288.2 != t264) = true then (some false) else ((laws_heldBoolS.f k t283 1).bind fun t293 => (if t293 < 0 then (some false) else (if t293 = t282 then (some true) else (some false))))) else (some false))))) else (some false))) = some r := H
              have A18 := Aside0.mk A180
              clear A180
              by_cases c19 : t284 < 0
              · rw [if_pos c19] at H
                have c19b0 : decide (t284 < 0) = true := decide_eq_true c19
                clear c19
                obtain rfl := Option.some.inj H
                exact absurd hr_.out (by simp)
              · rw [if_neg c19] at H
                have c19b0 : decide (t284 < 0) = false := decide_eq_false c19
                clear c19
                by_cases c20 : t284 = t282
                · rw [if_pos c20] at H
                  have c20b0 : (t284 == t282) = true := beq_iff_eq.mpr c20
                  have c20b1 : (t284 != t282) = false := bne_eq_false_iff_eq.mpr c20
                  clear c20
                  replace H := Option.bind_eq_some_iff.mp H
                  obtain ⟨t285, A210, H⟩ := H
                  replace H : ((impl_RouteOrder.f k t285).bind fun bt288 => ((laws_eqBoolS.f k bt288.1 t263).bind fun t292 => (if t292 = true then (if (bt288.2 != t264) = true then (some false) else ((laws_heldBoolS.f k t283 1).bind fun t293 => (if t293 < 0 then (some false) else (if t293 = t282 then (some true) else (some false))))) else (some false)))) = some r := H
                  have A21 := Aside0.mk A210
                  clear A210
                  replace H := Option.bind_eq_some_iff.mp H
                  obtain ⟨⟨t288, t289⟩, A220, H⟩ := H
                  replace H : ((laws_eqBoolS.f k t288 t263).bind fun t292 => (if t292 = true then (if (t289 != t264) = true then (some false) else ((laws_heldBoolS.f k t283 1).bind fun t293 => (if t293 < 0 then (some false) else (if t293 = t282 then (some true) else (some false))))) else (some false))) = some r := H
                  have A22 := Aside0.mk A220
                  clear A220
                  replace H := Option.bind_eq_some_iff.mp H
                  obtain ⟨t292, A230, H⟩ := H
                  replace H : (if t292 = true then (if (t289 != t264) = true then (some false) else ((laws_heldBoolS.f k t283 1).bind fun t293 => (if t293 < 0 then (some false) else (if t293 = t282 then (some true) else (some false))))) else (some false)) = some r := H
                  have A23 := Aside0.mk A230
                  clear A230
                  by_cases c24 : t292 = true
                  · subst c24
                    have H1 : (if (t289 != t264) = true then (some false) else ((laws_heldBoolS.f k t283 1).bind fun t293 => (if t293 < 0 then (some false) else (if t293 = t282 then (some true) else (some false))))) = some r := by rw [if_pos rfl] at H; exact H
                    clear H
                    have H := H1
                    clear H1
                    by_cases c25 : (t289 != t264) = true
                    · rw [if_pos c25] at H
                      have c25b0 : (t289 != t264) = true := c25
                      (try (have c25b1 : decide (t289 = t264) = false := by simpa using c25))
                      (try (have c25b2 : (t289 == t264) = false := by simpa using c25))
                      (try (have c25b3 : ¬ (t289 = t264) := by simpa using c25))
                      clear c25
                      obtain rfl := Option.some.inj H
                      exact absurd hr_.out (by simp)
                    · rw [if_neg c25] at H
                      have c25b0 : (t289 != t264) = false := by simpa using c25
                      (try (have c25b1 : decide (t289 = t264) = true := by simpa using c25))
                      (try (have c25b2 : (t289 == t264) = true := by simpa using c25))
                      clear c25
                      replace H := Option.bind_eq_some_iff.mp H
                      obtain ⟨t293, A260, H⟩ := H
                      replace H : (if t293 < 0 then (some false) else (if t293 = t282 then (some true) else (some false))) = some r := H
                      have A26 := Aside0.mk A260
                      clear A260
                      by_cases c27 : t293 < 0
                      · rw [if_pos c27] at H
                        have c27b0 : decide (t293 < 0) = true := decide_eq_true c27
                        clear c27
                        obtain rfl := Option.some.inj H
                        exact absurd hr_.out (by simp)
                      · rw [if_neg c27] at H
                        have c27b0 : decide (t293 < 0) = false := decide_eq_false c27
                        clear c27
                        by_cases c28 : t293 = t282
                        · rw [if_pos c28] at H
                          have c28b0 : (t293 == t282) = true := beq_iff_eq.mpr c28
                          have c28b1 : (t293 != t282) = false := bne_eq_false_iff_eq.mpr c28
                          clear c28
                          obtain rfl := Option.some.inj H
                          simp only [Option.some.injEq, Prod.mk.injEq] at H
                          obtain ⟨rfl⟩ := H
                          go_enter Try.func3, Try.ntmps3
                          go_wp2_with (first | ((with_reducible refine gate_callee (f := 6) rfl ?_); refine goesL_ (some 18) rfl rfl Try.func6 (by kernel_rfl) rfl #[.slice A0 l0.length c0] rfl (by (try simp only [List.map_toArray, List.map_cons, List.map_nil]); first | done | rfl | (simp only [List.length_drop, List.length_take]; rfl)) ?_; (with_reducible refine (laws_toIntS.calls k _ _ l0 t260 _ ?side1 ?side2 A3.out).mono ?_); (case side1 => repeat (first | exact HR0.out | (with_reducible refine Kd.C_alloc ?_ _) | (with_reducible refine Kd.C_drewN ?_ _) | (with_reducible refine Kd.C_drew ?_))); (case side2 => exact HC0.out); rintro e w29 ⟨v261, rfl, ho0, hb⟩; refine ⟨_, rfl, ?_⟩; have n0_ := Aside0.mk (Kd.R_lower ho0 (below_size (by repeat (first | (with_reducible first | exact HB.out | apply below_alloc | apply pw_below_drewN | apply below_drew1) | exact HB.out)))); have n1_ := Aside0.mk (below_step (by repeat (first | (with_reducible first | exact HB.out | apply below_alloc | apply pw_below_drewN | apply below_drew1) | exact HB.out)) hb); clear HB; have HO262 := n0_; have HB := n1_; clear n0_ n1_; (try clear hb); (try clear hb2); (try clear hk); (try clear hi); (try clear ho0); obtain ⟨Ao30, co30, eo30⟩ := Kd.R_slice HO262.out; subst eo30) | ((with_reducible refine gate_callee (f := 5) rfl ?_); refine goesL_ (some 19) rfl rfl Try.func5 (by kernel_rfl) rfl #[.slice Ao30 t260.length co30] rfl (by (try simp only [List.map_toArray, List.map_cons, List.map_nil]); first | done | rfl | (simp only [List.length_drop, List.length_take]; rfl)) ?_; (with_reducible refine (spec_RouteOrder.calls k _ _ t260 t263 t264 _ ?side1 ?side2 A4.out).mono ?_); (case side1 => repeat (first | exact (Kd.R_reads' HO262.out).2.2 | (with_reducible refine Kd.C_alloc ?_ _) | (with_reducible refine Kd.C_drewN ?_ _) | (with_reducible refine Kd.C_drew ?_))); (case side2 => exact (Kd.R_reads' HO262.out).2.1); rintro e w31 ⟨v265, rfl, ho0, hb⟩; refine ⟨_, rfl, ?_⟩; have n0_ := Aside0.mk (Kd.R_below (by (with_reducible repeat (first | apply Kd.R_alloc | apply Kd.R_drewN | apply Kd.R_drew)); exact HO262.out) hb); have n1_ := Aside0.mk (Kd.R_lower ho0 (below_size (by repeat (first | (with_reducible first | exact HB.out | apply below_alloc | apply pw_below_drewN | apply below_drew1) | exact HB.out)))); have n2_ := Aside0.mk (below_step (by repeat (first | (with_reducible first | exact HB.out | apply below_alloc | apply pw_below_drewN | apply below_drew1) | exact HB.out)) hb); clear HO262; clear HB; have HO262 := n0_; have HO266 := n1_; have HB := n2_; clear n0_ n1_ n2_; (try clear hb); (try clear hb2); (try clear hk); (try clear hi); (try clear ho0)) | ((with_reducible refine gate_callee (f := 6) rfl ?_); refine goesL_ (some 23) rfl rfl Try.func6 (by kernel_rfl) rfl #[.slice A0 l0.length c0] rfl (by (try simp only [List.map_toArray, List.map_cons, List.map_nil]); first | done | rfl | (simp only [List.length_drop, List.length_take]; rfl)) ?_; (with_reducible refine (laws_toIntS.calls k _ _ l0 t267 _ ?side1 ?side2 A5.out).mono ?_); (case side1 => repeat (first | exact (Kd.C_below HR0.out HB.out) | (with_reducible refine Kd.C_alloc ?_ _) | (with_reducible refine Kd.C_drewN ?_ _) | (with_reducible refine Kd.C_drew ?_))); (case side2 => exact HC0.out); rintro e w32 ⟨v268, rfl, ho0, hb⟩; refine ⟨_, rfl, ?_⟩; have n0_ := Aside0.mk (Kd.R_elder' (by (with_reducible repeat (first | apply Kd.R_alloc | apply Kd.R_drewN | apply Kd.R_drew)); exact HO262.out) (Kd.R_base ho0) hb); have n1_ := Aside0.mk (Kd.R_below (by (with_reducible repeat (first | apply Kd.R_alloc | apply Kd.R_drewN | apply Kd.R_drew)); exact HO266.out) hb); have n2_ := Aside0.mk (Kd.R_lower (Kd.R_new' ho0 (Kd.R_lt (by (with_reducible repeat (first | apply Kd.R_alloc | apply Kd.R_drewN | apply Kd.R_drew)); exact HO262.out))) (below_size (by repeat (first | (with_reducible first | exact HB.out | apply below_alloc | apply pw_below_drewN | apply below_drew1) | exact HB.out)))); have n3_ := Aside0.mk (below_step (by repeat (first | (with_reducible first | exact HB.out | apply below_alloc | apply pw_below_drewN | apply below_drew1) | exact HB.out)) hb); clear HO262; clear HO266; clear HB; have HO262 := n0_; have HO266 := n1_; have HO269 := n2_; have HB := n3_; clear n0_ n1_ n2_ n3_; (try clear hb); (try clear hb2); (try clear hk); (try clear hi); (try clear ho0); obtain ⟨Ao33, co33, eo33⟩ := Kd.R_slice HO269.out; subst eo33) | ((with_reducible refine gate_callee (f := 7) rfl ?_); refine goesL_ (some 26) rfl rfl Try.func7 (by kernel_rfl) rfl #[.slice Ao33 t267.length co33] rfl (by (try simp only [List.map_toArray, List.map_cons, List.map_nil]); first | done | rfl | (simp only [List.length_drop, List.length_take]; rfl)) ?_; (with_reducible refine (impl_RouteOrder.calls k _ _ t267 t270 t271 _ ?side1 ?side2 A6.out).mono ?_); (case side1 => repeat (first | exact (Kd.R_reads' HO269.out).2.2 | (with_reducible refine Kd.C_alloc ?_ _) | (with_reducible refine Kd.C_drewN ?_ _) | (with_reducible refine Kd.C_drew ?_))); (case side2 => exact (Kd.R_reads' HO269.out).2.1); rintro e w34 ⟨v272, rfl, ho0, hb⟩; refine ⟨_, rfl, ?_⟩; have n0_ := Aside0.mk (Kd.R_below (by (with_reducible repeat (first | apply Kd.R_alloc | apply Kd.R_drewN | apply Kd.R_drew)); exact HO262.out) hb); have n1_ := Aside0.mk (Kd.R_elder' (by (with_reducible repeat (first | apply Kd.R_alloc | apply Kd.R_drewN | apply Kd.R_drew)); exact HO266.out) (Kd.R_base ho0) hb); have n2_ := Aside0.mk (Kd.R_below (by (with_reducible repeat (first | apply Kd.R_alloc | apply Kd.R_drewN | apply Kd.R_drew)); exact HO269.out) hb); have n3_ := Aside0.mk (Kd.R_lower (Kd.R_new' ho0 (Kd.R_lt (by (with_reducible repeat (first | apply Kd.R_alloc | apply Kd.R_drewN | apply Kd.R_drew)); exact HO266.out))) (below_size (by repeat (first | (with_reducible first | exact HB.out | apply below_alloc | apply pw_below_drewN | apply below_drew1) | exact HB.out)))); have n4_ := Aside0.mk (below_step (by repeat (first | (with_reducible first | exact HB.out | apply below_alloc | apply pw_below_drewN | apply below_drew1) | exact HB.out)) hb); clear HO262; clear HO266; clear HO269; clear HB; have HO262 := n0_; have HO266 := n1_; have HO269 := n2_; have HO273 := n3_; have HB := n4_; clear n0_ n1_ n2_ n3_ n4_; (try clear hb); (try clear hb2); (try clear hk); (try clear hi); (try clear ho0); obtain ⟨Ao35, co35, eo35⟩ := Kd.R_slice HO273.out; subst eo35; obtain ⟨Ao36, co36, eo36⟩ := Kd.R_slice HO266.out; subst eo36) | ((with_reducible refine gate_callee (f := 8) rfl ?_); refine goesL_ (some 31) rfl rfl Try.func8 (by kernel_rfl) rfl #[.slice Ao35 t270.length co35, .slice Ao36 t263.length co36] rfl (by (try simp only [List.map_toArray, List.map_cons, List.map_nil]); first | done | rfl | (simp only [List.length_drop, List.length_take]; rfl)) ?_; (with_reducible refine (laws_eqBoolS.calls k _ _ t270 _ _ t263 true _ ?side1 ?side2 ?side3 ?side4 A7.out).mono ?_); (case side1 => repeat (first | exact (Kd.R_reads' HO273.out).2.2 | (with_reducible refine Kd.C_alloc ?_ _) | (with_reducible refine Kd.C_drewN ?_ _) | (with_reducible refine Kd.C_drew ?_))); (case side2 => exact (Kd.R_reads' HO273.out).2.1); (case side3 => repeat (first | exact (Kd.R_reads' HO266.out).2.2 | (with_reducible refine Kd.C_alloc ?_ _) | (with_reducible refine Kd.C_drewN ?_ _) | (with_reducible refine Kd.C_drew ?_))); (case side4 => exact (Kd.R_reads' HO266.out).2.1); rintro e w' ⟨rfl, ⟨nd, rfl⟩⟩; refine ⟨_, rfl, ?_⟩) | ((with_reducible refine gate_callee (f := 6) rfl ?_); refine goesL_ (some 40) rfl rfl Try.func6 (by kernel_rfl) rfl #[.slice A0 l0.length c0] rfl (by (try simp only [List.map_toArray, List.map_cons, List.map_nil]); first | done | rfl | (simp only [List.length_drop, List.length_take]; rfl)) ?_; (with_reducible refine (laws_toIntS.calls k _ _ l0 t275 _ ?side1 ?side2 A10.out).mono ?_); (case side1 => repeat (first | exact (Kd.C_below HR0.out (by repeat (first | (with_reducible first | exact HB.out | apply below_alloc | apply pw_below_drewN | apply below_drew1) | exact HB.out))) | (with_reducible refine Kd.C_alloc ?_ _) | (with_reducible refine Kd.C_drewN ?_ _) | (with_reducible refine Kd.C_drew ?_))); (case side2 => exact HC0.out); rintro e w37 ⟨v276, rfl, ho0, hb⟩; refine ⟨_, rfl, ?_⟩; have n0_ := Aside0.mk (Kd.R_elder' (by (with_reducible repeat (first | apply Kd.R_alloc | apply Kd.R_drewN | apply Kd.R_drew)); exact HO262.out) (Kd.R_base ho0) hb); have n1_ := Aside0.mk (Kd.R_below (by (with_reducible repeat (first | apply Kd.R_alloc | apply Kd.R_drewN | apply Kd.R_drew)); exact HO266.out) hb); have n2_ := Aside0.mk (Kd.R_elder' (by (with_reducible repeat (first | apply Kd.R_alloc | apply Kd.R_drewN | apply Kd.R_drew)); exact HO269.out) (Kd.R_base ho0) hb); have n3_ := Aside0.mk (Kd.R_below (by (with_reducible repeat (first | apply Kd.R_alloc | apply Kd.R_drewN | apply Kd.R_drew)); exact HO273.out) hb); have n4_ := Aside0.mk (Kd.R_lower (Kd.R_new' (Kd.R_new' ho0 (Kd.R_lt (by (with_reducible repeat (first | apply Kd.R_alloc | apply Kd.R_drewN | apply Kd.R_drew)); exact HO262.out))) (Kd.R_lt (by (with_reducible repeat (first | apply Kd.R_alloc | apply Kd.R_drewN | apply Kd.R_drew)); exact HO269.out))) (below_size (by repeat (first | (with_reducible first | exact HB.out | apply below_alloc | apply pw_below_drewN | apply below_drew1) | exact HB.out)))); have n5_ := Aside0.mk (below_step (by repeat (first | (with_reducible first | exact HB.out | apply below_alloc | apply pw_below_drewN | apply below_drew1) | exact HB.out)) hb); clear HO262; clear HO266; clear HO269; clear HO273; clear HB; have HO262 := n0_; have HO266 := n1_; have HO269 := n2_; have HO273 := n3_; have HO277 := n4_; have HB := n5_; clear n0_ n1_ n2_ n3_ n4_ n5_; (try clear hb); (try clear hb2); (try clear hk); (try clear hi); (try clear ho0); obtain ⟨Ao38, co38, eo38⟩ := Kd.R_slice HO277.out; subst eo38) | ((with_reducible refine gate_callee (f := 9) rfl ?_); refine goesL_ (some 41) rfl rfl Try.func9 (by kernel_rfl) rfl #[.slice Ao33 t267.length co33, .slice Ao38 t275.length co38] rfl (by (try simp only [List.map_toArray, List.map_cons, List.map_nil]); first | done | rfl | (simp only [List.length_drop, List.length_take]; rfl)) ?_; (with_reducible refine (laws_eqIntS.calls k _ _ t267 _ _ t275 true _ ?side1 ?side2 ?side3 ?side4 A11.out).mono ?_); (case side1 => repeat (first | exact (Kd.R_reads' HO269.out).2.2 | (with_reducible refine Kd.C_alloc ?_ _) | (with_reducible refine Kd.C_drewN ?_ _) | (with_reducible refine Kd.C_drew ?_))); (case side2 => exact (Kd.R_reads' HO269.out).2.1); (case side3 => repeat (first | exact (Kd.R_reads' HO277.out).2.2 | (with_reducible refine Kd.C_alloc ?_ _) | (with_reducible refine Kd.C_drewN ?_ _) | (with_reducible refine Kd.C_drew ?_))); (case side4 => exact (Kd.R_reads' HO277.out).2.1); rintro e w' ⟨rfl, ⟨nd, rfl⟩⟩; refine ⟨_, rfl, ?_⟩) | ((with_reducible refine gate_callee (f := 10) rfl ?_); refine goesL_ (some 45) rfl rfl Try.func10 (by kernel_rfl) rfl #[.slice Ao33 t267.length co33, .int .i64 1] rfl (by (try simp only [List.map_toArray, List.map_cons, List.map_nil]); first | done | rfl | (simp only [List.length_drop, List.length_take]; rfl)) ?_; (with_reducible refine (laws_markIntS.calls k (fun k_ => some k_ = (.slice Ao33 t267.length co33 : Value).ownBlock) (.slice Ao33 t267.length co33) t267 1 t279 t280 w _ ?side1 ?side2 A13.out).mono ?_); (case side1 => repeat (first | (with_reducible first | exact HB.out | apply below_alloc | apply pw_below_drewN | apply below_drew1) | exact HB.out)); (case side2 => exact Kd.R_tight rfl HO269.out); rintro e w39 ⟨rfl, hy0, hb, hkp⟩; refine ⟨_, rfl, ?_⟩; have n0_ := Aside0.mk (Kd.R_mono (ok' := fun k_ => some k_ ≠ (.slice Ao33 t267.length co33 : Value).ownBlock ∧ some k_ ≠ (.slice Ao38 t275.length co38 : Value).ownBlock) (Kd.R_keptB (HO262.out) hkp (fun k_ hk_ hs_ => (hk_.1.2) hs_)) (fun k_ hk_ => ⟨hk_.1.1.2, hk_.1.2⟩)); have n1_ := Aside0.mk (Kd.R_mono (ok' := fun k_ => some k_ ≠ (.slice Ao35 t270.length co35 : Value).ownBlock) (Kd.R_keptB ((Kd.R_apart' HO266.out (Kd.R_typed HO269.out) (by decide))) hkp (fun k_ hk_ hs_ => (hk_.2) hs_)) (fun k_ hk_ => hk_.1.1.2)); have n2_ := Aside0.mk (Kd.R_reok rfl hy0 (fun k_ e_ => HO269.out.1 k_ e_)); have n3_ := Aside0.mk (Kd.R_mono (ok' := fun k_ => some k_ ≠ (.slice Ao36 t263.length co36 : Value).ownBlock) (Kd.R_keptB ((Kd.R_apart' HO273.out (Kd.R_typed HO269.out) (by decide))) hkp (fun k_ hk_ hs_ => (hk_.2) hs_)) (fun k_ hk_ => hk_.1.1.2)); have n4_ := Aside0.mk (Kd.R_mono (ok' := fun k_ => some k_ ≠ (.slice Ao30 t260.length co30 : Value).ownBlock ∧ some k_ ≠ (.slice Ao33 t267.length co33 : Value).ownBlock) (Kd.R_keptB (HO277.out) hkp (fun k_ hk_ hs_ => (hk_.2) hs_)) (fun k_ hk_ => ⟨hk_.1.1.2, hk_.1.2⟩)); have n5_ := Aside0.mk (hb); clear HO262; clear HO266; clear HO269; clear HO273; clear HO277; clear HB; have HO262 := n0_; have HO266 := n1_; have HO269 := n2_; have HO273 := n3_; have HO277 := n4_; have HB := n5_; clear n0_ n1_ n2_ n3_ n4_ n5_; (try clear hb); (try clear hkp); (try clear hy0)) | (go_at_call 8; (with_reducible refine (laws_eqBoolS.calls k _ _ t270 _ _ t263 true _ ?side1 ?side2 ?side3 ?side4 A15.out).mono ?_); (case side1 => repeat (first | exact (Kd.R_reads' HO273.out).2.2 | (with_reducible refine Kd.C_alloc ?_ _) | (with_reducible refine Kd.C_drewN ?_ _) | (with_reducible refine Kd.C_drew ?_))); (case side2 => exact (Kd.R_reads' HO273.out).2.1); (case side3 => repeat (first | exact (Kd.R_reads' HO266.out).2.2 | (with_reducible refine Kd.C_alloc ?_ _) | (with_reducible refine Kd.C_drewN ?_ _) | (with_reducible refine Kd.C_drew ?_))); (case side4 => exact (Kd.R_reads' HO266.out).2.1); rintro e w' ⟨rfl, ⟨nd, rfl⟩⟩) | ((with_reducible refine gate_callee (f := 11) rfl ?_); refine goesL_ (some 61) rfl rfl Try.func11 (by kernel_rfl) rfl #[.slice Ao35 t270.length co35, .int .i64 1] rfl (by (try simp only [List.map_toArray, List.map_cons, List.map_nil]); first | done | rfl | (simp only [List.length_drop, List.length_take]; rfl)) ?_; (with_reducible refine (laws_markBoolS.calls k (fun k_ => some k_ = (.slice Ao35 t270.length co35 : Value).ownBlock) (.slice Ao35 t270.length co35) t270 1 t282 t283 w _ ?side1 ?side2 A17.out).mono ?_); (case side1 => repeat (first | (with_reducible first | exact HB.out | apply below_alloc | apply pw_below_drewN | apply below_drew1) | exact HB.out)); (case side2 => exact Kd.R_tight rfl HO273.out); rintro e w40 ⟨rfl, hy0, hb, hkp⟩; refine ⟨_, rfl, ?_⟩; have n0_ := Aside0.mk (Kd.R_mono (ok' := fun k_ => some k_ ≠ (.slice Ao33 t267.length co33 : Value).ownBlock ∧ some k_ ≠ (.slice Ao38 t275.length co38 : Value).ownBlock) (Kd.R_keptB ((Kd.R_apart' HO262.out (Kd.R_typed HO273.out) (by decide))) hkp (fun k_ hk_ hs_ => (hk_.2) hs_)) (fun k_ hk_ => ⟨hk_.1.1.1, hk_.1.1.2⟩)); have n1_ := Aside0.mk (Kd.R_mono (ok' := fun k_ => some k_ ≠ (.slice Ao35 t270.length co35 : Value).ownBlock) (Kd.R_keptB (HO266.out) hkp (fun k_ hk_ hs_ => (hk_) hs_)) (fun k_ hk_ => hk_.1)); have n2_ := Aside0.mk (Kd.R_mono (ok' := fun k_ => some k_ ≠ (.slice Ao30 t260.length co30 : Value).ownBlock ∧ some k_ ≠ (.slice Ao38 t275.length co38 : Value).ownBlock) (Kd.R_keptB ((Kd.R_apart' HO269.out (Kd.R_typed HO273.out) (by decide))) hkp (fun k_ hk_ hs_ => (hk_.2) hs_)) (fun k_ hk_ => ⟨hk_.1.1.1.2, hk_.1.1.2⟩)); have n3_ := Aside0.mk (Kd.R_reok rfl hy0 (fun k_ e_ => HO273.out.1 k_ e_)); have n4_ := Aside0.mk (Kd.R_mono (ok' := fun k_ => some k_ ≠ (.slice Ao30 t260.length co30 : Value).ownBlock ∧ some k_ ≠ (.slice Ao33 t267.length co33 : Value).ownBlock) (Kd.R_keptB ((Kd.R_apart' HO277.out (Kd.R_typed HO273.out) (by decide))) hkp (fun k_ hk_ hs_ => (hk_.2) hs_)) (fun k_ hk_ => ⟨hk_.1.1.1, hk_.1.1.2⟩)); have n5_ := Aside0.mk (hb); clear HO262; clear HO266; clear HO269; clear HO273; clear HO277; clear HB; have HO262 := n0_; have HO266 := n1_; have HO269 := n2_; have HO273 := n3_; have HO277 := n4_; have HB := n5_; clear n0_ n1_ n2_ n3_ n4_ n5_; (try clear hb); (try clear hkp); (try clear hy0)) | ((with_reducible refine gate_callee (f := 12) rfl ?_); refine goesL_ (some 64) rfl rfl Try.func12 (by kernel_rfl) rfl #[.slice Ao35 t283.length co35, .int .i64 1] rfl (by (try simp only [List.map_toArray, List.map_cons, List.map_nil]); first | done | (rw [show t283.length = t270.length from (Kd.R_reads' HO273.out).1.symm] <;> rfl) | rfl | (simp only [List.length_drop, List.length_take]; rfl)) ?_; (with_reducible refine (laws_heldBoolS.calls k _ _ t283 1 t284 _ ?side1 ?side2 A18.out).mono ?_); (case side1 => repeat (first | exact (Kd.R_reads' HO273.out).2.2 | (with_reducible refine Kd.C_alloc ?_ _) | (with_reducible refine Kd.C_drewN ?_ _) | (with_reducible refine Kd.C_drew ?_))); (case side2 => rw [show t283.length = t270.length from (Kd.R_reads' HO273.out).1.symm]; exact (Kd.R_reads' HO273.out).2.1); rintro e w' ⟨rfl, ⟨nd, rfl⟩⟩; refine ⟨_, rfl, ?_⟩) | ((with_reducible refine gate_callee (f := 6) rfl ?_); refine goesL_ (some 72) rfl rfl Try.func6 (by kernel_rfl) rfl #[.slice A0 l0.length c0] rfl (by (try simp only [List.map_toArray, List.map_cons, List.map_nil]); first | done | rfl | (simp only [List.length_drop, List.length_take]; rfl)) ?_; (with_reducible refine (laws_toIntS.calls k _ _ l0 t285 _ ?side1 ?side2 A21.out).mono ?_); (case side1 => repeat (first | exact (Kd.C_below HR0.out (by repeat (first | (with_reducible first | exact HB.out | apply below_alloc | apply pw_below_drewN | apply below_drew1) | exact HB.out))) | (with_reducible refine Kd.C_alloc ?_ _) | (with_reducible refine Kd.C_drewN ?_ _) | (with_reducible refine Kd.C_drew ?_))); (case side2 => exact HC0.out); rintro e w41 ⟨v286, rfl, ho0, hb⟩; refine ⟨_, rfl, ?_⟩; have n0_ := Aside0.mk (Kd.R_elder' (by (with_reducible repeat (first | apply Kd.R_alloc | apply Kd.R_drewN | apply Kd.R_drew)); exact HO262.out) (Kd.R_base ho0) hb); have n1_ := Aside0.mk (Kd.R_below (by (with_reducible repeat (first | apply Kd.R_alloc | apply Kd.R_drewN | apply Kd.R_drew)); exact HO266.out) hb); have n2_ := Aside0.mk (Kd.R_elder' (by (with_reducible repeat (first | apply Kd.R_alloc | apply Kd.R_drewN | apply Kd.R_drew)); exact HO269.out) (Kd.R_base ho0) hb); have n3_ := Aside0.mk (Kd.R_below (by (with_reducible repeat (first | apply Kd.R_alloc | apply Kd.R_drewN | apply Kd.R_drew)); exact HO273.out) hb); have n4_ := Aside0.mk (Kd.R_elder' (by (with_reducible repeat (first | apply Kd.R_alloc | apply Kd.R_drewN | apply Kd.R_drew)); exact HO277.out) (Kd.R_base ho0) hb); have n5_ := Aside0.mk (Kd.R_lower (Kd.R_new' (Kd.R_new' (Kd.R_new' ho0 (Kd.R_lt (by (with_reducible repeat (first | apply Kd.R_alloc | apply Kd.R_drewN | apply Kd.R_drew)); exact HO262.out))) (Kd.R_lt (by (with_reducible repeat (first | apply Kd.R_alloc | apply Kd.R_drewN | apply Kd.R_drew)); exact HO269.out))) (Kd.R_lt (by (with_reducible repeat (first | apply Kd.R_alloc | apply Kd.R_drewN | apply Kd.R_drew)); exact HO277.out))) (below_size (by repeat (first | (with_reducible first | exact HB.out | apply below_alloc | apply pw_below_drewN | apply below_drew1) | exact HB.out)))); have n6_ := Aside0.mk (below_step (by repeat (first | (with_reducible first | exact HB.out | apply below_alloc | apply pw_below_drewN | apply below_drew1) | exact HB.out)) hb); clear HO262; clear HO266; clear HO269; clear HO273; clear HO277; clear HB; have HO262 := n0_; have HO266 := n1_; have HO269 := n2_; have HO273 := n3_; have HO277 := n4_; have HO287 := n5_; have HB := n6_; clear n0_ n1_ n2_ n3_ n4_ n5_ n6_; (try clear hb); (try clear hb2); (try clear hk); (try clear hi); (try clear ho0); obtain ⟨Ao42, co42, eo42⟩ := Kd.R_slice HO287.out; subst eo42) | ((with_reducible refine gate_callee (f := 7) rfl ?_); refine goesL_ (some 73) rfl rfl Try.func7 (by kernel_rfl) rfl #[.slice Ao42 t285.length co42] rfl (by (try simp only [List.map_toArray, List.map_cons, List.map_nil]); first | done | rfl | (simp only [List.length_drop, List.length_take]; rfl)) ?_; (with_reducible refine (impl_RouteOrder.calls k _ _ t285 t288 t289 _ ?side1 ?side2 A22.out).mono ?_); (case side1 => repeat (first | exact (Kd.R_reads' HO287.out).2.2 | (with_reducible refine Kd.C_alloc ?_ _) | (with_reducible refine Kd.C_drewN ?_ _) | (with_reducible refine Kd.C_drew ?_))); (case side2 => exact (Kd.R_reads' HO287.out).2.1); rintro e w43 ⟨v290, rfl, ho0, hb⟩; refine ⟨_, rfl, ?_⟩; have n0_ := Aside0.mk (Kd.R_below (by (with_reducible repeat (first | apply Kd.R_alloc | apply Kd.R_drewN | apply Kd.R_drew)); exact HO262.out) hb); have n1_ := Aside0.mk (Kd.R_elder' (by (with_reducible repeat (first | apply Kd.R_alloc | apply Kd.R_drewN | apply Kd.R_drew)); exact HO266.out) (Kd.R_base ho0) hb); have n2_ := Aside0.mk (Kd.R_below (by (with_reducible repeat (first | apply Kd.R_alloc | apply Kd.R_drewN | apply Kd.R_drew)); exact HO269.out) hb); have n3_ := Aside0.mk (Kd.R_elder' (by (with_reducible repeat (first | apply Kd.R_alloc | apply Kd.R_drewN | apply Kd.R_drew)); exact HO273.out) (Kd.R_base ho0) hb); have n4_ := Aside0.mk (Kd.R_below (by (with_reducible repeat (first | apply Kd.R_alloc | apply Kd.R_drewN | apply Kd.R_drew)); exact HO277.out) hb); have n5_ := Aside0.mk (Kd.R_below (by (with_reducible repeat (first | apply Kd.R_alloc | apply Kd.R_drewN | apply Kd.R_drew)); exact HO287.out) hb); have n6_ := Aside0.mk (Kd.R_lower (Kd.R_new' (Kd.R_new' ho0 (Kd.R_lt (by (with_reducible repeat (first | apply Kd.R_alloc | apply Kd.R_drewN | apply Kd.R_drew)); exact HO266.out))) (Kd.R_lt (by (with_reducible repeat (first | apply Kd.R_alloc | apply Kd.R_drewN | apply Kd.R_drew)); exact HO273.out))) (below_size (by repeat (first | (with_reducible first | exact HB.out | apply below_alloc | apply pw_below_drewN | apply below_drew1) | exact HB.out)))); have n7_ := Aside0.mk (below_step (by repeat (first | (with_reducible first | exact HB.out | apply below_alloc | apply pw_below_drewN | apply below_drew1) | exact HB.out)) hb); clear HO262; clear HO266; clear HO269; clear HO273; clear HO277; clear HO287; clear HB; have HO262 := n0_; have HO266 := n1_; have HO269 := n2_; have HO273 := n3_; have HO277 := n4_; have HO287 := n5_; have HO291 := n6_; have HB := n7_; clear n0_ n1_ n2_ n3_ n4_ n5_ n6_ n7_; (try clear hb); (try clear hb2); (try clear hk); (try clear hi); (try clear ho0); obtain ⟨Ao44, co44, eo44⟩ := Kd.R_slice HO291.out; subst eo44) | ((with_reducible refine gate_callee (f := 8) rfl ?_); refine goesL_ (some 78) rfl rfl Try.func8 (by kernel_rfl) rfl #[.slice Ao44 t288.length co44, .slice Ao36 t263.length co36] rfl (by (try simp only [List.map_toArray, List.map_cons, List.map_nil]); first | done | rfl | (simp only [List.length_drop, List.length_take]; rfl)) ?_; (with_reducible refine (laws_eqBoolS.calls k _ _ t288 _ _ t263 true _ ?side1 ?side2 ?side3 ?side4 A23.out).mono ?_); (case side1 => repeat (first | exact (Kd.R_reads' HO291.out).2.2 | (with_reducible refine Kd.C_alloc ?_ _) | (with_reducible refine Kd.C_drewN ?_ _) | (with_reducible refine Kd.C_drew ?_))); (case side2 => exact (Kd.R_reads' HO291.out).2.1); (case side3 => repeat (first | exact (Kd.R_reads' HO266.out).2.2 | (with_reducible refine Kd.C_alloc ?_ _) | (with_reducible refine Kd.C_drewN ?_ _) | (with_reducible refine Kd.C_drew ?_))); (case side4 => exact (Kd.R_reads' HO266.out).2.1); rintro e w' ⟨rfl, ⟨nd, rfl⟩⟩; refine ⟨_, rfl, ?_⟩) | ((with_reducible refine gate_callee (f := 12) rfl ?_); refine goesL_ (some 87) rfl rfl Try.func12 (by kernel_rfl) rfl #[.slice Ao35 t283.length co35, .int .i64 1] rfl (by (try simp only [List.map_toArray, List.map_cons, List.map_nil]); first | done | (rw [show t283.length = t270.length from (Kd.R_reads' HO273.out).1.symm] <;> rfl) | rfl | (simp only [List.length_drop, List.length_take]; rfl)) ?_; (with_reducible refine (laws_heldBoolS.calls k _ _ t283 1 t293 _ ?side1 ?side2 A26.out).mono ?_); (case side1 => repeat (first | exact (Kd.R_reads' HO273.out).2.2 | (with_reducible refine Kd.C_alloc ?_ _) | (with_reducible refine Kd.C_drewN ?_ _) | (with_reducible refine Kd.C_drew ?_))); (case side2 => rw [show t283.length = t270.length from (Kd.R_reads' HO273.out).1.symm]; exact (Kd.R_reads' HO273.out).2.1); rintro e w' ⟨rfl, ⟨nd, rfl⟩⟩; refine ⟨_, rfl, ?_⟩))
                          go_ret
                          exact ⟨by first | rfl | (simp [errW_none, errW_some] <;> rfl) | (simp [*, errW_none, errW_some] <;> rfl), by repeat (first | (with_reducible first | exact HB.out | apply below_alloc | apply pw_below_drewN | apply below_drew1) | exact HB.out)⟩
                        · rw [if_neg c28] at H
                          have c28b0 : (t293 == t282) = false := beq_eq_false_iff_ne.mpr c28
                          have c28b1 : (t293 != t282) = true := bne_iff_ne.mpr c28
                          obtain rfl := Option.some.inj H
                          exact absurd hr_.out (by simp)
                  · replace c24 := Bool.eq_false_iff.mpr c24
                    subst c24
                    have H1 : (some false) = some r := by rw [if_neg (show ¬ (false = true) by decide)] at H; exact H
                    clear H
                    have H := H1
                    clear H1
                    obtain rfl := Option.some.inj H
                    exact absurd hr_.out (by simp)
                · rw [if_neg c20] at H
                  have c20b0 : (t284 == t282) = false := beq_eq_false_iff_ne.mpr c20
                  have c20b1 : (t284 != t282) = true := bne_iff_ne.mpr c20
                  obtain rfl := Option.some.inj H
                  exact absurd hr_.out (by simp)
            · replace c16 := Bool.eq_false_iff.mpr c16
              subst c16
              have H1 : (some false) = some r := by rw [if_neg (show ¬ (false = true) by decide)] at H; exact H
              clear H
              have H := H1
              clear H1
              obtain rfl := Option.some.inj H
              exact absurd hr_.out (by simp)
        · replace c12 := Bool.eq_false_iff.mpr c12
          subst c12
          have H1 : (some false) = some r := by rw [if_neg (show ¬ (false = true) by decide)] at H; exact H
          clear H
          have H := H1
          clear H1
          obtain rfl := Option.some.inj H
          exact absurd hr_.out (by simp)
    · replace c8 := Bool.eq_false_iff.mpr c8
      subst c8
      have H1 : (some false) = some r := by rw [if_neg (show ¬ (false = true) by decide)] at H; exact H
      clear H
      have H := H1
      clear H1
      obtain rfl := Option.some.inj H
      exact absurd hr_.out (by simp)

/-- THE ONE PURE STATEMENT of laws_FnExactRouteOrder: yours. -/
def laws_FnExactRouteOrder.Pure : Prop := ∀ (l0 : List Int), l0.length ≤ maxLen → l0.length * 8 ≤ 140737488351232 → (∀ x ∈ l0, (Lit.int .i64 x).wf = true) → ∃ k, laws_FnExactRouteOrder.f k l0 = some true
theorem laws_FnExactRouteOrder.walk (P : laws_FnExactRouteOrder.Pure) (a0 : Option Addr) (len0 cap0 : Nat) (z0 : List Int) (w : World) (w0 : (a0 = none ∧ len0 = 0 ∧ cap0 = 0 ∧ z0 = []) ∨ ∃ x, a0 = some x ∧ len0 ≤ cap0 ∧ cap0 ≤ maxLen ∧ z0.length = cap0 ∧ (∀ i, i < z0.length → w.cell? (x.add i) = some (.int .i64 (z0.getD i 0))) ∧ ∀ n ∈ z0, (Lit.int .i64 n).wf = true) (y0 : len0 * 8 ≤ 140737488351232) :
    Calls Try.prog 3 #[.slice a0 len0 cap0] w fun e w' => e = .returned (.bool true) ∧ Below w.heap.size w w' := by
  obtain ⟨l0, rfl, hr0, hm0, hw0, hc0⟩ := ReadsInt.ofRowC w0
  obtain ⟨k, h⟩ := P l0 hm0 y0 hw0
  refine (laws_FnExactRouteOrder.calls k _ _ l0 true w (Kd.C_of_reads (d := (0 : Int)) (h1 := fun _ => rfl) hr0) hc0 h ⟨rfl⟩).mono ?_
  rintro e w' ⟨rfl, hd⟩
  exact ⟨rfl, hd⟩

end Go.Proofs.Ytlhcibfliapbpaa.PFnExactRouteOrder
