-- Written by a program of this session, after the kit's print (changed in some places; see NOTES.md). Lean checks it.
import Derived.Test.YtdiehchbbhlfgaaPFnExactPlayCoverx0
import Derived.Test.YtdiehchbbhlfgaaPFnExactPlayCoverx1
import Derived.Test.YtdiehchbbhlfgaaPFnExactPlayCoverx2
import Derived.Test.YtdiehchbbhlfgaaPFnExactPlayCoverx3
import Derived.Test.YtdiehchbbhlfgaaPFnExactPlayCoverx5
import Derived.Test.YtdiehchbbhlfgaaPFnExactPlayCoverx7
import Derived.Test.YtdiehchbbhlfgaaPFnExactPlayCoverx8
namespace Go.Proofs.Ytdiehchbbhlfgaa.PFnExactPlayCover
open Go.RowKit Go.Proofs.YtdiehchbbhlfgaaW.PrintWords Go.Proofs.YtdiehchbbhlfgaaW.PrintLast Go.Proofs.YtdiehchbbhlfgaaW.PrintMore
attribute [local go_sem] max2_int min2_int max_two min_two max_three min_three max_four min_four Go.Proofs.Ytdiehchbbhlfgaa.Ownw.str_gtr Go.Proofs.Ytdiehchbbhlfgaa.Ownw.str_leq Go.Proofs.Ytdiehchbbhlfgaa.Ownw.str_geq   -- for this text's walks alone
set_option linter.unusedVariables false
set_option linter.unusedSimpArgs false

/-! ### laws_FnExactPlayCover: function 9 -/
mutual
def laws_FnExactPlayCover.j0 : Nat → Int → List (S54) → List (S57) → List ByteArray → List Bool → Bool → List (S60) → List (S57) → List ByteArray → List Bool → Bool → Bool → Option (Bool)
  | 0, _, _, _, _, _, _, _, _, _, _, _, _ => none
  | k + 1, x0, x1, x6, x7, x8, x9, x10, x11, x12, x13, x14, x66 => if x66 = true then (some false) else ((laws_toCoverStepS.f k x1).bind fun t321 => ((laws_eqCoverStepS.f k x10 t321).bind fun t324 => (if t324 = true then ((laws_markCoverStepS.f k x10 1).bind fun bt325 => (if bt325.1 < 0 then (laws_FnExactPlayCover.j1 k x0 x1 x6 x7 x8 x9 x11 x12 x13 true) else ((laws_eqEmitS.f k x11 x6).bind fun t327 => (if t327 = true then ((laws_eqStringS.f k x12 x7).bind fun t328 => (if t328 = true then ((laws_eqBoolS.f k x13 x8).bind fun t329 => (if t329 = true then (laws_FnExactPlayCover.j1 k x0 x1 x6 x7 x8 x9 x11 x12 x13 (x14 != x9)) else (laws_FnExactPlayCover.j1 k x0 x1 x6 x7 x8 x9 x11 x12 x13 true))) else (laws_FnExactPlayCover.j1 k x0 x1 x6 x7 x8 x9 x11 x12 x13 true))) else (laws_FnExactPlayCover.j1 k x0 x1 x6 x7 x8 x9 x11 x12 x13 true))))) else (some false))))
def laws_FnExactPlayCover.j1 : Nat → Int → List (S54) → List (S57) → List ByteArray → List Bool → Bool → List (S57) → List ByteArray → List Bool → Bool → Option (Bool)
  | 0, _, _, _, _, _, _, _, _, _, _ => none
  | k + 1, x0, x1, x6, x7, x8, x9, x11, x12, x13, x99 => if x99 = true then (some false) else ((laws_markEmitS.f k x11 1).bind fun bt330 => ((laws_markStringS.f k x12 bt330.1).bind fun bt332 => ((laws_markBoolS.f k x13 bt332.1).bind fun bt334 => ((laws_heldEmitS.f k bt330.2 1).bind fun t336 => (if t336 < 0 then (some false) else ((laws_heldStringS.f k bt332.2 t336).bind fun t337 => (if t337 < 0 then (some false) else ((laws_heldBoolS.f k bt334.2 t337).bind fun t338 => (if t338 < 0 then (some false) else (if t338 = bt334.1 then ((laws_toCoverStepS.f k x1).bind fun t339 => ((impl_PlayCover.f k x0 t339).bind fun bt342 => ((laws_eqEmitS.f k bt342.1 x6).bind fun t352 => (if t352 = true then ((laws_eqStringS.f k bt342.2.1 x7).bind fun t353 => (if t353 = true then ((laws_eqBoolS.f k bt342.2.2.1 x8).bind fun t354 => (if t354 = true then (laws_FnExactPlayCover.j2 k bt330.2 bt332.2 bt334.2 bt334.1 (bt342.2.2.2 != x9)) else (laws_FnExactPlayCover.j2 k bt330.2 bt332.2 bt334.2 bt334.1 true))) else (laws_FnExactPlayCover.j2 k bt330.2 bt332.2 bt334.2 bt334.1 true))) else (laws_FnExactPlayCover.j2 k bt330.2 bt332.2 bt334.2 bt334.1 true))))) else (some false)))))))))))
def laws_FnExactPlayCover.j2 : Nat → List (S57) → List ByteArray → List Bool → Int → Bool → Option (Bool)
  | 0, _, _, _, _, _ => none
  | k + 1, x11, x12, x13, x16, x156 => if x156 = true then (some false) else ((laws_heldEmitS.f k x11 1).bind fun t355 => (if t355 < 0 then (some false) else ((laws_heldStringS.f k x12 t355).bind fun t356 => (if t356 < 0 then (some false) else ((laws_heldBoolS.f k x13 t356).bind fun t357 => (if t357 < 0 then (some false) else (if t357 = x16 then (some true) else (some false))))))))
end
def laws_FnExactPlayCover.f (k : Nat) (a0 : Int) (l1 : List (S54)) : Option (Bool) := (laws_szCoverStepS.f k l1 1048576).bind fun t291 => (if t291 < 0 then (some true) else ((laws_toCoverStepS.f k l1).bind fun t292 => ((spec_PlayCover.f k a0 t292).bind fun bt295 => ((laws_toCoverStepS.f k l1).bind fun t305 => ((impl_PlayCover.f k a0 t305).bind fun bt308 => ((laws_eqEmitS.f k bt308.1 bt295.1).bind fun t318 => (if t318 = true then ((laws_eqStringS.f k bt308.2.1 bt295.2.1).bind fun t319 => (if t319 = true then ((laws_eqBoolS.f k bt308.2.2.1 bt295.2.2.1).bind fun t320 => (if t320 = true then (laws_FnExactPlayCover.j0 k a0 l1 bt295.1 bt295.2.1 bt295.2.2.1 bt295.2.2.2 t305 bt308.1 bt308.2.1 bt308.2.2.1 bt308.2.2.2 (bt308.2.2.2 != bt295.2.2.2)) else (laws_FnExactPlayCover.j0 k a0 l1 bt295.1 bt295.2.1 bt295.2.2.1 bt295.2.2.2 t305 bt308.1 bt308.2.1 bt308.2.2.1 bt308.2.2.2 true))) else (laws_FnExactPlayCover.j0 k a0 l1 bt295.1 bt295.2.1 bt295.2.2.1 bt295.2.2.2 t305 bt308.1 bt308.2.1 bt308.2.2.1 bt308.2.2.2 true))) else (laws_FnExactPlayCover.j0 k a0 l1 bt295.1 bt295.2.1 bt295.2.2.1 bt295.2.2.2 t305 bt308.1 bt308.2.1 bt308.2.2.1 bt308.2.2.2 true))))))))
theorem laws_FnExactPlayCover.mono_l : ∀ k, (∀ y0 y1 y2 y3 y4 y5 y6 y7 y8 y9 y10 y11, LeO (laws_FnExactPlayCover.j0 k y0 y1 y2 y3 y4 y5 y6 y7 y8 y9 y10 y11) (laws_FnExactPlayCover.j0 (k + 1) y0 y1 y2 y3 y4 y5 y6 y7 y8 y9 y10 y11)) ∧ (∀ y0 y1 y2 y3 y4 y5 y6 y7 y8 y9, LeO (laws_FnExactPlayCover.j1 k y0 y1 y2 y3 y4 y5 y6 y7 y8 y9) (laws_FnExactPlayCover.j1 (k + 1) y0 y1 y2 y3 y4 y5 y6 y7 y8 y9)) ∧ (∀ y0 y1 y2 y3 y4, LeO (laws_FnExactPlayCover.j2 k y0 y1 y2 y3 y4) (laws_FnExactPlayCover.j2 (k + 1) y0 y1 y2 y3 y4))
  | 0 => ⟨fun _ _ _ _ _ _ _ _ _ _ _ _ r h => by simp [laws_FnExactPlayCover.j0] at h, fun _ _ _ _ _ _ _ _ _ _ r h => by simp [laws_FnExactPlayCover.j1] at h, fun _ _ _ _ _ r h => by simp [laws_FnExactPlayCover.j2] at h⟩
  | k + 1 => by
    obtain ⟨ih0, ih1, ih2⟩ := laws_FnExactPlayCover.mono_l k
    refine ⟨?_, ?_, ?_⟩
    · intro y0 y1 y2 y3 y4 y5 y6 y7 y8 y9 y10 y11
      unfold laws_FnExactPlayCover.j0
      repeat' first
      | (with_reducible exact ih0 _ _ _ _ _ _ _ _ _ _ _ _)
      | (with_reducible exact ih1 _ _ _ _ _ _ _ _ _ _)
      | (with_reducible exact ih2 _ _ _ _ _)
      | (with_reducible exact impl_PlayCover.mono _ _ _)
      | (with_reducible exact laws_eqBoolS.mono _ _ _)
      | (with_reducible exact laws_eqCoverStepS.mono _ _ _)
      | (with_reducible exact laws_eqEmitS.mono _ _ _)
      | (with_reducible exact laws_eqStringS.mono _ _ _)
      | (with_reducible exact laws_heldBoolS.mono _ _ _)
      | (with_reducible exact laws_heldEmitS.mono _ _ _)
      | (with_reducible exact laws_heldStringS.mono _ _ _)
      | (with_reducible exact laws_markBoolS.mono _ _ _)
      | (with_reducible exact laws_markCoverStepS.mono _ _ _)
      | (with_reducible exact laws_markEmitS.mono _ _ _)
      | (with_reducible exact laws_markStringS.mono _ _ _)
      | (with_reducible exact laws_szCoverStepS.mono _ _ _)
      | (with_reducible exact laws_toCoverStepS.mono _ _)
      | (with_reducible exact spec_PlayCover.mono _ _ _)
      | (with_reducible exact LeO.refl _)
      | (with_reducible exact LeO.none _)
      | (with_reducible refine LeO.ite ?_ ?_)
      | (with_reducible refine LeO.bind ?_ (fun _ => ?_))
      | exact ih0 _ _ _ _ _ _ _ _ _ _ _ _
      | exact ih1 _ _ _ _ _ _ _ _ _ _
      | exact ih2 _ _ _ _ _
      | exact impl_PlayCover.mono _ _ _
      | exact laws_eqBoolS.mono _ _ _
      | exact laws_eqCoverStepS.mono _ _ _
      | exact laws_eqEmitS.mono _ _ _
      | exact laws_eqStringS.mono _ _ _
      | exact laws_heldBoolS.mono _ _ _
      | exact laws_heldEmitS.mono _ _ _
      | exact laws_heldStringS.mono _ _ _
      | exact laws_markBoolS.mono _ _ _
      | exact laws_markCoverStepS.mono _ _ _
      | exact laws_markEmitS.mono _ _ _
      | exact laws_markStringS.mono _ _ _
      | exact laws_szCoverStepS.mono _ _ _
      | exact laws_toCoverStepS.mono _ _
      | exact spec_PlayCover.mono _ _ _
      | exact LeO.none _
      | refine LeO.ite ?_ ?_
      | refine LeO.bind ?_ (fun _ => ?_)
    · intro y0 y1 y2 y3 y4 y5 y6 y7 y8 y9
      unfold laws_FnExactPlayCover.j1
      repeat' first
      | (with_reducible exact ih0 _ _ _ _ _ _ _ _ _ _ _ _)
      | (with_reducible exact ih1 _ _ _ _ _ _ _ _ _ _)
      | (with_reducible exact ih2 _ _ _ _ _)
      | (with_reducible exact impl_PlayCover.mono _ _ _)
      | (with_reducible exact laws_eqBoolS.mono _ _ _)
      | (with_reducible exact laws_eqCoverStepS.mono _ _ _)
      | (with_reducible exact laws_eqEmitS.mono _ _ _)
      | (with_reducible exact laws_eqStringS.mono _ _ _)
      | (with_reducible exact laws_heldBoolS.mono _ _ _)
      | (with_reducible exact laws_heldEmitS.mono _ _ _)
      | (with_reducible exact laws_heldStringS.mono _ _ _)
      | (with_reducible exact laws_markBoolS.mono _ _ _)
      | (with_reducible exact laws_markCoverStepS.mono _ _ _)
      | (with_reducible exact laws_markEmitS.mono _ _ _)
      | (with_reducible exact laws_markStringS.mono _ _ _)
      | (with_reducible exact laws_szCoverStepS.mono _ _ _)
      | (with_reducible exact laws_toCoverStepS.mono _ _)
      | (with_reducible exact spec_PlayCover.mono _ _ _)
      | (with_reducible exact LeO.refl _)
      | (with_reducible exact LeO.none _)
      | (with_reducible refine LeO.ite ?_ ?_)
      | (with_reducible refine LeO.bind ?_ (fun _ => ?_))
      | exact ih0 _ _ _ _ _ _ _ _ _ _ _ _
      | exact ih1 _ _ _ _ _ _ _ _ _ _
      | exact ih2 _ _ _ _ _
      | exact impl_PlayCover.mono _ _ _
      | exact laws_eqBoolS.mono _ _ _
      | exact laws_eqCoverStepS.mono _ _ _
      | exact laws_eqEmitS.mono _ _ _
      | exact laws_eqStringS.mono _ _ _
      | exact laws_heldBoolS.mono _ _ _
      | exact laws_heldEmitS.mono _ _ _
      | exact laws_heldStringS.mono _ _ _
      | exact laws_markBoolS.mono _ _ _
      | exact laws_markCoverStepS.mono _ _ _
      | exact laws_markEmitS.mono _ _ _
      | exact laws_markStringS.mono _ _ _
      | exact laws_szCoverStepS.mono _ _ _
      | exact laws_toCoverStepS.mono _ _
      | exact spec_PlayCover.mono _ _ _
      | exact LeO.none _
      | refine LeO.ite ?_ ?_
      | refine LeO.bind ?_ (fun _ => ?_)
    · intro y0 y1 y2 y3 y4
      unfold laws_FnExactPlayCover.j2
      repeat' first
      | (with_reducible exact ih0 _ _ _ _ _ _ _ _ _ _ _ _)
      | (with_reducible exact ih1 _ _ _ _ _ _ _ _ _ _)
      | (with_reducible exact ih2 _ _ _ _ _)
      | (with_reducible exact impl_PlayCover.mono _ _ _)
      | (with_reducible exact laws_eqBoolS.mono _ _ _)
      | (with_reducible exact laws_eqCoverStepS.mono _ _ _)
      | (with_reducible exact laws_eqEmitS.mono _ _ _)
      | (with_reducible exact laws_eqStringS.mono _ _ _)
      | (with_reducible exact laws_heldBoolS.mono _ _ _)
      | (with_reducible exact laws_heldEmitS.mono _ _ _)
      | (with_reducible exact laws_heldStringS.mono _ _ _)
      | (with_reducible exact laws_markBoolS.mono _ _ _)
      | (with_reducible exact laws_markCoverStepS.mono _ _ _)
      | (with_reducible exact laws_markEmitS.mono _ _ _)
      | (with_reducible exact laws_markStringS.mono _ _ _)
      | (with_reducible exact laws_szCoverStepS.mono _ _ _)
      | (with_reducible exact laws_toCoverStepS.mono _ _)
      | (with_reducible exact spec_PlayCover.mono _ _ _)
      | (with_reducible exact LeO.refl _)
      | (with_reducible exact LeO.none _)
      | (with_reducible refine LeO.ite ?_ ?_)
      | (with_reducible refine LeO.bind ?_ (fun _ => ?_))
      | exact ih0 _ _ _ _ _ _ _ _ _ _ _ _
      | exact ih1 _ _ _ _ _ _ _ _ _ _
      | exact ih2 _ _ _ _ _
      | exact impl_PlayCover.mono _ _ _
      | exact laws_eqBoolS.mono _ _ _
      | exact laws_eqCoverStepS.mono _ _ _
      | exact laws_eqEmitS.mono _ _ _
      | exact laws_eqStringS.mono _ _ _
      | exact laws_heldBoolS.mono _ _ _
      | exact laws_heldEmitS.mono _ _ _
      | exact laws_heldStringS.mono _ _ _
      | exact laws_markBoolS.mono _ _ _
      | exact laws_markCoverStepS.mono _ _ _
      | exact laws_markEmitS.mono _ _ _
      | exact laws_markStringS.mono _ _ _
      | exact laws_szCoverStepS.mono _ _ _
      | exact laws_toCoverStepS.mono _ _
      | exact spec_PlayCover.mono _ _ _
      | exact LeO.none _
      | refine LeO.ite ?_ ?_
      | refine LeO.bind ?_ (fun _ => ?_)
theorem laws_FnExactPlayCover.mono : ∀ a0 a1 k, LeO (laws_FnExactPlayCover.f k a0 a1) (laws_FnExactPlayCover.f (k + 1) a0 a1) := by
  intro a0 a1 k
  obtain ⟨ih0, ih1, ih2⟩ := laws_FnExactPlayCover.mono_l k
  unfold laws_FnExactPlayCover.f
  repeat' first
      | (with_reducible exact ih0 _ _ _ _ _ _ _ _ _ _ _ _)
      | (with_reducible exact ih1 _ _ _ _ _ _ _ _ _ _)
      | (with_reducible exact ih2 _ _ _ _ _)
      | (with_reducible exact impl_PlayCover.mono _ _ _)
      | (with_reducible exact laws_eqBoolS.mono _ _ _)
      | (with_reducible exact laws_eqCoverStepS.mono _ _ _)
      | (with_reducible exact laws_eqEmitS.mono _ _ _)
      | (with_reducible exact laws_eqStringS.mono _ _ _)
      | (with_reducible exact laws_heldBoolS.mono _ _ _)
      | (with_reducible exact laws_heldEmitS.mono _ _ _)
      | (with_reducible exact laws_heldStringS.mono _ _ _)
      | (with_reducible exact laws_markBoolS.mono _ _ _)
      | (with_reducible exact laws_markCoverStepS.mono _ _ _)
      | (with_reducible exact laws_markEmitS.mono _ _ _)
      | (with_reducible exact laws_markStringS.mono _ _ _)
      | (with_reducible exact laws_szCoverStepS.mono _ _ _)
      | (with_reducible exact laws_toCoverStepS.mono _ _)
      | (with_reducible exact spec_PlayCover.mono _ _ _)
      | (with_reducible exact LeO.refl _)
      | (with_reducible exact LeO.none _)
      | (with_reducible refine LeO.ite ?_ ?_)
      | (with_reducible refine LeO.bind ?_ (fun _ => ?_))
      | exact ih0 _ _ _ _ _ _ _ _ _ _ _ _
      | exact ih1 _ _ _ _ _ _ _ _ _ _
      | exact ih2 _ _ _ _ _
      | exact impl_PlayCover.mono _ _ _
      | exact laws_eqBoolS.mono _ _ _
      | exact laws_eqCoverStepS.mono _ _ _
      | exact laws_eqEmitS.mono _ _ _
      | exact laws_eqStringS.mono _ _ _
      | exact laws_heldBoolS.mono _ _ _
      | exact laws_heldEmitS.mono _ _ _
      | exact laws_heldStringS.mono _ _ _
      | exact laws_markBoolS.mono _ _ _
      | exact laws_markCoverStepS.mono _ _ _
      | exact laws_markEmitS.mono _ _ _
      | exact laws_markStringS.mono _ _ _
      | exact laws_szCoverStepS.mono _ _ _
      | exact laws_toCoverStepS.mono _ _
      | exact spec_PlayCover.mono _ _ _
      | exact LeO.none _
      | refine LeO.ite ?_ ?_
      | refine LeO.bind ?_ (fun _ => ?_)
set_option maxHeartbeats 8000000 in
set_option maxRecDepth 100000 in
theorem laws_FnExactPlayCover.calls (k : Nat) (a0 : Int) (A1 : Option Addr) (c1 : Nat) (l1 : List (S54)) (r : Bool) (w : World) (hr1 : Kd.C k54 w A1 l1.length l1) (hc1 : l1.length ≤ c1) (h : laws_FnExactPlayCover.f k a0 l1 = some r) (hr_ : Aside0 (r = true)) :
    Calls Try.prog 9 #[.int .i64 a0, .slice A1 l1.length c1] w fun e w' => e = .returned (.bool r) ∧ Below w.heap.size w w' := by
  have HR1 := Aside0.mk hr1
  have HC1 := Aside0.mk hc1
  clear hr1 hc1
  have HB := Aside0.mk (Below.refl w.heap.size w)
  have H : ((laws_szCoverStepS.f k l1 1048576).bind fun t291 => (if t291 < 0 then (some true) else ((laws_toCoverStepS.f k l1).bind fun t292 => ((spec_PlayCover.f k a0 t292).bind fun bt295 => ((laws_toCoverStepS.f k l1).bind fun t305 => ((impl_PlayCover.f k a0 t305).bind fun bt308 => ((laws_eqEmitS.f k bt308.1 bt295.1).bind fun t318 => (if t318 = true then ((laws_eqStringS.f k bt308.2.1 bt295.2.1).bind fun t319 => (if t319 = true then ((laws_eqBoolS.f k bt308.2.2.1 bt295.2.2.1).bind fun t320 => (if t320 = true then (laws_FnExactPlayCover.j0 k a0 l1 bt295.1 bt295.2.1 bt295.2.2.1 bt295.2.2.2 t305 bt308.1 bt308.2.1 bt308.2.2.1 bt308.2.2.2 (bt308.2.2.2 != bt295.2.2.2)) else (laws_FnExactPlayCover.j0 k a0 l1 bt295.1 bt295.2.1 bt295.2.2.1 bt295.2.2.2 t305 bt308.1 bt308.2.1 bt308.2.2.1 bt308.2.2.2 true))) else (laws_FnExactPlayCover.j0 k a0 l1 bt295.1 bt295.2.1 bt295.2.2.1 bt295.2.2.2 t305 bt308.1 bt308.2.1 bt308.2.2.1 bt308.2.2.2 true))) else (laws_FnExactPlayCover.j0 k a0 l1 bt295.1 bt295.2.1 bt295.2.2.1 bt295.2.2.2 t305 bt308.1 bt308.2.1 bt308.2.2.1 bt308.2.2.2 true))))))))) = some r := h
  clear h
  replace H := Option.bind_eq_some_iff.mp H
  obtain ⟨t291, A30, H⟩ := H
  replace H : (if t291 < 0 then (some true) else ((laws_toCoverStepS.f k l1).bind fun t292 => ((spec_PlayCover.f k a0 t292).bind fun bt295 => ((laws_toCoverStepS.f k l1).bind fun t305 => ((impl_PlayCover.f k a0 t305).bind fun bt308 => ((laws_eqEmitS.f k bt308.1 bt295.1).bind fun t318 => (if t318 = true then ((laws_eqStringS.f k bt308.2.1 bt295.2.1).bind fun t319 => (if t319 = true then ((laws_eqBoolS.f k bt308.2.2.1 bt295.2.2.1).bind fun t320 => (if t320 = true then (laws_FnExactPlayCover.j0 k a0 l1 bt295.1 bt295.2.1 bt295.2.2.1 bt295.2.2.2 t305 bt308.1 bt308.2.1 bt308.2.2.1 bt308.2.2.2 (bt308.2.2.2 != bt295.2.2.2)) else (laws_FnExactPlayCover.j0 k a0 l1 bt295.1 bt295.2.1 bt295.2.2.1 bt295.2.2.2 t305 bt308.1 bt308.2.1 bt308.2.2.1 bt308.2.2.2 true))) else (laws_FnExactPlayCover.j0 k a0 l1 bt295.1 bt295.2.1 bt295.2.2.1 bt295.2.2.2 t305 bt308.1 bt308.2.1 bt308.2.2.1 bt308.2.2.2 true))) else (laws_FnExactPlayCover.j0 k a0 l1 bt295.1 bt295.2.1 bt295.2.2.1 bt295.2.2.2 t305 bt308.1 bt308.2.1 bt308.2.2.1 bt308.2.2.2 true)))))))) = some r := H
  have A3 := Aside0.mk A30
  clear A30
  by_cases c4 : t291 < 0
  · rw [if_pos c4] at H
    have c4b0 : decide (t291 < 0) = true := decide_eq_true c4
    clear c4
    obtain rfl := Option.some.inj H
    simp only [Option.some.injEq, Prod.mk.injEq] at H
    obtain ⟨rfl⟩ := H
    go_enter Try.func9, Try.ntmps9
    go_wp2_with (first | ((with_reducible refine gate_callee (f := 26) rfl ?_); refine goesL_ (some 24) rfl rfl Try.func26 (by kernel_rfl) rfl #[.slice A1 l1.length c1, .int .i64 1048576] rfl (by (try simp only [List.map_toArray, List.map_cons, List.map_nil]); first | done | rfl | (simp only [List.length_drop, List.length_take]; rfl)) ?_; (with_reducible refine (laws_szCoverStepS.calls k _ _ l1 1048576 t291 _ ?side1 ?side2 A3.out).mono ?_); (case side1 => repeat (first | exact HR1.out | (with_reducible refine Kd.C_alloc ?_ _) | (with_reducible refine Kd.C_drewN ?_ _) | (with_reducible refine Kd.C_drew ?_))); (case side2 => exact HC1.out); rintro e w5 ⟨rfl, hb⟩; refine ⟨_, rfl, ?_⟩; have n0_ := Aside0.mk (below_step (by repeat (first | (with_reducible first | exact HB.out | apply below_alloc | apply pw_below_drewN | apply below_drew1) | exact HB.out)) hb); clear HB; have HB := n0_; clear n0_; (try clear hb); (try clear hb2); (try clear hk); (try clear hi)))
    go_ret
    exact ⟨by first | rfl | (simp [errW_none, errW_some] <;> rfl) | (simp [*, errW_none, errW_some] <;> rfl), by repeat (first | (with_reducible first | exact HB.out | apply below_alloc | apply pw_below_drewN | apply below_drew1) | exact HB.out)⟩
  · rw [if_neg c4] at H
    have c4b0 : decide (t291 < 0) = false := decide_eq_false c4
    clear c4
    replace H := Option.bind_eq_some_iff.mp H
    obtain ⟨t292, A60, H⟩ := H
    replace H : ((spec_PlayCover.f k a0 t292).bind fun bt295 => ((laws_toCoverStepS.f k l1).bind fun t305 => ((impl_PlayCover.f k a0 t305).bind fun bt308 => ((laws_eqEmitS.f k bt308.1 bt295.1).bind fun t318 => (if t318 = true then ((laws_eqStringS.f k bt308.2.1 bt295.2.1).bind fun t319 => (if t319 = true then ((laws_eqBoolS.f k bt308.2.2.1 bt295.2.2.1).bind fun t320 => (if t320 = true then (laws_FnExactPlayCover.j0 k a0 l1 bt295.1 bt295.2.1 bt295.2.2.1 bt295.2.2.2 t305 bt308.1 bt308.2.1 bt308.2.2.1 bt308.2.2.2 (bt308.2.2.2 != bt295.2.2.2)) else (laws_FnExactPlayCover.j0 k a0 l1 bt295.1 bt295.2.1 bt295.2.2.1 bt295.2.2.2 t305 bt308.1 bt308.2.1 bt308.2.2.1 bt308.2.2.2 true))) else (laws_FnExactPlayCover.j0 k a0 l1 bt295.1 bt295.2.1 bt295.2.2.1 bt295.2.2.2 t305 bt308.1 bt308.2.1 bt308.2.2.1 bt308.2.2.2 true))) else (laws_FnExactPlayCover.j0 k a0 l1 bt295.1 bt295.2.1 bt295.2.2.1 bt295.2.2.2 t305 bt308.1 bt308.2.1 bt308.2.2.1 bt308.2.2.2 true)))))) = some r := H
    have A6 := Aside0.mk A60
    clear A60
    replace H := Option.bind_eq_some_iff.mp H
    obtain ⟨⟨t295, t296, t297, t298⟩, A70, H⟩ := H
    replace H : ((laws_toCoverStepS.f k l1).bind fun t305 => ((impl_PlayCover.f k a0 t305).bind fun bt308 => ((laws_eqEmitS.f k bt308.1 t295).bind fun t318 => (if t318 = true then ((laws_eqStringS.f k bt308.2.1 t296).bind fun t319 => (if t319 = true then ((laws_eqBoolS.f k bt308.2.2.1 t297).bind fun t320 => (if t320 = true then (laws_FnExactPlayCover.j0 k a0 l1 t295 t296 t297 t298 t305 bt308.1 bt308.2.1 bt308.2.2.1 bt308.2.2.2 (bt308.2.2.2 != t298)) else (laws_FnExactPlayCover.j0 k a0 l1 t295 t296 t297 t298 t305 bt308.1 bt308.2.1 bt308.2.2.1 bt308.2.2.2 true))) else (laws_FnExactPlayCover.j0 k a0 l1 t295 t296 t297 t298 t305 bt308.1 bt308.2.1 bt308.2.2.1 bt308.2.2.2 true))) else (laws_FnExactPlayCover.j0 k a0 l1 t295 t296 t297 t298 t305 bt308.1 bt308.2.1 bt308.2.2.1 bt308.2.2.2 true))))) = some r := H
    have A7 := Aside0.mk A70
    clear A70
    replace H := Option.bind_eq_some_iff.mp H
    obtain ⟨t305, A80, H⟩ := H
    replace H : ((impl_PlayCover.f k a0 t305).bind fun bt308 => ((laws_eqEmitS.f k bt308.1 t295).bind fun t318 => (if t318 = true then ((laws_eqStringS.f k bt308.2.1 t296).bind fun t319 => (if t319 = true then ((laws_eqBoolS.f k bt308.2.2.1 t297).bind fun t320 => (if t320 = true then (laws_FnExactPlayCover.j0 k a0 l1 t295 t296 t297 t298 t305 bt308.1 bt308.2.1 bt308.2.2.1 bt308.2.2.2 (bt308.2.2.2 != t298)) else (laws_FnExactPlayCover.j0 k a0 l1 t295 t296 t297 t298 t305 bt308.1 bt308.2.1 bt308.2.2.1 bt308.2.2.2 true))) else (laws_FnExactPlayCover.j0 k a0 l1 t295 t296 t297 t298 t305 bt308.1 bt308.2.1 bt308.2.2.1 bt308.2.2.2 true))) else (laws_FnExactPlayCover.j0 k a0 l1 t295 t296 t297 t298 t305 bt308.1 bt308.2.1 bt308.2.2.1 bt308.2.2.2 true)))) = some r := H
    have A8 := Aside0.mk A80
    clear A80
    replace H := Option.bind_eq_some_iff.mp H
    obtain ⟨⟨t308, t309, t310, t311⟩, A90, H⟩ := H
    replace H : ((laws_eqEmitS.f k t308 t295).bind fun t318 => (if t318 = true then ((laws_eqStringS.f k t309 t296).bind fun t319 => (if t319 = true then ((laws_eqBoolS.f k t310 t297).bind fun t320 => (if t320 = true then (laws_FnExactPlayCover.j0 k a0 l1 t295 t296 t297 t298 t305 t308 t309 t310 t311 (t311 != t298)) else (laws_FnExactPlayCover.j0 k a0 l1 t295 t296 t297 t298 t305 t308 t309 t310 t311 true))) else (laws_FnExactPlayCover.j0 k a0 l1 t295 t296 t297 t298 t305 t308 t309 t310 t311 true))) else (laws_FnExactPlayCover.j0 k a0 l1 t295 t296 t297 t298 t305 t308 t309 t310 t311 true))) = some r := H
    have A9 := Aside0.mk A90
    clear A90
    have HC10 := Aside0.mk H
    clear H
    go_enter Try.func9, Try.ntmps9
    go_upto_region 8 with (first | ((with_reducible refine gate_callee (f := 26) rfl ?_); refine goesL_ (some 24) rfl rfl Try.func26 (by kernel_rfl) rfl #[.slice A1 l1.length c1, .int .i64 1048576] rfl (by (try simp only [List.map_toArray, List.map_cons, List.map_nil]); first | done | rfl | (simp only [List.length_drop, List.length_take]; rfl)) ?_; (with_reducible refine (laws_szCoverStepS.calls k _ _ l1 1048576 t291 _ ?side1 ?side2 A3.out).mono ?_); (case side1 => repeat (first | exact HR1.out | (with_reducible refine Kd.C_alloc ?_ _) | (with_reducible refine Kd.C_drewN ?_ _) | (with_reducible refine Kd.C_drew ?_))); (case side2 => exact HC1.out); rintro e w11 ⟨rfl, hb⟩; refine ⟨_, rfl, ?_⟩; have n0_ := Aside0.mk (below_step (by repeat (first | (with_reducible first | exact HB.out | apply below_alloc | apply pw_below_drewN | apply below_drew1) | exact HB.out)) hb); clear HB; have HB := n0_; clear n0_; (try clear hb); (try clear hb2); (try clear hk); (try clear hi)) | ((with_reducible refine gate_callee (f := 28) rfl ?_); refine goesL_ (some 30) rfl rfl Try.func28 (by kernel_rfl) rfl #[.slice A1 l1.length c1] rfl (by (try simp only [List.map_toArray, List.map_cons, List.map_nil]); first | done | rfl | (simp only [List.length_drop, List.length_take]; rfl)) ?_; (with_reducible refine (laws_toCoverStepS.calls k _ _ l1 t292 _ ?side1 ?side2 A6.out).mono ?_); (case side1 => repeat (first | exact (Kd.C_below HR1.out HB.out) | (with_reducible refine Kd.C_alloc ?_ _) | (with_reducible refine Kd.C_drewN ?_ _) | (with_reducible refine Kd.C_drew ?_))); (case side2 => exact HC1.out); rintro e w12 ⟨v293, rfl, ho0, hb⟩; refine ⟨_, rfl, ?_⟩; have n0_ := Aside0.mk (Kd.R_lower ho0 (below_size (by repeat (first | (with_reducible first | exact HB.out | apply below_alloc | apply pw_below_drewN | apply below_drew1) | exact HB.out)))); have n1_ := Aside0.mk (below_step (by repeat (first | (with_reducible first | exact HB.out | apply below_alloc | apply pw_below_drewN | apply below_drew1) | exact HB.out)) hb); clear HB; have HO294 := n0_; have HB := n1_; clear n0_ n1_; (try clear hb); (try clear hb2); (try clear hk); (try clear hi); (try clear ho0); obtain ⟨Ao13, co13, eo13⟩ := Kd.R_slice HO294.out; subst eo13) | ((with_reducible refine gate_callee (f := 40) rfl ?_); refine goesL_ (some 31) rfl rfl Try.func40 (by kernel_rfl) rfl #[.int .i64 a0, .slice Ao13 t292.length co13] rfl (by (try simp only [List.map_toArray, List.map_cons, List.map_nil]); first | done | rfl | (simp only [List.length_drop, List.length_take]; rfl)) ?_; (with_reducible refine (spec_PlayCover.calls k a0 _ _ t292 t295 t296 t297 t298 _ ?side1 ?side2 A7.out).mono ?_); (case side1 => repeat (first | exact (Kd.R_reads' HO294.out).2.2 | (with_reducible refine Kd.C_alloc ?_ _) | (with_reducible refine Kd.C_drewN ?_ _) | (with_reducible refine Kd.C_drew ?_))); (case side2 => exact (Kd.R_reads' HO294.out).2.1); rintro e w14 ⟨v299, v301, v303, rfl, ho0, ho1, ho2, hb⟩; refine ⟨_, rfl, ?_⟩; have n0_ := Aside0.mk (Kd.R_below (by (with_reducible repeat (first | apply Kd.R_alloc | apply Kd.R_drewN | apply Kd.R_drew)); exact HO294.out) hb); have n1_ := Aside0.mk (Kd.R_lower ho0 (below_size (by repeat (first | (with_reducible first | exact HB.out | apply below_alloc | apply pw_below_drewN | apply below_drew1) | exact HB.out)))); have n2_ := Aside0.mk (Kd.R_lower ho1 (below_size (by repeat (first | (with_reducible first | exact HB.out | apply below_alloc | apply pw_below_drewN | apply below_drew1) | exact HB.out)))); have n3_ := Aside0.mk (Kd.R_lower ho2 (below_size (by repeat (first | (with_reducible first | exact HB.out | apply below_alloc | apply pw_below_drewN | apply below_drew1) | exact HB.out)))); have n4_ := Aside0.mk (below_step (by repeat (first | (with_reducible first | exact HB.out | apply below_alloc | apply pw_below_drewN | apply below_drew1) | exact HB.out)) hb); clear HO294; clear HB; have HO294 := n0_; have HO300 := n1_; have HO302 := n2_; have HO304 := n3_; have HB := n4_; clear n0_ n1_ n2_ n3_ n4_; (try clear hb); (try clear hb2); (try clear hk); (try clear hi); (try clear ho0); (try clear ho1); (try clear ho2)) | ((with_reducible refine gate_callee (f := 28) rfl ?_); refine goesL_ (some 37) rfl rfl Try.func28 (by kernel_rfl) rfl #[.slice A1 l1.length c1] rfl (by (try simp only [List.map_toArray, List.map_cons, List.map_nil]); first | done | rfl | (simp only [List.length_drop, List.length_take]; rfl)) ?_; (with_reducible refine (laws_toCoverStepS.calls k _ _ l1 t305 _ ?side1 ?side2 A8.out).mono ?_); (case side1 => repeat (first | exact (Kd.C_below HR1.out HB.out) | (with_reducible refine Kd.C_alloc ?_ _) | (with_reducible refine Kd.C_drewN ?_ _) | (with_reducible refine Kd.C_drew ?_))); (case side2 => exact HC1.out); rintro e w15 ⟨v306, rfl, ho0, hb⟩; refine ⟨_, rfl, ?_⟩; have n0_ := Aside0.mk (Kd.R_elder' (by (with_reducible repeat (first | apply Kd.R_alloc | apply Kd.R_drewN | apply Kd.R_drew)); exact HO294.out) (Kd.R_base ho0) hb); have n1_ := Aside0.mk (Kd.R_below (by (with_reducible repeat (first | apply Kd.R_alloc | apply Kd.R_drewN | apply Kd.R_drew)); exact HO300.out) hb); have n2_ := Aside0.mk (Kd.R_below (by (with_reducible repeat (first | apply Kd.R_alloc | apply Kd.R_drewN | apply Kd.R_drew)); exact HO302.out) hb); have n3_ := Aside0.mk (Kd.R_below (by (with_reducible repeat (first | apply Kd.R_alloc | apply Kd.R_drewN | apply Kd.R_drew)); exact HO304.out) hb); have n4_ := Aside0.mk (Kd.R_lower (Kd.R_new' ho0 (Kd.R_lt (by (with_reducible repeat (first | apply Kd.R_alloc | apply Kd.R_drewN | apply Kd.R_drew)); exact HO294.out))) (below_size (by repeat (first | (with_reducible first | exact HB.out | apply below_alloc | apply pw_below_drewN | apply below_drew1) | exact HB.out)))); have n5_ := Aside0.mk (below_step (by repeat (first | (with_reducible first | exact HB.out | apply below_alloc | apply pw_below_drewN | apply below_drew1) | exact HB.out)) hb); clear HO294; clear HO300; clear HO302; clear HO304; clear HB; have HO294 := n0_; have HO300 := n1_; have HO302 := n2_; have HO304 := n3_; have HO307 := n4_; have HB := n5_; clear n0_ n1_ n2_ n3_ n4_ n5_; (try clear hb); (try clear hb2); (try clear hk); (try clear hi); (try clear ho0); obtain ⟨Ao16, co16, eo16⟩ := Kd.R_slice HO307.out; subst eo16) | ((with_reducible refine gate_callee (f := 41) rfl ?_); refine goesL_ (some 41) rfl rfl Try.func41 (by kernel_rfl) rfl #[.int .i64 a0, .slice Ao16 t305.length co16] rfl (by (try simp only [List.map_toArray, List.map_cons, List.map_nil]); first | done | rfl | (simp only [List.length_drop, List.length_take]; rfl)) ?_; (with_reducible refine (impl_PlayCover.calls k a0 _ _ t305 t308 t309 t310 t311 _ ?side1 ?side2 A9.out).mono ?_); (case side1 => repeat (first | exact (Kd.R_reads' HO307.out).2.2 | (with_reducible refine Kd.C_alloc ?_ _) | (with_reducible refine Kd.C_drewN ?_ _) | (with_reducible refine Kd.C_drew ?_))); (case side2 => exact (Kd.R_reads' HO307.out).2.1); rintro e w17 ⟨v312, v314, v316, rfl, ho0, ho1, ho2, hb⟩; refine ⟨_, rfl, ?_⟩; have n0_ := Aside0.mk (Kd.R_below (by (with_reducible repeat (first | apply Kd.R_alloc | apply Kd.R_drewN | apply Kd.R_drew)); exact HO294.out) hb); have n1_ := Aside0.mk (Kd.R_elder' (by (with_reducible repeat (first | apply Kd.R_alloc | apply Kd.R_drewN | apply Kd.R_drew)); exact HO300.out) (Kd.R_base ho0) hb); have n2_ := Aside0.mk (Kd.R_elder' (by (with_reducible repeat (first | apply Kd.R_alloc | apply Kd.R_drewN | apply Kd.R_drew)); exact HO302.out) (Kd.R_base ho1) hb); have n3_ := Aside0.mk (Kd.R_elder' (by (with_reducible repeat (first | apply Kd.R_alloc | apply Kd.R_drewN | apply Kd.R_drew)); exact HO304.out) (Kd.R_base ho2) hb); have n4_ := Aside0.mk (Kd.R_below (by (with_reducible repeat (first | apply Kd.R_alloc | apply Kd.R_drewN | apply Kd.R_drew)); exact HO307.out) hb); have n5_ := Aside0.mk (Kd.R_lower (Kd.R_new' ho0 (Kd.R_lt (by (with_reducible repeat (first | apply Kd.R_alloc | apply Kd.R_drewN | apply Kd.R_drew)); exact HO300.out))) (below_size (by repeat (first | (with_reducible first | exact HB.out | apply below_alloc | apply pw_below_drewN | apply below_drew1) | exact HB.out)))); have n6_ := Aside0.mk (Kd.R_lower (Kd.R_new' ho1 (Kd.R_lt (by (with_reducible repeat (first | apply Kd.R_alloc | apply Kd.R_drewN | apply Kd.R_drew)); exact HO302.out))) (below_size (by repeat (first | (with_reducible first | exact HB.out | apply below_alloc | apply pw_below_drewN | apply below_drew1) | exact HB.out)))); have n7_ := Aside0.mk (Kd.R_lower (Kd.R_new' ho2 (Kd.R_lt (by (with_reducible repeat (first | apply Kd.R_alloc | apply Kd.R_drewN | apply Kd.R_drew)); exact HO304.out))) (below_size (by repeat (first | (with_reducible first | exact HB.out | apply below_alloc | apply pw_below_drewN | apply below_drew1) | exact HB.out)))); have n8_ := Aside0.mk (below_step (by repeat (first | (with_reducible first | exact HB.out | apply below_alloc | apply pw_below_drewN | apply below_drew1) | exact HB.out)) hb); clear HO294; clear HO300; clear HO302; clear HO304; clear HO307; clear HB; have HO294 := n0_; have HO300 := n1_; have HO302 := n2_; have HO304 := n3_; have HO307 := n4_; have HO313 := n5_; have HO315 := n6_; have HO317 := n7_; have HB := n8_; clear n0_ n1_ n2_ n3_ n4_ n5_ n6_ n7_ n8_; (try clear hb); (try clear hb2); (try clear hk); (try clear hi); (try clear ho0); (try clear ho1); (try clear ho2)))
    (try simp only [Act.put, List.setIfInBounds_toArray, List.set_cons_zero, List.set_cons_succ])
    go_cut [66] (fun v66 wc => ∃ (kq : Nat) (x66_9 : Bool), v66 = .bool x66_9 ∧ Aside0 (laws_FnExactPlayCover.j0 kq a0 l1 t295 t296 t297 t298 t305 t308 t309 t310 t311 x66_9 = some r) ∧ Aside0 (kq ≤ k) ∧ Aside0 (Kd.R k57 57 wc w.heap.size (fun k_ => some k_ ≠ (v312 : Value).ownBlock) v299 t295) ∧ Aside0 (Kd.R Kd.string 9 wc w.heap.size (fun k_ => some k_ ≠ (v314 : Value).ownBlock) v301 t296) ∧ Aside0 (Kd.R Kd.bool 4 wc w.heap.size (fun k_ => some k_ ≠ (v316 : Value).ownBlock) v303 t297) ∧ Aside0 (Kd.R k60 60 wc w.heap.size (fun _ => True) (.slice Ao16 t305.length co16) t305) ∧ Aside0 (Kd.R k57 57 wc w.heap.size (fun k_ => some k_ ≠ (v299 : Value).ownBlock) v312 t308) ∧ Aside0 (Kd.R Kd.string 9 wc w.heap.size (fun k_ => some k_ ≠ (v301 : Value).ownBlock) v314 t309) ∧ Aside0 (Kd.R Kd.bool 4 wc w.heap.size (fun k_ => some k_ ≠ (v303 : Value).ownBlock) v316 t310) ∧ Aside0 (Below w.heap.size w wc))
    case first =>
      have H := HC10.out
      clear HC10
      replace H := Option.bind_eq_some_iff.mp H
      obtain ⟨t318, A180, H⟩ := H
      replace H : (if t318 = true then ((laws_eqStringS.f k t309 t296).bind fun t319 => (if t319 = true then ((laws_eqBoolS.f k t310 t297).bind fun t320 => (if t320 = true then (laws_FnExactPlayCover.j0 k a0 l1 t295 t296 t297 t298 t305 t308 t309 t310 t311 (t311 != t298)) else (laws_FnExactPlayCover.j0 k a0 l1 t295 t296 t297 t298 t305 t308 t309 t310 t311 true))) else (laws_FnExactPlayCover.j0 k a0 l1 t295 t296 t297 t298 t305 t308 t309 t310 t311 true))) else (laws_FnExactPlayCover.j0 k a0 l1 t295 t296 t297 t298 t305 t308 t309 t310 t311 true)) = some r := H
      have A18 := Aside0.mk A180
      clear A180
      by_cases c19 : t318 = true
      · subst c19
        have H1 : ((laws_eqStringS.f k t309 t296).bind fun t319 => (if t319 = true then ((laws_eqBoolS.f k t310 t297).bind fun t320 => (if t320 = true then (laws_FnExactPlayCover.j0 k a0 l1 t295 t296 t297 t298 t305 t308 t309 t310 t311 (t311 != t298)) else (laws_FnExactPlayCover.j0 k a0 l1 t295 t296 t297 t298 t305 t308 t309 t310 t311 true))) else (laws_FnExactPlayCover.j0 k a0 l1 t295 t296 t297 t298 t305 t308 t309 t310 t311 true))) = some r := by rw [if_pos rfl] at H; exact H
        clear H
        have H := H1
        clear H1
        replace H := Option.bind_eq_some_iff.mp H
        obtain ⟨t319, A200, H⟩ := H
        replace H : (if t319 = true then ((laws_eqBoolS.f k t310 t297).bind fun t320 => (if t320 = true then (laws_FnExactPlayCover.j0 k a0 l1 t295 t296 t297 t298 t305 t308 t309 t310 t311 (t311 != t298)) else (laws_FnExactPlayCover.j0 k a0 l1 t295 t296 t297 t298 t305 t308 t309 t310 t311 true))) else (laws_FnExactPlayCover.j0 k a0 l1 t295 t296 t297 t298 t305 t308 t309 t310 t311 true)) = some r := H
        have A20 := Aside0.mk A200
        clear A200
        by_cases c21 : t319 = true
        · subst c21
          have H1 : ((laws_eqBoolS.f k t310 t297).bind fun t320 => (if t320 = true then (laws_FnExactPlayCover.j0 k a0 l1 t295 t296 t297 t298 t305 t308 t309 t310 t311 (t311 != t298)) else (laws_FnExactPlayCover.j0 k a0 l1 t295 t296 t297 t298 t305 t308 t309 t310 t311 true))) = some r := by rw [if_pos rfl] at H; exact H
          clear H
          have H := H1
          clear H1
          replace H := Option.bind_eq_some_iff.mp H
          obtain ⟨t320, A220, H⟩ := H
          replace H : (if t320 = true then (laws_FnExactPlayCover.j0 k a0 l1 t295 t296 t297 t298 t305 t308 t309 t310 t311 (t311 != t298)) else (laws_FnExactPlayCover.j0 k a0 l1 t295 t296 t297 t298 t305 t308 t309 t310 t311 true)) = some r := H
          have A22 := Aside0.mk A220
          clear A220
          by_cases c23 : t320 = true
          · subst c23
            have H1 : (laws_FnExactPlayCover.j0 k a0 l1 t295 t296 t297 t298 t305 t308 t309 t310 t311 (t311 != t298)) = some r := by rw [if_pos rfl] at H; exact H
            clear H
            have H := H1
            clear H1
            have H' := Aside0.mk H
            clear H
            obtain ⟨Ao24, co24, eo24⟩ := Kd.R_slice HO313.out
            subst eo24
            obtain ⟨Ao25, co25, eo25⟩ := Kd.R_slice HO300.out
            subst eo25
            go_wp2_with (first | ((with_reducible refine gate_callee (f := 14) rfl ?_); refine goesL_ (some 48) rfl rfl Try.func14 (by kernel_rfl) rfl #[.slice Ao24 t308.length co24, .slice Ao25 t295.length co25] rfl (by (try simp only [List.map_toArray, List.map_cons, List.map_nil]); first | done | rfl | (simp only [List.length_drop, List.length_take]; rfl)) ?_; (with_reducible refine (laws_eqEmitS.calls k _ _ t308 _ _ t295 true _ ?side1 ?side2 ?side3 ?side4 A18.out).mono ?_); (case side1 => repeat (first | exact (Kd.R_reads' HO313.out).2.2 | (with_reducible refine Kd.C_alloc ?_ _) | (with_reducible refine Kd.C_drewN ?_ _) | (with_reducible refine Kd.C_drew ?_))); (case side2 => exact (Kd.R_reads' HO313.out).2.1); (case side3 => repeat (first | exact (Kd.R_reads' HO300.out).2.2 | (with_reducible refine Kd.C_alloc ?_ _) | (with_reducible refine Kd.C_drewN ?_ _) | (with_reducible refine Kd.C_drew ?_))); (case side4 => exact (Kd.R_reads' HO300.out).2.1); rintro e w26 ⟨rfl, hb⟩; refine ⟨_, rfl, ?_⟩; have n0_ := Aside0.mk (Kd.R_below (by (with_reducible repeat (first | apply Kd.R_alloc | apply Kd.R_drewN | apply Kd.R_drew)); exact HO294.out) hb); have n1_ := Aside0.mk (Kd.R_below (by (with_reducible repeat (first | apply Kd.R_alloc | apply Kd.R_drewN | apply Kd.R_drew)); exact HO300.out) hb); have n2_ := Aside0.mk (Kd.R_below (by (with_reducible repeat (first | apply Kd.R_alloc | apply Kd.R_drewN | apply Kd.R_drew)); exact HO302.out) hb); have n3_ := Aside0.mk (Kd.R_below (by (with_reducible repeat (first | apply Kd.R_alloc | apply Kd.R_drewN | apply Kd.R_drew)); exact HO304.out) hb); have n4_ := Aside0.mk (Kd.R_below (by (with_reducible repeat (first | apply Kd.R_alloc | apply Kd.R_drewN | apply Kd.R_drew)); exact HO307.out) hb); have n5_ := Aside0.mk (Kd.R_below (by (with_reducible repeat (first | apply Kd.R_alloc | apply Kd.R_drewN | apply Kd.R_drew)); exact HO313.out) hb); have n6_ := Aside0.mk (Kd.R_below (by (with_reducible repeat (first | apply Kd.R_alloc | apply Kd.R_drewN | apply Kd.R_drew)); exact HO315.out) hb); have n7_ := Aside0.mk (Kd.R_below (by (with_reducible repeat (first | apply Kd.R_alloc | apply Kd.R_drewN | apply Kd.R_drew)); exact HO317.out) hb); have n8_ := Aside0.mk (below_step (by repeat (first | (with_reducible first | exact HB.out | apply below_alloc | apply pw_below_drewN | apply below_drew1) | exact HB.out)) hb); clear HO294; clear HO300; clear HO302; clear HO304; clear HO307; clear HO313; clear HO315; clear HO317; clear HB; have HO294 := n0_; have HO300 := n1_; have HO302 := n2_; have HO304 := n3_; have HO307 := n4_; have HO313 := n5_; have HO315 := n6_; have HO317 := n7_; have HB := n8_; clear n0_ n1_ n2_ n3_ n4_ n5_ n6_ n7_ n8_; (try clear hb); (try clear hb2); (try clear hk); (try clear hi); obtain ⟨Ao27, co27, eo27⟩ := Kd.R_slice HO315.out; subst eo27; obtain ⟨Ao28, co28, eo28⟩ := Kd.R_slice HO302.out; subst eo28) | (go_at_call 42; (with_reducible refine (laws_eqStringS.calls k _ _ t309 _ _ t296 true _ ?side1 ?side2 ?side3 ?side4 A20.out).mono ?_); (case side1 => repeat (first | exact (Kd.R_reads' HO315.out).2.2 | (with_reducible refine Kd.C_alloc ?_ _) | (with_reducible refine Kd.C_drewN ?_ _) | (with_reducible refine Kd.C_drew ?_))); (case side2 => exact (Kd.R_reads' HO315.out).2.1); (case side3 => repeat (first | exact (Kd.R_reads' HO302.out).2.2 | (with_reducible refine Kd.C_alloc ?_ _) | (with_reducible refine Kd.C_drewN ?_ _) | (with_reducible refine Kd.C_drew ?_))); (case side4 => exact (Kd.R_reads' HO302.out).2.1); rintro e w' ⟨rfl, ⟨nd, rfl⟩⟩; obtain ⟨Ao29, co29, eo29⟩ := Kd.R_slice HO317.out; subst eo29; obtain ⟨Ao30, co30, eo30⟩ := Kd.R_slice HO304.out; subst eo30) | (go_at_call 43; (with_reducible refine (laws_eqBoolS.calls k _ _ t310 _ _ t297 true _ ?side1 ?side2 ?side3 ?side4 A22.out).mono ?_); (case side1 => repeat (first | exact (Kd.R_reads' HO317.out).2.2 | (with_reducible refine Kd.C_alloc ?_ _) | (with_reducible refine Kd.C_drewN ?_ _) | (with_reducible refine Kd.C_drew ?_))); (case side2 => exact (Kd.R_reads' HO317.out).2.1); (case side3 => repeat (first | exact (Kd.R_reads' HO304.out).2.2 | (with_reducible refine Kd.C_alloc ?_ _) | (with_reducible refine Kd.C_drewN ?_ _) | (with_reducible refine Kd.C_drew ?_))); (case side4 => exact (Kd.R_reads' HO304.out).2.1); rintro e w' ⟨rfl, ⟨nd, rfl⟩⟩))
            go_meet
            case rel => exact ⟨_, ((t311 != t298)), (by first | rfl | (simp; done) | (simp [*]; done)), H', ⟨by first | omega | exact Nat.le_refl _⟩, ⟨by (with_reducible repeat (first | apply Kd.R_alloc | apply Kd.R_drewN | apply Kd.R_drew)); exact Kd.R_mono HO300.out (fun _ hk => hk.2)⟩, ⟨by (with_reducible repeat (first | apply Kd.R_alloc | apply Kd.R_drewN | apply Kd.R_drew)); exact Kd.R_mono HO302.out (fun _ hk => hk.2)⟩, ⟨by (with_reducible repeat (first | apply Kd.R_alloc | apply Kd.R_drewN | apply Kd.R_drew)); exact Kd.R_mono HO304.out (fun _ hk => hk.2)⟩, ⟨by (with_reducible repeat (first | apply Kd.R_alloc | apply Kd.R_drewN | apply Kd.R_drew)); exact Kd.R_mono HO307.out (fun _ hk => trivial)⟩, ⟨by (with_reducible repeat (first | apply Kd.R_alloc | apply Kd.R_drewN | apply Kd.R_drew)); exact Kd.R_mono HO313.out (fun _ hk => hk.2)⟩, ⟨by (with_reducible repeat (first | apply Kd.R_alloc | apply Kd.R_drewN | apply Kd.R_drew)); exact Kd.R_mono HO315.out (fun _ hk => hk.2)⟩, ⟨by (with_reducible repeat (first | apply Kd.R_alloc | apply Kd.R_drewN | apply Kd.R_drew)); exact Kd.R_mono HO317.out (fun _ hk => hk.2)⟩, ⟨by repeat (first | (with_reducible first | exact HB.out | apply below_alloc | apply pw_below_drewN | apply below_drew1) | exact HB.out)⟩⟩
          · replace c23 := Bool.eq_false_iff.mpr c23
            subst c23
            have H1 : (laws_FnExactPlayCover.j0 k a0 l1 t295 t296 t297 t298 t305 t308 t309 t310 t311 true) = some r := by rw [if_neg (show ¬ (false = true) by decide)] at H; exact H
            clear H
            have H := H1
            clear H1
            have H' := Aside0.mk H
            clear H
            obtain ⟨Ao31, co31, eo31⟩ := Kd.R_slice HO313.out
            subst eo31
            obtain ⟨Ao32, co32, eo32⟩ := Kd.R_slice HO300.out
            subst eo32
            go_wp2_with (first | ((with_reducible refine gate_callee (f := 14) rfl ?_); refine goesL_ (some 48) rfl rfl Try.func14 (by kernel_rfl) rfl #[.slice Ao31 t308.length co31, .slice Ao32 t295.length co32] rfl (by (try simp only [List.map_toArray, List.map_cons, List.map_nil]); first | done | rfl | (simp only [List.length_drop, List.length_take]; rfl)) ?_; (with_reducible refine (laws_eqEmitS.calls k _ _ t308 _ _ t295 true _ ?side1 ?side2 ?side3 ?side4 A18.out).mono ?_); (case side1 => repeat (first | exact (Kd.R_reads' HO313.out).2.2 | (with_reducible refine Kd.C_alloc ?_ _) | (with_reducible refine Kd.C_drewN ?_ _) | (with_reducible refine Kd.C_drew ?_))); (case side2 => exact (Kd.R_reads' HO313.out).2.1); (case side3 => repeat (first | exact (Kd.R_reads' HO300.out).2.2 | (with_reducible refine Kd.C_alloc ?_ _) | (with_reducible refine Kd.C_drewN ?_ _) | (with_reducible refine Kd.C_drew ?_))); (case side4 => exact (Kd.R_reads' HO300.out).2.1); rintro e w33 ⟨rfl, hb⟩; refine ⟨_, rfl, ?_⟩; have n0_ := Aside0.mk (Kd.R_below (by (with_reducible repeat (first | apply Kd.R_alloc | apply Kd.R_drewN | apply Kd.R_drew)); exact HO294.out) hb); have n1_ := Aside0.mk (Kd.R_below (by (with_reducible repeat (first | apply Kd.R_alloc | apply Kd.R_drewN | apply Kd.R_drew)); exact HO300.out) hb); have n2_ := Aside0.mk (Kd.R_below (by (with_reducible repeat (first | apply Kd.R_alloc | apply Kd.R_drewN | apply Kd.R_drew)); exact HO302.out) hb); have n3_ := Aside0.mk (Kd.R_below (by (with_reducible repeat (first | apply Kd.R_alloc | apply Kd.R_drewN | apply Kd.R_drew)); exact HO304.out) hb); have n4_ := Aside0.mk (Kd.R_below (by (with_reducible repeat (first | apply Kd.R_alloc | apply Kd.R_drewN | apply Kd.R_drew)); exact HO307.out) hb); have n5_ := Aside0.mk (Kd.R_below (by (with_reducible repeat (first | apply Kd.R_alloc | apply Kd.R_drewN | apply Kd.R_drew)); exact HO313.out) hb); have n6_ := Aside0.mk (Kd.R_below (by (with_reducible repeat (first | apply Kd.R_alloc | apply Kd.R_drewN | apply Kd.R_drew)); exact HO315.out) hb); have n7_ := Aside0.mk (Kd.R_below (by (with_reducible repeat (first | apply Kd.R_alloc | apply Kd.R_drewN | apply Kd.R_drew)); exact HO317.out) hb); have n8_ := Aside0.mk (below_step (by repeat (first | (with_reducible first | exact HB.out | apply below_alloc | apply pw_below_drewN | apply below_drew1) | exact HB.out)) hb); clear HO294; clear HO300; clear HO302; clear HO304; clear HO307; clear HO313; clear HO315; clear HO317; clear HB; have HO294 := n0_; have HO300 := n1_; have HO302 := n2_; have HO304 := n3_; have HO307 := n4_; have HO313 := n5_; have HO315 := n6_; have HO317 := n7_; have HB := n8_; clear n0_ n1_ n2_ n3_ n4_ n5_ n6_ n7_ n8_; (try clear hb); (try clear hb2); (try clear hk); (try clear hi); obtain ⟨Ao34, co34, eo34⟩ := Kd.R_slice HO315.out; subst eo34; obtain ⟨Ao35, co35, eo35⟩ := Kd.R_slice HO302.out; subst eo35) | (go_at_call 42; (with_reducible refine (laws_eqStringS.calls k _ _ t309 _ _ t296 true _ ?side1 ?side2 ?side3 ?side4 A20.out).mono ?_); (case side1 => repeat (first | exact (Kd.R_reads' HO315.out).2.2 | (with_reducible refine Kd.C_alloc ?_ _) | (with_reducible refine Kd.C_drewN ?_ _) | (with_reducible refine Kd.C_drew ?_))); (case side2 => exact (Kd.R_reads' HO315.out).2.1); (case side3 => repeat (first | exact (Kd.R_reads' HO302.out).2.2 | (with_reducible refine Kd.C_alloc ?_ _) | (with_reducible refine Kd.C_drewN ?_ _) | (with_reducible refine Kd.C_drew ?_))); (case side4 => exact (Kd.R_reads' HO302.out).2.1); rintro e w' ⟨rfl, ⟨nd, rfl⟩⟩; obtain ⟨Ao36, co36, eo36⟩ := Kd.R_slice HO317.out; subst eo36; obtain ⟨Ao37, co37, eo37⟩ := Kd.R_slice HO304.out; subst eo37) | (go_at_call 43; (with_reducible refine (laws_eqBoolS.calls k _ _ t310 _ _ t297 false _ ?side1 ?side2 ?side3 ?side4 A22.out).mono ?_); (case side1 => repeat (first | exact (Kd.R_reads' HO317.out).2.2 | (with_reducible refine Kd.C_alloc ?_ _) | (with_reducible refine Kd.C_drewN ?_ _) | (with_reducible refine Kd.C_drew ?_))); (case side2 => exact (Kd.R_reads' HO317.out).2.1); (case side3 => repeat (first | exact (Kd.R_reads' HO304.out).2.2 | (with_reducible refine Kd.C_alloc ?_ _) | (with_reducible refine Kd.C_drewN ?_ _) | (with_reducible refine Kd.C_drew ?_))); (case side4 => exact (Kd.R_reads' HO304.out).2.1); rintro e w' ⟨rfl, ⟨nd, rfl⟩⟩))
            go_meet
            case rel => exact ⟨_, (true), (by first | rfl | (simp; done) | (simp [*]; done)), H', ⟨by first | omega | exact Nat.le_refl _⟩, ⟨by (with_reducible repeat (first | apply Kd.R_alloc | apply Kd.R_drewN | apply Kd.R_drew)); exact Kd.R_mono HO300.out (fun _ hk => hk.2)⟩, ⟨by (with_reducible repeat (first | apply Kd.R_alloc | apply Kd.R_drewN | apply Kd.R_drew)); exact Kd.R_mono HO302.out (fun _ hk => hk.2)⟩, ⟨by (with_reducible repeat (first | apply Kd.R_alloc | apply Kd.R_drewN | apply Kd.R_drew)); exact Kd.R_mono HO304.out (fun _ hk => hk.2)⟩, ⟨by (with_reducible repeat (first | apply Kd.R_alloc | apply Kd.R_drewN | apply Kd.R_drew)); exact Kd.R_mono HO307.out (fun _ hk => trivial)⟩, ⟨by (with_reducible repeat (first | apply Kd.R_alloc | apply Kd.R_drewN | apply Kd.R_drew)); exact Kd.R_mono HO313.out (fun _ hk => hk.2)⟩, ⟨by (with_reducible repeat (first | apply Kd.R_alloc | apply Kd.R_drewN | apply Kd.R_drew)); exact Kd.R_mono HO315.out (fun _ hk => hk.2)⟩, ⟨by (with_reducible repeat (first | apply Kd.R_alloc | apply Kd.R_drewN | apply Kd.R_drew)); exact Kd.R_mono HO317.out (fun _ hk => hk.2)⟩, ⟨by repeat (first | (with_reducible first | exact HB.out | apply below_alloc | apply pw_below_drewN | apply below_drew1) | exact HB.out)⟩⟩
        · replace c21 := Bool.eq_false_iff.mpr c21
          subst c21
          have H1 : (laws_FnExactPlayCover.j0 k a0 l1 t295 t296 t297 t298 t305 t308 t309 t310 t311 true) = some r := by rw [if_neg (show ¬ (false = true) by decide)] at H; exact H
          clear H
          have H := H1
          clear H1
          have H' := Aside0.mk H
          clear H
          obtain ⟨Ao38, co38, eo38⟩ := Kd.R_slice HO313.out
          subst eo38
          obtain ⟨Ao39, co39, eo39⟩ := Kd.R_slice HO300.out
          subst eo39
          go_wp2_with (first | ((with_reducible refine gate_callee (f := 14) rfl ?_); refine goesL_ (some 48) rfl rfl Try.func14 (by kernel_rfl) rfl #[.slice Ao38 t308.length co38, .slice Ao39 t295.length co39] rfl (by (try simp only [List.map_toArray, List.map_cons, List.map_nil]); first | done | rfl | (simp only [List.length_drop, List.length_take]; rfl)) ?_; (with_reducible refine (laws_eqEmitS.calls k _ _ t308 _ _ t295 true _ ?side1 ?side2 ?side3 ?side4 A18.out).mono ?_); (case side1 => repeat (first | exact (Kd.R_reads' HO313.out).2.2 | (with_reducible refine Kd.C_alloc ?_ _) | (with_reducible refine Kd.C_drewN ?_ _) | (with_reducible refine Kd.C_drew ?_))); (case side2 => exact (Kd.R_reads' HO313.out).2.1); (case side3 => repeat (first | exact (Kd.R_reads' HO300.out).2.2 | (with_reducible refine Kd.C_alloc ?_ _) | (with_reducible refine Kd.C_drewN ?_ _) | (with_reducible refine Kd.C_drew ?_))); (case side4 => exact (Kd.R_reads' HO300.out).2.1); rintro e w40 ⟨rfl, hb⟩; refine ⟨_, rfl, ?_⟩; have n0_ := Aside0.mk (Kd.R_below (by (with_reducible repeat (first | apply Kd.R_alloc | apply Kd.R_drewN | apply Kd.R_drew)); exact HO294.out) hb); have n1_ := Aside0.mk (Kd.R_below (by (with_reducible repeat (first | apply Kd.R_alloc | apply Kd.R_drewN | apply Kd.R_drew)); exact HO300.out) hb); have n2_ := Aside0.mk (Kd.R_below (by (with_reducible repeat (first | apply Kd.R_alloc | apply Kd.R_drewN | apply Kd.R_drew)); exact HO302.out) hb); have n3_ := Aside0.mk (Kd.R_below (by (with_reducible repeat (first | apply Kd.R_alloc | apply Kd.R_drewN | apply Kd.R_drew)); exact HO304.out) hb); have n4_ := Aside0.mk (Kd.R_below (by (with_reducible repeat (first | apply Kd.R_alloc | apply Kd.R_drewN | apply Kd.R_drew)); exact HO307.out) hb); have n5_ := Aside0.mk (Kd.R_below (by (with_reducible repeat (first | apply Kd.R_alloc | apply Kd.R_drewN | apply Kd.R_drew)); exact HO313.out) hb); have n6_ := Aside0.mk (Kd.R_below (by (with_reducible repeat (first | apply Kd.R_alloc | apply Kd.R_drewN | apply Kd.R_drew)); exact HO315.out) hb); have n7_ := Aside0.mk (Kd.R_below (by (with_reducible repeat (first | apply Kd.R_alloc | apply Kd.R_drewN | apply Kd.R_drew)); exact HO317.out) hb); have n8_ := Aside0.mk (below_step (by repeat (first | (with_reducible first | exact HB.out | apply below_alloc | apply pw_below_drewN | apply below_drew1) | exact HB.out)) hb); clear HO294; clear HO300; clear HO302; clear HO304; clear HO307; clear HO313; clear HO315; clear HO317; clear HB; have HO294 := n0_; have HO300 := n1_; have HO302 := n2_; have HO304 := n3_; have HO307 := n4_; have HO313 := n5_; have HO315 := n6_; have HO317 := n7_; have HB := n8_; clear n0_ n1_ n2_ n3_ n4_ n5_ n6_ n7_ n8_; (try clear hb); (try clear hb2); (try clear hk); (try clear hi); obtain ⟨Ao41, co41, eo41⟩ := Kd.R_slice HO315.out; subst eo41; obtain ⟨Ao42, co42, eo42⟩ := Kd.R_slice HO302.out; subst eo42) | (go_at_call 42; (with_reducible refine (laws_eqStringS.calls k _ _ t309 _ _ t296 false _ ?side1 ?side2 ?side3 ?side4 A20.out).mono ?_); (case side1 => repeat (first | exact (Kd.R_reads' HO315.out).2.2 | (with_reducible refine Kd.C_alloc ?_ _) | (with_reducible refine Kd.C_drewN ?_ _) | (with_reducible refine Kd.C_drew ?_))); (case side2 => exact (Kd.R_reads' HO315.out).2.1); (case side3 => repeat (first | exact (Kd.R_reads' HO302.out).2.2 | (with_reducible refine Kd.C_alloc ?_ _) | (with_reducible refine Kd.C_drewN ?_ _) | (with_reducible refine Kd.C_drew ?_))); (case side4 => exact (Kd.R_reads' HO302.out).2.1); rintro e w' ⟨rfl, ⟨nd, rfl⟩⟩))
          go_meet
          case rel => exact ⟨_, (true), (by first | rfl | (simp; done) | (simp [*]; done)), H', ⟨by first | omega | exact Nat.le_refl _⟩, ⟨by (with_reducible repeat (first | apply Kd.R_alloc | apply Kd.R_drewN | apply Kd.R_drew)); exact Kd.R_mono HO300.out (fun _ hk => hk.2)⟩, ⟨by (with_reducible repeat (first | apply Kd.R_alloc | apply Kd.R_drewN | apply Kd.R_drew)); exact Kd.R_mono HO302.out (fun _ hk => hk.2)⟩, ⟨by (with_reducible repeat (first | apply Kd.R_alloc | apply Kd.R_drewN | apply Kd.R_drew)); exact Kd.R_mono HO304.out (fun _ hk => hk.2)⟩, ⟨by (with_reducible repeat (first | apply Kd.R_alloc | apply Kd.R_drewN | apply Kd.R_drew)); exact Kd.R_mono HO307.out (fun _ hk => trivial)⟩, ⟨by (with_reducible repeat (first | apply Kd.R_alloc | apply Kd.R_drewN | apply Kd.R_drew)); exact Kd.R_mono HO313.out (fun _ hk => hk.2)⟩, ⟨by (with_reducible repeat (first | apply Kd.R_alloc | apply Kd.R_drewN | apply Kd.R_drew)); exact Kd.R_mono HO315.out (fun _ hk => hk.2)⟩, ⟨by (with_reducible repeat (first | apply Kd.R_alloc | apply Kd.R_drewN | apply Kd.R_drew)); exact Kd.R_mono HO317.out (fun _ hk => hk.2)⟩, ⟨by repeat (first | (with_reducible first | exact HB.out | apply below_alloc | apply pw_below_drewN | apply below_drew1) | exact HB.out)⟩⟩
      · replace c19 := Bool.eq_false_iff.mpr c19
        subst c19
        have H1 : (laws_FnExactPlayCover.j0 k a0 l1 t295 t296 t297 t298 t305 t308 t309 t310 t311 true) = some r := by rw [if_neg (show ¬ (false = true) by decide)] at H; exact H
        clear H
        have H := H1
        clear H1
        have H' := Aside0.mk H
        clear H
        obtain ⟨Ao43, co43, eo43⟩ := Kd.R_slice HO313.out
        subst eo43
        obtain ⟨Ao44, co44, eo44⟩ := Kd.R_slice HO300.out
        subst eo44
        go_wp2_with (first | ((with_reducible refine gate_callee (f := 14) rfl ?_); refine goesL_ (some 48) rfl rfl Try.func14 (by kernel_rfl) rfl #[.slice Ao43 t308.length co43, .slice Ao44 t295.length co44] rfl (by (try simp only [List.map_toArray, List.map_cons, List.map_nil]); first | done | rfl | (simp only [List.length_drop, List.length_take]; rfl)) ?_; (with_reducible refine (laws_eqEmitS.calls k _ _ t308 _ _ t295 false _ ?side1 ?side2 ?side3 ?side4 A18.out).mono ?_); (case side1 => repeat (first | exact (Kd.R_reads' HO313.out).2.2 | (with_reducible refine Kd.C_alloc ?_ _) | (with_reducible refine Kd.C_drewN ?_ _) | (with_reducible refine Kd.C_drew ?_))); (case side2 => exact (Kd.R_reads' HO313.out).2.1); (case side3 => repeat (first | exact (Kd.R_reads' HO300.out).2.2 | (with_reducible refine Kd.C_alloc ?_ _) | (with_reducible refine Kd.C_drewN ?_ _) | (with_reducible refine Kd.C_drew ?_))); (case side4 => exact (Kd.R_reads' HO300.out).2.1); rintro e w45 ⟨rfl, hb⟩; refine ⟨_, rfl, ?_⟩; have n0_ := Aside0.mk (Kd.R_below (by (with_reducible repeat (first | apply Kd.R_alloc | apply Kd.R_drewN | apply Kd.R_drew)); exact HO294.out) hb); have n1_ := Aside0.mk (Kd.R_below (by (with_reducible repeat (first | apply Kd.R_alloc | apply Kd.R_drewN | apply Kd.R_drew)); exact HO300.out) hb); have n2_ := Aside0.mk (Kd.R_below (by (with_reducible repeat (first | apply Kd.R_alloc | apply Kd.R_drewN | apply Kd.R_drew)); exact HO302.out) hb); have n3_ := Aside0.mk (Kd.R_below (by (with_reducible repeat (first | apply Kd.R_alloc | apply Kd.R_drewN | apply Kd.R_drew)); exact HO304.out) hb); have n4_ := Aside0.mk (Kd.R_below (by (with_reducible repeat (first | apply Kd.R_alloc | apply Kd.R_drewN | apply Kd.R_drew)); exact HO307.out) hb); have n5_ := Aside0.mk (Kd.R_below (by (with_reducible repeat (first | apply Kd.R_alloc | apply Kd.R_drewN | apply Kd.R_drew)); exact HO313.out) hb); have n6_ := Aside0.mk (Kd.R_below (by (with_reducible repeat (first | apply Kd.R_alloc | apply Kd.R_drewN | apply Kd.R_drew)); exact HO315.out) hb); have n7_ := Aside0.mk (Kd.R_below (by (with_reducible repeat (first | apply Kd.R_alloc | apply Kd.R_drewN | apply Kd.R_drew)); exact HO317.out) hb); have n8_ := Aside0.mk (below_step (by repeat (first | (with_reducible first | exact HB.out | apply below_alloc | apply pw_below_drewN | apply below_drew1) | exact HB.out)) hb); clear HO294; clear HO300; clear HO302; clear HO304; clear HO307; clear HO313; clear HO315; clear HO317; clear HB; have HO294 := n0_; have HO300 := n1_; have HO302 := n2_; have HO304 := n3_; have HO307 := n4_; have HO313 := n5_; have HO315 := n6_; have HO317 := n7_; have HB := n8_; clear n0_ n1_ n2_ n3_ n4_ n5_ n6_ n7_ n8_; (try clear hb); (try clear hb2); (try clear hk); (try clear hi)))
        go_meet
        case rel => exact ⟨_, (true), (by first | rfl | (simp; done) | (simp [*]; done)), H', ⟨by first | omega | exact Nat.le_refl _⟩, ⟨by (with_reducible repeat (first | apply Kd.R_alloc | apply Kd.R_drewN | apply Kd.R_drew)); exact Kd.R_mono HO300.out (fun _ hk => hk.2)⟩, ⟨by (with_reducible repeat (first | apply Kd.R_alloc | apply Kd.R_drewN | apply Kd.R_drew)); exact Kd.R_mono HO302.out (fun _ hk => hk.2)⟩, ⟨by (with_reducible repeat (first | apply Kd.R_alloc | apply Kd.R_drewN | apply Kd.R_drew)); exact Kd.R_mono HO304.out (fun _ hk => hk.2)⟩, ⟨by (with_reducible repeat (first | apply Kd.R_alloc | apply Kd.R_drewN | apply Kd.R_drew)); exact Kd.R_mono HO307.out (fun _ hk => trivial)⟩, ⟨by (with_reducible repeat (first | apply Kd.R_alloc | apply Kd.R_drewN | apply Kd.R_drew)); exact Kd.R_mono HO313.out (fun _ hk => hk.2)⟩, ⟨by (with_reducible repeat (first | apply Kd.R_alloc | apply Kd.R_drewN | apply Kd.R_drew)); exact Kd.R_mono HO315.out (fun _ hk => hk.2)⟩, ⟨by (with_reducible repeat (first | apply Kd.R_alloc | apply Kd.R_drewN | apply Kd.R_drew)); exact Kd.R_mono HO317.out (fun _ hk => hk.2)⟩, ⟨by repeat (first | (with_reducible first | exact HB.out | apply below_alloc | apply pw_below_drewN | apply below_drew1) | exact HB.out)⟩⟩
    case rest =>
      clear HC10
      try clear c1
      try clear c2
      try clear p2
      try clear c4
      try clear c4b0
      try clear c9
      try clear c14
      try clear c19
      try clear c21
      try clear c23
      try clear c26
      try clear c28
      try clear c40
      try clear c41
      obtain ⟨kq, x66_9, rfl, HA, HJ9, HO_6, HO_7, HO_8, HO_10, HO_11, HO_12, HO_13, HB⟩ := hcut
      cases kq with
      | zero => exact absurd HA.out (by simp [laws_FnExactPlayCover.j0])
      | succ kj9 =>
        have H := HA.out
        clear HA
        simp only [laws_FnExactPlayCover.j0] at H
        by_cases c46 : x66_9 = true
        · subst c46
          have H1 : (some false) = some r := by rw [if_pos rfl] at H; exact H
          clear H
          have H := H1
          clear H1
          obtain rfl := Option.some.inj H
          exact absurd hr_.out (by simp)
        · replace c46 := Bool.eq_false_iff.mpr c46
          subst c46
          have H1 : ((laws_toCoverStepS.f kj9 l1).bind fun t321 => ((laws_eqCoverStepS.f kj9 t305 t321).bind fun t324 => (if t324 = true then ((laws_markCoverStepS.f kj9 t305 1).bind fun bt325 => (if bt325.1 < 0 then (laws_FnExactPlayCover.j1 kj9 a0 l1 t295 t296 t297 t298 t308 t309 t310 true) else ((laws_eqEmitS.f kj9 t308 t295).bind fun t327 => (if t327 = true then ((laws_eqStringS.f kj9 t309 t296).bind fun t328 => (if t328 = true then ((laws_eqBoolS.f kj9 t310 t297).bind fun t329 => (if t329 = true then (laws_FnExactPlayCover.j1 kj9 a0 l1 t295 t296 t297 t298 t308 t309 t310 (t311 != t298)) else (laws_FnExactPlayCover.j1 kj9 a0 l1 t295 t296 t297 t298 t308 t309 t310 true))) else (laws_FnExactPlayCover.j1 kj9 a0 l1 t295 t296 t297 t298 t308 t309 t310 true))) else (laws_FnExactPlayCover.j1 kj9 a0 l1 t295 t296 t297 t298 t308 t309 t310 true))))) else (some false)))) = some r := by rw [if_neg (show ¬ (false = true) by decide)] at H; exact H
          clear H
          have H := H1
          clear H1
          replace H := Option.bind_eq_some_iff.mp H
          obtain ⟨t321, A470, H⟩ := H
          replace H : ((laws_eqCoverStepS.f kj9 t305 t321).bind fun t324 => (if t324 = true then ((laws_markCoverStepS.f kj9 t305 1).bind fun bt325 => (if bt325.1 < 0 then (laws_FnExactPlayCover.j1 kj9 a0 l1 t295 t296 t297 t298 t308 t309 t310 true) else ((laws_eqEmitS.f kj9 t308 t295).bind fun t327 => (if t327 = true then ((laws_eqStringS.f kj9 t309 t296).bind fun t328 => (if t328 = true then ((laws_eqBoolS.f kj9 t310 t297).bind fun t329 => (if t329 = true then (laws_FnExactPlayCover.j1 kj9 a0 l1 t295 t296 t297 t298 t308 t309 t310 (t311 != t298)) else (laws_FnExactPlayCover.j1 kj9 a0 l1 t295 t296 t297 t298 t308 t309 t310 true))) else (laws_FnExactPlayCover.j1 kj9 a0 l1 t295 t296 t297 t298 t308 t309 t310 true))) else (laws_FnExactPlayCover.j1 kj9 a0 l1 t295 t296 t297 t298 t308 t309 t310 true))))) else (some false))) = some r := H
          have A47 := Aside0.mk A470
          clear A470
          replace H := Option.bind_eq_some_iff.mp H
          obtain ⟨t324, A480, H⟩ := H
          replace H : (if t324 = true then ((laws_markCoverStepS.f kj9 t305 1).bind fun bt325 => (if bt325.1 < 0 then (laws_FnExactPlayCover.j1 kj9 a0 l1 t295 t296 t297 t298 t308 t309 t310 true) else ((laws_eqEmitS.f kj9 t308 t295).bind fun t327 => (if t327 = true then ((laws_eqStringS.f kj9 t309 t296).bind fun t328 => (if t328 = true then ((laws_eqBoolS.f kj9 t310 t297).bind fun t329 => (if t329 = true then (laws_FnExactPlayCover.j1 kj9 a0 l1 t295 t296 t297 t298 t308 t309 t310 (t311 != t298)) else (laws_FnExactPlayCover.j1 kj9 a0 l1 t295 t296 t297 t298 t308 t309 t310 true))) else (laws_FnExactPlayCover.j1 kj9 a0 l1 t295 t296 t297 t298 t308 t309 t310 true))) else (laws_FnExactPlayCover.j1 kj9 a0 l1 t295 t296 t297 t298 t308 t309 t310 true))))) else (some false)) = some r := H
          have A48 := Aside0.mk A480
          clear A480
          by_cases c49 : t324 = true
          · subst c49
            have H1 : ((laws_markCoverStepS.f kj9 t305 1).bind fun bt325 => (if bt325.1 < 0 then (laws_FnExactPlayCover.j1 kj9 a0 l1 t295 t296 t297 t298 t308 t309 t310 true) else ((laws_eqEmitS.f kj9 t308 t295).bind fun t327 => (if t327 = true then ((laws_eqStringS.f kj9 t309 t296).bind fun t328 => (if t328 = true then ((laws_eqBoolS.f kj9 t310 t297).bind fun t329 => (if t329 = true then (laws_FnExactPlayCover.j1 kj9 a0 l1 t295 t296 t297 t298 t308 t309 t310 (t311 != t298)) else (laws_FnExactPlayCover.j1 kj9 a0 l1 t295 t296 t297 t298 t308 t309 t310 true))) else (laws_FnExactPlayCover.j1 kj9 a0 l1 t295 t296 t297 t298 t308 t309 t310 true))) else (laws_FnExactPlayCover.j1 kj9 a0 l1 t295 t296 t297 t298 t308 t309 t310 true))))) = some r := by rw [if_pos rfl] at H; exact H
            clear H
            have H := H1
            clear H1
            replace H := Option.bind_eq_some_iff.mp H
            obtain ⟨⟨t325, t326⟩, A500, H⟩ := H
            replace H : (if t325 < 0 then (laws_FnExactPlayCover.j1 kj9 a0 l1 t295 t296 t297 t298 t308 t309 t310 true) else ((laws_eqEmitS.f kj9 t308 t295).bind fun t327 => (if t327 = true then ((laws_eqStringS.f kj9 t309 t296).bind fun t328 => (if t328 = true then ((laws_eqBoolS.f kj9 t310 t297).bind fun t329 => (if t329 = true then (laws_FnExactPlayCover.j1 kj9 a0 l1 t295 t296 t297 t298 t308 t309 t310 (t311 != t298)) else (laws_FnExactPlayCover.j1 kj9 a0 l1 t295 t296 t297 t298 t308 t309 t310 true))) else (laws_FnExactPlayCover.j1 kj9 a0 l1 t295 t296 t297 t298 t308 t309 t310 true))) else (laws_FnExactPlayCover.j1 kj9 a0 l1 t295 t296 t297 t298 t308 t309 t310 true)))) = some r := H
            have A50 := Aside0.mk A500
            clear A500
            have HC51 := Aside0.mk H
            clear H
            go_upto_region 14 with (first | ((with_reducible refine gate_callee (f := 28) rfl ?_); refine goesL_ (some 69) rfl rfl Try.func28 (by kernel_rfl) rfl #[.slice A1 l1.length c1] rfl (by (try simp only [List.map_toArray, List.map_cons, List.map_nil]); first | done | rfl | (simp only [List.length_drop, List.length_take]; rfl)) ?_; (with_reducible refine (laws_toCoverStepS.calls kj9 _ _ l1 t321 _ ?side1 ?side2 A47.out).mono ?_); (case side1 => repeat (first | exact (Kd.C_below HR1.out HB.out) | (with_reducible refine Kd.C_alloc ?_ _) | (with_reducible refine Kd.C_drewN ?_ _) | (with_reducible refine Kd.C_drew ?_))); (case side2 => exact HC1.out); rintro e w52 ⟨v322, rfl, ho0, hb⟩; refine ⟨_, rfl, ?_⟩; have n0_ := Aside0.mk (Kd.R_below (by (with_reducible repeat (first | apply Kd.R_alloc | apply Kd.R_drewN | apply Kd.R_drew)); exact HO_6.out) hb); have n1_ := Aside0.mk (Kd.R_below (by (with_reducible repeat (first | apply Kd.R_alloc | apply Kd.R_drewN | apply Kd.R_drew)); exact HO_7.out) hb); have n2_ := Aside0.mk (Kd.R_below (by (with_reducible repeat (first | apply Kd.R_alloc | apply Kd.R_drewN | apply Kd.R_drew)); exact HO_8.out) hb); have n3_ := Aside0.mk (Kd.R_elder' (by (with_reducible repeat (first | apply Kd.R_alloc | apply Kd.R_drewN | apply Kd.R_drew)); exact HO_10.out) (Kd.R_base ho0) hb); have n4_ := Aside0.mk (Kd.R_below (by (with_reducible repeat (first | apply Kd.R_alloc | apply Kd.R_drewN | apply Kd.R_drew)); exact HO_11.out) hb); have n5_ := Aside0.mk (Kd.R_below (by (with_reducible repeat (first | apply Kd.R_alloc | apply Kd.R_drewN | apply Kd.R_drew)); exact HO_12.out) hb); have n6_ := Aside0.mk (Kd.R_below (by (with_reducible repeat (first | apply Kd.R_alloc | apply Kd.R_drewN | apply Kd.R_drew)); exact HO_13.out) hb); have n7_ := Aside0.mk (Kd.R_lower (Kd.R_new' ho0 (Kd.R_lt (by (with_reducible repeat (first | apply Kd.R_alloc | apply Kd.R_drewN | apply Kd.R_drew)); exact HO_10.out))) (below_size (by repeat (first | (with_reducible first | exact HB.out | apply below_alloc | apply pw_below_drewN | apply below_drew1) | exact HB.out)))); have n8_ := Aside0.mk (below_step (by repeat (first | (with_reducible first | exact HB.out | apply below_alloc | apply pw_below_drewN | apply below_drew1) | exact HB.out)) hb); clear HO_6; clear HO_7; clear HO_8; clear HO_10; clear HO_11; clear HO_12; clear HO_13; clear HB; have HO_6 := n0_; have HO_7 := n1_; have HO_8 := n2_; have HO_10 := n3_; have HO_11 := n4_; have HO_12 := n5_; have HO_13 := n6_; have HO323 := n7_; have HB := n8_; clear n0_ n1_ n2_ n3_ n4_ n5_ n6_ n7_ n8_; (try clear hb); (try clear hb2); (try clear hk); (try clear hi); (try clear ho0); obtain ⟨Ao53, co53, eo53⟩ := Kd.R_slice HO323.out; subst eo53) | ((with_reducible refine gate_callee (f := 30) rfl ?_); refine goesL_ (some 70) rfl rfl Try.func30 (by kernel_rfl) rfl #[.slice Ao16 t305.length co16, .slice Ao53 t321.length co53] rfl (by (try simp only [List.map_toArray, List.map_cons, List.map_nil]); first | done | rfl | (simp only [List.length_drop, List.length_take]; rfl)) ?_; (with_reducible refine (laws_eqCoverStepS.calls kj9 _ _ t305 _ _ t321 true _ ?side1 ?side2 ?side3 ?side4 A48.out).mono ?_); (case side1 => repeat (first | exact (Kd.R_reads' HO_10.out).2.2 | (with_reducible refine Kd.C_alloc ?_ _) | (with_reducible refine Kd.C_drewN ?_ _) | (with_reducible refine Kd.C_drew ?_))); (case side2 => exact (Kd.R_reads' HO_10.out).2.1); (case side3 => repeat (first | exact (Kd.R_reads' HO323.out).2.2 | (with_reducible refine Kd.C_alloc ?_ _) | (with_reducible refine Kd.C_drewN ?_ _) | (with_reducible refine Kd.C_drew ?_))); (case side4 => exact (Kd.R_reads' HO323.out).2.1); rintro e w54 ⟨rfl, hb⟩; refine ⟨_, rfl, ?_⟩; have n0_ := Aside0.mk (Kd.R_below (by (with_reducible repeat (first | apply Kd.R_alloc | apply Kd.R_drewN | apply Kd.R_drew)); exact HO_6.out) hb); have n1_ := Aside0.mk (Kd.R_below (by (with_reducible repeat (first | apply Kd.R_alloc | apply Kd.R_drewN | apply Kd.R_drew)); exact HO_7.out) hb); have n2_ := Aside0.mk (Kd.R_below (by (with_reducible repeat (first | apply Kd.R_alloc | apply Kd.R_drewN | apply Kd.R_drew)); exact HO_8.out) hb); have n3_ := Aside0.mk (Kd.R_below (by (with_reducible repeat (first | apply Kd.R_alloc | apply Kd.R_drewN | apply Kd.R_drew)); exact HO_10.out) hb); have n4_ := Aside0.mk (Kd.R_below (by (with_reducible repeat (first | apply Kd.R_alloc | apply Kd.R_drewN | apply Kd.R_drew)); exact HO_11.out) hb); have n5_ := Aside0.mk (Kd.R_below (by (with_reducible repeat (first | apply Kd.R_alloc | apply Kd.R_drewN | apply Kd.R_drew)); exact HO_12.out) hb); have n6_ := Aside0.mk (Kd.R_below (by (with_reducible repeat (first | apply Kd.R_alloc | apply Kd.R_drewN | apply Kd.R_drew)); exact HO_13.out) hb); have n7_ := Aside0.mk (Kd.R_below (by (with_reducible repeat (first | apply Kd.R_alloc | apply Kd.R_drewN | apply Kd.R_drew)); exact HO323.out) hb); have n8_ := Aside0.mk (below_step (by repeat (first | (with_reducible first | exact HB.out | apply below_alloc | apply pw_below_drewN | apply below_drew1) | exact HB.out)) hb); clear HO_6; clear HO_7; clear HO_8; clear HO_10; clear HO_11; clear HO_12; clear HO_13; clear HO323; clear HB; have HO_6 := n0_; have HO_7 := n1_; have HO_8 := n2_; have HO_10 := n3_; have HO_11 := n4_; have HO_12 := n5_; have HO_13 := n6_; have HO323 := n7_; have HB := n8_; clear n0_ n1_ n2_ n3_ n4_ n5_ n6_ n7_ n8_; (try clear hb); (try clear hb2); (try clear hk); (try clear hi)) | ((with_reducible refine gate_callee (f := 31) rfl ?_); refine goesL_ (some 74) rfl rfl Try.func31 (by kernel_rfl) rfl #[.slice Ao16 t305.length co16, .int .i64 1] rfl (by (try simp only [List.map_toArray, List.map_cons, List.map_nil]); first | done | rfl | (simp only [List.length_drop, List.length_take]; rfl)) ?_; (with_reducible refine (laws_markCoverStepS.calls kj9 (fun k_ => some k_ = (.slice Ao16 t305.length co16 : Value).ownBlock) (.slice Ao16 t305.length co16) t305 1 t325 t326 w _ ?side1 ?side2 A50.out).mono ?_); (case side1 => repeat (first | (with_reducible first | exact HB.out | apply below_alloc | apply pw_below_drewN | apply below_drew1) | exact HB.out)); (case side2 => exact Kd.R_tight rfl HO_10.out); rintro e w55 ⟨rfl, hy0, hb, hkp⟩; refine ⟨_, rfl, ?_⟩; have n0_ := Aside0.mk (Kd.R_mono (ok' := fun k_ => some k_ ≠ (v312 : Value).ownBlock) (Kd.R_keptB ((Kd.R_apart' HO_6.out (Kd.R_typed HO_10.out) (by decide))) hkp (fun k_ hk_ hs_ => (hk_.2) hs_)) (fun k_ hk_ => hk_.1.1)); have n1_ := Aside0.mk (Kd.R_mono (ok' := fun k_ => some k_ ≠ (v314 : Value).ownBlock) (Kd.R_keptB ((Kd.R_apart' HO_7.out (Kd.R_typed HO_10.out) (by decide))) hkp (fun k_ hk_ hs_ => (hk_.2) hs_)) (fun k_ hk_ => hk_.1.1)); have n2_ := Aside0.mk (Kd.R_mono (ok' := fun k_ => some k_ ≠ (v316 : Value).ownBlock) (Kd.R_keptB ((Kd.R_apart' HO_8.out (Kd.R_typed HO_10.out) (by decide))) hkp (fun k_ hk_ hs_ => (hk_.2) hs_)) (fun k_ hk_ => hk_.1.1)); have n3_ := Aside0.mk (Kd.R_reok rfl hy0 (fun k_ e_ => HO_10.out.1 k_ e_)); have n4_ := Aside0.mk (Kd.R_mono (ok' := fun k_ => some k_ ≠ (v299 : Value).ownBlock) (Kd.R_keptB ((Kd.R_apart' HO_11.out (Kd.R_typed HO_10.out) (by decide))) hkp (fun k_ hk_ hs_ => (hk_.2) hs_)) (fun k_ hk_ => hk_.1.1)); have n5_ := Aside0.mk (Kd.R_mono (ok' := fun k_ => some k_ ≠ (v301 : Value).ownBlock) (Kd.R_keptB ((Kd.R_apart' HO_12.out (Kd.R_typed HO_10.out) (by decide))) hkp (fun k_ hk_ hs_ => (hk_.2) hs_)) (fun k_ hk_ => hk_.1.1)); have n6_ := Aside0.mk (Kd.R_mono (ok' := fun k_ => some k_ ≠ (v303 : Value).ownBlock) (Kd.R_keptB ((Kd.R_apart' HO_13.out (Kd.R_typed HO_10.out) (by decide))) hkp (fun k_ hk_ hs_ => (hk_.2) hs_)) (fun k_ hk_ => hk_.1.1)); have n7_ := Aside0.mk (Kd.R_mono (ok' := fun k_ => some k_ ≠ (.slice Ao16 t305.length co16 : Value).ownBlock) (Kd.R_keptB (HO323.out) hkp (fun k_ hk_ hs_ => (hk_.2) hs_)) (fun k_ hk_ => hk_.1.2)); have n8_ := Aside0.mk (hb); clear HO_6; clear HO_7; clear HO_8; clear HO_10; clear HO_11; clear HO_12; clear HO_13; clear HO323; clear HB; have HO_6 := n0_; have HO_7 := n1_; have HO_8 := n2_; have HO_10 := n3_; have HO_11 := n4_; have HO_12 := n5_; have HO_13 := n6_; have HO323 := n7_; have HB := n8_; clear n0_ n1_ n2_ n3_ n4_ n5_ n6_ n7_ n8_; (try clear hb); (try clear hkp); (try clear hy0)))
            (try simp only [Act.put, List.setIfInBounds_toArray, List.set_cons_zero, List.set_cons_succ])
            go_cut [99] (fun v99 wc => ∃ (kq : Nat) (x99_50 : Bool), v99 = .bool x99_50 ∧ Aside0 (laws_FnExactPlayCover.j1 kq a0 l1 t295 t296 t297 t298 t308 t309 t310 x99_50 = some r) ∧ Aside0 (kq ≤ kj9) ∧ Aside0 (Kd.R k57 57 wc w.heap.size (fun k_ => some k_ ≠ (v312 : Value).ownBlock) v299 t295) ∧ Aside0 (Kd.R Kd.string 9 wc w.heap.size (fun k_ => some k_ ≠ (v314 : Value).ownBlock) v301 t296) ∧ Aside0 (Kd.R Kd.bool 4 wc w.heap.size (fun k_ => some k_ ≠ (v316 : Value).ownBlock) v303 t297) ∧ Aside0 (Kd.R k57 57 wc w.heap.size (fun k_ => some k_ ≠ (v299 : Value).ownBlock) v312 t308) ∧ Aside0 (Kd.R Kd.string 9 wc w.heap.size (fun k_ => some k_ ≠ (v301 : Value).ownBlock) v314 t309) ∧ Aside0 (Kd.R Kd.bool 4 wc w.heap.size (fun k_ => some k_ ≠ (v303 : Value).ownBlock) v316 t310) ∧ Aside0 (Below w.heap.size w wc))
            case first =>
              have H := HC51.out
              clear HC51
              by_cases c56 : t325 < 0
              · rw [if_pos c56] at H
                have c56b0 : decide (t325 < 0) = true := decide_eq_true c56
                clear c56
                (first | rw [c56b0] | (simp only [i64_w, i32_w]; rw [c56b0]) | skip)
                have H' := Aside0.mk H
                clear H
                go_wp2
                go_meet
                case rel => exact ⟨_, (true), (by first | rfl | (simp; done) | (simp [*]; done)), H', ⟨by have := HJ9.out; first | omega | exact Nat.le_refl _⟩, ⟨by (with_reducible repeat (first | apply Kd.R_alloc | apply Kd.R_drewN | apply Kd.R_drew)); exact HO_6.out⟩, ⟨by (with_reducible repeat (first | apply Kd.R_alloc | apply Kd.R_drewN | apply Kd.R_drew)); exact HO_7.out⟩, ⟨by (with_reducible repeat (first | apply Kd.R_alloc | apply Kd.R_drewN | apply Kd.R_drew)); exact HO_8.out⟩, ⟨by (with_reducible repeat (first | apply Kd.R_alloc | apply Kd.R_drewN | apply Kd.R_drew)); exact HO_11.out⟩, ⟨by (with_reducible repeat (first | apply Kd.R_alloc | apply Kd.R_drewN | apply Kd.R_drew)); exact HO_12.out⟩, ⟨by (with_reducible repeat (first | apply Kd.R_alloc | apply Kd.R_drewN | apply Kd.R_drew)); exact HO_13.out⟩, ⟨by repeat (first | (with_reducible first | exact HB.out | apply below_alloc | apply pw_below_drewN | apply below_drew1) | exact HB.out)⟩⟩
              · rw [if_neg c56] at H
                have c56b0 : decide (t325 < 0) = false := decide_eq_false c56
                clear c56
                (first | rw [c56b0] | (simp only [i64_w, i32_w]; rw [c56b0]) | skip)
                replace H := Option.bind_eq_some_iff.mp H
                obtain ⟨t327, A570, H⟩ := H
                replace H : (if t327 = true then ((laws_eqStringS.f kj9 t309 t296).bind fun t328 => (if t328 = true then ((laws_eqBoolS.f kj9 t310 t297).bind fun t329 => (if t329 = true then (laws_FnExactPlayCover.j1 kj9 a0 l1 t295 t296 t297 t298 t308 t309 t310 (t311 != t298)) else (laws_FnExactPlayCover.j1 kj9 a0 l1 t295 t296 t297 t298 t308 t309 t310 true))) else (laws_FnExactPlayCover.j1 kj9 a0 l1 t295 t296 t297 t298 t308 t309 t310 true))) else (laws_FnExactPlayCover.j1 kj9 a0 l1 t295 t296 t297 t298 t308 t309 t310 true)) = some r := H
                have A57 := Aside0.mk A570
                clear A570
                by_cases c58 : t327 = true
                · subst c58
                  have H1 : ((laws_eqStringS.f kj9 t309 t296).bind fun t328 => (if t328 = true then ((laws_eqBoolS.f kj9 t310 t297).bind fun t329 => (if t329 = true then (laws_FnExactPlayCover.j1 kj9 a0 l1 t295 t296 t297 t298 t308 t309 t310 (t311 != t298)) else (laws_FnExactPlayCover.j1 kj9 a0 l1 t295 t296 t297 t298 t308 t309 t310 true))) else (laws_FnExactPlayCover.j1 kj9 a0 l1 t295 t296 t297 t298 t308 t309 t310 true))) = some r := by rw [if_pos rfl] at H; exact H
                  clear H
                  have H := H1
                  clear H1
                  replace H := Option.bind_eq_some_iff.mp H
                  obtain ⟨t328, A590, H⟩ := H
                  replace H : (if t328 = true then ((laws_eqBoolS.f kj9 t310 t297).bind fun t329 => (if t329 = true then (laws_FnExactPlayCover.j1 kj9 a0 l1 t295 t296 t297 t298 t308 t309 t310 (t311 != t298)) else (laws_FnExactPlayCover.j1 kj9 a0 l1 t295 t296 t297 t298 t308 t309 t310 true))) else (laws_FnExactPlayCover.j1 kj9 a0 l1 t295 t296 t297 t298 t308 t309 t310 true)) = some r := H
                  have A59 := Aside0.mk A590
                  clear A590
                  by_cases c60 : t328 = true
                  · subst c60
                    have H1 : ((laws_eqBoolS.f kj9 t310 t297).bind fun t329 => (if t329 = true then (laws_FnExactPlayCover.j1 kj9 a0 l1 t295 t296 t297 t298 t308 t309 t310 (t311 != t298)) else (laws_FnExactPlayCover.j1 kj9 a0 l1 t295 t296 t297 t298 t308 t309 t310 true))) = some r := by rw [if_pos rfl] at H; exact H
                    clear H
                    have H := H1
                    clear H1
                    replace H := Option.bind_eq_some_iff.mp H
                    obtain ⟨t329, A610, H⟩ := H
                    replace H : (if t329 = true then (laws_FnExactPlayCover.j1 kj9 a0 l1 t295 t296 t297 t298 t308 t309 t310 (t311 != t298)) else (laws_FnExactPlayCover.j1 kj9 a0 l1 t295 t296 t297 t298 t308 t309 t310 true)) = some r := H
                    have A61 := Aside0.mk A610
                    clear A610
                    by_cases c62 : t329 = true
                    · subst c62
                      have H1 : (laws_FnExactPlayCover.j1 kj9 a0 l1 t295 t296 t297 t298 t308 t309 t310 (t311 != t298)) = some r := by rw [if_pos rfl] at H; exact H
                      clear H
                      have H := H1
                      clear H1
                      have H' := Aside0.mk H
                      clear H
                      obtain ⟨Ao63, co63, eo63⟩ := Kd.R_slice HO_11.out
                      subst eo63
                      obtain ⟨Ao64, co64, eo64⟩ := Kd.R_slice HO_6.out
                      subst eo64
                      go_wp2_with (first | (go_at_call 14; (with_reducible refine (laws_eqEmitS.calls kj9 _ _ t308 _ _ t295 true _ ?side1 ?side2 ?side3 ?side4 A57.out).mono ?_); (case side1 => repeat (first | exact (Kd.R_reads' HO_11.out).2.2 | (with_reducible refine Kd.C_alloc ?_ _) | (with_reducible refine Kd.C_drewN ?_ _) | (with_reducible refine Kd.C_drew ?_))); (case side2 => exact (Kd.R_reads' HO_11.out).2.1); (case side3 => repeat (first | exact (Kd.R_reads' HO_6.out).2.2 | (with_reducible refine Kd.C_alloc ?_ _) | (with_reducible refine Kd.C_drewN ?_ _) | (with_reducible refine Kd.C_drew ?_))); (case side4 => exact (Kd.R_reads' HO_6.out).2.1); rintro e w65 ⟨rfl, hb⟩; have n0_ := Aside0.mk (Kd.R_below (by (with_reducible repeat (first | apply Kd.R_alloc | apply Kd.R_drewN | apply Kd.R_drew)); exact HO_6.out) hb); have n1_ := Aside0.mk (Kd.R_below (by (with_reducible repeat (first | apply Kd.R_alloc | apply Kd.R_drewN | apply Kd.R_drew)); exact HO_7.out) hb); have n2_ := Aside0.mk (Kd.R_below (by (with_reducible repeat (first | apply Kd.R_alloc | apply Kd.R_drewN | apply Kd.R_drew)); exact HO_8.out) hb); have n3_ := Aside0.mk (Kd.R_below (by (with_reducible repeat (first | apply Kd.R_alloc | apply Kd.R_drewN | apply Kd.R_drew)); exact HO_10.out) hb); have n4_ := Aside0.mk (Kd.R_below (by (with_reducible repeat (first | apply Kd.R_alloc | apply Kd.R_drewN | apply Kd.R_drew)); exact HO_11.out) hb); have n5_ := Aside0.mk (Kd.R_below (by (with_reducible repeat (first | apply Kd.R_alloc | apply Kd.R_drewN | apply Kd.R_drew)); exact HO_12.out) hb); have n6_ := Aside0.mk (Kd.R_below (by (with_reducible repeat (first | apply Kd.R_alloc | apply Kd.R_drewN | apply Kd.R_drew)); exact HO_13.out) hb); have n7_ := Aside0.mk (Kd.R_below (by (with_reducible repeat (first | apply Kd.R_alloc | apply Kd.R_drewN | apply Kd.R_drew)); exact HO323.out) hb); have n8_ := Aside0.mk (below_step (by repeat (first | (with_reducible first | exact HB.out | apply below_alloc | apply pw_below_drewN | apply below_drew1) | exact HB.out)) hb); clear HO_6; clear HO_7; clear HO_8; clear HO_10; clear HO_11; clear HO_12; clear HO_13; clear HO323; clear HB; have HO_6 := n0_; have HO_7 := n1_; have HO_8 := n2_; have HO_10 := n3_; have HO_11 := n4_; have HO_12 := n5_; have HO_13 := n6_; have HO323 := n7_; have HB := n8_; clear n0_ n1_ n2_ n3_ n4_ n5_ n6_ n7_ n8_; (try clear hb); (try clear hb2); (try clear hk); (try clear hi); obtain ⟨Ao66, co66, eo66⟩ := Kd.R_slice HO_12.out; subst eo66; obtain ⟨Ao67, co67, eo67⟩ := Kd.R_slice HO_7.out; subst eo67) | (go_at_call 42; (with_reducible refine (laws_eqStringS.calls kj9 _ _ t309 _ _ t296 true _ ?side1 ?side2 ?side3 ?side4 A59.out).mono ?_); (case side1 => repeat (first | exact (Kd.R_reads' HO_12.out).2.2 | (with_reducible refine Kd.C_alloc ?_ _) | (with_reducible refine Kd.C_drewN ?_ _) | (with_reducible refine Kd.C_drew ?_))); (case side2 => exact (Kd.R_reads' HO_12.out).2.1); (case side3 => repeat (first | exact (Kd.R_reads' HO_7.out).2.2 | (with_reducible refine Kd.C_alloc ?_ _) | (with_reducible refine Kd.C_drewN ?_ _) | (with_reducible refine Kd.C_drew ?_))); (case side4 => exact (Kd.R_reads' HO_7.out).2.1); rintro e w' ⟨rfl, ⟨nd, rfl⟩⟩; obtain ⟨Ao68, co68, eo68⟩ := Kd.R_slice HO_13.out; subst eo68; obtain ⟨Ao69, co69, eo69⟩ := Kd.R_slice HO_8.out; subst eo69) | (go_at_call 43; (with_reducible refine (laws_eqBoolS.calls kj9 _ _ t310 _ _ t297 true _ ?side1 ?side2 ?side3 ?side4 A61.out).mono ?_); (case side1 => repeat (first | exact (Kd.R_reads' HO_13.out).2.2 | (with_reducible refine Kd.C_alloc ?_ _) | (with_reducible refine Kd.C_drewN ?_ _) | (with_reducible refine Kd.C_drew ?_))); (case side2 => exact (Kd.R_reads' HO_13.out).2.1); (case side3 => repeat (first | exact (Kd.R_reads' HO_8.out).2.2 | (with_reducible refine Kd.C_alloc ?_ _) | (with_reducible refine Kd.C_drewN ?_ _) | (with_reducible refine Kd.C_drew ?_))); (case side4 => exact (Kd.R_reads' HO_8.out).2.1); rintro e w' ⟨rfl, ⟨nd, rfl⟩⟩))
                      go_meet
                      case rel => exact ⟨_, ((t311 != t298)), (by first | rfl | (simp; done) | (simp [*]; done)), H', ⟨by have := HJ9.out; first | omega | exact Nat.le_refl _⟩, ⟨by (with_reducible repeat (first | apply Kd.R_alloc | apply Kd.R_drewN | apply Kd.R_drew)); exact HO_6.out⟩, ⟨by (with_reducible repeat (first | apply Kd.R_alloc | apply Kd.R_drewN | apply Kd.R_drew)); exact HO_7.out⟩, ⟨by (with_reducible repeat (first | apply Kd.R_alloc | apply Kd.R_drewN | apply Kd.R_drew)); exact HO_8.out⟩, ⟨by (with_reducible repeat (first | apply Kd.R_alloc | apply Kd.R_drewN | apply Kd.R_drew)); exact HO_11.out⟩, ⟨by (with_reducible repeat (first | apply Kd.R_alloc | apply Kd.R_drewN | apply Kd.R_drew)); exact HO_12.out⟩, ⟨by (with_reducible repeat (first | apply Kd.R_alloc | apply Kd.R_drewN | apply Kd.R_drew)); exact HO_13.out⟩, ⟨by repeat (first | (with_reducible first | exact HB.out | apply below_alloc | apply pw_below_drewN | apply below_drew1) | exact HB.out)⟩⟩
                    · replace c62 := Bool.eq_false_iff.mpr c62
                      subst c62
                      have H1 : (laws_FnExactPlayCover.j1 kj9 a0 l1 t295 t296 t297 t298 t308 t309 t310 true) = some r := by rw [if_neg (show ¬ (false = true) by decide)] at H; exact H
                      clear H
                      have H := H1
                      clear H1
                      have H' := Aside0.mk H
                      clear H
                      obtain ⟨Ao70, co70, eo70⟩ := Kd.R_slice HO_11.out
                      subst eo70
                      obtain ⟨Ao71, co71, eo71⟩ := Kd.R_slice HO_6.out
                      subst eo71
                      go_wp2_with (first | (go_at_call 14; (with_reducible refine (laws_eqEmitS.calls kj9 _ _ t308 _ _ t295 true _ ?side1 ?side2 ?side3 ?side4 A57.out).mono ?_); (case side1 => repeat (first | exact (Kd.R_reads' HO_11.out).2.2 | (with_reducible refine Kd.C_alloc ?_ _) | (with_reducible refine Kd.C_drewN ?_ _) | (with_reducible refine Kd.C_drew ?_))); (case side2 => exact (Kd.R_reads' HO_11.out).2.1); (case side3 => repeat (first | exact (Kd.R_reads' HO_6.out).2.2 | (with_reducible refine Kd.C_alloc ?_ _) | (with_reducible refine Kd.C_drewN ?_ _) | (with_reducible refine Kd.C_drew ?_))); (case side4 => exact (Kd.R_reads' HO_6.out).2.1); rintro e w72 ⟨rfl, hb⟩; have n0_ := Aside0.mk (Kd.R_below (by (with_reducible repeat (first | apply Kd.R_alloc | apply Kd.R_drewN | apply Kd.R_drew)); exact HO_6.out) hb); have n1_ := Aside0.mk (Kd.R_below (by (with_reducible repeat (first | apply Kd.R_alloc | apply Kd.R_drewN | apply Kd.R_drew)); exact HO_7.out) hb); have n2_ := Aside0.mk (Kd.R_below (by (with_reducible repeat (first | apply Kd.R_alloc | apply Kd.R_drewN | apply Kd.R_drew)); exact HO_8.out) hb); have n3_ := Aside0.mk (Kd.R_below (by (with_reducible repeat (first | apply Kd.R_alloc | apply Kd.R_drewN | apply Kd.R_drew)); exact HO_10.out) hb); have n4_ := Aside0.mk (Kd.R_below (by (with_reducible repeat (first | apply Kd.R_alloc | apply Kd.R_drewN | apply Kd.R_drew)); exact HO_11.out) hb); have n5_ := Aside0.mk (Kd.R_below (by (with_reducible repeat (first | apply Kd.R_alloc | apply Kd.R_drewN | apply Kd.R_drew)); exact HO_12.out) hb); have n6_ := Aside0.mk (Kd.R_below (by (with_reducible repeat (first | apply Kd.R_alloc | apply Kd.R_drewN | apply Kd.R_drew)); exact HO_13.out) hb); have n7_ := Aside0.mk (Kd.R_below (by (with_reducible repeat (first | apply Kd.R_alloc | apply Kd.R_drewN | apply Kd.R_drew)); exact HO323.out) hb); have n8_ := Aside0.mk (below_step (by repeat (first | (with_reducible first | exact HB.out | apply below_alloc | apply pw_below_drewN | apply below_drew1) | exact HB.out)) hb); clear HO_6; clear HO_7; clear HO_8; clear HO_10; clear HO_11; clear HO_12; clear HO_13; clear HO323; clear HB; have HO_6 := n0_; have HO_7 := n1_; have HO_8 := n2_; have HO_10 := n3_; have HO_11 := n4_; have HO_12 := n5_; have HO_13 := n6_; have HO323 := n7_; have HB := n8_; clear n0_ n1_ n2_ n3_ n4_ n5_ n6_ n7_ n8_; (try clear hb); (try clear hb2); (try clear hk); (try clear hi); obtain ⟨Ao73, co73, eo73⟩ := Kd.R_slice HO_12.out; subst eo73; obtain ⟨Ao74, co74, eo74⟩ := Kd.R_slice HO_7.out; subst eo74) | (go_at_call 42; (with_reducible refine (laws_eqStringS.calls kj9 _ _ t309 _ _ t296 true _ ?side1 ?side2 ?side3 ?side4 A59.out).mono ?_); (case side1 => repeat (first | exact (Kd.R_reads' HO_12.out).2.2 | (with_reducible refine Kd.C_alloc ?_ _) | (with_reducible refine Kd.C_drewN ?_ _) | (with_reducible refine Kd.C_drew ?_))); (case side2 => exact (Kd.R_reads' HO_12.out).2.1); (case side3 => repeat (first | exact (Kd.R_reads' HO_7.out).2.2 | (with_reducible refine Kd.C_alloc ?_ _) | (with_reducible refine Kd.C_drewN ?_ _) | (with_reducible refine Kd.C_drew ?_))); (case side4 => exact (Kd.R_reads' HO_7.out).2.1); rintro e w' ⟨rfl, ⟨nd, rfl⟩⟩; obtain ⟨Ao75, co75, eo75⟩ := Kd.R_slice HO_13.out; subst eo75; obtain ⟨Ao76, co76, eo76⟩ := Kd.R_slice HO_8.out; subst eo76) | (go_at_call 43; (with_reducible refine (laws_eqBoolS.calls kj9 _ _ t310 _ _ t297 false _ ?side1 ?side2 ?side3 ?side4 A61.out).mono ?_); (case side1 => repeat (first | exact (Kd.R_reads' HO_13.out).2.2 | (with_reducible refine Kd.C_alloc ?_ _) | (with_reducible refine Kd.C_drewN ?_ _) | (with_reducible refine Kd.C_drew ?_))); (case side2 => exact (Kd.R_reads' HO_13.out).2.1); (case side3 => repeat (first | exact (Kd.R_reads' HO_8.out).2.2 | (with_reducible refine Kd.C_alloc ?_ _) | (with_reducible refine Kd.C_drewN ?_ _) | (with_reducible refine Kd.C_drew ?_))); (case side4 => exact (Kd.R_reads' HO_8.out).2.1); rintro e w' ⟨rfl, ⟨nd, rfl⟩⟩))
                      go_meet
                      case rel => exact ⟨_, (true), (by first | rfl | (simp; done) | (simp [*]; done)), H', ⟨by have := HJ9.out; first | omega | exact Nat.le_refl _⟩, ⟨by (with_reducible repeat (first | apply Kd.R_alloc | apply Kd.R_drewN | apply Kd.R_drew)); exact HO_6.out⟩, ⟨by (with_reducible repeat (first | apply Kd.R_alloc | apply Kd.R_drewN | apply Kd.R_drew)); exact HO_7.out⟩, ⟨by (with_reducible repeat (first | apply Kd.R_alloc | apply Kd.R_drewN | apply Kd.R_drew)); exact HO_8.out⟩, ⟨by (with_reducible repeat (first | apply Kd.R_alloc | apply Kd.R_drewN | apply Kd.R_drew)); exact HO_11.out⟩, ⟨by (with_reducible repeat (first | apply Kd.R_alloc | apply Kd.R_drewN | apply Kd.R_drew)); exact HO_12.out⟩, ⟨by (with_reducible repeat (first | apply Kd.R_alloc | apply Kd.R_drewN | apply Kd.R_drew)); exact HO_13.out⟩, ⟨by repeat (first | (with_reducible first | exact HB.out | apply below_alloc | apply pw_below_drewN | apply below_drew1) | exact HB.out)⟩⟩
                  · replace c60 := Bool.eq_false_iff.mpr c60
                    subst c60
                    have H1 : (laws_FnExactPlayCover.j1 kj9 a0 l1 t295 t296 t297 t298 t308 t309 t310 true) = some r := by rw [if_neg (show ¬ (false = true) by decide)] at H; exact H
                    clear H
                    have H := H1
                    clear H1
                    have H' := Aside0.mk H
                    clear H
                    obtain ⟨Ao77, co77, eo77⟩ := Kd.R_slice HO_11.out
                    subst eo77
                    obtain ⟨Ao78, co78, eo78⟩ := Kd.R_slice HO_6.out
                    subst eo78
                    go_wp2_with (first | (go_at_call 14; (with_reducible refine (laws_eqEmitS.calls kj9 _ _ t308 _ _ t295 true _ ?side1 ?side2 ?side3 ?side4 A57.out).mono ?_); (case side1 => repeat (first | exact (Kd.R_reads' HO_11.out).2.2 | (with_reducible refine Kd.C_alloc ?_ _) | (with_reducible refine Kd.C_drewN ?_ _) | (with_reducible refine Kd.C_drew ?_))); (case side2 => exact (Kd.R_reads' HO_11.out).2.1); (case side3 => repeat (first | exact (Kd.R_reads' HO_6.out).2.2 | (with_reducible refine Kd.C_alloc ?_ _) | (with_reducible refine Kd.C_drewN ?_ _) | (with_reducible refine Kd.C_drew ?_))); (case side4 => exact (Kd.R_reads' HO_6.out).2.1); rintro e w79 ⟨rfl, hb⟩; have n0_ := Aside0.mk (Kd.R_below (by (with_reducible repeat (first | apply Kd.R_alloc | apply Kd.R_drewN | apply Kd.R_drew)); exact HO_6.out) hb); have n1_ := Aside0.mk (Kd.R_below (by (with_reducible repeat (first | apply Kd.R_alloc | apply Kd.R_drewN | apply Kd.R_drew)); exact HO_7.out) hb); have n2_ := Aside0.mk (Kd.R_below (by (with_reducible repeat (first | apply Kd.R_alloc | apply Kd.R_drewN | apply Kd.R_drew)); exact HO_8.out) hb); have n3_ := Aside0.mk (Kd.R_below (by (with_reducible repeat (first | apply Kd.R_alloc | apply Kd.R_drewN | apply Kd.R_drew)); exact HO_10.out) hb); have n4_ := Aside0.mk (Kd.R_below (by (with_reducible repeat (first | apply Kd.R_alloc | apply Kd.R_drewN | apply Kd.R_drew)); exact HO_11.out) hb); have n5_ := Aside0.mk (Kd.R_below (by (with_reducible repeat (first | apply Kd.R_alloc | apply Kd.R_drewN | apply Kd.R_drew)); exact HO_12.out) hb); have n6_ := Aside0.mk (Kd.R_below (by (with_reducible repeat (first | apply Kd.R_alloc | apply Kd.R_drewN | apply Kd.R_drew)); exact HO_13.out) hb); have n7_ := Aside0.mk (Kd.R_below (by (with_reducible repeat (first | apply Kd.R_alloc | apply Kd.R_drewN | apply Kd.R_drew)); exact HO323.out) hb); have n8_ := Aside0.mk (below_step (by repeat (first | (with_reducible first | exact HB.out | apply below_alloc | apply pw_below_drewN | apply below_drew1) | exact HB.out)) hb); clear HO_6; clear HO_7; clear HO_8; clear HO_10; clear HO_11; clear HO_12; clear HO_13; clear HO323; clear HB; have HO_6 := n0_; have HO_7 := n1_; have HO_8 := n2_; have HO_10 := n3_; have HO_11 := n4_; have HO_12 := n5_; have HO_13 := n6_; have HO323 := n7_; have HB := n8_; clear n0_ n1_ n2_ n3_ n4_ n5_ n6_ n7_ n8_; (try clear hb); (try clear hb2); (try clear hk); (try clear hi); obtain ⟨Ao80, co80, eo80⟩ := Kd.R_slice HO_12.out; subst eo80; obtain ⟨Ao81, co81, eo81⟩ := Kd.R_slice HO_7.out; subst eo81) | (go_at_call 42; (with_reducible refine (laws_eqStringS.calls kj9 _ _ t309 _ _ t296 false _ ?side1 ?side2 ?side3 ?side4 A59.out).mono ?_); (case side1 => repeat (first | exact (Kd.R_reads' HO_12.out).2.2 | (with_reducible refine Kd.C_alloc ?_ _) | (with_reducible refine Kd.C_drewN ?_ _) | (with_reducible refine Kd.C_drew ?_))); (case side2 => exact (Kd.R_reads' HO_12.out).2.1); (case side3 => repeat (first | exact (Kd.R_reads' HO_7.out).2.2 | (with_reducible refine Kd.C_alloc ?_ _) | (with_reducible refine Kd.C_drewN ?_ _) | (with_reducible refine Kd.C_drew ?_))); (case side4 => exact (Kd.R_reads' HO_7.out).2.1); rintro e w' ⟨rfl, ⟨nd, rfl⟩⟩))
                    go_meet
                    case rel => exact ⟨_, (true), (by first | rfl | (simp; done) | (simp [*]; done)), H', ⟨by have := HJ9.out; first | omega | exact Nat.le_refl _⟩, ⟨by (with_reducible repeat (first | apply Kd.R_alloc | apply Kd.R_drewN | apply Kd.R_drew)); exact HO_6.out⟩, ⟨by (with_reducible repeat (first | apply Kd.R_alloc | apply Kd.R_drewN | apply Kd.R_drew)); exact HO_7.out⟩, ⟨by (with_reducible repeat (first | apply Kd.R_alloc | apply Kd.R_drewN | apply Kd.R_drew)); exact HO_8.out⟩, ⟨by (with_reducible repeat (first | apply Kd.R_alloc | apply Kd.R_drewN | apply Kd.R_drew)); exact HO_11.out⟩, ⟨by (with_reducible repeat (first | apply Kd.R_alloc | apply Kd.R_drewN | apply Kd.R_drew)); exact HO_12.out⟩, ⟨by (with_reducible repeat (first | apply Kd.R_alloc | apply Kd.R_drewN | apply Kd.R_drew)); exact HO_13.out⟩, ⟨by repeat (first | (with_reducible first | exact HB.out | apply below_alloc | apply pw_below_drewN | apply below_drew1) | exact HB.out)⟩⟩
                · replace c58 := Bool.eq_false_iff.mpr c58
                  subst c58
                  have H1 : (laws_FnExactPlayCover.j1 kj9 a0 l1 t295 t296 t297 t298 t308 t309 t310 true) = some r := by rw [if_neg (show ¬ (false = true) by decide)] at H; exact H
                  clear H
                  have H := H1
                  clear H1
                  have H' := Aside0.mk H
                  clear H
                  obtain ⟨Ao82, co82, eo82⟩ := Kd.R_slice HO_11.out
                  subst eo82
                  obtain ⟨Ao83, co83, eo83⟩ := Kd.R_slice HO_6.out
                  subst eo83
                  go_wp2_with (first | (go_at_call 14; (with_reducible refine (laws_eqEmitS.calls kj9 _ _ t308 _ _ t295 false _ ?side1 ?side2 ?side3 ?side4 A57.out).mono ?_); (case side1 => repeat (first | exact (Kd.R_reads' HO_11.out).2.2 | (with_reducible refine Kd.C_alloc ?_ _) | (with_reducible refine Kd.C_drewN ?_ _) | (with_reducible refine Kd.C_drew ?_))); (case side2 => exact (Kd.R_reads' HO_11.out).2.1); (case side3 => repeat (first | exact (Kd.R_reads' HO_6.out).2.2 | (with_reducible refine Kd.C_alloc ?_ _) | (with_reducible refine Kd.C_drewN ?_ _) | (with_reducible refine Kd.C_drew ?_))); (case side4 => exact (Kd.R_reads' HO_6.out).2.1); rintro e w84 ⟨rfl, hb⟩; have n0_ := Aside0.mk (Kd.R_below (by (with_reducible repeat (first | apply Kd.R_alloc | apply Kd.R_drewN | apply Kd.R_drew)); exact HO_6.out) hb); have n1_ := Aside0.mk (Kd.R_below (by (with_reducible repeat (first | apply Kd.R_alloc | apply Kd.R_drewN | apply Kd.R_drew)); exact HO_7.out) hb); have n2_ := Aside0.mk (Kd.R_below (by (with_reducible repeat (first | apply Kd.R_alloc | apply Kd.R_drewN | apply Kd.R_drew)); exact HO_8.out) hb); have n3_ := Aside0.mk (Kd.R_below (by (with_reducible repeat (first | apply Kd.R_alloc | apply Kd.R_drewN | apply Kd.R_drew)); exact HO_10.out) hb); have n4_ := Aside0.mk (Kd.R_below (by (with_reducible repeat (first | apply Kd.R_alloc | apply Kd.R_drewN | apply Kd.R_drew)); exact HO_11.out) hb); have n5_ := Aside0.mk (Kd.R_below (by (with_reducible repeat (first | apply Kd.R_alloc | apply Kd.R_drewN | apply Kd.R_drew)); exact HO_12.out) hb); have n6_ := Aside0.mk (Kd.R_below (by (with_reducible repeat (first | apply Kd.R_alloc | apply Kd.R_drewN | apply Kd.R_drew)); exact HO_13.out) hb); have n7_ := Aside0.mk (Kd.R_below (by (with_reducible repeat (first | apply Kd.R_alloc | apply Kd.R_drewN | apply Kd.R_drew)); exact HO323.out) hb); have n8_ := Aside0.mk (below_step (by repeat (first | (with_reducible first | exact HB.out | apply below_alloc | apply pw_below_drewN | apply below_drew1) | exact HB.out)) hb); clear HO_6; clear HO_7; clear HO_8; clear HO_10; clear HO_11; clear HO_12; clear HO_13; clear HO323; clear HB; have HO_6 := n0_; have HO_7 := n1_; have HO_8 := n2_; have HO_10 := n3_; have HO_11 := n4_; have HO_12 := n5_; have HO_13 := n6_; have HO323 := n7_; have HB := n8_; clear n0_ n1_ n2_ n3_ n4_ n5_ n6_ n7_ n8_; (try clear hb); (try clear hb2); (try clear hk); (try clear hi)))
                  go_meet
                  case rel => exact ⟨_, (true), (by first | rfl | (simp; done) | (simp [*]; done)), H', ⟨by have := HJ9.out; first | omega | exact Nat.le_refl _⟩, ⟨by (with_reducible repeat (first | apply Kd.R_alloc | apply Kd.R_drewN | apply Kd.R_drew)); exact HO_6.out⟩, ⟨by (with_reducible repeat (first | apply Kd.R_alloc | apply Kd.R_drewN | apply Kd.R_drew)); exact HO_7.out⟩, ⟨by (with_reducible repeat (first | apply Kd.R_alloc | apply Kd.R_drewN | apply Kd.R_drew)); exact HO_8.out⟩, ⟨by (with_reducible repeat (first | apply Kd.R_alloc | apply Kd.R_drewN | apply Kd.R_drew)); exact HO_11.out⟩, ⟨by (with_reducible repeat (first | apply Kd.R_alloc | apply Kd.R_drewN | apply Kd.R_drew)); exact HO_12.out⟩, ⟨by (with_reducible repeat (first | apply Kd.R_alloc | apply Kd.R_drewN | apply Kd.R_drew)); exact HO_13.out⟩, ⟨by repeat (first | (with_reducible first | exact HB.out | apply below_alloc | apply pw_below_drewN | apply below_drew1) | exact HB.out)⟩⟩
            case rest =>
              clear HC51
              try clear c1
              try clear c2
              try clear p2
              try clear c3
              try clear c4
              try clear c4b0
              try clear c5
              try clear c6
              try clear c9
              try clear c14
              try clear c19
              try clear c21
              try clear c23
              try clear c26
              try clear c28
              try clear c30
              try clear c31
              try clear c40
              try clear c41
              try clear c46
              try clear c49
              try clear c56
              try clear c56b0
              try clear c58
              try clear c60
              try clear c62
              try clear p2
              obtain ⟨kq, x99_50, rfl, HA, HJ50, HO_6, HO_7, HO_8, HO_11, HO_12, HO_13, HB⟩ := hcut
              cases kq with
              | zero => exact absurd HA.out (by simp [laws_FnExactPlayCover.j1])
              | succ kj50 =>
                have H := HA.out
                clear HA
                simp only [laws_FnExactPlayCover.j1] at H
                by_cases c85 : x99_50 = true
                · subst c85
                  have H1 : (some false) = some r := by rw [if_pos rfl] at H; exact H
                  clear H
                  have H := H1
                  clear H1
                  obtain rfl := Option.some.inj H
                  exact absurd hr_.out (by simp)
                · replace c85 := Bool.eq_false_iff.mpr c85
                  subst c85
                  have H1 : ((laws_markEmitS.f kj50 t308 1).bind fun bt330 => ((laws_markStringS.f kj50 t309 bt330.1).bind fun bt332 => ((laws_markBoolS.f kj50 t310 bt332.1).bind fun bt334 => ((laws_heldEmitS.f kj50 bt330.2 1).bind fun t336 => (if t336 < 0 then (some false) else ((laws_heldStringS.f kj50 bt332.2 t336).bind fun t337 => (if t337 < 0 then (some false) else ((laws_heldBoolS.f kj50 bt334.2 t337).bind fun t338 => (if t338 < 0 then (some false) else (if t338 = bt334.1 then ((laws_toCoverStepS.f kj50 l1).bind fun t339 => ((impl_PlayCover.f kj50 a0 t339).bind fun bt342 => ((laws_eqEmitS.f kj50 bt342.1 t295).bind fun t352 => (if t352 = true then ((laws_eqStringS.f kj50 bt342.2.1 t296).bind fun t353 => (if t353 = true then ((laws_eqBoolS.f kj50 bt342.2.2.1 t297).bind fun t354 => (if t354 = true then (laws_FnExactPlayCover.j2 kj50 bt330.2 bt332.2 bt334.2 bt334.1 (bt342.2.2.2 != t298)) else (laws_FnExactPlayCover.j2 kj50 bt330.2 bt332.2 bt334.2 bt334.1 true))) else (laws_FnExactPlayCover.j2 kj50 bt330.2 bt332.2 bt334.2 bt334.1 true))) else (laws_FnExactPlayCover.j2 kj50 bt330.2 bt332.2 bt334.2 bt334.1 true))))) else (some false))))))))))) = some r := by rw [if_neg (show ¬ (false = true) by decide)] at H; exact H
                  clear H
                  have H := H1
                  clear H1
                  replace H := Option.bind_eq_some_iff.mp H
                  obtain ⟨⟨t330, t331⟩, A860, H⟩ := H
                  replace H : ((laws_markStringS.f kj50 t309 t330).bind fun bt332 => ((laws_markBoolS.f kj50 t310 bt332.1).bind fun bt334 => ((laws_heldEmitS.f kj50 t331 1).bind fun t336 => (if t336 < 0 then (some false) else ((laws_heldStringS.f kj50 bt332.2 t336).bind fun t337 => (if t337 < 0 then (some false) else ((laws_heldBoolS.f kj50 bt334.2 t337).bind fun t338 => (if t338 < 0 then (some false) else (if t338 = bt334.1 then ((laws_toCoverStepS.f kj50 l1).bind fun t339 => ((impl_PlayCover.f kj50 a0 t339).bind fun bt342 => ((laws_eqEmitS.f kj50 bt342.1 t295).bind fun t352 => (if t352 = true then ((laws_eqStringS.f kj50 bt342.2.1 t296).bind fun t353 => (if t353 = true then ((laws_eqBoolS.f kj50 bt342.2.2.1 t297).bind fun t354 => (if t354 = true then (laws_FnExactPlayCover.j2 kj50 t331 bt332.2 bt334.2 bt334.1 (bt342.2.2.2 != t298)) else (laws_FnExactPlayCover.j2 kj50 t331 bt332.2 bt334.2 bt334.1 true))) else (laws_FnExactPlayCover.j2 kj50 t331 bt332.2 bt334.2 bt334.1 true))) else (laws_FnExactPlayCover.j2 kj50 t331 bt332.2 bt334.2 bt334.1 true))))) else (some false)))))))))) = some r := H
                  have A86 := Aside0.mk A860
                  clear A860
                  replace H := Option.bind_eq_some_iff.mp H
                  obtain ⟨⟨t332, t333⟩, A870, H⟩ := H
                  replace H : ((laws_markBoolS.f kj50 t310 t332).bind fun bt334 => ((laws_heldEmitS.f kj50 t331 1).bind fun t336 => (if t336 < 0 then (some false) else ((laws_heldStringS.f kj50 t333 t336).bind fun t337 => (if t337 < 0 then (some false) else ((laws_heldBoolS.f kj50 bt334.2 t337).bind fun t338 => (if t338 < 0 then (some false) else (if t338 = bt334.1 then ((laws_toCoverStepS.f kj50 l1).bind fun t339 => ((impl_PlayCover.f kj50 a0 t339).bind fun bt342 => ((laws_eqEmitS.f kj50 bt342.1 t295).bind fun t352 => (if t352 = true then ((laws_eqStringS.f kj50 bt342.2.1 t296).bind fun t353 => (if t353 = true then ((laws_eqBoolS.f kj50 bt342.2.2.1 t297).bind fun t354 => (if t354 = true then (laws_FnExactPlayCover.j2 kj50 t331 t333 bt334.2 bt334.1 (bt342.2.2.2 != t298)) else (laws_FnExactPlayCover.j2 kj50 t331 t333 bt334.2 bt334.1 true))) else (laws_FnExactPlayCover.j2 kj50 t331 t333 bt334.2 bt334.1 true))) else (laws_FnExactPlayCover.j2 kj50 t331 t333 bt334.2 bt334.1 true))))) else (some false))))))))) = some r := H
                  have A87 := Aside0.mk A870
                  clear A870
                  replace H := Option.bind_eq_some_iff.mp H
                  obtain ⟨⟨t334, t335⟩, A880, H⟩ := H
                  replace H : ((laws_heldEmitS.f kj50 t331 1).bind fun t336 => (if t336 < 0 then (some false) else ((laws_heldStringS.f kj50 t333 t336).bind fun t337 => (if t337 < 0 then (some false) else ((laws_heldBoolS.f kj50 t335 t337).bind fun t338 => (if t338 < 0 then (some false) else (if t338 = t334 then ((laws_toCoverStepS.f kj50 l1).bind fun t339 => ((impl_PlayCover.f kj50 a0 t339).bind fun bt342 => ((laws_eqEmitS.f kj50 bt342.1 t295).bind fun t352 => (if t352 = true then ((laws_eqStringS.f kj50 bt342.2.1 t296).bind fun t353 => (if t353 = true then ((laws_eqBoolS.f kj50 bt342.2.2.1 t297).bind fun t354 => (if t354 = true then (laws_FnExactPlayCover.j2 kj50 t331 t333 t335 t334 (bt342.2.2.2 != t298)) else (laws_FnExactPlayCover.j2 kj50 t331 t333 t335 t334 true))) else (laws_FnExactPlayCover.j2 kj50 t331 t333 t335 t334 true))) else (laws_FnExactPlayCover.j2 kj50 t331 t333 t335 t334 true))))) else (some false)))))))) = some r := H
                  have A88 := Aside0.mk A880
                  clear A880
                  replace H := Option.bind_eq_some_iff.mp H
                  obtain ⟨t336, A890, H⟩ := H
                  replace H : (if t336 < 0 then (some false) else ((laws_heldStringS.f kj50 t333 t336).bind fun t337 => (if t337 < 0 then (some false) else ((laws_heldBoolS.f kj50 t335 t337).bind fun t338 => (if t338 < 0 then (some false) else (if t338 = t334 then ((laws_toCoverStepS.f kj50 l1).bind fun t339 => ((impl_PlayCover.f kj50 a0 t339).bind fun bt342 => ((laws_eqEmitS.f kj50 bt342.1 t295).bind fun t352 => (if t352 = true then ((laws_eqStringS.f kj50 bt342.2.1 t296).bind fun t353 => (if t353 = true then ((laws_eqBoolS.f kj50 bt342.2.2.1 t297).bind fun t354 => (if t354 = true then (laws_FnExactPlayCover.j2 kj50 t331 t333 t335 t334 (bt342.2.2.2 != t298)) else (laws_FnExactPlayCover.j2 kj50 t331 t333 t335 t334 true))) else (laws_FnExactPlayCover.j2 kj50 t331 t333 t335 t334 true))) else (laws_FnExactPlayCover.j2 kj50 t331 t333 t335 t334 true))))) else (some false))))))) = some r := H
                  have A89 := Aside0.mk A890
                  clear A890
                  by_cases c90 : t336 < 0
                  · rw [if_pos c90] at H
                    have c90b0 : decide (t336 < 0) = true := decide_eq_true c90
                    clear c90
                    obtain rfl := Option.some.inj H
                    exact absurd hr_.out (by simp)
                  · rw [if_neg c90] at H
                    have c90b0 : decide (t336 < 0) = false := decide_eq_false c90
                    clear c90
                    replace H := Option.bind_eq_some_iff.mp H
                    obtain ⟨t337, A910, H⟩ := H
                    replace H : (if t337 < 0 then (some false) else ((laws_heldBoolS.f kj50 t335 t337).bind fun t338 => (if t338 < 0 then (some false) else (if t338 = t334 then ((laws_toCoverStepS.f kj50 l1).bind fun t339 => ((impl_PlayCover.f kj50 a0 t339).bind fun bt342 => ((laws_eqEmitS.f kj50 bt342.1 t295).bind fun t352 => (if t352 = true then ((laws_eqStringS.f kj50 bt342.2.1 t296).bind fun t353 => (if t353 = true then ((laws_eqBoolS.f kj50 bt342.2.2.1 t297).bind fun t354 => (if t354 = true then (laws_FnExactPlayCover.j2 kj50 t331 t333 t335 t334 (bt342.2.2.2 != t298)) else (laws_FnExactPlayCover.j2 kj50 t331 t333 t335 t334 true))) else (laws_FnExactPlayCover.j2 kj50 t331 t333 t335 t334 true))) else (laws_FnExactPlayCover.j2 kj50 t331 t333 t335 t334 true))))) else (some false))))) = some r := H
                    have A91 := Aside0.mk A910
                    clear A910
                    by_cases c92 : t337 < 0
                    · rw [if_pos c92] at H
                      have c92b0 : decide (t337 < 0) = true := decide_eq_true c92
                      clear c92
                      obtain rfl := Option.some.inj H
                      exact absurd hr_.out (by simp)
                    · rw [if_neg c92] at H
                      have c92b0 : decide (t337 < 0) = false := decide_eq_false c92
                      clear c92
                      replace H := Option.bind_eq_some_iff.mp H
                      obtain ⟨t338, A930, H⟩ := H
                      replace H : (if t338 < 0 then (some false) else (if t338 = t334 then ((laws_toCoverStepS.f kj50 l1).bind fun t339 => ((impl_PlayCover.f kj50 a0 t339).bind fun bt342 => ((laws_eqEmitS.f kj50 bt342.1 t295).bind fun t352 => (if t352 = true then ((laws_eqStringS.f kj50 bt342.2.1 t296).bind fun t353 => (if t353 = true then ((laws_eqBoolS.f kj50 bt342.2.2.1 t297).bind fun t354 => (if t354 = true then (laws_FnExactPlayCover.j2 kj50 t331 t333 t335 t334 (bt342.2.2.2 != t298)) else (laws_FnExactPlayCover.j2 kj50 t331 t333 t335 t334 true))) else (laws_FnExactPlayCover.j2 kj50 t331 t333 t335 t334 true))) else (laws_FnExactPlayCover.j2 kj50 t331 t333 t335 t334 true))))) else (some false))) = some r := H
                      have A93 := Aside0.mk A930
                      clear A930
                      by_cases c94 : t338 < 0
                      · rw [if_pos c94] at H
                        have c94b0 : decide (t338 < 0) = true := decide_eq_true c94
                        clear c94
                        obtain rfl := Option.some.inj H
                        exact absurd hr_.out (by simp)
                      · rw [if_neg c94] at H
                        have c94b0 : decide (t338 < 0) = false := decide_eq_false c94
                        clear c94
                        by_cases c95 : t338 = t334
                        · rw [if_pos c95] at H
                          have c95b0 : (t338 == t334) = true := beq_iff_eq.mpr c95
                          have c95b1 : (t338 != t334) = false := bne_eq_false_iff_eq.mpr c95
                          clear c95
                          replace H := Option.bind_eq_some_iff.mp H
                          obtain ⟨t339, A960, H⟩ := H
                          replace H : ((impl_PlayCover.f kj50 a0 t339).bind fun bt342 => ((laws_eqEmitS.f kj50 bt342.1 t295).bind fun t352 => (if t352 = true then ((laws_eqStringS.f kj50 bt342.2.1 t296).bind fun t353 => (if t353 = true then ((laws_eqBoolS.f kj50 bt342.2.2.1 t297).bind fun t354 => (if t354 = true then (laws_FnExactPlayCover.j2 kj50 t331 t333 t335 t334 (bt342.2.2.2 != t298)) else (laws_FnExactPlayCover.j2 kj50 t331 t333 t335 t334 true))) else (laws_FnExactPlayCover.j2 kj50 t331 t333 t335 t334 true))) else (laws_FnExactPlayCover.j2 kj50 t331 t333 t335 t334 true)))) = some r := H
                          have A96 := Aside0.mk A960
                          clear A960
                          replace H := Option.bind_eq_some_iff.mp H
                          obtain ⟨⟨t342, t343, t344, t345⟩, A970, H⟩ := H
                          replace H : ((laws_eqEmitS.f kj50 t342 t295).bind fun t352 => (if t352 = true then ((laws_eqStringS.f kj50 t343 t296).bind fun t353 => (if t353 = true then ((laws_eqBoolS.f kj50 t344 t297).bind fun t354 => (if t354 = true then (laws_FnExactPlayCover.j2 kj50 t331 t333 t335 t334 (t345 != t298)) else (laws_FnExactPlayCover.j2 kj50 t331 t333 t335 t334 true))) else (laws_FnExactPlayCover.j2 kj50 t331 t333 t335 t334 true))) else (laws_FnExactPlayCover.j2 kj50 t331 t333 t335 t334 true))) = some r := H
                          have A97 := Aside0.mk A970
                          clear A970
                          have HC98 := Aside0.mk H
                          clear H
                          obtain ⟨Ao99, co99, eo99⟩ := Kd.R_slice HO_11.out
                          subst eo99
                          go_upto_region 33 with (first | ((with_reducible refine gate_callee (f := 15) rfl ?_); refine goesL_ (some 102) rfl rfl Try.func15 (by kernel_rfl) rfl #[.slice Ao99 t308.length co99, .int .i64 1] rfl (by (try simp only [List.map_toArray, List.map_cons, List.map_nil]); first | done | rfl | (simp only [List.length_drop, List.length_take]; rfl)) ?_; (with_reducible refine (laws_markEmitS.calls kj50 (fun k_ => some k_ = (.slice Ao99 t308.length co99 : Value).ownBlock) (.slice Ao99 t308.length co99) t308 1 t330 t331 w _ ?side1 ?side2 A86.out).mono ?_); (case side1 => repeat (first | (with_reducible first | exact HB.out | apply below_alloc | apply pw_below_drewN | apply below_drew1) | exact HB.out)); (case side2 => exact Kd.R_tight rfl HO_11.out); rintro e w100 ⟨rfl, hy0, hb, hkp⟩; refine ⟨_, rfl, ?_⟩; have n0_ := Aside0.mk (Kd.R_mono (ok' := fun k_ => some k_ ≠ (.slice Ao99 t308.length co99 : Value).ownBlock) (Kd.R_keptB (HO_6.out) hkp (fun k_ hk_ hs_ => (hk_) hs_)) (fun k_ hk_ => hk_.1)); have n1_ := Aside0.mk (Kd.R_mono (ok' := fun k_ => some k_ ≠ (v314 : Value).ownBlock) (Kd.R_keptB ((Kd.R_apart' HO_7.out (Kd.R_typed HO_11.out) (by decide))) hkp (fun k_ hk_ hs_ => (hk_.2) hs_)) (fun k_ hk_ => hk_.1.1)); have n2_ := Aside0.mk (Kd.R_mono (ok' := fun k_ => some k_ ≠ (v316 : Value).ownBlock) (Kd.R_keptB ((Kd.R_apart' HO_8.out (Kd.R_typed HO_11.out) (by decide))) hkp (fun k_ hk_ hs_ => (hk_.2) hs_)) (fun k_ hk_ => hk_.1.1)); have n3_ := Aside0.mk (Kd.R_reok rfl hy0 (fun k_ e_ => HO_11.out.1 k_ e_)); have n4_ := Aside0.mk (Kd.R_mono (ok' := fun k_ => some k_ ≠ (v301 : Value).ownBlock) (Kd.R_keptB ((Kd.R_apart' HO_12.out (Kd.R_typed HO_11.out) (by decide))) hkp (fun k_ hk_ hs_ => (hk_.2) hs_)) (fun k_ hk_ => hk_.1.1)); have n5_ := Aside0.mk (Kd.R_mono (ok' := fun k_ => some k_ ≠ (v303 : Value).ownBlock) (Kd.R_keptB ((Kd.R_apart' HO_13.out (Kd.R_typed HO_11.out) (by decide))) hkp (fun k_ hk_ hs_ => (hk_.2) hs_)) (fun k_ hk_ => hk_.1.1)); have n6_ := Aside0.mk (hb); clear HO_6; clear HO_7; clear HO_8; clear HO_11; clear HO_12; clear HO_13; clear HB; have HO_6 := n0_; have HO_7 := n1_; have HO_8 := n2_; have HO_11 := n3_; have HO_12 := n4_; have HO_13 := n5_; have HB := n6_; clear n0_ n1_ n2_ n3_ n4_ n5_ n6_; (try clear hb); (try clear hkp); (try clear hy0); obtain ⟨Ao101, co101, eo101⟩ := Kd.R_slice HO_12.out; subst eo101) | ((with_reducible refine gate_callee (f := 44) rfl ?_); refine goesL_ (some 105) rfl rfl Try.func44 (by kernel_rfl) rfl #[.slice Ao101 t309.length co101, .int .i64 t330] rfl (by (try simp only [List.map_toArray, List.map_cons, List.map_nil]); first | done | rfl | (simp only [List.length_drop, List.length_take]; rfl)) ?_; (with_reducible refine (laws_markStringS.calls kj50 (fun k_ => some k_ = (.slice Ao101 t309.length co101 : Value).ownBlock) (.slice Ao101 t309.length co101) t309 t330 t332 t333 w _ ?side1 ?side2 A87.out).mono ?_); (case side1 => repeat (first | (with_reducible first | exact HB.out | apply below_alloc | apply pw_below_drewN | apply below_drew1) | exact HB.out)); (case side2 => exact Kd.R_tight rfl HO_12.out); rintro e w102 ⟨rfl, hy0, hb, hkp⟩; refine ⟨_, rfl, ?_⟩; have n0_ := Aside0.mk (Kd.R_mono (ok' := fun k_ => some k_ ≠ (.slice Ao99 t308.length co99 : Value).ownBlock) (Kd.R_keptB ((Kd.R_apart' HO_6.out (Kd.R_typed HO_12.out) (by decide))) hkp (fun k_ hk_ hs_ => (hk_.2) hs_)) (fun k_ hk_ => hk_.1.1)); have n1_ := Aside0.mk (Kd.R_mono (ok' := fun k_ => some k_ ≠ (.slice Ao101 t309.length co101 : Value).ownBlock) (Kd.R_keptB (HO_7.out) hkp (fun k_ hk_ hs_ => (hk_) hs_)) (fun k_ hk_ => hk_.1)); have n2_ := Aside0.mk (Kd.R_mono (ok' := fun k_ => some k_ ≠ (v316 : Value).ownBlock) (Kd.R_keptB ((Kd.R_apart' HO_8.out (Kd.R_typed HO_12.out) (by decide))) hkp (fun k_ hk_ hs_ => (hk_.2) hs_)) (fun k_ hk_ => hk_.1.1)); have n3_ := Aside0.mk (Kd.R_mono (ok' := fun k_ => some k_ ≠ (v299 : Value).ownBlock) (Kd.R_keptB ((Kd.R_apart' HO_11.out (Kd.R_typed HO_12.out) (by decide))) hkp (fun k_ hk_ hs_ => (hk_.2) hs_)) (fun k_ hk_ => hk_.1.1)); have n4_ := Aside0.mk (Kd.R_reok rfl hy0 (fun k_ e_ => HO_12.out.1 k_ e_)); have n5_ := Aside0.mk (Kd.R_mono (ok' := fun k_ => some k_ ≠ (v303 : Value).ownBlock) (Kd.R_keptB ((Kd.R_apart' HO_13.out (Kd.R_typed HO_12.out) (by decide))) hkp (fun k_ hk_ hs_ => (hk_.2) hs_)) (fun k_ hk_ => hk_.1.1)); have n6_ := Aside0.mk (hb); clear HO_6; clear HO_7; clear HO_8; clear HO_11; clear HO_12; clear HO_13; clear HB; have HO_6 := n0_; have HO_7 := n1_; have HO_8 := n2_; have HO_11 := n3_; have HO_12 := n4_; have HO_13 := n5_; have HB := n6_; clear n0_ n1_ n2_ n3_ n4_ n5_ n6_; (try clear hb); (try clear hkp); (try clear hy0); obtain ⟨Ao103, co103, eo103⟩ := Kd.R_slice HO_13.out; subst eo103) | ((with_reducible refine gate_callee (f := 45) rfl ?_); refine goesL_ (some 108) rfl rfl Try.func45 (by kernel_rfl) rfl #[.slice Ao103 t310.length co103, .int .i64 t332] rfl (by (try simp only [List.map_toArray, List.map_cons, List.map_nil]); first | done | rfl | (simp only [List.length_drop, List.length_take]; rfl)) ?_; (with_reducible refine (laws_markBoolS.calls kj50 (fun k_ => some k_ = (.slice Ao103 t310.length co103 : Value).ownBlock) (.slice Ao103 t310.length co103) t310 t332 t334 t335 w _ ?side1 ?side2 A88.out).mono ?_); (case side1 => repeat (first | (with_reducible first | exact HB.out | apply below_alloc | apply pw_below_drewN | apply below_drew1) | exact HB.out)); (case side2 => exact Kd.R_tight rfl HO_13.out); rintro e w104 ⟨rfl, hy0, hb, hkp⟩; refine ⟨_, rfl, ?_⟩; have n0_ := Aside0.mk (Kd.R_mono (ok' := fun k_ => some k_ ≠ (.slice Ao99 t308.length co99 : Value).ownBlock) (Kd.R_keptB ((Kd.R_apart' HO_6.out (Kd.R_typed HO_13.out) (by decide))) hkp (fun k_ hk_ hs_ => (hk_.2) hs_)) (fun k_ hk_ => hk_.1.1)); have n1_ := Aside0.mk (Kd.R_mono (ok' := fun k_ => some k_ ≠ (.slice Ao101 t309.length co101 : Value).ownBlock) (Kd.R_keptB ((Kd.R_apart' HO_7.out (Kd.R_typed HO_13.out) (by decide))) hkp (fun k_ hk_ hs_ => (hk_.2) hs_)) (fun k_ hk_ => hk_.1.1)); have n2_ := Aside0.mk (Kd.R_mono (ok' := fun k_ => some k_ ≠ (.slice Ao103 t310.length co103 : Value).ownBlock) (Kd.R_keptB (HO_8.out) hkp (fun k_ hk_ hs_ => (hk_) hs_)) (fun k_ hk_ => hk_.1)); have n3_ := Aside0.mk (Kd.R_mono (ok' := fun k_ => some k_ ≠ (v299 : Value).ownBlock) (Kd.R_keptB ((Kd.R_apart' HO_11.out (Kd.R_typed HO_13.out) (by decide))) hkp (fun k_ hk_ hs_ => (hk_.2) hs_)) (fun k_ hk_ => hk_.1.1)); have n4_ := Aside0.mk (Kd.R_mono (ok' := fun k_ => some k_ ≠ (v301 : Value).ownBlock) (Kd.R_keptB ((Kd.R_apart' HO_12.out (Kd.R_typed HO_13.out) (by decide))) hkp (fun k_ hk_ hs_ => (hk_.2) hs_)) (fun k_ hk_ => hk_.1.1)); have n5_ := Aside0.mk (Kd.R_reok rfl hy0 (fun k_ e_ => HO_13.out.1 k_ e_)); have n6_ := Aside0.mk (hb); clear HO_6; clear HO_7; clear HO_8; clear HO_11; clear HO_12; clear HO_13; clear HB; have HO_6 := n0_; have HO_7 := n1_; have HO_8 := n2_; have HO_11 := n3_; have HO_12 := n4_; have HO_13 := n5_; have HB := n6_; clear n0_ n1_ n2_ n3_ n4_ n5_ n6_; (try clear hb); (try clear hkp); (try clear hy0)) | ((with_reducible refine gate_callee (f := 16) rfl ?_); refine goesL_ (some 111) rfl rfl Try.func16 (by kernel_rfl) rfl #[.slice Ao99 t331.length co99, .int .i64 1] rfl (by (try simp only [List.map_toArray, List.map_cons, List.map_nil]); first | done | (rw [show t331.length = t308.length from (Kd.R_reads' HO_11.out).1.symm] <;> rfl) | rfl | (simp only [List.length_drop, List.length_take]; rfl)) ?_; (with_reducible refine (laws_heldEmitS.calls kj50 _ _ t331 1 t336 _ ?side1 ?side2 A89.out).mono ?_); (case side1 => repeat (first | exact (Kd.R_reads' HO_11.out).2.2 | (with_reducible refine Kd.C_alloc ?_ _) | (with_reducible refine Kd.C_drewN ?_ _) | (with_reducible refine Kd.C_drew ?_))); (case side2 => rw [show t331.length = t308.length from (Kd.R_reads' HO_11.out).1.symm]; exact (Kd.R_reads' HO_11.out).2.1); rintro e w' ⟨rfl, ⟨nd, rfl⟩⟩; refine ⟨_, rfl, ?_⟩) | ((with_reducible refine gate_callee (f := 46) rfl ?_); refine goesL_ (some 116) rfl rfl Try.func46 (by kernel_rfl) rfl #[.slice Ao101 t333.length co101, .int .i64 t336] rfl (by (try simp only [List.map_toArray, List.map_cons, List.map_nil]); first | done | (rw [show t333.length = t309.length from (Kd.R_reads' HO_12.out).1.symm] <;> rfl) | rfl | (simp only [List.length_drop, List.length_take]; rfl)) ?_; (with_reducible refine (laws_heldStringS.calls kj50 _ _ t333 t336 t337 _ ?side1 ?side2 A91.out).mono ?_); (case side1 => repeat (first | exact (Kd.R_reads' HO_12.out).2.2 | (with_reducible refine Kd.C_alloc ?_ _) | (with_reducible refine Kd.C_drewN ?_ _) | (with_reducible refine Kd.C_drew ?_))); (case side2 => rw [show t333.length = t309.length from (Kd.R_reads' HO_12.out).1.symm]; exact (Kd.R_reads' HO_12.out).2.1); rintro e w105 ⟨rfl, hb⟩; refine ⟨_, rfl, ?_⟩; have n0_ := Aside0.mk (Kd.R_below (by (with_reducible repeat (first | apply Kd.R_alloc | apply Kd.R_drewN | apply Kd.R_drew)); exact HO_6.out) hb); have n1_ := Aside0.mk (Kd.R_below (by (with_reducible repeat (first | apply Kd.R_alloc | apply Kd.R_drewN | apply Kd.R_drew)); exact HO_7.out) hb); have n2_ := Aside0.mk (Kd.R_below (by (with_reducible repeat (first | apply Kd.R_alloc | apply Kd.R_drewN | apply Kd.R_drew)); exact HO_8.out) hb); have n3_ := Aside0.mk (Kd.R_below (by (with_reducible repeat (first | apply Kd.R_alloc | apply Kd.R_drewN | apply Kd.R_drew)); exact HO_11.out) hb); have n4_ := Aside0.mk (Kd.R_below (by (with_reducible repeat (first | apply Kd.R_alloc | apply Kd.R_drewN | apply Kd.R_drew)); exact HO_12.out) hb); have n5_ := Aside0.mk (Kd.R_below (by (with_reducible repeat (first | apply Kd.R_alloc | apply Kd.R_drewN | apply Kd.R_drew)); exact HO_13.out) hb); have n6_ := Aside0.mk (below_step (by repeat (first | (with_reducible first | exact HB.out | apply below_alloc | apply pw_below_drewN | apply below_drew1) | exact HB.out)) hb); clear HO_6; clear HO_7; clear HO_8; clear HO_11; clear HO_12; clear HO_13; clear HB; have HO_6 := n0_; have HO_7 := n1_; have HO_8 := n2_; have HO_11 := n3_; have HO_12 := n4_; have HO_13 := n5_; have HB := n6_; clear n0_ n1_ n2_ n3_ n4_ n5_ n6_; (try clear hb); (try clear hb2); (try clear hk); (try clear hi)) | ((with_reducible refine gate_callee (f := 47) rfl ?_); refine goesL_ (some 121) rfl rfl Try.func47 (by kernel_rfl) rfl #[.slice Ao103 t335.length co103, .int .i64 t337] rfl (by (try simp only [List.map_toArray, List.map_cons, List.map_nil]); first | done | (rw [show t335.length = t310.length from (Kd.R_reads' HO_13.out).1.symm] <;> rfl) | rfl | (simp only [List.length_drop, List.length_take]; rfl)) ?_; (with_reducible refine (laws_heldBoolS.calls kj50 _ _ t335 t337 t338 _ ?side1 ?side2 A93.out).mono ?_); (case side1 => repeat (first | exact (Kd.R_reads' HO_13.out).2.2 | (with_reducible refine Kd.C_alloc ?_ _) | (with_reducible refine Kd.C_drewN ?_ _) | (with_reducible refine Kd.C_drew ?_))); (case side2 => rw [show t335.length = t310.length from (Kd.R_reads' HO_13.out).1.symm]; exact (Kd.R_reads' HO_13.out).2.1); rintro e w' ⟨rfl, ⟨nd, rfl⟩⟩; refine ⟨_, rfl, ?_⟩) | ((with_reducible refine gate_callee (f := 28) rfl ?_); refine goesL_ (some 130) rfl rfl Try.func28 (by kernel_rfl) rfl #[.slice A1 l1.length c1] rfl (by (try simp only [List.map_toArray, List.map_cons, List.map_nil]); first | done | rfl | (simp only [List.length_drop, List.length_take]; rfl)) ?_; (with_reducible refine (laws_toCoverStepS.calls kj50 _ _ l1 t339 _ ?side1 ?side2 A96.out).mono ?_); (case side1 => repeat (first | exact (Kd.C_below HR1.out (by repeat (first | (with_reducible first | exact HB.out | apply below_alloc | apply pw_below_drewN | apply below_drew1) | exact HB.out))) | (with_reducible refine Kd.C_alloc ?_ _) | (with_reducible refine Kd.C_drewN ?_ _) | (with_reducible refine Kd.C_drew ?_))); (case side2 => exact HC1.out); rintro e w106 ⟨v340, rfl, ho0, hb⟩; refine ⟨_, rfl, ?_⟩; have n0_ := Aside0.mk (Kd.R_below (by (with_reducible repeat (first | apply Kd.R_alloc | apply Kd.R_drewN | apply Kd.R_drew)); exact HO_6.out) hb); have n1_ := Aside0.mk (Kd.R_below (by (with_reducible repeat (first | apply Kd.R_alloc | apply Kd.R_drewN | apply Kd.R_drew)); exact HO_7.out) hb); have n2_ := Aside0.mk (Kd.R_below (by (with_reducible repeat (first | apply Kd.R_alloc | apply Kd.R_drewN | apply Kd.R_drew)); exact HO_8.out) hb); have n3_ := Aside0.mk (Kd.R_below (by (with_reducible repeat (first | apply Kd.R_alloc | apply Kd.R_drewN | apply Kd.R_drew)); exact HO_11.out) hb); have n4_ := Aside0.mk (Kd.R_below (by (with_reducible repeat (first | apply Kd.R_alloc | apply Kd.R_drewN | apply Kd.R_drew)); exact HO_12.out) hb); have n5_ := Aside0.mk (Kd.R_below (by (with_reducible repeat (first | apply Kd.R_alloc | apply Kd.R_drewN | apply Kd.R_drew)); exact HO_13.out) hb); have n6_ := Aside0.mk (Kd.R_lower ho0 (below_size (by repeat (first | (with_reducible first | exact HB.out | apply below_alloc | apply pw_below_drewN | apply below_drew1) | exact HB.out)))); have n7_ := Aside0.mk (below_step (by repeat (first | (with_reducible first | exact HB.out | apply below_alloc | apply pw_below_drewN | apply below_drew1) | exact HB.out)) hb); clear HO_6; clear HO_7; clear HO_8; clear HO_11; clear HO_12; clear HO_13; clear HB; have HO_6 := n0_; have HO_7 := n1_; have HO_8 := n2_; have HO_11 := n3_; have HO_12 := n4_; have HO_13 := n5_; have HO341 := n6_; have HB := n7_; clear n0_ n1_ n2_ n3_ n4_ n5_ n6_ n7_; (try clear hb); (try clear hb2); (try clear hk); (try clear hi); (try clear ho0); obtain ⟨Ao107, co107, eo107⟩ := Kd.R_slice HO341.out; subst eo107) | ((with_reducible refine gate_callee (f := 41) rfl ?_); refine goesL_ (some 131) rfl rfl Try.func41 (by kernel_rfl) rfl #[.int .i64 a0, .slice Ao107 t339.length co107] rfl (by (try simp only [List.map_toArray, List.map_cons, List.map_nil]); first | done | rfl | (simp only [List.length_drop, List.length_take]; rfl)) ?_; (with_reducible refine (impl_PlayCover.calls kj50 a0 _ _ t339 t342 t343 t344 t345 _ ?side1 ?side2 A97.out).mono ?_); (case side1 => repeat (first | exact (Kd.R_reads' HO341.out).2.2 | (with_reducible refine Kd.C_alloc ?_ _) | (with_reducible refine Kd.C_drewN ?_ _) | (with_reducible refine Kd.C_drew ?_))); (case side2 => exact (Kd.R_reads' HO341.out).2.1); rintro e w108 ⟨v346, v348, v350, rfl, ho0, ho1, ho2, hb⟩; refine ⟨_, rfl, ?_⟩; have n0_ := Aside0.mk (Kd.R_elder' (by (with_reducible repeat (first | apply Kd.R_alloc | apply Kd.R_drewN | apply Kd.R_drew)); exact HO_6.out) (Kd.R_base ho0) hb); have n1_ := Aside0.mk (Kd.R_elder' (by (with_reducible repeat (first | apply Kd.R_alloc | apply Kd.R_drewN | apply Kd.R_drew)); exact HO_7.out) (Kd.R_base ho1) hb); have n2_ := Aside0.mk (Kd.R_elder' (by (with_reducible repeat (first | apply Kd.R_alloc | apply Kd.R_drewN | apply Kd.R_drew)); exact HO_8.out) (Kd.R_base ho2) hb); have n3_ := Aside0.mk (Kd.R_elder' (by (with_reducible repeat (first | apply Kd.R_alloc | apply Kd.R_drewN | apply Kd.R_drew)); exact HO_11.out) (Kd.R_base ho0) hb); have n4_ := Aside0.mk (Kd.R_elder' (by (with_reducible repeat (first | apply Kd.R_alloc | apply Kd.R_drewN | apply Kd.R_drew)); exact HO_12.out) (Kd.R_base ho1) hb); have n5_ := Aside0.mk (Kd.R_elder' (by (with_reducible repeat (first | apply Kd.R_alloc | apply Kd.R_drewN | apply Kd.R_drew)); exact HO_13.out) (Kd.R_base ho2) hb); have n6_ := Aside0.mk (Kd.R_below (by (with_reducible repeat (first | apply Kd.R_alloc | apply Kd.R_drewN | apply Kd.R_drew)); exact HO341.out) hb); have n7_ := Aside0.mk (Kd.R_lower (Kd.R_new' (Kd.R_new' ho0 (Kd.R_lt (by (with_reducible repeat (first | apply Kd.R_alloc | apply Kd.R_drewN | apply Kd.R_drew)); exact HO_6.out))) (Kd.R_lt (by (with_reducible repeat (first | apply Kd.R_alloc | apply Kd.R_drewN | apply Kd.R_drew)); exact HO_11.out))) (below_size (by repeat (first | (with_reducible first | exact HB.out | apply below_alloc | apply pw_below_drewN | apply below_drew1) | exact HB.out)))); have n8_ := Aside0.mk (Kd.R_lower (Kd.R_new' (Kd.R_new' ho1 (Kd.R_lt (by (with_reducible repeat (first | apply Kd.R_alloc | apply Kd.R_drewN | apply Kd.R_drew)); exact HO_7.out))) (Kd.R_lt (by (with_reducible repeat (first | apply Kd.R_alloc | apply Kd.R_drewN | apply Kd.R_drew)); exact HO_12.out))) (below_size (by repeat (first | (with_reducible first | exact HB.out | apply below_alloc | apply pw_below_drewN | apply below_drew1) | exact HB.out)))); have n9_ := Aside0.mk (Kd.R_lower (Kd.R_new' (Kd.R_new' ho2 (Kd.R_lt (by (with_reducible repeat (first | apply Kd.R_alloc | apply Kd.R_drewN | apply Kd.R_drew)); exact HO_8.out))) (Kd.R_lt (by (with_reducible repeat (first | apply Kd.R_alloc | apply Kd.R_drewN | apply Kd.R_drew)); exact HO_13.out))) (below_size (by repeat (first | (with_reducible first | exact HB.out | apply below_alloc | apply pw_below_drewN | apply below_drew1) | exact HB.out)))); have n10_ := Aside0.mk (below_step (by repeat (first | (with_reducible first | exact HB.out | apply below_alloc | apply pw_below_drewN | apply below_drew1) | exact HB.out)) hb); clear HO_6; clear HO_7; clear HO_8; clear HO_11; clear HO_12; clear HO_13; clear HO341; clear HB; have HO_6 := n0_; have HO_7 := n1_; have HO_8 := n2_; have HO_11 := n3_; have HO_12 := n4_; have HO_13 := n5_; have HO341 := n6_; have HO347 := n7_; have HO349 := n8_; have HO351 := n9_; have HB := n10_; clear n0_ n1_ n2_ n3_ n4_ n5_ n6_ n7_ n8_ n9_ n10_; (try clear hb); (try clear hb2); (try clear hk); (try clear hi); (try clear ho0); (try clear ho1); (try clear ho2)))
                          (try simp only [Act.put, List.setIfInBounds_toArray, List.set_cons_zero, List.set_cons_succ])
                          go_cut [156] (fun v156 wc => ∃ (kq : Nat) (x156_97 : Bool), v156 = .bool x156_97 ∧ Aside0 (laws_FnExactPlayCover.j2 kq t331 t333 t335 t334 x156_97 = some r) ∧ Aside0 (kq ≤ kj50) ∧ Aside0 (Kd.R k57 57 wc w.heap.size (fun _ => True) (.slice Ao99 t308.length co99) t331) ∧ Aside0 (Kd.R Kd.string 9 wc w.heap.size (fun _ => True) (.slice Ao101 t309.length co101) t333) ∧ Aside0 (Kd.R Kd.bool 4 wc w.heap.size (fun _ => True) (.slice Ao103 t310.length co103) t335) ∧ Aside0 (Below w.heap.size w wc))
                          case first =>
                            have H := HC98.out
                            clear HC98
                            replace H := Option.bind_eq_some_iff.mp H
                            obtain ⟨t352, A1090, H⟩ := H
                            replace H : (if t352 = true then ((laws_eqStringS.f kj50 t343 t296).bind fun t353 => (if t353 = true then ((laws_eqBoolS.f kj50 t344 t297).bind fun t354 => (if t354 = true then (laws_FnExactPlayCover.j2 kj50 t331 t333 t335 t334 (t345 != t298)) else (laws_FnExactPlayCover.j2 kj50 t331 t333 t335 t334 true))) else (laws_FnExactPlayCover.j2 kj50 t331 t333 t335 t334 true))) else (laws_FnExactPlayCover.j2 kj50 t331 t333 t335 t334 true)) = some r := H
                            have A109 := Aside0.mk A1090
                            clear A1090
                            by_cases c110 : t352 = true
                            · subst c110
                              have H1 : ((laws_eqStringS.f kj50 t343 t296).bind fun t353 => (if t353 = true then ((laws_eqBoolS.f kj50 t344 t297).bind fun t354 => (if t354 = true then (laws_FnExactPlayCover.j2 kj50 t331 t333 t335 t334 (t345 != t298)) else (laws_FnExactPlayCover.j2 kj50 t331 t333 t335 t334 true))) else (laws_FnExactPlayCover.j2 kj50 t331 t333 t335 t334 true))) = some r := by rw [if_pos rfl] at H; exact H
                              clear H
                              have H := H1
                              clear H1
                              replace H := Option.bind_eq_some_iff.mp H
                              obtain ⟨t353, A1110, H⟩ := H
                              replace H : (if t353 = true then ((laws_eqBoolS.f kj50 t344 t297).bind fun t354 => (if t354 = true then (laws_FnExactPlayCover.j2 kj50 t331 t333 t335 t334 (t345 != t298)) else (laws_FnExactPlayCover.j2 kj50 t331 t333 t335 t334 true))) else (laws_FnExactPlayCover.j2 kj50 t331 t333 t335 t334 true)) = some r := H
                              have A111 := Aside0.mk A1110
                              clear A1110
                              by_cases c112 : t353 = true
                              · subst c112
                                have H1 : ((laws_eqBoolS.f kj50 t344 t297).bind fun t354 => (if t354 = true then (laws_FnExactPlayCover.j2 kj50 t331 t333 t335 t334 (t345 != t298)) else (laws_FnExactPlayCover.j2 kj50 t331 t333 t335 t334 true))) = some r := by rw [if_pos rfl] at H; exact H
                                clear H
                                have H := H1
                                clear H1
                                replace H := Option.bind_eq_some_iff.mp H
                                obtain ⟨t354, A1130, H⟩ := H
                                replace H : (if t354 = true then (laws_FnExactPlayCover.j2 kj50 t331 t333 t335 t334 (t345 != t298)) else (laws_FnExactPlayCover.j2 kj50 t331 t333 t335 t334 true)) = some r := H
                                have A113 := Aside0.mk A1130
                                clear A1130
                                by_cases c114 : t354 = true
                                · subst c114
                                  have H1 : (laws_FnExactPlayCover.j2 kj50 t331 t333 t335 t334 (t345 != t298)) = some r := by rw [if_pos rfl] at H; exact H
                                  clear H
                                  have H := H1
                                  clear H1
                                  have H' := Aside0.mk H
                                  clear H
                                  obtain ⟨Ao115, co115, eo115⟩ := Kd.R_slice HO347.out
                                  subst eo115
                                  obtain ⟨Ao116, co116, eo116⟩ := Kd.R_slice HO_6.out
                                  subst eo116
                                  go_wp2_with (first | ((with_reducible refine gate_callee (f := 14) rfl ?_); refine goesL_ (some 138) rfl rfl Try.func14 (by kernel_rfl) rfl #[.slice Ao115 t342.length co115, .slice Ao116 t295.length co116] rfl (by (try simp only [List.map_toArray, List.map_cons, List.map_nil]); first | done | rfl | (simp only [List.length_drop, List.length_take]; rfl)) ?_; (with_reducible refine (laws_eqEmitS.calls kj50 _ _ t342 _ _ t295 true _ ?side1 ?side2 ?side3 ?side4 A109.out).mono ?_); (case side1 => repeat (first | exact (Kd.R_reads' HO347.out).2.2 | (with_reducible refine Kd.C_alloc ?_ _) | (with_reducible refine Kd.C_drewN ?_ _) | (with_reducible refine Kd.C_drew ?_))); (case side2 => exact (Kd.R_reads' HO347.out).2.1); (case side3 => repeat (first | exact (Kd.R_reads' HO_6.out).2.2 | (with_reducible refine Kd.C_alloc ?_ _) | (with_reducible refine Kd.C_drewN ?_ _) | (with_reducible refine Kd.C_drew ?_))); (case side4 => exact (Kd.R_reads' HO_6.out).2.1); rintro e w117 ⟨rfl, hb⟩; refine ⟨_, rfl, ?_⟩; have n0_ := Aside0.mk (Kd.R_below (by (with_reducible repeat (first | apply Kd.R_alloc | apply Kd.R_drewN | apply Kd.R_drew)); exact HO_6.out) hb); have n1_ := Aside0.mk (Kd.R_below (by (with_reducible repeat (first | apply Kd.R_alloc | apply Kd.R_drewN | apply Kd.R_drew)); exact HO_7.out) hb); have n2_ := Aside0.mk (Kd.R_below (by (with_reducible repeat (first | apply Kd.R_alloc | apply Kd.R_drewN | apply Kd.R_drew)); exact HO_8.out) hb); have n3_ := Aside0.mk (Kd.R_below (by (with_reducible repeat (first | apply Kd.R_alloc | apply Kd.R_drewN | apply Kd.R_drew)); exact HO_11.out) hb); have n4_ := Aside0.mk (Kd.R_below (by (with_reducible repeat (first | apply Kd.R_alloc | apply Kd.R_drewN | apply Kd.R_drew)); exact HO_12.out) hb); have n5_ := Aside0.mk (Kd.R_below (by (with_reducible repeat (first | apply Kd.R_alloc | apply Kd.R_drewN | apply Kd.R_drew)); exact HO_13.out) hb); have n6_ := Aside0.mk (Kd.R_below (by (with_reducible repeat (first | apply Kd.R_alloc | apply Kd.R_drewN | apply Kd.R_drew)); exact HO341.out) hb); have n7_ := Aside0.mk (Kd.R_below (by (with_reducible repeat (first | apply Kd.R_alloc | apply Kd.R_drewN | apply Kd.R_drew)); exact HO347.out) hb); have n8_ := Aside0.mk (Kd.R_below (by (with_reducible repeat (first | apply Kd.R_alloc | apply Kd.R_drewN | apply Kd.R_drew)); exact HO349.out) hb); have n9_ := Aside0.mk (Kd.R_below (by (with_reducible repeat (first | apply Kd.R_alloc | apply Kd.R_drewN | apply Kd.R_drew)); exact HO351.out) hb); have n10_ := Aside0.mk (below_step (by repeat (first | (with_reducible first | exact HB.out | apply below_alloc | apply pw_below_drewN | apply below_drew1) | exact HB.out)) hb); clear HO_6; clear HO_7; clear HO_8; clear HO_11; clear HO_12; clear HO_13; clear HO341; clear HO347; clear HO349; clear HO351; clear HB; have HO_6 := n0_; have HO_7 := n1_; have HO_8 := n2_; have HO_11 := n3_; have HO_12 := n4_; have HO_13 := n5_; have HO341 := n6_; have HO347 := n7_; have HO349 := n8_; have HO351 := n9_; have HB := n10_; clear n0_ n1_ n2_ n3_ n4_ n5_ n6_ n7_ n8_ n9_ n10_; (try clear hb); (try clear hb2); (try clear hk); (try clear hi); obtain ⟨Ao118, co118, eo118⟩ := Kd.R_slice HO349.out; subst eo118; obtain ⟨Ao119, co119, eo119⟩ := Kd.R_slice HO_7.out; subst eo119) | (go_at_call 42; (with_reducible refine (laws_eqStringS.calls kj50 _ _ t343 _ _ t296 true _ ?side1 ?side2 ?side3 ?side4 A111.out).mono ?_); (case side1 => repeat (first | exact (Kd.R_reads' HO349.out).2.2 | (with_reducible refine Kd.C_alloc ?_ _) | (with_reducible refine Kd.C_drewN ?_ _) | (with_reducible refine Kd.C_drew ?_))); (case side2 => exact (Kd.R_reads' HO349.out).2.1); (case side3 => repeat (first | exact (Kd.R_reads' HO_7.out).2.2 | (with_reducible refine Kd.C_alloc ?_ _) | (with_reducible refine Kd.C_drewN ?_ _) | (with_reducible refine Kd.C_drew ?_))); (case side4 => exact (Kd.R_reads' HO_7.out).2.1); rintro e w' ⟨rfl, ⟨nd, rfl⟩⟩; obtain ⟨Ao120, co120, eo120⟩ := Kd.R_slice HO351.out; subst eo120; obtain ⟨Ao121, co121, eo121⟩ := Kd.R_slice HO_8.out; subst eo121) | (go_at_call 43; (with_reducible refine (laws_eqBoolS.calls kj50 _ _ t344 _ _ t297 true _ ?side1 ?side2 ?side3 ?side4 A113.out).mono ?_); (case side1 => repeat (first | exact (Kd.R_reads' HO351.out).2.2 | (with_reducible refine Kd.C_alloc ?_ _) | (with_reducible refine Kd.C_drewN ?_ _) | (with_reducible refine Kd.C_drew ?_))); (case side2 => exact (Kd.R_reads' HO351.out).2.1); (case side3 => repeat (first | exact (Kd.R_reads' HO_8.out).2.2 | (with_reducible refine Kd.C_alloc ?_ _) | (with_reducible refine Kd.C_drewN ?_ _) | (with_reducible refine Kd.C_drew ?_))); (case side4 => exact (Kd.R_reads' HO_8.out).2.1); rintro e w' ⟨rfl, ⟨nd, rfl⟩⟩))
                                  go_meet
                                  case rel => exact ⟨_, ((t345 != t298)), (by first | rfl | (simp; done) | (simp [*]; done)), H', ⟨by have := HJ9.out; have := HJ50.out; first | omega | exact Nat.le_refl _⟩, ⟨by (with_reducible repeat (first | apply Kd.R_alloc | apply Kd.R_drewN | apply Kd.R_drew)); exact Kd.R_mono HO_11.out (fun _ hk => trivial)⟩, ⟨by (with_reducible repeat (first | apply Kd.R_alloc | apply Kd.R_drewN | apply Kd.R_drew)); exact Kd.R_mono HO_12.out (fun _ hk => trivial)⟩, ⟨by (with_reducible repeat (first | apply Kd.R_alloc | apply Kd.R_drewN | apply Kd.R_drew)); exact Kd.R_mono HO_13.out (fun _ hk => trivial)⟩, ⟨by repeat (first | (with_reducible first | exact HB.out | apply below_alloc | apply pw_below_drewN | apply below_drew1) | exact HB.out)⟩⟩
                                · replace c114 := Bool.eq_false_iff.mpr c114
                                  subst c114
                                  have H1 : (laws_FnExactPlayCover.j2 kj50 t331 t333 t335 t334 true) = some r := by rw [if_neg (show ¬ (false = true) by decide)] at H; exact H
                                  clear H
                                  have H := H1
                                  clear H1
                                  have H' := Aside0.mk H
                                  clear H
                                  obtain ⟨Ao122, co122, eo122⟩ := Kd.R_slice HO347.out
                                  subst eo122
                                  obtain ⟨Ao123, co123, eo123⟩ := Kd.R_slice HO_6.out
                                  subst eo123
                                  go_wp2_with (first | ((with_reducible refine gate_callee (f := 14) rfl ?_); refine goesL_ (some 138) rfl rfl Try.func14 (by kernel_rfl) rfl #[.slice Ao122 t342.length co122, .slice Ao123 t295.length co123] rfl (by (try simp only [List.map_toArray, List.map_cons, List.map_nil]); first | done | rfl | (simp only [List.length_drop, List.length_take]; rfl)) ?_; (with_reducible refine (laws_eqEmitS.calls kj50 _ _ t342 _ _ t295 true _ ?side1 ?side2 ?side3 ?side4 A109.out).mono ?_); (case side1 => repeat (first | exact (Kd.R_reads' HO347.out).2.2 | (with_reducible refine Kd.C_alloc ?_ _) | (with_reducible refine Kd.C_drewN ?_ _) | (with_reducible refine Kd.C_drew ?_))); (case side2 => exact (Kd.R_reads' HO347.out).2.1); (case side3 => repeat (first | exact (Kd.R_reads' HO_6.out).2.2 | (with_reducible refine Kd.C_alloc ?_ _) | (with_reducible refine Kd.C_drewN ?_ _) | (with_reducible refine Kd.C_drew ?_))); (case side4 => exact (Kd.R_reads' HO_6.out).2.1); rintro e w124 ⟨rfl, hb⟩; refine ⟨_, rfl, ?_⟩; have n0_ := Aside0.mk (Kd.R_below (by (with_reducible repeat (first | apply Kd.R_alloc | apply Kd.R_drewN | apply Kd.R_drew)); exact HO_6.out) hb); have n1_ := Aside0.mk (Kd.R_below (by (with_reducible repeat (first | apply Kd.R_alloc | apply Kd.R_drewN | apply Kd.R_drew)); exact HO_7.out) hb); have n2_ := Aside0.mk (Kd.R_below (by (with_reducible repeat (first | apply Kd.R_alloc | apply Kd.R_drewN | apply Kd.R_drew)); exact HO_8.out) hb); have n3_ := Aside0.mk (Kd.R_below (by (with_reducible repeat (first | apply Kd.R_alloc | apply Kd.R_drewN | apply Kd.R_drew)); exact HO_11.out) hb); have n4_ := Aside0.mk (Kd.R_below (by (with_reducible repeat (first | apply Kd.R_alloc | apply Kd.R_drewN | apply Kd.R_drew)); exact HO_12.out) hb); have n5_ := Aside0.mk (Kd.R_below (by (with_reducible repeat (first | apply Kd.R_alloc | apply Kd.R_drewN | apply Kd.R_drew)); exact HO_13.out) hb); have n6_ := Aside0.mk (Kd.R_below (by (with_reducible repeat (first | apply Kd.R_alloc | apply Kd.R_drewN | apply Kd.R_drew)); exact HO341.out) hb); have n7_ := Aside0.mk (Kd.R_below (by (with_reducible repeat (first | apply Kd.R_alloc | apply Kd.R_drewN | apply Kd.R_drew)); exact HO347.out) hb); have n8_ := Aside0.mk (Kd.R_below (by (with_reducible repeat (first | apply Kd.R_alloc | apply Kd.R_drewN | apply Kd.R_drew)); exact HO349.out) hb); have n9_ := Aside0.mk (Kd.R_below (by (with_reducible repeat (first | apply Kd.R_alloc | apply Kd.R_drewN | apply Kd.R_drew)); exact HO351.out) hb); have n10_ := Aside0.mk (below_step (by repeat (first | (with_reducible first | exact HB.out | apply below_alloc | apply pw_below_drewN | apply below_drew1) | exact HB.out)) hb); clear HO_6; clear HO_7; clear HO_8; clear HO_11; clear HO_12; clear HO_13; clear HO341; clear HO347; clear HO349; clear HO351; clear HB; have HO_6 := n0_; have HO_7 := n1_; have HO_8 := n2_; have HO_11 := n3_; have HO_12 := n4_; have HO_13 := n5_; have HO341 := n6_; have HO347 := n7_; have HO349 := n8_; have HO351 := n9_; have HB := n10_; clear n0_ n1_ n2_ n3_ n4_ n5_ n6_ n7_ n8_ n9_ n10_; (try clear hb); (try clear hb2); (try clear hk); (try clear hi); obtain ⟨Ao125, co125, eo125⟩ := Kd.R_slice HO349.out; subst eo125; obtain ⟨Ao126, co126, eo126⟩ := Kd.R_slice HO_7.out; subst eo126) | (go_at_call 42; (with_reducible refine (laws_eqStringS.calls kj50 _ _ t343 _ _ t296 true _ ?side1 ?side2 ?side3 ?side4 A111.out).mono ?_); (case side1 => repeat (first | exact (Kd.R_reads' HO349.out).2.2 | (with_reducible refine Kd.C_alloc ?_ _) | (with_reducible refine Kd.C_drewN ?_ _) | (with_reducible refine Kd.C_drew ?_))); (case side2 => exact (Kd.R_reads' HO349.out).2.1); (case side3 => repeat (first | exact (Kd.R_reads' HO_7.out).2.2 | (with_reducible refine Kd.C_alloc ?_ _) | (with_reducible refine Kd.C_drewN ?_ _) | (with_reducible refine Kd.C_drew ?_))); (case side4 => exact (Kd.R_reads' HO_7.out).2.1); rintro e w' ⟨rfl, ⟨nd, rfl⟩⟩; obtain ⟨Ao127, co127, eo127⟩ := Kd.R_slice HO351.out; subst eo127; obtain ⟨Ao128, co128, eo128⟩ := Kd.R_slice HO_8.out; subst eo128) | (go_at_call 43; (with_reducible refine (laws_eqBoolS.calls kj50 _ _ t344 _ _ t297 false _ ?side1 ?side2 ?side3 ?side4 A113.out).mono ?_); (case side1 => repeat (first | exact (Kd.R_reads' HO351.out).2.2 | (with_reducible refine Kd.C_alloc ?_ _) | (with_reducible refine Kd.C_drewN ?_ _) | (with_reducible refine Kd.C_drew ?_))); (case side2 => exact (Kd.R_reads' HO351.out).2.1); (case side3 => repeat (first | exact (Kd.R_reads' HO_8.out).2.2 | (with_reducible refine Kd.C_alloc ?_ _) | (with_reducible refine Kd.C_drewN ?_ _) | (with_reducible refine Kd.C_drew ?_))); (case side4 => exact (Kd.R_reads' HO_8.out).2.1); rintro e w' ⟨rfl, ⟨nd, rfl⟩⟩))
                                  go_meet
                                  case rel => exact ⟨_, (true), (by first | rfl | (simp; done) | (simp [*]; done)), H', ⟨by have := HJ9.out; have := HJ50.out; first | omega | exact Nat.le_refl _⟩, ⟨by (with_reducible repeat (first | apply Kd.R_alloc | apply Kd.R_drewN | apply Kd.R_drew)); exact Kd.R_mono HO_11.out (fun _ hk => trivial)⟩, ⟨by (with_reducible repeat (first | apply Kd.R_alloc | apply Kd.R_drewN | apply Kd.R_drew)); exact Kd.R_mono HO_12.out (fun _ hk => trivial)⟩, ⟨by (with_reducible repeat (first | apply Kd.R_alloc | apply Kd.R_drewN | apply Kd.R_drew)); exact Kd.R_mono HO_13.out (fun _ hk => trivial)⟩, ⟨by repeat (first | (with_reducible first | exact HB.out | apply below_alloc | apply pw_below_drewN | apply below_drew1) | exact HB.out)⟩⟩
                              · replace c112 := Bool.eq_false_iff.mpr c112
                                subst c112
                                have H1 : (laws_FnExactPlayCover.j2 kj50 t331 t333 t335 t334 true) = some r := by rw [if_neg (show ¬ (false = true) by decide)] at H; exact H
                                clear H
                                have H := H1
                                clear H1
                                have H' := Aside0.mk H
                                clear H
                                obtain ⟨Ao129, co129, eo129⟩ := Kd.R_slice HO347.out
                                subst eo129
                                obtain ⟨Ao130, co130, eo130⟩ := Kd.R_slice HO_6.out
                                subst eo130
                                go_wp2_with (first | ((with_reducible refine gate_callee (f := 14) rfl ?_); refine goesL_ (some 138) rfl rfl Try.func14 (by kernel_rfl) rfl #[.slice Ao129 t342.length co129, .slice Ao130 t295.length co130] rfl (by (try simp only [List.map_toArray, List.map_cons, List.map_nil]); first | done | rfl | (simp only [List.length_drop, List.length_take]; rfl)) ?_; (with_reducible refine (laws_eqEmitS.calls kj50 _ _ t342 _ _ t295 true _ ?side1 ?side2 ?side3 ?side4 A109.out).mono ?_); (case side1 => repeat (first | exact (Kd.R_reads' HO347.out).2.2 | (with_reducible refine Kd.C_alloc ?_ _) | (with_reducible refine Kd.C_drewN ?_ _) | (with_reducible refine Kd.C_drew ?_))); (case side2 => exact (Kd.R_reads' HO347.out).2.1); (case side3 => repeat (first | exact (Kd.R_reads' HO_6.out).2.2 | (with_reducible refine Kd.C_alloc ?_ _) | (with_reducible refine Kd.C_drewN ?_ _) | (with_reducible refine Kd.C_drew ?_))); (case side4 => exact (Kd.R_reads' HO_6.out).2.1); rintro e w131 ⟨rfl, hb⟩; refine ⟨_, rfl, ?_⟩; have n0_ := Aside0.mk (Kd.R_below (by (with_reducible repeat (first | apply Kd.R_alloc | apply Kd.R_drewN | apply Kd.R_drew)); exact HO_6.out) hb); have n1_ := Aside0.mk (Kd.R_below (by (with_reducible repeat (first | apply Kd.R_alloc | apply Kd.R_drewN | apply Kd.R_drew)); exact HO_7.out) hb); have n2_ := Aside0.mk (Kd.R_below (by (with_reducible repeat (first | apply Kd.R_alloc | apply Kd.R_drewN | apply Kd.R_drew)); exact HO_8.out) hb); have n3_ := Aside0.mk (Kd.R_below (by (with_reducible repeat (first | apply Kd.R_alloc | apply Kd.R_drewN | apply Kd.R_drew)); exact HO_11.out) hb); have n4_ := Aside0.mk (Kd.R_below (by (with_reducible repeat (first | apply Kd.R_alloc | apply Kd.R_drewN | apply Kd.R_drew)); exact HO_12.out) hb); have n5_ := Aside0.mk (Kd.R_below (by (with_reducible repeat (first | apply Kd.R_alloc | apply Kd.R_drewN | apply Kd.R_drew)); exact HO_13.out) hb); have n6_ := Aside0.mk (Kd.R_below (by (with_reducible repeat (first | apply Kd.R_alloc | apply Kd.R_drewN | apply Kd.R_drew)); exact HO341.out) hb); have n7_ := Aside0.mk (Kd.R_below (by (with_reducible repeat (first | apply Kd.R_alloc | apply Kd.R_drewN | apply Kd.R_drew)); exact HO347.out) hb); have n8_ := Aside0.mk (Kd.R_below (by (with_reducible repeat (first | apply Kd.R_alloc | apply Kd.R_drewN | apply Kd.R_drew)); exact HO349.out) hb); have n9_ := Aside0.mk (Kd.R_below (by (with_reducible repeat (first | apply Kd.R_alloc | apply Kd.R_drewN | apply Kd.R_drew)); exact HO351.out) hb); have n10_ := Aside0.mk (below_step (by repeat (first | (with_reducible first | exact HB.out | apply below_alloc | apply pw_below_drewN | apply below_drew1) | exact HB.out)) hb); clear HO_6; clear HO_7; clear HO_8; clear HO_11; clear HO_12; clear HO_13; clear HO341; clear HO347; clear HO349; clear HO351; clear HB; have HO_6 := n0_; have HO_7 := n1_; have HO_8 := n2_; have HO_11 := n3_; have HO_12 := n4_; have HO_13 := n5_; have HO341 := n6_; have HO347 := n7_; have HO349 := n8_; have HO351 := n9_; have HB := n10_; clear n0_ n1_ n2_ n3_ n4_ n5_ n6_ n7_ n8_ n9_ n10_; (try clear hb); (try clear hb2); (try clear hk); (try clear hi); obtain ⟨Ao132, co132, eo132⟩ := Kd.R_slice HO349.out; subst eo132; obtain ⟨Ao133, co133, eo133⟩ := Kd.R_slice HO_7.out; subst eo133) | (go_at_call 42; (with_reducible refine (laws_eqStringS.calls kj50 _ _ t343 _ _ t296 false _ ?side1 ?side2 ?side3 ?side4 A111.out).mono ?_); (case side1 => repeat (first | exact (Kd.R_reads' HO349.out).2.2 | (with_reducible refine Kd.C_alloc ?_ _) | (with_reducible refine Kd.C_drewN ?_ _) | (with_reducible refine Kd.C_drew ?_))); (case side2 => exact (Kd.R_reads' HO349.out).2.1); (case side3 => repeat (first | exact (Kd.R_reads' HO_7.out).2.2 | (with_reducible refine Kd.C_alloc ?_ _) | (with_reducible refine Kd.C_drewN ?_ _) | (with_reducible refine Kd.C_drew ?_))); (case side4 => exact (Kd.R_reads' HO_7.out).2.1); rintro e w' ⟨rfl, ⟨nd, rfl⟩⟩))
                                go_meet
                                case rel => exact ⟨_, (true), (by first | rfl | (simp; done) | (simp [*]; done)), H', ⟨by have := HJ9.out; have := HJ50.out; first | omega | exact Nat.le_refl _⟩, ⟨by (with_reducible repeat (first | apply Kd.R_alloc | apply Kd.R_drewN | apply Kd.R_drew)); exact Kd.R_mono HO_11.out (fun _ hk => trivial)⟩, ⟨by (with_reducible repeat (first | apply Kd.R_alloc | apply Kd.R_drewN | apply Kd.R_drew)); exact Kd.R_mono HO_12.out (fun _ hk => trivial)⟩, ⟨by (with_reducible repeat (first | apply Kd.R_alloc | apply Kd.R_drewN | apply Kd.R_drew)); exact Kd.R_mono HO_13.out (fun _ hk => trivial)⟩, ⟨by repeat (first | (with_reducible first | exact HB.out | apply below_alloc | apply pw_below_drewN | apply below_drew1) | exact HB.out)⟩⟩
                            · replace c110 := Bool.eq_false_iff.mpr c110
                              subst c110
                              have H1 : (laws_FnExactPlayCover.j2 kj50 t331 t333 t335 t334 true) = some r := by rw [if_neg (show ¬ (false = true) by decide)] at H; exact H
                              clear H
                              have H := H1
                              clear H1
                              have H' := Aside0.mk H
                              clear H
                              obtain ⟨Ao134, co134, eo134⟩ := Kd.R_slice HO347.out
                              subst eo134
                              obtain ⟨Ao135, co135, eo135⟩ := Kd.R_slice HO_6.out
                              subst eo135
                              go_wp2_with (first | ((with_reducible refine gate_callee (f := 14) rfl ?_); refine goesL_ (some 138) rfl rfl Try.func14 (by kernel_rfl) rfl #[.slice Ao134 t342.length co134, .slice Ao135 t295.length co135] rfl (by (try simp only [List.map_toArray, List.map_cons, List.map_nil]); first | done | rfl | (simp only [List.length_drop, List.length_take]; rfl)) ?_; (with_reducible refine (laws_eqEmitS.calls kj50 _ _ t342 _ _ t295 false _ ?side1 ?side2 ?side3 ?side4 A109.out).mono ?_); (case side1 => repeat (first | exact (Kd.R_reads' HO347.out).2.2 | (with_reducible refine Kd.C_alloc ?_ _) | (with_reducible refine Kd.C_drewN ?_ _) | (with_reducible refine Kd.C_drew ?_))); (case side2 => exact (Kd.R_reads' HO347.out).2.1); (case side3 => repeat (first | exact (Kd.R_reads' HO_6.out).2.2 | (with_reducible refine Kd.C_alloc ?_ _) | (with_reducible refine Kd.C_drewN ?_ _) | (with_reducible refine Kd.C_drew ?_))); (case side4 => exact (Kd.R_reads' HO_6.out).2.1); rintro e w136 ⟨rfl, hb⟩; refine ⟨_, rfl, ?_⟩; have n0_ := Aside0.mk (Kd.R_below (by (with_reducible repeat (first | apply Kd.R_alloc | apply Kd.R_drewN | apply Kd.R_drew)); exact HO_6.out) hb); have n1_ := Aside0.mk (Kd.R_below (by (with_reducible repeat (first | apply Kd.R_alloc | apply Kd.R_drewN | apply Kd.R_drew)); exact HO_7.out) hb); have n2_ := Aside0.mk (Kd.R_below (by (with_reducible repeat (first | apply Kd.R_alloc | apply Kd.R_drewN | apply Kd.R_drew)); exact HO_8.out) hb); have n3_ := Aside0.mk (Kd.R_below (by (with_reducible repeat (first | apply Kd.R_alloc | apply Kd.R_drewN | apply Kd.R_drew)); exact HO_11.out) hb); have n4_ := Aside0.mk (Kd.R_below (by (with_reducible repeat (first | apply Kd.R_alloc | apply Kd.R_drewN | apply Kd.R_drew)); exact HO_12.out) hb); have n5_ := Aside0.mk (Kd.R_below (by (with_reducible repeat (first | apply Kd.R_alloc | apply Kd.R_drewN | apply Kd.R_drew)); exact HO_13.out) hb); have n6_ := Aside0.mk (Kd.R_below (by (with_reducible repeat (first | apply Kd.R_alloc | apply Kd.R_drewN | apply Kd.R_drew)); exact HO341.out) hb); have n7_ := Aside0.mk (Kd.R_below (by (with_reducible repeat (first | apply Kd.R_alloc | apply Kd.R_drewN | apply Kd.R_drew)); exact HO347.out) hb); have n8_ := Aside0.mk (Kd.R_below (by (with_reducible repeat (first | apply Kd.R_alloc | apply Kd.R_drewN | apply Kd.R_drew)); exact HO349.out) hb); have n9_ := Aside0.mk (Kd.R_below (by (with_reducible repeat (first | apply Kd.R_alloc | apply Kd.R_drewN | apply Kd.R_drew)); exact HO351.out) hb); have n10_ := Aside0.mk (below_step (by repeat (first | (with_reducible first | exact HB.out | apply below_alloc | apply pw_below_drewN | apply below_drew1) | exact HB.out)) hb); clear HO_6; clear HO_7; clear HO_8; clear HO_11; clear HO_12; clear HO_13; clear HO341; clear HO347; clear HO349; clear HO351; clear HB; have HO_6 := n0_; have HO_7 := n1_; have HO_8 := n2_; have HO_11 := n3_; have HO_12 := n4_; have HO_13 := n5_; have HO341 := n6_; have HO347 := n7_; have HO349 := n8_; have HO351 := n9_; have HB := n10_; clear n0_ n1_ n2_ n3_ n4_ n5_ n6_ n7_ n8_ n9_ n10_; (try clear hb); (try clear hb2); (try clear hk); (try clear hi)))
                              go_meet
                              case rel => exact ⟨_, (true), (by first | rfl | (simp; done) | (simp [*]; done)), H', ⟨by have := HJ9.out; have := HJ50.out; first | omega | exact Nat.le_refl _⟩, ⟨by (with_reducible repeat (first | apply Kd.R_alloc | apply Kd.R_drewN | apply Kd.R_drew)); exact Kd.R_mono HO_11.out (fun _ hk => trivial)⟩, ⟨by (with_reducible repeat (first | apply Kd.R_alloc | apply Kd.R_drewN | apply Kd.R_drew)); exact Kd.R_mono HO_12.out (fun _ hk => trivial)⟩, ⟨by (with_reducible repeat (first | apply Kd.R_alloc | apply Kd.R_drewN | apply Kd.R_drew)); exact Kd.R_mono HO_13.out (fun _ hk => trivial)⟩, ⟨by repeat (first | (with_reducible first | exact HB.out | apply below_alloc | apply pw_below_drewN | apply below_drew1) | exact HB.out)⟩⟩
                          case rest =>
                            clear HC98
                            try clear c1
                            try clear c2
                            try clear p2
                            try clear c3
                            try clear c4
                            try clear c4b0
                            try clear c5
                            try clear c6
                            try clear c8
                            try clear c9
                            try clear c11
                            try clear c14
                            try clear c15
                            try clear c16
                            try clear c19
                            try clear c21
                            try clear c23
                            try clear c26
                            try clear c28
                            try clear c30
                            try clear c31
                            try clear c40
                            try clear c41
                            try clear c44
                            try clear c45
                            try clear c46
                            try clear c47
                            try clear c49
                            try clear c56
                            try clear c56b0
                            try clear c58
                            try clear c60
                            try clear c62
                            try clear c85
                            try clear c90
                            try clear c90b0
                            try clear c92
                            try clear c92b0
                            try clear c94
                            try clear c94b0
                            try clear c95
                            try clear c95b0
                            try clear c95b1
                            try clear c110
                            try clear c112
                            try clear c114
                            try clear p2
                            obtain ⟨kq, x156_97, rfl, HA, HJ97, HO_11, HO_12, HO_13, HB⟩ := hcut
                            have hl11_97 := (Kd.R_reads' HO_11.out).1
                            rw [hl11_97] at HO_11
                            (try simp only [hl11_97])
                            (try simp only [hl11_97] at HO_12)
                            (try simp only [hl11_97] at HO_13)
                            have hl12_97 := (Kd.R_reads' HO_12.out).1
                            rw [hl12_97] at HO_12
                            (try simp only [hl12_97])
                            (try simp only [hl12_97] at HO_11)
                            (try simp only [hl12_97] at HO_13)
                            have hl13_97 := (Kd.R_reads' HO_13.out).1
                            rw [hl13_97] at HO_13
                            (try simp only [hl13_97])
                            (try simp only [hl13_97] at HO_11)
                            (try simp only [hl13_97] at HO_12)
                            cases kq with
                            | zero => exact absurd HA.out (by simp [laws_FnExactPlayCover.j2])
                            | succ kj97 =>
                              have H := HA.out
                              clear HA
                              simp only [laws_FnExactPlayCover.j2] at H
                              by_cases c137 : x156_97 = true
                              · subst c137
                                have H1 : (some false) = some r := by rw [if_pos rfl] at H; exact H
                                clear H
                                have H := H1
                                clear H1
                                obtain rfl := Option.some.inj H
                                exact absurd hr_.out (by simp)
                              · replace c137 := Bool.eq_false_iff.mpr c137
                                subst c137
                                have H1 : ((laws_heldEmitS.f kj97 t331 1).bind fun t355 => (if t355 < 0 then (some false) else ((laws_heldStringS.f kj97 t333 t355).bind fun t356 => (if t356 < 0 then (some false) else ((laws_heldBoolS.f kj97 t335 t356).bind fun t357 => (if t357 < 0 then (some false) else (if t357 = t334 then (some true) else (some false)))))))) = some r := by rw [if_neg (show ¬ (false = true) by decide)] at H; exact H
                                clear H
                                have H := H1
                                clear H1
                                replace H := Option.bind_eq_some_iff.mp H
                                obtain ⟨t355, A1380, H⟩ := H
                                replace H : (if t355 < 0 then (some false) else ((laws_heldStringS.f kj97 t333 t355).bind fun t356 => (if t356 < 0 then (some false) else ((laws_heldBoolS.f kj97 t335 t356).bind fun t357 => (if t357 < 0 then (some false) else (if t357 = t334 then (some true) else (some false))))))) = some r := H
                                have A138 := Aside0.mk A1380
                                clear A1380
                                by_cases c139 : t355 < 0
                                · rw [if_pos c139] at H
                                  have c139b0 : decide (t355 < 0) = true := decide_eq_true c139
                                  clear c139
                                  obtain rfl := Option.some.inj H
                                  exact absurd hr_.out (by simp)
                                · rw [if_neg c139] at H
                                  have c139b0 : decide (t355 < 0) = false := decide_eq_false c139
                                  clear c139
                                  replace H := Option.bind_eq_some_iff.mp H
                                  obtain ⟨t356, A1400, H⟩ := H
                                  replace H : (if t356 < 0 then (some false) else ((laws_heldBoolS.f kj97 t335 t356).bind fun t357 => (if t357 < 0 then (some false) else (if t357 = t334 then (some true) else (some false))))) = some r := H
                                  have A140 := Aside0.mk A1400
                                  clear A1400
                                  by_cases c141 : t356 < 0
                                  · rw [if_pos c141] at H
                                    have c141b0 : decide (t356 < 0) = true := decide_eq_true c141
                                    clear c141
                                    obtain rfl := Option.some.inj H
                                    exact absurd hr_.out (by simp)
                                  · rw [if_neg c141] at H
                                    have c141b0 : decide (t356 < 0) = false := decide_eq_false c141
                                    clear c141
                                    replace H := Option.bind_eq_some_iff.mp H
                                    obtain ⟨t357, A1420, H⟩ := H
                                    replace H : (if t357 < 0 then (some false) else (if t357 = t334 then (some true) else (some false))) = some r := H
                                    have A142 := Aside0.mk A1420
                                    clear A1420
                                    by_cases c143 : t357 < 0
                                    · rw [if_pos c143] at H
                                      have c143b0 : decide (t357 < 0) = true := decide_eq_true c143
                                      clear c143
                                      obtain rfl := Option.some.inj H
                                      exact absurd hr_.out (by simp)
                                    · rw [if_neg c143] at H
                                      have c143b0 : decide (t357 < 0) = false := decide_eq_false c143
                                      clear c143
                                      by_cases c144 : t357 = t334
                                      · rw [if_pos c144] at H
                                        have c144b0 : (t357 == t334) = true := beq_iff_eq.mpr c144
                                        have c144b1 : (t357 != t334) = false := bne_eq_false_iff_eq.mpr c144
                                        clear c144
                                        obtain rfl := Option.some.inj H
                                        simp only [Option.some.injEq, Prod.mk.injEq] at H
                                        obtain ⟨rfl⟩ := H
                                        go_wp2_with (first | ((with_reducible refine gate_callee (f := 16) rfl ?_); refine goesL_ (some 159) rfl rfl Try.func16 (by kernel_rfl) rfl #[.slice Ao99 t331.length co99, .int .i64 1] rfl (by (try simp only [List.map_toArray, List.map_cons, List.map_nil]); first | done | rfl | (simp only [List.length_drop, List.length_take]; rfl)) ?_; (with_reducible refine (laws_heldEmitS.calls kj97 _ _ t331 1 t355 _ ?side1 ?side2 A138.out).mono ?_); (case side1 => repeat (first | exact (Kd.R_reads' HO_11.out).2.2 | (with_reducible refine Kd.C_alloc ?_ _) | (with_reducible refine Kd.C_drewN ?_ _) | (with_reducible refine Kd.C_drew ?_))); (case side2 => exact (Kd.R_reads' HO_11.out).2.1); rintro e w' ⟨rfl, ⟨nd, rfl⟩⟩; refine ⟨_, rfl, ?_⟩) | ((with_reducible refine gate_callee (f := 46) rfl ?_); refine goesL_ (some 164) rfl rfl Try.func46 (by kernel_rfl) rfl #[.slice Ao101 t333.length co101, .int .i64 t355] rfl (by (try simp only [List.map_toArray, List.map_cons, List.map_nil]); first | done | rfl | (simp only [List.length_drop, List.length_take]; rfl)) ?_; (with_reducible refine (laws_heldStringS.calls kj97 _ _ t333 t355 t356 _ ?side1 ?side2 A140.out).mono ?_); (case side1 => repeat (first | exact (Kd.R_reads' HO_12.out).2.2 | (with_reducible refine Kd.C_alloc ?_ _) | (with_reducible refine Kd.C_drewN ?_ _) | (with_reducible refine Kd.C_drew ?_))); (case side2 => exact (Kd.R_reads' HO_12.out).2.1); rintro e w145 ⟨rfl, hb⟩; refine ⟨_, rfl, ?_⟩; have n0_ := Aside0.mk (Kd.R_below (by (with_reducible repeat (first | apply Kd.R_alloc | apply Kd.R_drewN | apply Kd.R_drew)); exact HO_11.out) hb); have n1_ := Aside0.mk (Kd.R_below (by (with_reducible repeat (first | apply Kd.R_alloc | apply Kd.R_drewN | apply Kd.R_drew)); exact HO_12.out) hb); have n2_ := Aside0.mk (Kd.R_below (by (with_reducible repeat (first | apply Kd.R_alloc | apply Kd.R_drewN | apply Kd.R_drew)); exact HO_13.out) hb); have n3_ := Aside0.mk (below_step (by repeat (first | (with_reducible first | exact HB.out | apply below_alloc | apply pw_below_drewN | apply below_drew1) | exact HB.out)) hb); clear HO_11; clear HO_12; clear HO_13; clear HB; have HO_11 := n0_; have HO_12 := n1_; have HO_13 := n2_; have HB := n3_; clear n0_ n1_ n2_ n3_; (try clear hb); (try clear hb2); (try clear hk); (try clear hi)) | ((with_reducible refine gate_callee (f := 47) rfl ?_); refine goesL_ (some 169) rfl rfl Try.func47 (by kernel_rfl) rfl #[.slice Ao103 t335.length co103, .int .i64 t356] rfl (by (try simp only [List.map_toArray, List.map_cons, List.map_nil]); first | done | rfl | (simp only [List.length_drop, List.length_take]; rfl)) ?_; (with_reducible refine (laws_heldBoolS.calls kj97 _ _ t335 t356 t357 _ ?side1 ?side2 A142.out).mono ?_); (case side1 => repeat (first | exact (Kd.R_reads' HO_13.out).2.2 | (with_reducible refine Kd.C_alloc ?_ _) | (with_reducible refine Kd.C_drewN ?_ _) | (with_reducible refine Kd.C_drew ?_))); (case side2 => exact (Kd.R_reads' HO_13.out).2.1); rintro e w' ⟨rfl, ⟨nd, rfl⟩⟩; refine ⟨_, rfl, ?_⟩))
                                        go_ret
                                        exact ⟨by first | rfl | (simp [errW_none, errW_some] <;> rfl) | (simp [*, errW_none, errW_some] <;> rfl), by repeat (first | (with_reducible first | exact HB.out | apply below_alloc | apply pw_below_drewN | apply below_drew1) | exact HB.out)⟩
                                      · rw [if_neg c144] at H
                                        have c144b0 : (t357 == t334) = false := beq_eq_false_iff_ne.mpr c144
                                        have c144b1 : (t357 != t334) = true := bne_iff_ne.mpr c144
                                        obtain rfl := Option.some.inj H
                                        exact absurd hr_.out (by simp)
                        · rw [if_neg c95] at H
                          have c95b0 : (t338 == t334) = false := beq_eq_false_iff_ne.mpr c95
                          have c95b1 : (t338 != t334) = true := bne_iff_ne.mpr c95
                          obtain rfl := Option.some.inj H
                          exact absurd hr_.out (by simp)
          · replace c49 := Bool.eq_false_iff.mpr c49
            subst c49
            have H1 : (some false) = some r := by rw [if_neg (show ¬ (false = true) by decide)] at H; exact H
            clear H
            have H := H1
            clear H1
            obtain rfl := Option.some.inj H
            exact absurd hr_.out (by simp)

/-- THE ONE PURE STATEMENT of laws_FnExactPlayCover. -/
def laws_FnExactPlayCover.Pure : Prop := ∀ (a0 : Int) (l1 : List (S54)), (Lit.int .i64 a0).wf = true → (l1.length ≤ maxLen ∧ ∀ x ∈ l1, ((Lit.int .i64 x.f0).wf = true ∧ x.f1.size ≤ maxLen)) → ∃ k, laws_FnExactPlayCover.f k a0 l1 = some true

end Go.Proofs.Ytdiehchbbhlfgaa.PFnExactPlayCover
