-- Written by a program of this session, after the kit's print (changed in some places; see NOTES.md). Lean checks it.
import Derived.Test.YtebpikejljgfgaaPFnOrdersx0
import Derived.Test.YtebpikejljgfgaaPFnOrdersx1
import Derived.Test.YtebpikejljgfgaaPFnOrdersx2
import Derived.Test.YtebpikejljgfgaaPFnOrdersx3
import Derived.Test.YtebpikejljgfgaaPFnOrdersx4
import Derived.Test.YtebpikejljgfgaaPFnOrdersx5
import Derived.Test.YtebpikejljgfgaaPFnOrdersx6
namespace Go.Proofs.Ytebpikejljgfgaa.PFnOrders
open Go.RowKit Go.Proofs.YtebpikejljgfgaaW.PrintWords Go.Proofs.YtebpikejljgfgaaW.PrintLast Go.Proofs.YtebpikejljgfgaaW.PrintMore
attribute [local go_sem] max2_int min2_int max_two min_two max_three min_three max_four min_four   -- for this text's walks alone
set_option linter.unusedVariables false
set_option linter.unusedSimpArgs false

/-! ### laws_FnOrders: function 3 -/
mutual
def laws_FnOrders.j1 : Nat → List Int → Option (Bool)
  | 0, _ => none
  | k + 1, x1 => (spec_DrawNumberOf.f k x1).bind fun t307 => ((impl_NumberOf.f k t307).bind fun bt310 => ((spec_NumberOf.f k t307).bind fun bt312 => ((spec_DrawShuffleBy.f k x1).bind fun bt314 => ((impl_ShuffleBy.f k bt314.1 bt314.2).bind fun bt320 => ((spec_ShuffleBy.f k bt314.1 bt314.2).bind fun bt324 => ((spec_DrawOrdersOf.f x1).bind fun t328 => ((impl_OrdersOf.f k t328).bind fun bt329 => ((spec_OrdersOf.f k t328).bind fun bt331 => (if (bt310.2 != bt312.2) = true then (some false) else (if bt310.1 = bt312.1 then (if (bt320.2 != bt324.2) = true then (some false) else ((laws_sameTexts.f k bt320.1 bt324.1).bind fun t333 => (if t333 = true then (if (bt329.2 != bt331.2) = true then (some false) else (if bt329.1 = bt331.1 then (if bt320.2 = true then (laws_FnOrders.l1 k bt314.2 bt320.1 bt314.2 (bt314.2.length : Int) 0) else (some true)) else (some false))) else (some false)))) else (some false)))))))))))
def laws_FnOrders.l1 : Nat → List ByteArray → List ByteArray → List ByteArray → Int → Int → Option (Bool)
  | 0, _, _, _, _, _ => none
  | k + 1, x25, x26, x217, x218, x219 => if x219 < x218 then (if 0 ≤ x219 then (if x219 < (x217.length : Int) then (laws_FnOrders.l2 k x25 x26 (rdOf ByteArray.empty x217 x219) 0 x217 x218 x219 x25 (x25.length : Int) 0) else (none)) else (none)) else (some true)
def laws_FnOrders.l2 : Nat → List ByteArray → List ByteArray → ByteArray → Int → List ByteArray → Int → Int → List ByteArray → Int → Int → Option (Bool)
  | 0, _, _, _, _, _, _, _, _, _, _ => none
  | k + 1, x25, x26, x36, x37, x217, x218, x219, x223, x224, x225 => if x225 < x224 then (if 0 ≤ x225 then (if x225 < (x223.length : Int) then (if (rdOf ByteArray.empty x223 x225).toList = x36.toList then (laws_FnOrders.l2 k x25 x26 x36 (wrap64 (x37 + 1)) x217 x218 x219 x223 x224 (wrap64 (x225 + 1))) else (laws_FnOrders.l2 k x25 x26 x36 x37 x217 x218 x219 x223 x224 (wrap64 (x225 + 1)))) else (none)) else (none)) else (laws_FnOrders.l3 k x25 x26 x36 x37 x217 x218 x219 x26 (x26.length : Int) 0)
def laws_FnOrders.l3 : Nat → List ByteArray → List ByteArray → ByteArray → Int → List ByteArray → Int → Int → List ByteArray → Int → Int → Option (Bool)
  | 0, _, _, _, _, _, _, _, _, _, _ => none
  | k + 1, x25, x26, x36, x37, x217, x218, x219, x235, x236, x237 => if x237 < x236 then (if 0 ≤ x237 then (if x237 < (x235.length : Int) then (if (rdOf ByteArray.empty x235 x237).toList = x36.toList then (laws_FnOrders.l3 k x25 x26 x36 (wrap64 (x37 - 1)) x217 x218 x219 x235 x236 (wrap64 (x237 + 1))) else (laws_FnOrders.l3 k x25 x26 x36 x37 x217 x218 x219 x235 x236 (wrap64 (x237 + 1)))) else (none)) else (none)) else (if x37 = 0 then (laws_FnOrders.l1 k x25 x26 x217 x218 (wrap64 (x219 + 1))) else (some false))
def laws_FnOrders.l0 : Nat → List Int → List Int → List Int → Bool → Bool → Int → Int → Option (Bool)
  | 0, _, _, _, _, _, _, _ => none
  | k + 1, x1, x7, x15, x16, x17, x117, x118 => if x118 < x117 then (if 0 ≤ x118 then (if x118 < (x15.length : Int) then (if x118 < (x7.length : Int) then (if (rd x15 x118) = (rd x7 x118) then (laws_FnOrders.l0 k x1 x7 x15 x16 x17 x117 (wrap64 (x118 + 1))) else (if x16 = true then (if ((rd x15 x118) < (rd x7 x118)) then (laws_FnOrders.j1 k x1) else (some false)) else (some false))) else (none)) else (none)) else (none)) else (if x16 = true then (if x17 = true then (laws_FnOrders.j1 k x1) else (some false)) else (some false))
end
def laws_FnOrders.f (k : Nat) (l0 : List Int) (l1 : List Int) : Option (Bool) := if (wrap64 ((l0.length : Int) + (l1.length : Int))) > 1048576 then (some true) else ((spec_DrawOrderAt.f k l0).bind fun bt284 => ((impl_OrderAt.f k bt284.1 bt284.2).bind fun bt286 => ((spec_OrderAt.f k bt284.1 bt284.2).bind fun bt290 => (if (bt286.2 != bt290.2) = true then (some false) else ((laws_sameInts.f k bt286.1 bt290.1).bind fun t294 => (if t294 = true then (if bt286.2 = true then ((impl_NumberOf.f k bt286.1).bind fun bt295 => ((impl_OrdersOf.f k bt284.1).bind fun bt297 => (if bt295.2 = true then (if bt295.1 = bt284.2 then (if bt297.2 = true then (if bt284.2 ≥ bt297.1 then (some false) else (if (bt286.1.length : Int) = bt284.1 then (if bt284.2 > 0 then ((impl_OrderAt.f k bt284.1 (wrap64 (bt284.2 - 1))).bind fun bt299 => (laws_FnOrders.l0 k l1 bt286.1 bt299.1 bt299.2 false (bt286.1.length : Int) 0)) else (laws_FnOrders.j1 k l1)) else (some false))) else (some false)) else (some false)) else (some false)))) else (laws_FnOrders.j1 k l1)) else (some false)))))))
theorem laws_FnOrders.mono_l : ∀ k, (∀ y0, LeO (laws_FnOrders.j1 k y0) (laws_FnOrders.j1 (k + 1) y0)) ∧ (∀ y0 y1 y2 y3 y4, LeO (laws_FnOrders.l1 k y0 y1 y2 y3 y4) (laws_FnOrders.l1 (k + 1) y0 y1 y2 y3 y4)) ∧ (∀ y0 y1 y2 y3 y4 y5 y6 y7 y8 y9, LeO (laws_FnOrders.l2 k y0 y1 y2 y3 y4 y5 y6 y7 y8 y9) (laws_FnOrders.l2 (k + 1) y0 y1 y2 y3 y4 y5 y6 y7 y8 y9)) ∧ (∀ y0 y1 y2 y3 y4 y5 y6 y7 y8 y9, LeO (laws_FnOrders.l3 k y0 y1 y2 y3 y4 y5 y6 y7 y8 y9) (laws_FnOrders.l3 (k + 1) y0 y1 y2 y3 y4 y5 y6 y7 y8 y9)) ∧ (∀ y0 y1 y2 y3 y4 y5 y6, LeO (laws_FnOrders.l0 k y0 y1 y2 y3 y4 y5 y6) (laws_FnOrders.l0 (k + 1) y0 y1 y2 y3 y4 y5 y6))
  | 0 => ⟨fun _ r h => by simp [laws_FnOrders.j1] at h, fun _ _ _ _ _ r h => by simp [laws_FnOrders.l1] at h, fun _ _ _ _ _ _ _ _ _ _ r h => by simp [laws_FnOrders.l2] at h, fun _ _ _ _ _ _ _ _ _ _ r h => by simp [laws_FnOrders.l3] at h, fun _ _ _ _ _ _ _ r h => by simp [laws_FnOrders.l0] at h⟩
  | k + 1 => by
    obtain ⟨ih0, ih1, ih2, ih3, ih4⟩ := laws_FnOrders.mono_l k
    refine ⟨?_, ?_, ?_, ?_, ?_⟩
    · intro y0
      unfold laws_FnOrders.j1
      repeat' first
      | (with_reducible exact ih0 _)
      | (with_reducible exact ih1 _ _ _ _ _)
      | (with_reducible exact ih2 _ _ _ _ _ _ _ _ _ _)
      | (with_reducible exact ih3 _ _ _ _ _ _ _ _ _ _)
      | (with_reducible exact ih4 _ _ _ _ _ _ _)
      | (with_reducible exact impl_NumberOf.mono _ _)
      | (with_reducible exact impl_OrderAt.mono _ _ _)
      | (with_reducible exact impl_OrdersOf.mono _ _)
      | (with_reducible exact impl_ShuffleBy.mono _ _ _)
      | (with_reducible exact laws_sameInts.mono _ _ _)
      | (with_reducible exact laws_sameTexts.mono _ _ _)
      | (with_reducible exact spec_DrawNumberOf.mono _ _)
      | (with_reducible exact spec_DrawOrderAt.mono _ _)
      | (with_reducible exact spec_DrawShuffleBy.mono _ _)
      | (with_reducible exact spec_NumberOf.mono _ _)
      | (with_reducible exact spec_OrderAt.mono _ _ _)
      | (with_reducible exact spec_OrdersOf.mono _ _)
      | (with_reducible exact spec_ShuffleBy.mono _ _ _)
      | (with_reducible exact LeO.refl _)
      | (with_reducible exact LeO.none _)
      | (with_reducible refine LeO.ite ?_ ?_)
      | (with_reducible refine LeO.bind ?_ (fun _ => ?_))
      | exact ih0 _
      | exact ih1 _ _ _ _ _
      | exact ih2 _ _ _ _ _ _ _ _ _ _
      | exact ih3 _ _ _ _ _ _ _ _ _ _
      | exact ih4 _ _ _ _ _ _ _
      | exact impl_NumberOf.mono _ _
      | exact impl_OrderAt.mono _ _ _
      | exact impl_OrdersOf.mono _ _
      | exact impl_ShuffleBy.mono _ _ _
      | exact laws_sameInts.mono _ _ _
      | exact laws_sameTexts.mono _ _ _
      | exact spec_DrawNumberOf.mono _ _
      | exact spec_DrawOrderAt.mono _ _
      | exact spec_DrawShuffleBy.mono _ _
      | exact spec_NumberOf.mono _ _
      | exact spec_OrderAt.mono _ _ _
      | exact spec_OrdersOf.mono _ _
      | exact spec_ShuffleBy.mono _ _ _
      | exact LeO.none _
      | refine LeO.ite ?_ ?_
      | refine LeO.bind ?_ (fun _ => ?_)
    · intro y0 y1 y2 y3 y4
      unfold laws_FnOrders.l1
      repeat' first
      | (with_reducible exact ih0 _)
      | (with_reducible exact ih1 _ _ _ _ _)
      | (with_reducible exact ih2 _ _ _ _ _ _ _ _ _ _)
      | (with_reducible exact ih3 _ _ _ _ _ _ _ _ _ _)
      | (with_reducible exact ih4 _ _ _ _ _ _ _)
      | (with_reducible exact impl_NumberOf.mono _ _)
      | (with_reducible exact impl_OrderAt.mono _ _ _)
      | (with_reducible exact impl_OrdersOf.mono _ _)
      | (with_reducible exact impl_ShuffleBy.mono _ _ _)
      | (with_reducible exact laws_sameInts.mono _ _ _)
      | (with_reducible exact laws_sameTexts.mono _ _ _)
      | (with_reducible exact spec_DrawNumberOf.mono _ _)
      | (with_reducible exact spec_DrawOrderAt.mono _ _)
      | (with_reducible exact spec_DrawShuffleBy.mono _ _)
      | (with_reducible exact spec_NumberOf.mono _ _)
      | (with_reducible exact spec_OrderAt.mono _ _ _)
      | (with_reducible exact spec_OrdersOf.mono _ _)
      | (with_reducible exact spec_ShuffleBy.mono _ _ _)
      | (with_reducible exact LeO.refl _)
      | (with_reducible exact LeO.none _)
      | (with_reducible refine LeO.ite ?_ ?_)
      | (with_reducible refine LeO.bind ?_ (fun _ => ?_))
      | exact ih0 _
      | exact ih1 _ _ _ _ _
      | exact ih2 _ _ _ _ _ _ _ _ _ _
      | exact ih3 _ _ _ _ _ _ _ _ _ _
      | exact ih4 _ _ _ _ _ _ _
      | exact impl_NumberOf.mono _ _
      | exact impl_OrderAt.mono _ _ _
      | exact impl_OrdersOf.mono _ _
      | exact impl_ShuffleBy.mono _ _ _
      | exact laws_sameInts.mono _ _ _
      | exact laws_sameTexts.mono _ _ _
      | exact spec_DrawNumberOf.mono _ _
      | exact spec_DrawOrderAt.mono _ _
      | exact spec_DrawShuffleBy.mono _ _
      | exact spec_NumberOf.mono _ _
      | exact spec_OrderAt.mono _ _ _
      | exact spec_OrdersOf.mono _ _
      | exact spec_ShuffleBy.mono _ _ _
      | exact LeO.none _
      | refine LeO.ite ?_ ?_
      | refine LeO.bind ?_ (fun _ => ?_)
    · intro y0 y1 y2 y3 y4 y5 y6 y7 y8 y9
      unfold laws_FnOrders.l2
      repeat' first
      | (with_reducible exact ih0 _)
      | (with_reducible exact ih1 _ _ _ _ _)
      | (with_reducible exact ih2 _ _ _ _ _ _ _ _ _ _)
      | (with_reducible exact ih3 _ _ _ _ _ _ _ _ _ _)
      | (with_reducible exact ih4 _ _ _ _ _ _ _)
      | (with_reducible exact impl_NumberOf.mono _ _)
      | (with_reducible exact impl_OrderAt.mono _ _ _)
      | (with_reducible exact impl_OrdersOf.mono _ _)
      | (with_reducible exact impl_ShuffleBy.mono _ _ _)
      | (with_reducible exact laws_sameInts.mono _ _ _)
      | (with_reducible exact laws_sameTexts.mono _ _ _)
      | (with_reducible exact spec_DrawNumberOf.mono _ _)
      | (with_reducible exact spec_DrawOrderAt.mono _ _)
      | (with_reducible exact spec_DrawShuffleBy.mono _ _)
      | (with_reducible exact spec_NumberOf.mono _ _)
      | (with_reducible exact spec_OrderAt.mono _ _ _)
      | (with_reducible exact spec_OrdersOf.mono _ _)
      | (with_reducible exact spec_ShuffleBy.mono _ _ _)
      | (with_reducible exact LeO.refl _)
      | (with_reducible exact LeO.none _)
      | (with_reducible refine LeO.ite ?_ ?_)
      | (with_reducible refine LeO.bind ?_ (fun _ => ?_))
      | exact ih0 _
      | exact ih1 _ _ _ _ _
      | exact ih2 _ _ _ _ _ _ _ _ _ _
      | exact ih3 _ _ _ _ _ _ _ _ _ _
      | exact ih4 _ _ _ _ _ _ _
      | exact impl_NumberOf.mono _ _
      | exact impl_OrderAt.mono _ _ _
      | exact impl_OrdersOf.mono _ _
      | exact impl_ShuffleBy.mono _ _ _
      | exact laws_sameInts.mono _ _ _
      | exact laws_sameTexts.mono _ _ _
      | exact spec_DrawNumberOf.mono _ _
      | exact spec_DrawOrderAt.mono _ _
      | exact spec_DrawShuffleBy.mono _ _
      | exact spec_NumberOf.mono _ _
      | exact spec_OrderAt.mono _ _ _
      | exact spec_OrdersOf.mono _ _
      | exact spec_ShuffleBy.mono _ _ _
      | exact LeO.none _
      | refine LeO.ite ?_ ?_
      | refine LeO.bind ?_ (fun _ => ?_)
    · intro y0 y1 y2 y3 y4 y5 y6 y7 y8 y9
      unfold laws_FnOrders.l3
      repeat' first
      | (with_reducible exact ih0 _)
      | (with_reducible exact ih1 _ _ _ _ _)
      | (with_reducible exact ih2 _ _ _ _ _ _ _ _ _ _)
      | (with_reducible exact ih3 _ _ _ _ _ _ _ _ _ _)
      | (with_reducible exact ih4 _ _ _ _ _ _ _)
      | (with_reducible exact impl_NumberOf.mono _ _)
      | (with_reducible exact impl_OrderAt.mono _ _ _)
      | (with_reducible exact impl_OrdersOf.mono _ _)
      | (with_reducible exact impl_ShuffleBy.mono _ _ _)
      | (with_reducible exact laws_sameInts.mono _ _ _)
      | (with_reducible exact laws_sameTexts.mono _ _ _)
      | (with_reducible exact spec_DrawNumberOf.mono _ _)
      | (with_reducible exact spec_DrawOrderAt.mono _ _)
      | (with_reducible exact spec_DrawShuffleBy.mono _ _)
      | (with_reducible exact spec_NumberOf.mono _ _)
      | (with_reducible exact spec_OrderAt.mono _ _ _)
      | (with_reducible exact spec_OrdersOf.mono _ _)
      | (with_reducible exact spec_ShuffleBy.mono _ _ _)
      | (with_reducible exact LeO.refl _)
      | (with_reducible exact LeO.none _)
      | (with_reducible refine LeO.ite ?_ ?_)
      | (with_reducible refine LeO.bind ?_ (fun _ => ?_))
      | exact ih0 _
      | exact ih1 _ _ _ _ _
      | exact ih2 _ _ _ _ _ _ _ _ _ _
      | exact ih3 _ _ _ _ _ _ _ _ _ _
      | exact ih4 _ _ _ _ _ _ _
      | exact impl_NumberOf.mono _ _
      | exact impl_OrderAt.mono _ _ _
      | exact impl_OrdersOf.mono _ _
      | exact impl_ShuffleBy.mono _ _ _
      | exact laws_sameInts.mono _ _ _
      | exact laws_sameTexts.mono _ _ _
      | exact spec_DrawNumberOf.mono _ _
      | exact spec_DrawOrderAt.mono _ _
      | exact spec_DrawShuffleBy.mono _ _
      | exact spec_NumberOf.mono _ _
      | exact spec_OrderAt.mono _ _ _
      | exact spec_OrdersOf.mono _ _
      | exact spec_ShuffleBy.mono _ _ _
      | exact LeO.none _
      | refine LeO.ite ?_ ?_
      | refine LeO.bind ?_ (fun _ => ?_)
    · intro y0 y1 y2 y3 y4 y5 y6
      unfold laws_FnOrders.l0
      repeat' first
      | (with_reducible exact ih0 _)
      | (with_reducible exact ih1 _ _ _ _ _)
      | (with_reducible exact ih2 _ _ _ _ _ _ _ _ _ _)
      | (with_reducible exact ih3 _ _ _ _ _ _ _ _ _ _)
      | (with_reducible exact ih4 _ _ _ _ _ _ _)
      | (with_reducible exact impl_NumberOf.mono _ _)
      | (with_reducible exact impl_OrderAt.mono _ _ _)
      | (with_reducible exact impl_OrdersOf.mono _ _)
      | (with_reducible exact impl_ShuffleBy.mono _ _ _)
      | (with_reducible exact laws_sameInts.mono _ _ _)
      | (with_reducible exact laws_sameTexts.mono _ _ _)
      | (with_reducible exact spec_DrawNumberOf.mono _ _)
      | (with_reducible exact spec_DrawOrderAt.mono _ _)
      | (with_reducible exact spec_DrawShuffleBy.mono _ _)
      | (with_reducible exact spec_NumberOf.mono _ _)
      | (with_reducible exact spec_OrderAt.mono _ _ _)
      | (with_reducible exact spec_OrdersOf.mono _ _)
      | (with_reducible exact spec_ShuffleBy.mono _ _ _)
      | (with_reducible exact LeO.refl _)
      | (with_reducible exact LeO.none _)
      | (with_reducible refine LeO.ite ?_ ?_)
      | (with_reducible refine LeO.bind ?_ (fun _ => ?_))
      | exact ih0 _
      | exact ih1 _ _ _ _ _
      | exact ih2 _ _ _ _ _ _ _ _ _ _
      | exact ih3 _ _ _ _ _ _ _ _ _ _
      | exact ih4 _ _ _ _ _ _ _
      | exact impl_NumberOf.mono _ _
      | exact impl_OrderAt.mono _ _ _
      | exact impl_OrdersOf.mono _ _
      | exact impl_ShuffleBy.mono _ _ _
      | exact laws_sameInts.mono _ _ _
      | exact laws_sameTexts.mono _ _ _
      | exact spec_DrawNumberOf.mono _ _
      | exact spec_DrawOrderAt.mono _ _
      | exact spec_DrawShuffleBy.mono _ _
      | exact spec_NumberOf.mono _ _
      | exact spec_OrderAt.mono _ _ _
      | exact spec_OrdersOf.mono _ _
      | exact spec_ShuffleBy.mono _ _ _
      | exact LeO.none _
      | refine LeO.ite ?_ ?_
      | refine LeO.bind ?_ (fun _ => ?_)
theorem laws_FnOrders.mono : ∀ a0 a1 k, LeO (laws_FnOrders.f k a0 a1) (laws_FnOrders.f (k + 1) a0 a1) := by
  intro a0 a1 k
  obtain ⟨ih0, ih1, ih2, ih3, ih4⟩ := laws_FnOrders.mono_l k
  unfold laws_FnOrders.f
  repeat' first
      | (with_reducible exact ih0 _)
      | (with_reducible exact ih1 _ _ _ _ _)
      | (with_reducible exact ih2 _ _ _ _ _ _ _ _ _ _)
      | (with_reducible exact ih3 _ _ _ _ _ _ _ _ _ _)
      | (with_reducible exact ih4 _ _ _ _ _ _ _)
      | (with_reducible exact impl_NumberOf.mono _ _)
      | (with_reducible exact impl_OrderAt.mono _ _ _)
      | (with_reducible exact impl_OrdersOf.mono _ _)
      | (with_reducible exact impl_ShuffleBy.mono _ _ _)
      | (with_reducible exact laws_sameInts.mono _ _ _)
      | (with_reducible exact laws_sameTexts.mono _ _ _)
      | (with_reducible exact spec_DrawNumberOf.mono _ _)
      | (with_reducible exact spec_DrawOrderAt.mono _ _)
      | (with_reducible exact spec_DrawShuffleBy.mono _ _)
      | (with_reducible exact spec_NumberOf.mono _ _)
      | (with_reducible exact spec_OrderAt.mono _ _ _)
      | (with_reducible exact spec_OrdersOf.mono _ _)
      | (with_reducible exact spec_ShuffleBy.mono _ _ _)
      | (with_reducible exact LeO.refl _)
      | (with_reducible exact LeO.none _)
      | (with_reducible refine LeO.ite ?_ ?_)
      | (with_reducible refine LeO.bind ?_ (fun _ => ?_))
      | exact ih0 _
      | exact ih1 _ _ _ _ _
      | exact ih2 _ _ _ _ _ _ _ _ _ _
      | exact ih3 _ _ _ _ _ _ _ _ _ _
      | exact ih4 _ _ _ _ _ _ _
      | exact impl_NumberOf.mono _ _
      | exact impl_OrderAt.mono _ _ _
      | exact impl_OrdersOf.mono _ _
      | exact impl_ShuffleBy.mono _ _ _
      | exact laws_sameInts.mono _ _ _
      | exact laws_sameTexts.mono _ _ _
      | exact spec_DrawNumberOf.mono _ _
      | exact spec_DrawOrderAt.mono _ _
      | exact spec_DrawShuffleBy.mono _ _
      | exact spec_NumberOf.mono _ _
      | exact spec_OrderAt.mono _ _ _
      | exact spec_OrdersOf.mono _ _
      | exact spec_ShuffleBy.mono _ _ _
      | exact LeO.none _
      | refine LeO.ite ?_ ?_
      | refine LeO.bind ?_ (fun _ => ?_)
set_option maxHeartbeats 8000000 in
set_option maxRecDepth 100000 in
theorem laws_FnOrders.calls (k : Nat) (A0 : Option Addr) (c0 : Nat) (l0 : List Int) (A1 : Option Addr) (c1 : Nat) (l1 : List Int) (r : Bool) (w : World) (hr0 : Kd.C (Kd.int .u8) w A0 l0.length l0) (hc0 : l0.length ≤ c0) (hr1 : Kd.C (Kd.int .u8) w A1 l1.length l1) (hc1 : l1.length ≤ c1) (h : laws_FnOrders.f k l0 l1 = some r) (hr_ : Aside0 (r = true)) :
    Calls Try.prog 3 #[.slice A0 l0.length c0, .slice A1 l1.length c1] w fun e w' => e = .returned (.bool r) ∧ Below w.heap.size w w' := by
  have HR0 := Aside0.mk hr0
  have HC0 := Aside0.mk hc0
  clear hr0 hc0
  have HR1 := Aside0.mk hr1
  have HC1 := Aside0.mk hc1
  clear hr1 hc1
  have HB := Aside0.mk (Below.refl w.heap.size w)
  have H : (if (wrap64 ((l0.length : Int) + (l1.length : Int))) > 1048576 then (some true) else ((spec_DrawOrderAt.f k l0).bind fun bt284 => ((impl_OrderAt.f k bt284.1 bt284.2).bind fun bt286 => ((spec_OrderAt.f k bt284.1 bt284.2).bind fun bt290 => (if (bt286.2 != bt290.2) = true then (some false) else ((laws_sameInts.f k bt286.1 bt290.1).bind fun t294 => (if t294 = true then (if bt286.2 = true then ((impl_NumberOf.f k bt286.1).bind fun bt295 => ((impl_OrdersOf.f k bt284.1).bind fun bt297 => (if bt295.2 = true then (if bt295.1 = bt284.2 then (if bt297.2 = true then (if bt284.2 ≥ bt297.1 then (some false) else (if (bt286.1.length : Int) = bt284.1 then (if bt284.2 > 0 then ((impl_OrderAt.f k bt284.1 (wrap64 (bt284.2 - 1))).bind fun bt299 => (laws_FnOrders.l0 k l1 bt286.1 bt299.1 bt299.2 false (bt286.1.length : Int) 0)) else (laws_FnOrders.j1 k l1)) else (some false))) else (some false)) else (some false)) else (some false)))) else (laws_FnOrders.j1 k l1)) else (some false)))))))) = some r := h
  clear h
  by_cases c3 : (wrap64 ((l0.length : Int) + (l1.length : Int))) > 1048576
  · rw [if_pos c3] at H
    have c3b0 : decide (1048576 < (wrap64 ((l0.length : Int) + (l1.length : Int)))) = true := decide_eq_true c3
    clear c3
    obtain rfl := Option.some.inj H
    simp only [Option.some.injEq, Prod.mk.injEq] at H
    obtain ⟨rfl⟩ := H
    go_enter Try.func3, Try.ntmps3
    go_wp2
    repeat (go_quiet (fail); try go_wp2)
    go_ret
    exact ⟨by first | rfl | (simp [errW_none, errW_some] <;> rfl) | (simp [*, errW_none, errW_some] <;> rfl), by repeat (first | (with_reducible first | exact HB.out | apply below_alloc | apply pw_below_drewN | apply below_drew1) | exact HB.out)⟩
  · rw [if_neg c3] at H
    have c3b0 : decide (1048576 < (wrap64 ((l0.length : Int) + (l1.length : Int)))) = false := decide_eq_false c3
    clear c3
    replace H := Option.bind_eq_some_iff.mp H
    obtain ⟨⟨t284, t285⟩, A40, H⟩ := H
    replace H : ((impl_OrderAt.f k t284 t285).bind fun bt286 => ((spec_OrderAt.f k t284 t285).bind fun bt290 => (if (bt286.2 != bt290.2) = true then (some false) else ((laws_sameInts.f k bt286.1 bt290.1).bind fun t294 => (if t294 = true then (if bt286.2 = true then ((impl_NumberOf.f k bt286.1).bind fun bt295 => ((impl_OrdersOf.f k t284).bind fun bt297 => (if bt295.2 = true then (if bt295.1 = t285 then (if bt297.2 = true then (if t285 ≥ bt297.1 then (some false) else (if (bt286.1.length : Int) = t284 then (if t285 > 0 then ((impl_OrderAt.f k t284 (wrap64 (t285 - 1))).bind fun bt299 => (laws_FnOrders.l0 k l1 bt286.1 bt299.1 bt299.2 false (bt286.1.length : Int) 0)) else (laws_FnOrders.j1 k l1)) else (some false))) else (some false)) else (some false)) else (some false)))) else (laws_FnOrders.j1 k l1)) else (some false)))))) = some r := H
    have A4 := Aside0.mk A40
    clear A40
    replace H := Option.bind_eq_some_iff.mp H
    obtain ⟨⟨t286, t287⟩, A50, H⟩ := H
    replace H : ((spec_OrderAt.f k t284 t285).bind fun bt290 => (if (t287 != bt290.2) = true then (some false) else ((laws_sameInts.f k t286 bt290.1).bind fun t294 => (if t294 = true then (if t287 = true then ((impl_NumberOf.f k t286).bind fun bt295 => ((impl_OrdersOf.f k t284).bind fun bt297 => (if bt295.2 = true then (if bt295.1 = t285 then (if bt297.2 = true then (if t285 ≥ bt297.1 then (some false) else (if (t286.length : Int) = t284 then (if t285 > 0 then ((impl_OrderAt.f k t284 (wrap64 (t285 - 1))).bind fun bt299 => (laws_FnOrders.l0 k l1 t286 bt299.1 bt299.2 false (t286.length : Int) 0)) else (laws_FnOrders.j1 k l1)) else (some false))) else (some false)) else (some false)) else (some false)))) else (laws_FnOrders.j1 k l1)) else (some false))))) = some r := H
    have A5 := Aside0.mk A50
    clear A50
    replace H := Option.bind_eq_some_iff.mp H
    obtain ⟨⟨t290, t291⟩, A60, H⟩ := H
    replace H : (if (t287 != t291) = true then (some false) else ((laws_sameInts.f k t286 t290).bind fun t294 => (if t294 = true then (if t287 = true then ((impl_NumberOf.f k t286).bind fun bt295 => ((impl_OrdersOf.f k t284).bind fun bt297 => (if bt295.2 = true then (if bt295.1 = t285 then (if bt297.2 = true then (if t285 ≥ bt297.1 then (some false) else (if (t286.length : Int) = t284 then (if t285 > 0 then ((impl_OrderAt.f k t284 (wrap64 (t285 - 1))).bind fun bt299 => (laws_FnOrders.l0 k l1 t286 bt299.1 bt299.2 false (t286.length : Int) 0)) else (laws_FnOrders.j1 k l1)) else (some false))) else (some false)) else (some false)) else (some false)))) else (laws_FnOrders.j1 k l1)) else (some false)))) = some r := H
    have A6 := Aside0.mk A60
    clear A60
    by_cases c7 : (t287 != t291) = true
    · rw [if_pos c7] at H
      have c7b0 : (t287 != t291) = true := c7
      (try (have c7b1 : decide (t287 = t291) = false := by simpa using c7))
      (try (have c7b2 : (t287 == t291) = false := by simpa using c7))
      (try (have c7b3 : ¬ (t287 = t291) := by simpa using c7))
      clear c7
      obtain rfl := Option.some.inj H
      exact absurd hr_.out (by simp)
    · rw [if_neg c7] at H
      have c7b0 : (t287 != t291) = false := by simpa using c7
      (try (have c7b1 : decide (t287 = t291) = true := by simpa using c7))
      (try (have c7b2 : (t287 == t291) = true := by simpa using c7))
      clear c7
      replace H := Option.bind_eq_some_iff.mp H
      obtain ⟨t294, A80, H⟩ := H
      replace H : (if t294 = true then (if t287 = true then ((impl_NumberOf.f k t286).bind fun bt295 => ((impl_OrdersOf.f k t284).bind fun bt297 => (if bt295.2 = true then (if bt295.1 = t285 then (if bt297.2 = true then (if t285 ≥ bt297.1 then (some false) else (if (t286.length : Int) = t284 then (if t285 > 0 then ((impl_OrderAt.f k t284 (wrap64 (t285 - 1))).bind fun bt299 => (laws_FnOrders.l0 k l1 t286 bt299.1 bt299.2 false (t286.length : Int) 0)) else (laws_FnOrders.j1 k l1)) else (some false))) else (some false)) else (some false)) else (some false)))) else (laws_FnOrders.j1 k l1)) else (some false)) = some r := H
      have A8 := Aside0.mk A80
      clear A80
      by_cases c9 : t294 = true
      · subst c9
        have H1 : (if t287 = true then ((impl_NumberOf.f k t286).bind fun bt295 => ((impl_OrdersOf.f k t284).bind fun bt297 => (if bt295.2 = true then (if bt295.1 = t285 then (if bt297.2 = true then (if t285 ≥ bt297.1 then (some false) else (if (t286.length : Int) = t284 then (if t285 > 0 then ((impl_OrderAt.f k t284 (wrap64 (t285 - 1))).bind fun bt299 => (laws_FnOrders.l0 k l1 t286 bt299.1 bt299.2 false (t286.length : Int) 0)) else (laws_FnOrders.j1 k l1)) else (some false))) else (some false)) else (some false)) else (some false)))) else (laws_FnOrders.j1 k l1)) = some r := by rw [if_pos rfl] at H; exact H
        clear H
        have H := H1
        clear H1
        have HC10 := Aside0.mk H
        clear H
        go_enter Try.func3, Try.ntmps3
        go_upto_if 74 with (first | (go_at_call 7; (with_reducible refine (spec_DrawOrderAt.calls k _ _ l0 t284 t285 _ ?side1 ?side2 A4.out).mono ?_); (case side1 => repeat (first | exact HR0.out | (with_reducible refine Kd.C_alloc ?_ _) | (with_reducible refine Kd.C_drewN ?_ _) | (with_reducible refine Kd.C_drew ?_))); (case side2 => exact HC0.out); rintro e w11 ⟨rfl, hb⟩; have n0_ := Aside0.mk (below_step (by repeat (first | (with_reducible first | exact HB.out | apply below_alloc | apply pw_below_drewN | apply below_drew1) | exact HB.out)) hb); clear HB; have HB := n0_; clear n0_; (try clear hb); (try clear hb2); (try clear hk); (try clear hi)) | (go_at_call 8; (with_reducible refine (impl_OrderAt.calls k t284 t285 t286 t287 _ A5.out).mono ?_); rintro e w12 ⟨v288, rfl, ho0, hb⟩; have n0_ := Aside0.mk (Kd.R_lower ho0 (below_size (by repeat (first | (with_reducible first | exact HB.out | apply below_alloc | apply pw_below_drewN | apply below_drew1) | exact HB.out)))); have n1_ := Aside0.mk (below_step (by repeat (first | (with_reducible first | exact HB.out | apply below_alloc | apply pw_below_drewN | apply below_drew1) | exact HB.out)) hb); clear HB; have HO289 := n0_; have HB := n1_; clear n0_ n1_; (try clear hb); (try clear hb2); (try clear hk); (try clear hi); (try clear ho0)) | (go_at_call 9; (with_reducible refine (spec_OrderAt.calls k t284 t285 t290 t291 _ A6.out).mono ?_); rintro e w13 ⟨v292, rfl, ho0, hb⟩; have n0_ := Aside0.mk (Kd.R_elder' (by (with_reducible repeat (first | apply Kd.R_alloc | apply Kd.R_drewN | apply Kd.R_drew)); exact HO289.out) (Kd.R_base ho0) hb); have n1_ := Aside0.mk (Kd.R_lower (Kd.R_new' ho0 (Kd.R_lt (by (with_reducible repeat (first | apply Kd.R_alloc | apply Kd.R_drewN | apply Kd.R_drew)); exact HO289.out))) (below_size (by repeat (first | (with_reducible first | exact HB.out | apply below_alloc | apply pw_below_drewN | apply below_drew1) | exact HB.out)))); have n2_ := Aside0.mk (below_step (by repeat (first | (with_reducible first | exact HB.out | apply below_alloc | apply pw_below_drewN | apply below_drew1) | exact HB.out)) hb); clear HO289; clear HB; have HO289 := n0_; have HO293 := n1_; have HB := n2_; clear n0_ n1_ n2_; (try clear hb); (try clear hb2); (try clear hk); (try clear hi); (try clear ho0); obtain ⟨Ao14, co14, eo14⟩ := Kd.R_slice HO289.out; subst eo14; obtain ⟨Ao15, co15, eo15⟩ := Kd.R_slice HO293.out; subst eo15) | (go_at_call 10; (with_reducible refine (laws_sameInts.calls k _ _ t286 _ _ t290 true _ ?side1 ?side2 ?side3 ?side4 A8.out).mono ?_); (case side1 => repeat (first | exact (Kd.R_reads' HO289.out).2.2 | (with_reducible refine Kd.C_alloc ?_ _) | (with_reducible refine Kd.C_drewN ?_ _) | (with_reducible refine Kd.C_drew ?_))); (case side2 => exact (Kd.R_reads' HO289.out).2.1); (case side3 => repeat (first | exact (Kd.R_reads' HO293.out).2.2 | (with_reducible refine Kd.C_alloc ?_ _) | (with_reducible refine Kd.C_drewN ?_ _) | (with_reducible refine Kd.C_drew ?_))); (case side4 => exact (Kd.R_reads' HO293.out).2.1); rintro e w' ⟨rfl, ⟨nd, rfl⟩⟩; (try first | exact ⟨rfl, _, World.drewN_drewN _ _ _⟩ | exact ⟨rfl, _, Eq.trans (World.drewN_drewN _ _ _) (congrArg (World.drewN _) (Nat.add_assoc _ _ _))⟩)))
        repeat (go_quiet (first | (go_at_call 7; (with_reducible refine (spec_DrawOrderAt.calls k _ _ l0 t284 t285 _ ?side1 ?side2 A4.out).mono ?_); (case side1 => repeat (first | exact HR0.out | (with_reducible refine Kd.C_alloc ?_ _) | (with_reducible refine Kd.C_drewN ?_ _) | (with_reducible refine Kd.C_drew ?_))); (case side2 => exact HC0.out); rintro e w11 ⟨rfl, hb⟩; have n0_ := Aside0.mk (below_step (by repeat (first | (with_reducible first | exact HB.out | apply below_alloc | apply pw_below_drewN | apply below_drew1) | exact HB.out)) hb); clear HB; have HB := n0_; clear n0_; (try clear hb); (try clear hb2); (try clear hk); (try clear hi)) | (go_at_call 8; (with_reducible refine (impl_OrderAt.calls k t284 t285 t286 t287 _ A5.out).mono ?_); rintro e w12 ⟨v288, rfl, ho0, hb⟩; have n0_ := Aside0.mk (Kd.R_lower ho0 (below_size (by repeat (first | (with_reducible first | exact HB.out | apply below_alloc | apply pw_below_drewN | apply below_drew1) | exact HB.out)))); have n1_ := Aside0.mk (below_step (by repeat (first | (with_reducible first | exact HB.out | apply below_alloc | apply pw_below_drewN | apply below_drew1) | exact HB.out)) hb); clear HB; have HO289 := n0_; have HB := n1_; clear n0_ n1_; (try clear hb); (try clear hb2); (try clear hk); (try clear hi); (try clear ho0)) | (go_at_call 9; (with_reducible refine (spec_OrderAt.calls k t284 t285 t290 t291 _ A6.out).mono ?_); rintro e w13 ⟨v292, rfl, ho0, hb⟩; have n0_ := Aside0.mk (Kd.R_elder' (by (with_reducible repeat (first | apply Kd.R_alloc | apply Kd.R_drewN | apply Kd.R_drew)); exact HO289.out) (Kd.R_base ho0) hb); have n1_ := Aside0.mk (Kd.R_lower (Kd.R_new' ho0 (Kd.R_lt (by (with_reducible repeat (first | apply Kd.R_alloc | apply Kd.R_drewN | apply Kd.R_drew)); exact HO289.out))) (below_size (by repeat (first | (with_reducible first | exact HB.out | apply below_alloc | apply pw_below_drewN | apply below_drew1) | exact HB.out)))); have n2_ := Aside0.mk (below_step (by repeat (first | (with_reducible first | exact HB.out | apply below_alloc | apply pw_below_drewN | apply below_drew1) | exact HB.out)) hb); clear HO289; clear HB; have HO289 := n0_; have HO293 := n1_; have HB := n2_; clear n0_ n1_ n2_; (try clear hb); (try clear hb2); (try clear hk); (try clear hi); (try clear ho0); obtain ⟨Ao14, co14, eo14⟩ := Kd.R_slice HO289.out; subst eo14; obtain ⟨Ao15, co15, eo15⟩ := Kd.R_slice HO293.out; subst eo15) | (go_at_call 10; (with_reducible refine (laws_sameInts.calls k _ _ t286 _ _ t290 true _ ?side1 ?side2 ?side3 ?side4 A8.out).mono ?_); (case side1 => repeat (first | exact (Kd.R_reads' HO289.out).2.2 | (with_reducible refine Kd.C_alloc ?_ _) | (with_reducible refine Kd.C_drewN ?_ _) | (with_reducible refine Kd.C_drew ?_))); (case side2 => exact (Kd.R_reads' HO289.out).2.1); (case side3 => repeat (first | exact (Kd.R_reads' HO293.out).2.2 | (with_reducible refine Kd.C_alloc ?_ _) | (with_reducible refine Kd.C_drewN ?_ _) | (with_reducible refine Kd.C_drew ?_))); (case side4 => exact (Kd.R_reads' HO293.out).2.1); rintro e w' ⟨rfl, ⟨nd, rfl⟩⟩; (try first | exact ⟨rfl, _, World.drewN_drewN _ _ _⟩ | exact ⟨rfl, _, Eq.trans (World.drewN_drewN _ _ _) (congrArg (World.drewN _) (Nat.add_assoc _ _ _))⟩))); go_upto_if 74 with (first | (go_at_call 7; (with_reducible refine (spec_DrawOrderAt.calls k _ _ l0 t284 t285 _ ?side1 ?side2 A4.out).mono ?_); (case side1 => repeat (first | exact HR0.out | (with_reducible refine Kd.C_alloc ?_ _) | (with_reducible refine Kd.C_drewN ?_ _) | (with_reducible refine Kd.C_drew ?_))); (case side2 => exact HC0.out); rintro e w11 ⟨rfl, hb⟩; have n0_ := Aside0.mk (below_step (by repeat (first | (with_reducible first | exact HB.out | apply below_alloc | apply pw_below_drewN | apply below_drew1) | exact HB.out)) hb); clear HB; have HB := n0_; clear n0_; (try clear hb); (try clear hb2); (try clear hk); (try clear hi)) | (go_at_call 8; (with_reducible refine (impl_OrderAt.calls k t284 t285 t286 t287 _ A5.out).mono ?_); rintro e w12 ⟨v288, rfl, ho0, hb⟩; have n0_ := Aside0.mk (Kd.R_lower ho0 (below_size (by repeat (first | (with_reducible first | exact HB.out | apply below_alloc | apply pw_below_drewN | apply below_drew1) | exact HB.out)))); have n1_ := Aside0.mk (below_step (by repeat (first | (with_reducible first | exact HB.out | apply below_alloc | apply pw_below_drewN | apply below_drew1) | exact HB.out)) hb); clear HB; have HO289 := n0_; have HB := n1_; clear n0_ n1_; (try clear hb); (try clear hb2); (try clear hk); (try clear hi); (try clear ho0)) | (go_at_call 9; (with_reducible refine (spec_OrderAt.calls k t284 t285 t290 t291 _ A6.out).mono ?_); rintro e w13 ⟨v292, rfl, ho0, hb⟩; have n0_ := Aside0.mk (Kd.R_elder' (by (with_reducible repeat (first | apply Kd.R_alloc | apply Kd.R_drewN | apply Kd.R_drew)); exact HO289.out) (Kd.R_base ho0) hb); have n1_ := Aside0.mk (Kd.R_lower (Kd.R_new' ho0 (Kd.R_lt (by (with_reducible repeat (first | apply Kd.R_alloc | apply Kd.R_drewN | apply Kd.R_drew)); exact HO289.out))) (below_size (by repeat (first | (with_reducible first | exact HB.out | apply below_alloc | apply pw_below_drewN | apply below_drew1) | exact HB.out)))); have n2_ := Aside0.mk (below_step (by repeat (first | (with_reducible first | exact HB.out | apply below_alloc | apply pw_below_drewN | apply below_drew1) | exact HB.out)) hb); clear HO289; clear HB; have HO289 := n0_; have HO293 := n1_; have HB := n2_; clear n0_ n1_ n2_; (try clear hb); (try clear hb2); (try clear hk); (try clear hi); (try clear ho0); obtain ⟨Ao14, co14, eo14⟩ := Kd.R_slice HO289.out; subst eo14; obtain ⟨Ao15, co15, eo15⟩ := Kd.R_slice HO293.out; subst eo15) | (go_at_call 10; (with_reducible refine (laws_sameInts.calls k _ _ t286 _ _ t290 true _ ?side1 ?side2 ?side3 ?side4 A8.out).mono ?_); (case side1 => repeat (first | exact (Kd.R_reads' HO289.out).2.2 | (with_reducible refine Kd.C_alloc ?_ _) | (with_reducible refine Kd.C_drewN ?_ _) | (with_reducible refine Kd.C_drew ?_))); (case side2 => exact (Kd.R_reads' HO289.out).2.1); (case side3 => repeat (first | exact (Kd.R_reads' HO293.out).2.2 | (with_reducible refine Kd.C_alloc ?_ _) | (with_reducible refine Kd.C_drewN ?_ _) | (with_reducible refine Kd.C_drew ?_))); (case side4 => exact (Kd.R_reads' HO293.out).2.1); rintro e w' ⟨rfl, ⟨nd, rfl⟩⟩; (try first | exact ⟨rfl, _, World.drewN_drewN _ _ _⟩ | exact ⟨rfl, _, Eq.trans (World.drewN_drewN _ _ _) (congrArg (World.drewN _) (Nat.add_assoc _ _ _))⟩))))
        (try simp only [Act.put, List.setIfInBounds_toArray, List.set_cons_zero, List.set_cons_succ])
        go_cut [] from 99999 (fun wc => ∃ (kq : Nat), Aside0 (laws_FnOrders.j1 kq l1 = some r) ∧ Aside0 (kq ≤ k) ∧ Aside0 (Below w.heap.size w wc))
        case first =>
          have H := HC10.out
          clear HC10
          by_cases c16 : t287 = true
          · subst c16
            have H1 : ((impl_NumberOf.f k t286).bind fun bt295 => ((impl_OrdersOf.f k t284).bind fun bt297 => (if bt295.2 = true then (if bt295.1 = t285 then (if bt297.2 = true then (if t285 ≥ bt297.1 then (some false) else (if (t286.length : Int) = t284 then (if t285 > 0 then ((impl_OrderAt.f k t284 (wrap64 (t285 - 1))).bind fun bt299 => (laws_FnOrders.l0 k l1 t286 bt299.1 bt299.2 false (t286.length : Int) 0)) else (laws_FnOrders.j1 k l1)) else (some false))) else (some false)) else (some false)) else (some false)))) = some r := by rw [if_pos rfl] at H; exact H
            clear H
            have H := H1
            clear H1
            replace H := Option.bind_eq_some_iff.mp H
            obtain ⟨⟨t295, t296⟩, A170, H⟩ := H
            replace H : ((impl_OrdersOf.f k t284).bind fun bt297 => (if t296 = true then (if t295 = t285 then (if bt297.2 = true then (if t285 ≥ bt297.1 then (some false) else (if (t286.length : Int) = t284 then (if t285 > 0 then ((impl_OrderAt.f k t284 (wrap64 (t285 - 1))).bind fun bt299 => (laws_FnOrders.l0 k l1 t286 bt299.1 bt299.2 false (t286.length : Int) 0)) else (laws_FnOrders.j1 k l1)) else (some false))) else (some false)) else (some false)) else (some false))) = some r := H
            have A17 := Aside0.mk A170
            clear A170
            replace H := Option.bind_eq_some_iff.mp H
            obtain ⟨⟨t297, t298⟩, A180, H⟩ := H
            replace H : (if t296 = true then (if t295 = t285 then (if t298 = true then (if t285 ≥ t297 then (some false) else (if (t286.length : Int) = t284 then (if t285 > 0 then ((impl_OrderAt.f k t284 (wrap64 (t285 - 1))).bind fun bt299 => (laws_FnOrders.l0 k l1 t286 bt299.1 bt299.2 false (t286.length : Int) 0)) else (laws_FnOrders.j1 k l1)) else (some false))) else (some false)) else (some false)) else (some false)) = some r := H
            have A18 := Aside0.mk A180
            clear A180
            by_cases c19 : t296 = true
            · subst c19
              have H1 : (if t295 = t285 then (if t298 = true then (if t285 ≥ t297 then (some false) else (if (t286.length : Int) = t284 then (if t285 > 0 then ((impl_OrderAt.f k t284 (wrap64 (t285 - 1))).bind fun bt299 => (laws_FnOrders.l0 k l1 t286 bt299.1 bt299.2 false (t286.length : Int) 0)) else (laws_FnOrders.j1 k l1)) else (some false))) else (some false)) else (some false)) = some r := by rw [if_pos rfl] at H; exact H
              clear H
              have H := H1
              clear H1
              by_cases c20 : t295 = t285
              · rw [if_pos c20] at H
                have c20b0 : (t295 == t285) = true := beq_iff_eq.mpr c20
                have c20b1 : (t295 != t285) = false := bne_eq_false_iff_eq.mpr c20
                clear c20
                (first | rw [c20b0] | (simp only [i64_w, i32_w]; rw [c20b0]) | skip)
                by_cases c21 : t298 = true
                · subst c21
                  have H1 : (if t285 ≥ t297 then (some false) else (if (t286.length : Int) = t284 then (if t285 > 0 then ((impl_OrderAt.f k t284 (wrap64 (t285 - 1))).bind fun bt299 => (laws_FnOrders.l0 k l1 t286 bt299.1 bt299.2 false (t286.length : Int) 0)) else (laws_FnOrders.j1 k l1)) else (some false))) = some r := by rw [if_pos rfl] at H; exact H
                  clear H
                  have H := H1
                  clear H1
                  by_cases c22 : t285 ≥ t297
                  · rw [if_pos c22] at H
                    have c22b0 : decide (t297 ≤ t285) = true := decide_eq_true c22
                    clear c22
                    obtain rfl := Option.some.inj H
                    exact absurd hr_.out (by simp)
                  · rw [if_neg c22] at H
                    have c22b0 : decide (t297 ≤ t285) = false := decide_eq_false c22
                    clear c22
                    by_cases c23 : (t286.length : Int) = t284
                    · rw [if_pos c23] at H
                      have c23b0 : ((t286.length : Int) == t284) = true := beq_iff_eq.mpr c23
                      have c23b1 : ((t286.length : Int) != t284) = false := bne_eq_false_iff_eq.mpr c23
                      clear c23
                      by_cases c24 : t285 > 0
                      · rw [if_pos c24] at H
                        have c24b0 : decide (0 < t285) = true := decide_eq_true c24
                        clear c24
                        replace H := Option.bind_eq_some_iff.mp H
                        obtain ⟨⟨t299, t300⟩, A250, H⟩ := H
                        replace H : (laws_FnOrders.l0 k l1 t286 t299 t300 false (t286.length : Int) 0) = some r := H
                        have A25 := Aside0.mk A250
                        clear A250
                        have H' := Aside0.mk H
                        clear H
                        go_wp2_with (first | (go_at_call 11; (with_reducible refine (impl_NumberOf.calls k _ _ t286 t295 true _ ?side1 ?side2 A17.out).mono ?_); (case side1 => repeat (first | exact (Kd.R_reads' HO289.out).2.2 | (with_reducible refine Kd.C_alloc ?_ _) | (with_reducible refine Kd.C_drewN ?_ _) | (with_reducible refine Kd.C_drew ?_))); (case side2 => exact (Kd.R_reads' HO289.out).2.1); rintro e w' ⟨rfl, ⟨nd, rfl⟩⟩; (try first | exact ⟨rfl, _, World.drewN_drewN _ _ _⟩ | exact ⟨rfl, _, Eq.trans (World.drewN_drewN _ _ _) (congrArg (World.drewN _) (Nat.add_assoc _ _ _))⟩)) | (go_at_call 12; (with_reducible refine (impl_OrdersOf.calls k t284 t297 true _ A18.out).mono ?_); rintro e w' ⟨rfl, ⟨nd, rfl⟩⟩; (try first | exact ⟨rfl, _, World.drewN_drewN _ _ _⟩ | exact ⟨rfl, _, Eq.trans (World.drewN_drewN _ _ _) (congrArg (World.drewN _) (Nat.add_assoc _ _ _))⟩)) | (go_at_call 8; (with_reducible refine (impl_OrderAt.calls k t284 (wrap64 (t285 - 1)) t299 t300 _ A25.out).mono ?_); rintro e w26 ⟨v301, rfl, ho0, hb⟩; have n0_ := Aside0.mk (Kd.R_elder' (by (with_reducible repeat (first | apply Kd.R_alloc | apply Kd.R_drewN | apply Kd.R_drew)); exact HO289.out) (Kd.R_base ho0) hb); have n1_ := Aside0.mk (Kd.R_elder' (by (with_reducible repeat (first | apply Kd.R_alloc | apply Kd.R_drewN | apply Kd.R_drew)); exact HO293.out) (Kd.R_base ho0) hb); have n2_ := Aside0.mk (Kd.R_lower (Kd.R_new' (Kd.R_new' ho0 (Kd.R_lt (by (with_reducible repeat (first | apply Kd.R_alloc | apply Kd.R_drewN | apply Kd.R_drew)); exact HO289.out))) (Kd.R_lt (by (with_reducible repeat (first | apply Kd.R_alloc | apply Kd.R_drewN | apply Kd.R_drew)); exact HO293.out))) (below_size (by repeat (first | (with_reducible first | exact HB.out | apply below_alloc | apply pw_below_drewN | apply below_drew1) | exact HB.out)))); have n3_ := Aside0.mk (below_step (by repeat (first | (with_reducible first | exact HB.out | apply below_alloc | apply pw_below_drewN | apply below_drew1) | exact HB.out)) hb); clear HO289; clear HO293; clear HB; have HO289 := n0_; have HO293 := n1_; have HO302 := n2_; have HB := n3_; clear n0_ n1_ n2_ n3_; (try clear hb); (try clear hb2); (try clear hk); (try clear hi); (try clear ho0)))
                        repeat (go_quiet (first | (go_at_call 11; (with_reducible refine (impl_NumberOf.calls k _ _ t286 t295 true _ ?side1 ?side2 A17.out).mono ?_); (case side1 => repeat (first | exact (Kd.R_reads' HO289.out).2.2 | (with_reducible refine Kd.C_alloc ?_ _) | (with_reducible refine Kd.C_drewN ?_ _) | (with_reducible refine Kd.C_drew ?_))); (case side2 => exact (Kd.R_reads' HO289.out).2.1); rintro e w' ⟨rfl, ⟨nd, rfl⟩⟩; (try first | exact ⟨rfl, _, World.drewN_drewN _ _ _⟩ | exact ⟨rfl, _, Eq.trans (World.drewN_drewN _ _ _) (congrArg (World.drewN _) (Nat.add_assoc _ _ _))⟩)) | (go_at_call 12; (with_reducible refine (impl_OrdersOf.calls k t284 t297 true _ A18.out).mono ?_); rintro e w' ⟨rfl, ⟨nd, rfl⟩⟩; (try first | exact ⟨rfl, _, World.drewN_drewN _ _ _⟩ | exact ⟨rfl, _, Eq.trans (World.drewN_drewN _ _ _) (congrArg (World.drewN _) (Nat.add_assoc _ _ _))⟩)) | (go_at_call 8; (with_reducible refine (impl_OrderAt.calls k t284 (wrap64 (t285 - 1)) t299 t300 _ A25.out).mono ?_); rintro e w26 ⟨v301, rfl, ho0, hb⟩; have n0_ := Aside0.mk (Kd.R_elder' (by (with_reducible repeat (first | apply Kd.R_alloc | apply Kd.R_drewN | apply Kd.R_drew)); exact HO289.out) (Kd.R_base ho0) hb); have n1_ := Aside0.mk (Kd.R_elder' (by (with_reducible repeat (first | apply Kd.R_alloc | apply Kd.R_drewN | apply Kd.R_drew)); exact HO293.out) (Kd.R_base ho0) hb); have n2_ := Aside0.mk (Kd.R_lower (Kd.R_new' (Kd.R_new' ho0 (Kd.R_lt (by (with_reducible repeat (first | apply Kd.R_alloc | apply Kd.R_drewN | apply Kd.R_drew)); exact HO289.out))) (Kd.R_lt (by (with_reducible repeat (first | apply Kd.R_alloc | apply Kd.R_drewN | apply Kd.R_drew)); exact HO293.out))) (below_size (by repeat (first | (with_reducible first | exact HB.out | apply below_alloc | apply pw_below_drewN | apply below_drew1) | exact HB.out)))); have n3_ := Aside0.mk (below_step (by repeat (first | (with_reducible first | exact HB.out | apply below_alloc | apply pw_below_drewN | apply below_drew1) | exact HB.out)) hb); clear HO289; clear HO293; clear HB; have HO289 := n0_; have HO293 := n1_; have HO302 := n2_; have HB := n3_; clear n0_ n1_ n2_ n3_; (try clear hb); (try clear hb2); (try clear hk); (try clear hi); (try clear ho0))); try go_wp2_with (first | (go_at_call 11; (with_reducible refine (impl_NumberOf.calls k _ _ t286 t295 true _ ?side1 ?side2 A17.out).mono ?_); (case side1 => repeat (first | exact (Kd.R_reads' HO289.out).2.2 | (with_reducible refine Kd.C_alloc ?_ _) | (with_reducible refine Kd.C_drewN ?_ _) | (with_reducible refine Kd.C_drew ?_))); (case side2 => exact (Kd.R_reads' HO289.out).2.1); rintro e w' ⟨rfl, ⟨nd, rfl⟩⟩; (try first | exact ⟨rfl, _, World.drewN_drewN _ _ _⟩ | exact ⟨rfl, _, Eq.trans (World.drewN_drewN _ _ _) (congrArg (World.drewN _) (Nat.add_assoc _ _ _))⟩)) | (go_at_call 12; (with_reducible refine (impl_OrdersOf.calls k t284 t297 true _ A18.out).mono ?_); rintro e w' ⟨rfl, ⟨nd, rfl⟩⟩; (try first | exact ⟨rfl, _, World.drewN_drewN _ _ _⟩ | exact ⟨rfl, _, Eq.trans (World.drewN_drewN _ _ _) (congrArg (World.drewN _) (Nat.add_assoc _ _ _))⟩)) | (go_at_call 8; (with_reducible refine (impl_OrderAt.calls k t284 (wrap64 (t285 - 1)) t299 t300 _ A25.out).mono ?_); rintro e w26 ⟨v301, rfl, ho0, hb⟩; have n0_ := Aside0.mk (Kd.R_elder' (by (with_reducible repeat (first | apply Kd.R_alloc | apply Kd.R_drewN | apply Kd.R_drew)); exact HO289.out) (Kd.R_base ho0) hb); have n1_ := Aside0.mk (Kd.R_elder' (by (with_reducible repeat (first | apply Kd.R_alloc | apply Kd.R_drewN | apply Kd.R_drew)); exact HO293.out) (Kd.R_base ho0) hb); have n2_ := Aside0.mk (Kd.R_lower (Kd.R_new' (Kd.R_new' ho0 (Kd.R_lt (by (with_reducible repeat (first | apply Kd.R_alloc | apply Kd.R_drewN | apply Kd.R_drew)); exact HO289.out))) (Kd.R_lt (by (with_reducible repeat (first | apply Kd.R_alloc | apply Kd.R_drewN | apply Kd.R_drew)); exact HO293.out))) (below_size (by repeat (first | (with_reducible first | exact HB.out | apply below_alloc | apply pw_below_drewN | apply below_drew1) | exact HB.out)))); have n3_ := Aside0.mk (below_step (by repeat (first | (with_reducible first | exact HB.out | apply below_alloc | apply pw_below_drewN | apply below_drew1) | exact HB.out)) hb); clear HO289; clear HO293; clear HB; have HO289 := n0_; have HO293 := n1_; have HO302 := n2_; have HB := n3_; clear n0_ n1_ n2_ n3_; (try clear hb); (try clear hb2); (try clear hk); (try clear hi); (try clear ho0))))
                        go_loopg [17, 118] k (fun kq v17 v118 w' => ∃ (x17_1 : Bool) (x118_1 : Int), v17 = .bool x17_1 ∧ v118 = .int .i64 x118_1 ∧ Aside0 (laws_FnOrders.l0 kq l1 t286 t299 t300 x17_1 (t286.length : Int) x118_1 = some r) ∧ Aside0 (kq ≤ k) ∧ Aside0 (Kd.R (Kd.int .i64) 3 w' w.heap.size (fun k_ => some k_ ≠ (v301 : Value).ownBlock) (.slice Ao14 t286.length co14) t286) ∧ Aside0 (Kd.R (Kd.int .i64) 3 w' w.heap.size (fun k_ => some k_ ≠ ((.slice Ao14 t286.length co14) : Value).ownBlock) v301 t299) ∧ Aside0 (Below w.heap.size w w'))
                        case atStart => exact ⟨(false), (0), (by first | rfl | (simp; done) | (simp [*]; done)), (by first | rfl | (simp; done) | (simp [*]; done)), H', ⟨Nat.le_refl _⟩, ⟨by (with_reducible repeat (first | apply Kd.R_alloc | apply Kd.R_drewN | apply Kd.R_drew)); exact Kd.R_mono HO289.out (fun _ hk => hk.2)⟩, ⟨by (with_reducible repeat (first | apply Kd.R_alloc | apply Kd.R_drewN | apply Kd.R_drew)); exact Kd.R_mono HO302.out (fun _ hk => hk.1.2)⟩, ⟨by repeat (first | (with_reducible first | exact HB.out | apply below_alloc | apply pw_below_drewN | apply below_drew1) | exact HB.out)⟩⟩
                        case round =>
                          clear H'
                          try clear c1
                          try clear c2
                          try clear p2
                          try clear c3
                          try clear c3b0
                          try clear p6
                          try clear c7
                          try clear c7b0
                          try clear c7b1
                          try clear c7b2
                          try clear c9
                          try clear c16
                          try clear c19
                          try clear c20
                          try clear c20b0
                          try clear c20b1
                          try clear c21
                          try clear c22
                          try clear c22b0
                          try clear c23
                          try clear c23b0
                          try clear c23b1
                          try clear c24
                          try clear c24b0
                          obtain ⟨x17_1, x118_1, rfl, rfl, HA, HK1, HO_7, HO_15, HB⟩ := hrel
                          cases gk with
                          | zero => exact absurd HA.out (by simp [laws_FnOrders.l0])
                          | succ k1 =>
                            have H := HA.out
                            clear HA
                            simp only [laws_FnOrders.l0] at H
                            by_cases c27 : x118_1 < (t286.length : Int)
                            · rw [if_pos c27] at H
                              have c27b0 : decide (x118_1 < (t286.length : Int)) = true := decide_eq_true c27
                              clear c27
                              by_cases c28 : 0 ≤ x118_1
                              · rw [if_pos c28] at H
                                have c28b0 : decide (0 ≤ x118_1) = true := decide_eq_true c28
                                clear c28
                                by_cases c29 : x118_1 < (t299.length : Int)
                                · rw [if_pos c29] at H
                                  have c29b0 : decide (x118_1 < (t299.length : Int)) = true := decide_eq_true c29
                                  clear c29
                                  by_cases c30 : x118_1 < (t286.length : Int)
                                  · rw [if_pos c30] at H
                                    have c30b0 : decide (x118_1 < (t286.length : Int)) = true := decide_eq_true c30
                                    clear c30
                                    by_cases c31 : (rd t299 x118_1) = (rd t286 x118_1)
                                    · rw [if_pos c31] at H
                                      have c31b0 : ((rd t299 x118_1) == (rd t286 x118_1)) = true := beq_iff_eq.mpr c31
                                      have c31b1 : ((rd t299 x118_1) != (rd t286 x118_1)) = false := bne_eq_false_iff_eq.mpr c31
                                      clear c31
                                      have H' := Aside0.mk H
                                      clear H
                                      obtain ⟨Ao32, co32, eo32⟩ := Kd.R_slice HO_15.out
                                      subst eo32
                                      have p303 : 0 ≤ (x118_1 : Int) := of_decide_eq_true (by first | (with_reducible assumption) | assumption)
                                      have q303 : x118_1 < (t299.length : Int) := of_decide_eq_true (by first | (with_reducible assumption) | assumption)
                                      obtain ⟨ad303, e303, hx303_0⟩ := Kd.at_int (Kd.R_reads' HO_15.out).2.2 x118_1 p303 q303
                                      cases e303
                                      replace p303 := eq_true p303
                                      replace q303 := eq_true q303
                                      have p304 : 0 ≤ (x118_1 : Int) := of_decide_eq_true (by first | (with_reducible assumption) | assumption)
                                      have q304 : x118_1 < (t286.length : Int) := of_decide_eq_true (by first | (with_reducible assumption) | assumption)
                                      obtain ⟨ad304, e304, hx304_0⟩ := Kd.at_int (Kd.R_reads' HO_7.out).2.2 x118_1 p304 q304
                                      cases e304
                                      replace p304 := eq_true p304
                                      replace q304 := eq_true q304
                                      go_wp2
                                      repeat (go_quiet (fail); try go_wp2)
                                      go_roundg k1
                                      case measure => have := HK1.out; omega
                                      case rel => exact ⟨(x17_1), (wrap64 (x118_1 + 1)), (by first | rfl | (simp; done) | (simp [*]; done)), (by first | rfl | (simp; done) | (simp [*]; done)), H', ⟨by have := HK1.out; omega⟩, ⟨by (with_reducible repeat (first | apply Kd.R_alloc | apply Kd.R_drewN | apply Kd.R_drew)); exact HO_7.out⟩, ⟨by (with_reducible repeat (first | apply Kd.R_alloc | apply Kd.R_drewN | apply Kd.R_drew)); exact HO_15.out⟩, ⟨by repeat (first | (with_reducible first | exact HB.out | apply below_alloc | apply pw_below_drewN | apply below_drew1) | exact HB.out)⟩⟩
                                    · rw [if_neg c31] at H
                                      have c31b0 : ((rd t299 x118_1) == (rd t286 x118_1)) = false := beq_eq_false_iff_ne.mpr c31
                                      have c31b1 : ((rd t299 x118_1) != (rd t286 x118_1)) = true := bne_iff_ne.mpr c31
                                      by_cases c33 : t300 = true
                                      · subst c33
                                        have H1 : (if ((rd t299 x118_1) < (rd t286 x118_1)) then (laws_FnOrders.j1 k1 l1) else (some false)) = some r := by rw [if_pos rfl] at H; exact H
                                        clear H
                                        have H := H1
                                        clear H1
                                        by_cases c34 : ((rd t299 x118_1) < (rd t286 x118_1))
                                        · rw [if_pos c34] at H
                                          have c34b0 : decide ((rd t299 x118_1) < (rd t286 x118_1)) = true := decide_eq_true c34
                                          clear c34
                                          have H' := Aside0.mk H
                                          clear H
                                          obtain ⟨Ao35, co35, eo35⟩ := Kd.R_slice HO_15.out
                                          subst eo35
                                          have p303 : 0 ≤ (x118_1 : Int) := of_decide_eq_true (by first | (with_reducible assumption) | assumption)
                                          have q303 : x118_1 < (t299.length : Int) := of_decide_eq_true (by first | (with_reducible assumption) | assumption)
                                          obtain ⟨ad303, e303, hx303_0⟩ := Kd.at_int (Kd.R_reads' HO_15.out).2.2 x118_1 p303 q303
                                          cases e303
                                          replace p303 := eq_true p303
                                          replace q303 := eq_true q303
                                          have p304 : 0 ≤ (x118_1 : Int) := of_decide_eq_true (by first | (with_reducible assumption) | assumption)
                                          have q304 : x118_1 < (t286.length : Int) := of_decide_eq_true (by first | (with_reducible assumption) | assumption)
                                          obtain ⟨ad304, e304, hx304_0⟩ := Kd.at_int (Kd.R_reads' HO_7.out).2.2 x118_1 p304 q304
                                          cases e304
                                          replace p304 := eq_true p304
                                          replace q304 := eq_true q304
                                          have p305 : 0 ≤ (x118_1 : Int) := of_decide_eq_true (by first | (with_reducible assumption) | assumption)
                                          have q305 : x118_1 < (t299.length : Int) := of_decide_eq_true (by first | (with_reducible assumption) | assumption)
                                          obtain ⟨ad305, e305, hx305_0⟩ := Kd.at_int (Kd.R_reads' HO_15.out).2.2 x118_1 p305 q305
                                          obtain rfl : ad303 = ad305 := (by injection e305)
                                          replace p305 := eq_true p305
                                          replace q305 := eq_true q305
                                          have p306 : 0 ≤ (x118_1 : Int) := of_decide_eq_true (by first | (with_reducible assumption) | assumption)
                                          have q306 : x118_1 < (t286.length : Int) := of_decide_eq_true (by first | (with_reducible assumption) | assumption)
                                          obtain ⟨ad306, e306, hx306_0⟩ := Kd.at_int (Kd.R_reads' HO_7.out).2.2 x118_1 p306 q306
                                          obtain rfl : ad304 = ad306 := (by injection e306)
                                          replace p306 := eq_true p306
                                          replace q306 := eq_true q306
                                          go_wp2
                                          repeat (go_quiet (fail); try go_wp2)
                                          go_meet
                                          case rel => exact ⟨_, H', ⟨by have := HK1.out; first | omega | exact Nat.le_refl _⟩, ⟨by repeat (first | (with_reducible first | exact HB.out | apply below_alloc | apply pw_below_drewN | apply below_drew1) | exact HB.out)⟩⟩
                                        · rw [if_neg c34] at H
                                          have c34b0 : decide ((rd t299 x118_1) < (rd t286 x118_1)) = false := decide_eq_false c34
                                          clear c34
                                          obtain rfl := Option.some.inj H
                                          exact absurd hr_.out (by simp)
                                      · replace c33 := Bool.eq_false_iff.mpr c33
                                        subst c33
                                        have H1 : (some false) = some r := by rw [if_neg (show ¬ (false = true) by decide)] at H; exact H
                                        clear H
                                        have H := H1
                                        clear H1
                                        obtain rfl := Option.some.inj H
                                        exact absurd hr_.out (by simp)
                                  · rw [if_neg c30] at H
                                    exact absurd H (by simp)
                                · rw [if_neg c29] at H
                                  exact absurd H (by simp)
                              · rw [if_neg c28] at H
                                exact absurd H (by simp)
                            · rw [if_neg c27] at H
                              have c27b0 : decide (x118_1 < (t286.length : Int)) = false := decide_eq_false c27
                              clear c27
                              by_cases c36 : t300 = true
                              · subst c36
                                have H1 : (if x17_1 = true then (laws_FnOrders.j1 k1 l1) else (some false)) = some r := by rw [if_pos rfl] at H; exact H
                                clear H
                                have H := H1
                                clear H1
                                by_cases c37 : x17_1 = true
                                · subst c37
                                  have H1 : (laws_FnOrders.j1 k1 l1) = some r := by rw [if_pos rfl] at H; exact H
                                  clear H
                                  have H := H1
                                  clear H1
                                  have H' := Aside0.mk H
                                  clear H
                                  go_wp2
                                  repeat (go_quiet (fail); try go_wp2)
                                  go_meet
                                  case rel => exact ⟨_, H', ⟨by have := HK1.out; first | omega | exact Nat.le_refl _⟩, ⟨by repeat (first | (with_reducible first | exact HB.out | apply below_alloc | apply pw_below_drewN | apply below_drew1) | exact HB.out)⟩⟩
                                · replace c37 := Bool.eq_false_iff.mpr c37
                                  subst c37
                                  have H1 : (some false) = some r := by rw [if_neg (show ¬ (false = true) by decide)] at H; exact H
                                  clear H
                                  have H := H1
                                  clear H1
                                  obtain rfl := Option.some.inj H
                                  exact absurd hr_.out (by simp)
                              · replace c36 := Bool.eq_false_iff.mpr c36
                                subst c36
                                have H1 : (some false) = some r := by rw [if_neg (show ¬ (false = true) by decide)] at H; exact H
                                clear H
                                have H := H1
                                clear H1
                                obtain rfl := Option.some.inj H
                                exact absurd hr_.out (by simp)
                      · rw [if_neg c24] at H
                        have c24b0 : decide (0 < t285) = false := decide_eq_false c24
                        clear c24
                        have H' := Aside0.mk H
                        clear H
                        go_wp2_with (first | (go_at_call 11; (with_reducible refine (impl_NumberOf.calls k _ _ t286 t295 true _ ?side1 ?side2 A17.out).mono ?_); (case side1 => repeat (first | exact (Kd.R_reads' HO289.out).2.2 | (with_reducible refine Kd.C_alloc ?_ _) | (with_reducible refine Kd.C_drewN ?_ _) | (with_reducible refine Kd.C_drew ?_))); (case side2 => exact (Kd.R_reads' HO289.out).2.1); rintro e w' ⟨rfl, ⟨nd, rfl⟩⟩; (try first | exact ⟨rfl, _, World.drewN_drewN _ _ _⟩ | exact ⟨rfl, _, Eq.trans (World.drewN_drewN _ _ _) (congrArg (World.drewN _) (Nat.add_assoc _ _ _))⟩)) | (go_at_call 12; (with_reducible refine (impl_OrdersOf.calls k t284 t297 true _ A18.out).mono ?_); rintro e w' ⟨rfl, ⟨nd, rfl⟩⟩; (try first | exact ⟨rfl, _, World.drewN_drewN _ _ _⟩ | exact ⟨rfl, _, Eq.trans (World.drewN_drewN _ _ _) (congrArg (World.drewN _) (Nat.add_assoc _ _ _))⟩)))
                        repeat (go_quiet (first | (go_at_call 11; (with_reducible refine (impl_NumberOf.calls k _ _ t286 t295 true _ ?side1 ?side2 A17.out).mono ?_); (case side1 => repeat (first | exact (Kd.R_reads' HO289.out).2.2 | (with_reducible refine Kd.C_alloc ?_ _) | (with_reducible refine Kd.C_drewN ?_ _) | (with_reducible refine Kd.C_drew ?_))); (case side2 => exact (Kd.R_reads' HO289.out).2.1); rintro e w' ⟨rfl, ⟨nd, rfl⟩⟩; (try first | exact ⟨rfl, _, World.drewN_drewN _ _ _⟩ | exact ⟨rfl, _, Eq.trans (World.drewN_drewN _ _ _) (congrArg (World.drewN _) (Nat.add_assoc _ _ _))⟩)) | (go_at_call 12; (with_reducible refine (impl_OrdersOf.calls k t284 t297 true _ A18.out).mono ?_); rintro e w' ⟨rfl, ⟨nd, rfl⟩⟩; (try first | exact ⟨rfl, _, World.drewN_drewN _ _ _⟩ | exact ⟨rfl, _, Eq.trans (World.drewN_drewN _ _ _) (congrArg (World.drewN _) (Nat.add_assoc _ _ _))⟩))); try go_wp2_with (first | (go_at_call 11; (with_reducible refine (impl_NumberOf.calls k _ _ t286 t295 true _ ?side1 ?side2 A17.out).mono ?_); (case side1 => repeat (first | exact (Kd.R_reads' HO289.out).2.2 | (with_reducible refine Kd.C_alloc ?_ _) | (with_reducible refine Kd.C_drewN ?_ _) | (with_reducible refine Kd.C_drew ?_))); (case side2 => exact (Kd.R_reads' HO289.out).2.1); rintro e w' ⟨rfl, ⟨nd, rfl⟩⟩; (try first | exact ⟨rfl, _, World.drewN_drewN _ _ _⟩ | exact ⟨rfl, _, Eq.trans (World.drewN_drewN _ _ _) (congrArg (World.drewN _) (Nat.add_assoc _ _ _))⟩)) | (go_at_call 12; (with_reducible refine (impl_OrdersOf.calls k t284 t297 true _ A18.out).mono ?_); rintro e w' ⟨rfl, ⟨nd, rfl⟩⟩; (try first | exact ⟨rfl, _, World.drewN_drewN _ _ _⟩ | exact ⟨rfl, _, Eq.trans (World.drewN_drewN _ _ _) (congrArg (World.drewN _) (Nat.add_assoc _ _ _))⟩))))
                        go_meet
                        case rel => exact ⟨_, H', ⟨by first | omega | exact Nat.le_refl _⟩, ⟨by repeat (first | (with_reducible first | exact HB.out | apply below_alloc | apply pw_below_drewN | apply below_drew1) | exact HB.out)⟩⟩
                    · rw [if_neg c23] at H
                      have c23b0 : ((t286.length : Int) == t284) = false := beq_eq_false_iff_ne.mpr c23
                      have c23b1 : ((t286.length : Int) != t284) = true := bne_iff_ne.mpr c23
                      obtain rfl := Option.some.inj H
                      exact absurd hr_.out (by simp)
                · replace c21 := Bool.eq_false_iff.mpr c21
                  subst c21
                  have H1 : (some false) = some r := by rw [if_neg (show ¬ (false = true) by decide)] at H; exact H
                  clear H
                  have H := H1
                  clear H1
                  obtain rfl := Option.some.inj H
                  exact absurd hr_.out (by simp)
              · rw [if_neg c20] at H
                have c20b0 : (t295 == t285) = false := beq_eq_false_iff_ne.mpr c20
                have c20b1 : (t295 != t285) = true := bne_iff_ne.mpr c20
                (first | rw [c20b0] | (simp only [i64_w, i32_w]; rw [c20b0]) | skip)
                obtain rfl := Option.some.inj H
                exact absurd hr_.out (by simp)
            · replace c19 := Bool.eq_false_iff.mpr c19
              subst c19
              have H1 : (some false) = some r := by rw [if_neg (show ¬ (false = true) by decide)] at H; exact H
              clear H
              have H := H1
              clear H1
              obtain rfl := Option.some.inj H
              exact absurd hr_.out (by simp)
          · replace c16 := Bool.eq_false_iff.mpr c16
            subst c16
            have H1 : (laws_FnOrders.j1 k l1) = some r := by rw [if_neg (show ¬ (false = true) by decide)] at H; exact H
            clear H
            have H := H1
            clear H1
            have H' := Aside0.mk H
            clear H
            go_wp2
            repeat (go_quiet (fail); try go_wp2)
            go_meet
            case rel => exact ⟨_, H', ⟨by first | omega | exact Nat.le_refl _⟩, ⟨by repeat (first | (with_reducible first | exact HB.out | apply below_alloc | apply pw_below_drewN | apply below_drew1) | exact HB.out)⟩⟩
        case rest =>
          clear HC10
          try clear c1
          try clear c2
          try clear p2
          try clear c3
          try clear c3b0
          try clear p3
          try clear q3
          try clear hx3
          try clear p6
          try clear c7
          try clear c7b0
          try clear c7b1
          try clear c7b2
          try clear c9
          try clear c16
          try clear c19
          try clear c20
          try clear c20b0
          try clear c20b1
          try clear c21
          try clear c22
          try clear c22b0
          try clear c23
          try clear c23b0
          try clear c23b1
          try clear c24
          try clear c24b0
          try clear c27
          try clear c27b0
          try clear c28
          try clear c28b0
          try clear c29
          try clear c29b0
          try clear c30
          try clear c30b0
          try clear p30
          try clear q30
          try clear hx30
          try clear c31
          try clear c31b0
          try clear c31b1
          try clear c33
          try clear c34
          try clear c34b0
          try clear c36
          try clear c37
          try clear hx303_0
          try clear hx304_0
          try clear hx305_0
          try clear hx306_0
          try clear p2
          try clear p303
          try clear p304
          try clear p305
          try clear p306
          try clear p6
          try clear q303
          try clear q304
          try clear q305
          try clear q306
          obtain ⟨kq, HA, HJ9, HB⟩ := hcut
          cases kq with
          | zero => exact absurd HA.out (by simp [laws_FnOrders.j1])
          | succ kj9 =>
            have H := HA.out
            clear HA
            simp only [laws_FnOrders.j1] at H
            replace H := Option.bind_eq_some_iff.mp H
            obtain ⟨t307, A380, H⟩ := H
            replace H : ((impl_NumberOf.f kj9 t307).bind fun bt310 => ((spec_NumberOf.f kj9 t307).bind fun bt312 => ((spec_DrawShuffleBy.f kj9 l1).bind fun bt314 => ((impl_ShuffleBy.f kj9 bt314.1 bt314.2).bind fun bt320 => ((spec_ShuffleBy.f kj9 bt314.1 bt314.2).bind fun bt324 => ((spec_DrawOrdersOf.f l1).bind fun t328 => ((impl_OrdersOf.f kj9 t328).bind fun bt329 => ((spec_OrdersOf.f kj9 t328).bind fun bt331 => (if (bt310.2 != bt312.2) = true then (some false) else (if bt310.1 = bt312.1 then (if (bt320.2 != bt324.2) = true then (some false) else ((laws_sameTexts.f kj9 bt320.1 bt324.1).bind fun t333 => (if t333 = true then (if (bt329.2 != bt331.2) = true then (some false) else (if bt329.1 = bt331.1 then (if bt320.2 = true then (laws_FnOrders.l1 kj9 bt314.2 bt320.1 bt314.2 (bt314.2.length : Int) 0) else (some true)) else (some false))) else (some false)))) else (some false))))))))))) = some r := H
            have A38 := Aside0.mk A380
            clear A380
            replace H := Option.bind_eq_some_iff.mp H
            obtain ⟨⟨t310, t311⟩, A390, H⟩ := H
            replace H : ((spec_NumberOf.f kj9 t307).bind fun bt312 => ((spec_DrawShuffleBy.f kj9 l1).bind fun bt314 => ((impl_ShuffleBy.f kj9 bt314.1 bt314.2).bind fun bt320 => ((spec_ShuffleBy.f kj9 bt314.1 bt314.2).bind fun bt324 => ((spec_DrawOrdersOf.f l1).bind fun t328 => ((impl_OrdersOf.f kj9 t328).bind fun bt329 => ((spec_OrdersOf.f kj9 t328).bind fun bt331 => (if (t311 != bt312.2) = true then (some false) else (if t310 = bt312.1 then (if (bt320.2 != bt324.2) = true then (some false) else ((laws_sameTexts.f kj9 bt320.1 bt324.1).bind fun t333 => (if t333 = true then (if (bt329.2 != bt331.2) = true then (some false) else (if bt329.1 = bt331.1 then (if bt320.2 = true then (laws_FnOrders.l1 kj9 bt314.2 bt320.1 bt314.2 (bt314.2.length : Int) 0) else (some true)) else (some false))) else (some false)))) else (some false)))))))))) = some r := H
            have A39 := Aside0.mk A390
            clear A390
            replace H := Option.bind_eq_some_iff.mp H
            obtain ⟨⟨t312, t313⟩, A400, H⟩ := H
            replace H : ((spec_DrawShuffleBy.f kj9 l1).bind fun bt314 => ((impl_ShuffleBy.f kj9 bt314.1 bt314.2).bind fun bt320 => ((spec_ShuffleBy.f kj9 bt314.1 bt314.2).bind fun bt324 => ((spec_DrawOrdersOf.f l1).bind fun t328 => ((impl_OrdersOf.f kj9 t328).bind fun bt329 => ((spec_OrdersOf.f kj9 t328).bind fun bt331 => (if (t311 != t313) = true then (some false) else (if t310 = t312 then (if (bt320.2 != bt324.2) = true then (some false) else ((laws_sameTexts.f kj9 bt320.1 bt324.1).bind fun t333 => (if t333 = true then (if (bt329.2 != bt331.2) = true then (some false) else (if bt329.1 = bt331.1 then (if bt320.2 = true then (laws_FnOrders.l1 kj9 bt314.2 bt320.1 bt314.2 (bt314.2.length : Int) 0) else (some true)) else (some false))) else (some false)))) else (some false))))))))) = some r := H
            have A40 := Aside0.mk A400
            clear A400
            replace H := Option.bind_eq_some_iff.mp H
            obtain ⟨⟨t314, t315⟩, A410, H⟩ := H
            replace H : ((impl_ShuffleBy.f kj9 t314 t315).bind fun bt320 => ((spec_ShuffleBy.f kj9 t314 t315).bind fun bt324 => ((spec_DrawOrdersOf.f l1).bind fun t328 => ((impl_OrdersOf.f kj9 t328).bind fun bt329 => ((spec_OrdersOf.f kj9 t328).bind fun bt331 => (if (t311 != t313) = true then (some false) else (if t310 = t312 then (if (bt320.2 != bt324.2) = true then (some false) else ((laws_sameTexts.f kj9 bt320.1 bt324.1).bind fun t333 => (if t333 = true then (if (bt329.2 != bt331.2) = true then (some false) else (if bt329.1 = bt331.1 then (if bt320.2 = true then (laws_FnOrders.l1 kj9 t315 bt320.1 t315 (t315.length : Int) 0) else (some true)) else (some false))) else (some false)))) else (some false)))))))) = some r := H
            have A41 := Aside0.mk A410
            clear A410
            replace H := Option.bind_eq_some_iff.mp H
            obtain ⟨⟨t320, t321⟩, A420, H⟩ := H
            replace H : ((spec_ShuffleBy.f kj9 t314 t315).bind fun bt324 => ((spec_DrawOrdersOf.f l1).bind fun t328 => ((impl_OrdersOf.f kj9 t328).bind fun bt329 => ((spec_OrdersOf.f kj9 t328).bind fun bt331 => (if (t311 != t313) = true then (some false) else (if t310 = t312 then (if (t321 != bt324.2) = true then (some false) else ((laws_sameTexts.f kj9 t320 bt324.1).bind fun t333 => (if t333 = true then (if (bt329.2 != bt331.2) = true then (some false) else (if bt329.1 = bt331.1 then (if t321 = true then (laws_FnOrders.l1 kj9 t315 t320 t315 (t315.length : Int) 0) else (some true)) else (some false))) else (some false)))) else (some false))))))) = some r := H
            have A42 := Aside0.mk A420
            clear A420
            replace H := Option.bind_eq_some_iff.mp H
            obtain ⟨⟨t324, t325⟩, A430, H⟩ := H
            replace H : ((spec_DrawOrdersOf.f l1).bind fun t328 => ((impl_OrdersOf.f kj9 t328).bind fun bt329 => ((spec_OrdersOf.f kj9 t328).bind fun bt331 => (if (t311 != t313) = true then (some false) else (if t310 = t312 then (if (t321 != t325) = true then (some false) else ((laws_sameTexts.f kj9 t320 t324).bind fun t333 => (if t333 = true then (if (bt329.2 != bt331.2) = true then (some false) else (if bt329.1 = bt331.1 then (if t321 = true then (laws_FnOrders.l1 kj9 t315 t320 t315 (t315.length : Int) 0) else (some true)) else (some false))) else (some false)))) else (some false)))))) = some r := H
            have A43 := Aside0.mk A430
            clear A430
            replace H := Option.bind_eq_some_iff.mp H
            obtain ⟨t328, A440, H⟩ := H
            replace H : ((impl_OrdersOf.f kj9 t328).bind fun bt329 => ((spec_OrdersOf.f kj9 t328).bind fun bt331 => (if (t311 != t313) = true then (some false) else (if t310 = t312 then (if (t321 != t325) = true then (some false) else ((laws_sameTexts.f kj9 t320 t324).bind fun t333 => (if t333 = true then (if (bt329.2 != bt331.2) = true then (some false) else (if bt329.1 = bt331.1 then (if t321 = true then (laws_FnOrders.l1 kj9 t315 t320 t315 (t315.length : Int) 0) else (some true)) else (some false))) else (some false)))) else (some false))))) = some r := H
            have A44 := Aside0.mk A440
            clear A440
            replace H := Option.bind_eq_some_iff.mp H
            obtain ⟨⟨t329, t330⟩, A450, H⟩ := H
            replace H : ((spec_OrdersOf.f kj9 t328).bind fun bt331 => (if (t311 != t313) = true then (some false) else (if t310 = t312 then (if (t321 != t325) = true then (some false) else ((laws_sameTexts.f kj9 t320 t324).bind fun t333 => (if t333 = true then (if (t330 != bt331.2) = true then (some false) else (if t329 = bt331.1 then (if t321 = true then (laws_FnOrders.l1 kj9 t315 t320 t315 (t315.length : Int) 0) else (some true)) else (some false))) else (some false)))) else (some false)))) = some r := H
            have A45 := Aside0.mk A450
            clear A450
            replace H := Option.bind_eq_some_iff.mp H
            obtain ⟨⟨t331, t332⟩, A460, H⟩ := H
            replace H : (if (t311 != t313) = true then (some false) else (if t310 = t312 then (if (t321 != t325) = true then (some false) else ((laws_sameTexts.f kj9 t320 t324).bind fun t333 => (if t333 = true then (if (t330 != t332) = true then (some false) else (if t329 = t331 then (if t321 = true then (laws_FnOrders.l1 kj9 t315 t320 t315 (t315.length : Int) 0) else (some true)) else (some false))) else (some false)))) else (some false))) = some r := H
            have A46 := Aside0.mk A460
            clear A460
            by_cases c47 : (t311 != t313) = true
            · rw [if_pos c47] at H
              have c47b0 : (t311 != t313) = true := c47
              (try (have c47b1 : decide (t311 = t313) = false := by simpa using c47))
              (try (have c47b2 : (t311 == t313) = false := by simpa using c47))
              (try (have c47b3 : ¬ (t311 = t313) := by simpa using c47))
              clear c47
              obtain rfl := Option.some.inj H
              exact absurd hr_.out (by simp)
            · rw [if_neg c47] at H
              have c47b0 : (t311 != t313) = false := by simpa using c47
              (try (have c47b1 : decide (t311 = t313) = true := by simpa using c47))
              (try (have c47b2 : (t311 == t313) = true := by simpa using c47))
              clear c47
              by_cases c48 : t310 = t312
              · rw [if_pos c48] at H
                have c48b0 : (t310 == t312) = true := beq_iff_eq.mpr c48
                have c48b1 : (t310 != t312) = false := bne_eq_false_iff_eq.mpr c48
                clear c48
                by_cases c49 : (t321 != t325) = true
                · rw [if_pos c49] at H
                  have c49b0 : (t321 != t325) = true := c49
                  (try (have c49b1 : decide (t321 = t325) = false := by simpa using c49))
                  (try (have c49b2 : (t321 == t325) = false := by simpa using c49))
                  (try (have c49b3 : ¬ (t321 = t325) := by simpa using c49))
                  clear c49
                  obtain rfl := Option.some.inj H
                  exact absurd hr_.out (by simp)
                · rw [if_neg c49] at H
                  have c49b0 : (t321 != t325) = false := by simpa using c49
                  (try (have c49b1 : decide (t321 = t325) = true := by simpa using c49))
                  (try (have c49b2 : (t321 == t325) = true := by simpa using c49))
                  clear c49
                  replace H := Option.bind_eq_some_iff.mp H
                  obtain ⟨t333, A500, H⟩ := H
                  replace H : (if t333 = true then (if (t330 != t332) = true then (some false) else (if t329 = t331 then (if t321 = true then (laws_FnOrders.l1 kj9 t315 t320 t315 (t315.length : Int) 0) else (some true)) else (some false))) else (some false)) = some r := H
                  have A50 := Aside0.mk A500
                  clear A500
                  by_cases c51 : t333 = true
                  · subst c51
                    have H1 : (if (t330 != t332) = true then (some false) else (if t329 = t331 then (if t321 = true then (laws_FnOrders.l1 kj9 t315 t320 t315 (t315.length : Int) 0) else (some true)) else (some false))) = some r := by rw [if_pos rfl] at H; exact H
                    clear H
                    have H := H1
                    clear H1
                    by_cases c52 : (t330 != t332) = true
                    · rw [if_pos c52] at H
                      have c52b0 : (t330 != t332) = true := c52
                      (try (have c52b1 : decide (t330 = t332) = false := by simpa using c52))
                      (try (have c52b2 : (t330 == t332) = false := by simpa using c52))
                      (try (have c52b3 : ¬ (t330 = t332) := by simpa using c52))
                      clear c52
                      obtain rfl := Option.some.inj H
                      exact absurd hr_.out (by simp)
                    · rw [if_neg c52] at H
                      have c52b0 : (t330 != t332) = false := by simpa using c52
                      (try (have c52b1 : decide (t330 = t332) = true := by simpa using c52))
                      (try (have c52b2 : (t330 == t332) = true := by simpa using c52))
                      clear c52
                      by_cases c53 : t329 = t331
                      · rw [if_pos c53] at H
                        have c53b0 : (t329 == t331) = true := beq_iff_eq.mpr c53
                        have c53b1 : (t329 != t331) = false := bne_eq_false_iff_eq.mpr c53
                        clear c53
                        by_cases c54 : t321 = true
                        · subst c54
                          have H1 : (laws_FnOrders.l1 kj9 t315 t320 t315 (t315.length : Int) 0) = some r := by rw [if_pos rfl] at H; exact H
                          clear H
                          have H := H1
                          clear H1
                          have H' := Aside0.mk H
                          clear H
                          go_wp2_with (first | (go_at_call 13; (with_reducible refine (spec_DrawNumberOf.calls kj9 _ _ l1 t307 _ ?side1 ?side2 A38.out).mono ?_); (case side1 => repeat (first | exact (Kd.C_below HR1.out HB.out) | (with_reducible refine Kd.C_alloc ?_ _) | (with_reducible refine Kd.C_drewN ?_ _) | (with_reducible refine Kd.C_drew ?_))); (case side2 => exact HC1.out); rintro e w55 ⟨v308, rfl, ho0, hb⟩; have n0_ := Aside0.mk (Kd.R_lower ho0 (below_size (by repeat (first | (with_reducible first | exact HB.out | apply below_alloc | apply pw_below_drewN | apply below_drew1) | exact HB.out)))); have n1_ := Aside0.mk (below_step (by repeat (first | (with_reducible first | exact HB.out | apply below_alloc | apply pw_below_drewN | apply below_drew1) | exact HB.out)) hb); clear HB; have HO309 := n0_; have HB := n1_; clear n0_ n1_; (try clear hb); (try clear hb2); (try clear hk); (try clear hi); (try clear ho0); obtain ⟨Ao56, co56, eo56⟩ := Kd.R_slice HO309.out; subst eo56) | (go_at_call 11; (with_reducible refine (impl_NumberOf.calls kj9 _ _ t307 t310 t311 _ ?side1 ?side2 A39.out).mono ?_); (case side1 => repeat (first | exact (Kd.R_reads' HO309.out).2.2 | (with_reducible refine Kd.C_alloc ?_ _) | (with_reducible refine Kd.C_drewN ?_ _) | (with_reducible refine Kd.C_drew ?_))); (case side2 => exact (Kd.R_reads' HO309.out).2.1); rintro e w' ⟨rfl, ⟨nd, rfl⟩⟩; (try first | exact ⟨rfl, _, World.drewN_drewN _ _ _⟩ | exact ⟨rfl, _, Eq.trans (World.drewN_drewN _ _ _) (congrArg (World.drewN _) (Nat.add_assoc _ _ _))⟩)) | (go_at_call 14; (with_reducible refine (spec_NumberOf.calls kj9 _ _ t307 t312 t313 _ ?side1 ?side2 A40.out).mono ?_); (case side1 => repeat (first | exact (Kd.R_reads' HO309.out).2.2 | (with_reducible refine Kd.C_alloc ?_ _) | (with_reducible refine Kd.C_drewN ?_ _) | (with_reducible refine Kd.C_drew ?_))); (case side2 => exact (Kd.R_reads' HO309.out).2.1); rintro e w' ⟨rfl, ⟨nd, rfl⟩⟩; (try first | exact ⟨rfl, _, World.drewN_drewN _ _ _⟩ | exact ⟨rfl, _, Eq.trans (World.drewN_drewN _ _ _) (congrArg (World.drewN _) (Nat.add_assoc _ _ _))⟩)) | (go_at_call 15; (with_reducible refine (spec_DrawShuffleBy.calls kj9 _ _ l1 t314 t315 _ ?side1 ?side2 A41.out).mono ?_); (case side1 => repeat (first | exact (Kd.C_below HR1.out (by repeat (first | (with_reducible first | exact HB.out | apply below_alloc | apply pw_below_drewN | apply below_drew1) | exact HB.out))) | (with_reducible refine Kd.C_alloc ?_ _) | (with_reducible refine Kd.C_drewN ?_ _) | (with_reducible refine Kd.C_drew ?_))); (case side2 => exact HC1.out); rintro e w57 ⟨v316, v318, rfl, ho0, ho1, hb⟩; have n0_ := Aside0.mk (Kd.R_elder' (by (with_reducible repeat (first | apply Kd.R_alloc | apply Kd.R_drewN | apply Kd.R_drew)); exact HO309.out) (Kd.R_base ho0) hb); have n1_ := Aside0.mk (Kd.R_lower (Kd.R_new' ho0 (Kd.R_lt (by (with_reducible repeat (first | apply Kd.R_alloc | apply Kd.R_drewN | apply Kd.R_drew)); exact HO309.out))) (below_size (by repeat (first | (with_reducible first | exact HB.out | apply below_alloc | apply pw_below_drewN | apply below_drew1) | exact HB.out)))); have n2_ := Aside0.mk (Kd.R_lower ho1 (below_size (by repeat (first | (with_reducible first | exact HB.out | apply below_alloc | apply pw_below_drewN | apply below_drew1) | exact HB.out)))); have n3_ := Aside0.mk (below_step (by repeat (first | (with_reducible first | exact HB.out | apply below_alloc | apply pw_below_drewN | apply below_drew1) | exact HB.out)) hb); clear HO309; clear HB; have HO309 := n0_; have HO317 := n1_; have HO319 := n2_; have HB := n3_; clear n0_ n1_ n2_ n3_; (try clear hb); (try clear hb2); (try clear hk); (try clear hi); (try clear ho0); (try clear ho1); obtain ⟨Ao58, co58, eo58⟩ := Kd.R_slice HO317.out; subst eo58; obtain ⟨Ao59, co59, eo59⟩ := Kd.R_slice HO319.out; subst eo59) | (go_at_call 16; (with_reducible refine (impl_ShuffleBy.calls kj9 _ _ t314 _ _ t315 t320 true _ ?side1 ?side2 ?side3 ?side4 A42.out).mono ?_); (case side1 => repeat (first | exact (Kd.R_reads' HO317.out).2.2 | (with_reducible refine Kd.C_alloc ?_ _) | (with_reducible refine Kd.C_drewN ?_ _) | (with_reducible refine Kd.C_drew ?_))); (case side2 => exact (Kd.R_reads' HO317.out).2.1); (case side3 => repeat (first | exact (Kd.R_reads' HO319.out).2.2 | (with_reducible refine Kd.C_alloc ?_ _) | (with_reducible refine Kd.C_drewN ?_ _) | (with_reducible refine Kd.C_drew ?_))); (case side4 => exact (Kd.R_reads' HO319.out).2.1); rintro e w60 ⟨v322, rfl, ho0, hb⟩; have n0_ := Aside0.mk (Kd.R_below (by (with_reducible repeat (first | apply Kd.R_alloc | apply Kd.R_drewN | apply Kd.R_drew)); exact HO309.out) hb); have n1_ := Aside0.mk (Kd.R_below (by (with_reducible repeat (first | apply Kd.R_alloc | apply Kd.R_drewN | apply Kd.R_drew)); exact HO317.out) hb); have n2_ := Aside0.mk (Kd.R_elder' (by (with_reducible repeat (first | apply Kd.R_alloc | apply Kd.R_drewN | apply Kd.R_drew)); exact HO319.out) (Kd.R_base ho0) hb); have n3_ := Aside0.mk (Kd.R_lower (Kd.R_new' ho0 (Kd.R_lt (by (with_reducible repeat (first | apply Kd.R_alloc | apply Kd.R_drewN | apply Kd.R_drew)); exact HO319.out))) (below_size (by repeat (first | (with_reducible first | exact HB.out | apply below_alloc | apply pw_below_drewN | apply below_drew1) | exact HB.out)))); have n4_ := Aside0.mk (below_step (by repeat (first | (with_reducible first | exact HB.out | apply below_alloc | apply pw_below_drewN | apply below_drew1) | exact HB.out)) hb); clear HO309; clear HO317; clear HO319; clear HB; have HO309 := n0_; have HO317 := n1_; have HO319 := n2_; have HO323 := n3_; have HB := n4_; clear n0_ n1_ n2_ n3_ n4_; (try clear hb); (try clear hb2); (try clear hk); (try clear hi); (try clear ho0)) | (go_at_call 17; (with_reducible refine (spec_ShuffleBy.calls kj9 _ _ t314 _ _ t315 t324 t325 _ ?side1 ?side2 ?side3 ?side4 A43.out).mono ?_); (case side1 => repeat (first | exact (Kd.R_reads' HO317.out).2.2 | (with_reducible refine Kd.C_alloc ?_ _) | (with_reducible refine Kd.C_drewN ?_ _) | (with_reducible refine Kd.C_drew ?_))); (case side2 => exact (Kd.R_reads' HO317.out).2.1); (case side3 => repeat (first | exact (Kd.R_reads' HO319.out).2.2 | (with_reducible refine Kd.C_alloc ?_ _) | (with_reducible refine Kd.C_drewN ?_ _) | (with_reducible refine Kd.C_drew ?_))); (case side4 => exact (Kd.R_reads' HO319.out).2.1); rintro e w61 ⟨v326, rfl, ho0, hb⟩; have n0_ := Aside0.mk (Kd.R_below (by (with_reducible repeat (first | apply Kd.R_alloc | apply Kd.R_drewN | apply Kd.R_drew)); exact HO309.out) hb); have n1_ := Aside0.mk (Kd.R_below (by (with_reducible repeat (first | apply Kd.R_alloc | apply Kd.R_drewN | apply Kd.R_drew)); exact HO317.out) hb); have n2_ := Aside0.mk (Kd.R_elder' (by (with_reducible repeat (first | apply Kd.R_alloc | apply Kd.R_drewN | apply Kd.R_drew)); exact HO319.out) (Kd.R_base ho0) hb); have n3_ := Aside0.mk (Kd.R_elder' (by (with_reducible repeat (first | apply Kd.R_alloc | apply Kd.R_drewN | apply Kd.R_drew)); exact HO323.out) (Kd.R_base ho0) hb); have n4_ := Aside0.mk (Kd.R_lower (Kd.R_new' (Kd.R_new' ho0 (Kd.R_lt (by (with_reducible repeat (first | apply Kd.R_alloc | apply Kd.R_drewN | apply Kd.R_drew)); exact HO319.out))) (Kd.R_lt (by (with_reducible repeat (first | apply Kd.R_alloc | apply Kd.R_drewN | apply Kd.R_drew)); exact HO323.out))) (below_size (by repeat (first | (with_reducible first | exact HB.out | apply below_alloc | apply pw_below_drewN | apply below_drew1) | exact HB.out)))); have n5_ := Aside0.mk (below_step (by repeat (first | (with_reducible first | exact HB.out | apply below_alloc | apply pw_below_drewN | apply below_drew1) | exact HB.out)) hb); clear HO309; clear HO317; clear HO319; clear HO323; clear HB; have HO309 := n0_; have HO317 := n1_; have HO319 := n2_; have HO323 := n3_; have HO327 := n4_; have HB := n5_; clear n0_ n1_ n2_ n3_ n4_ n5_; (try clear hb); (try clear hb2); (try clear hk); (try clear hi); (try clear ho0)) | (go_at_call 18; (with_reducible refine (spec_DrawOrdersOf.calls _ _ l1 t328 _ ?side1 ?side2 A44.out).mono ?_); (case side1 => repeat (first | exact (Kd.C_below HR1.out HB.out) | (with_reducible refine Kd.C_alloc ?_ _) | (with_reducible refine Kd.C_drewN ?_ _) | (with_reducible refine Kd.C_drew ?_))); (case side2 => exact HC1.out); rintro e w62 ⟨rfl, hb⟩; have n0_ := Aside0.mk (Kd.R_below (by (with_reducible repeat (first | apply Kd.R_alloc | apply Kd.R_drewN | apply Kd.R_drew)); exact HO309.out) hb); have n1_ := Aside0.mk (Kd.R_below (by (with_reducible repeat (first | apply Kd.R_alloc | apply Kd.R_drewN | apply Kd.R_drew)); exact HO317.out) hb); have n2_ := Aside0.mk (Kd.R_below (by (with_reducible repeat (first | apply Kd.R_alloc | apply Kd.R_drewN | apply Kd.R_drew)); exact HO319.out) hb); have n3_ := Aside0.mk (Kd.R_below (by (with_reducible repeat (first | apply Kd.R_alloc | apply Kd.R_drewN | apply Kd.R_drew)); exact HO323.out) hb); have n4_ := Aside0.mk (Kd.R_below (by (with_reducible repeat (first | apply Kd.R_alloc | apply Kd.R_drewN | apply Kd.R_drew)); exact HO327.out) hb); have n5_ := Aside0.mk (below_step (by repeat (first | (with_reducible first | exact HB.out | apply below_alloc | apply pw_below_drewN | apply below_drew1) | exact HB.out)) hb); clear HO309; clear HO317; clear HO319; clear HO323; clear HO327; clear HB; have HO309 := n0_; have HO317 := n1_; have HO319 := n2_; have HO323 := n3_; have HO327 := n4_; have HB := n5_; clear n0_ n1_ n2_ n3_ n4_ n5_; (try clear hb); (try clear hb2); (try clear hk); (try clear hi)) | (go_at_call 12; (with_reducible refine (impl_OrdersOf.calls kj9 t328 t329 t330 _ A45.out).mono ?_); rintro e w' ⟨rfl, ⟨nd, rfl⟩⟩; (try first | exact ⟨rfl, _, World.drewN_drewN _ _ _⟩ | exact ⟨rfl, _, Eq.trans (World.drewN_drewN _ _ _) (congrArg (World.drewN _) (Nat.add_assoc _ _ _))⟩)) | (go_at_call 19; (with_reducible refine (spec_OrdersOf.calls kj9 t328 t331 t332 _ A46.out).mono ?_); rintro e w' ⟨rfl, ⟨nd, rfl⟩⟩; (try first | exact ⟨rfl, _, World.drewN_drewN _ _ _⟩ | exact ⟨rfl, _, Eq.trans (World.drewN_drewN _ _ _) (congrArg (World.drewN _) (Nat.add_assoc _ _ _))⟩); obtain ⟨Ao63, co63, eo63⟩ := Kd.R_slice HO323.out; subst eo63; obtain ⟨Ao64, co64, eo64⟩ := Kd.R_slice HO327.out; subst eo64) | (go_at_call 20; (with_reducible refine (laws_sameTexts.calls kj9 _ _ t320 _ _ t324 true _ ?side1 ?side2 ?side3 ?side4 A50.out).mono ?_); (case side1 => repeat (first | exact (Kd.R_reads' HO323.out).2.2 | (with_reducible refine Kd.C_alloc ?_ _) | (with_reducible refine Kd.C_drewN ?_ _) | (with_reducible refine Kd.C_drew ?_))); (case side2 => exact (Kd.R_reads' HO323.out).2.1); (case side3 => repeat (first | exact (Kd.R_reads' HO327.out).2.2 | (with_reducible refine Kd.C_alloc ?_ _) | (with_reducible refine Kd.C_drewN ?_ _) | (with_reducible refine Kd.C_drew ?_))); (case side4 => exact (Kd.R_reads' HO327.out).2.1); rintro e w' ⟨rfl, ⟨nd, rfl⟩⟩; (try first | exact ⟨rfl, _, World.drewN_drewN _ _ _⟩ | exact ⟨rfl, _, Eq.trans (World.drewN_drewN _ _ _) (congrArg (World.drewN _) (Nat.add_assoc _ _ _))⟩)))
                          repeat (go_quiet (first | (go_at_call 13; (with_reducible refine (spec_DrawNumberOf.calls kj9 _ _ l1 t307 _ ?side1 ?side2 A38.out).mono ?_); (case side1 => repeat (first | exact (Kd.C_below HR1.out HB.out) | (with_reducible refine Kd.C_alloc ?_ _) | (with_reducible refine Kd.C_drewN ?_ _) | (with_reducible refine Kd.C_drew ?_))); (case side2 => exact HC1.out); rintro e w55 ⟨v308, rfl, ho0, hb⟩; have n0_ := Aside0.mk (Kd.R_lower ho0 (below_size (by repeat (first | (with_reducible first | exact HB.out | apply below_alloc | apply pw_below_drewN | apply below_drew1) | exact HB.out)))); have n1_ := Aside0.mk (below_step (by repeat (first | (with_reducible first | exact HB.out | apply below_alloc | apply pw_below_drewN | apply below_drew1) | exact HB.out)) hb); clear HB; have HO309 := n0_; have HB := n1_; clear n0_ n1_; (try clear hb); (try clear hb2); (try clear hk); (try clear hi); (try clear ho0); obtain ⟨Ao56, co56, eo56⟩ := Kd.R_slice HO309.out; subst eo56) | (go_at_call 11; (with_reducible refine (impl_NumberOf.calls kj9 _ _ t307 t310 t311 _ ?side1 ?side2 A39.out).mono ?_); (case side1 => repeat (first | exact (Kd.R_reads' HO309.out).2.2 | (with_reducible refine Kd.C_alloc ?_ _) | (with_reducible refine Kd.C_drewN ?_ _) | (with_reducible refine Kd.C_drew ?_))); (case side2 => exact (Kd.R_reads' HO309.out).2.1); rintro e w' ⟨rfl, ⟨nd, rfl⟩⟩; (try first | exact ⟨rfl, _, World.drewN_drewN _ _ _⟩ | exact ⟨rfl, _, Eq.trans (World.drewN_drewN _ _ _) (congrArg (World.drewN _) (Nat.add_assoc _ _ _))⟩)) | (go_at_call 14; (with_reducible refine (spec_NumberOf.calls kj9 _ _ t307 t312 t313 _ ?side1 ?side2 A40.out).mono ?_); (case side1 => repeat (first | exact (Kd.R_reads' HO309.out).2.2 | (with_reducible refine Kd.C_alloc ?_ _) | (with_reducible refine Kd.C_drewN ?_ _) | (with_reducible refine Kd.C_drew ?_))); (case side2 => exact (Kd.R_reads' HO309.out).2.1); rintro e w' ⟨rfl, ⟨nd, rfl⟩⟩; (try first | exact ⟨rfl, _, World.drewN_drewN _ _ _⟩ | exact ⟨rfl, _, Eq.trans (World.drewN_drewN _ _ _) (congrArg (World.drewN _) (Nat.add_assoc _ _ _))⟩)) | (go_at_call 15; (with_reducible refine (spec_DrawShuffleBy.calls kj9 _ _ l1 t314 t315 _ ?side1 ?side2 A41.out).mono ?_); (case side1 => repeat (first | exact (Kd.C_below HR1.out (by repeat (first | (with_reducible first | exact HB.out | apply below_alloc | apply pw_below_drewN | apply below_drew1) | exact HB.out))) | (with_reducible refine Kd.C_alloc ?_ _) | (with_reducible refine Kd.C_drewN ?_ _) | (with_reducible refine Kd.C_drew ?_))); (case side2 => exact HC1.out); rintro e w57 ⟨v316, v318, rfl, ho0, ho1, hb⟩; have n0_ := Aside0.mk (Kd.R_elder' (by (with_reducible repeat (first | apply Kd.R_alloc | apply Kd.R_drewN | apply Kd.R_drew)); exact HO309.out) (Kd.R_base ho0) hb); have n1_ := Aside0.mk (Kd.R_lower (Kd.R_new' ho0 (Kd.R_lt (by (with_reducible repeat (first | apply Kd.R_alloc | apply Kd.R_drewN | apply Kd.R_drew)); exact HO309.out))) (below_size (by repeat (first | (with_reducible first | exact HB.out | apply below_alloc | apply pw_below_drewN | apply below_drew1) | exact HB.out)))); have n2_ := Aside0.mk (Kd.R_lower ho1 (below_size (by repeat (first | (with_reducible first | exact HB.out | apply below_alloc | apply pw_below_drewN | apply below_drew1) | exact HB.out)))); have n3_ := Aside0.mk (below_step (by repeat (first | (with_reducible first | exact HB.out | apply below_alloc | apply pw_below_drewN | apply below_drew1) | exact HB.out)) hb); clear HO309; clear HB; have HO309 := n0_; have HO317 := n1_; have HO319 := n2_; have HB := n3_; clear n0_ n1_ n2_ n3_; (try clear hb); (try clear hb2); (try clear hk); (try clear hi); (try clear ho0); (try clear ho1); obtain ⟨Ao58, co58, eo58⟩ := Kd.R_slice HO317.out; subst eo58; obtain ⟨Ao59, co59, eo59⟩ := Kd.R_slice HO319.out; subst eo59) | (go_at_call 16; (with_reducible refine (impl_ShuffleBy.calls kj9 _ _ t314 _ _ t315 t320 true _ ?side1 ?side2 ?side3 ?side4 A42.out).mono ?_); (case side1 => repeat (first | exact (Kd.R_reads' HO317.out).2.2 | (with_reducible refine Kd.C_alloc ?_ _) | (with_reducible refine Kd.C_drewN ?_ _) | (with_reducible refine Kd.C_drew ?_))); (case side2 => exact (Kd.R_reads' HO317.out).2.1); (case side3 => repeat (first | exact (Kd.R_reads' HO319.out).2.2 | (with_reducible refine Kd.C_alloc ?_ _) | (with_reducible refine Kd.C_drewN ?_ _) | (with_reducible refine Kd.C_drew ?_))); (case side4 => exact (Kd.R_reads' HO319.out).2.1); rintro e w60 ⟨v322, rfl, ho0, hb⟩; have n0_ := Aside0.mk (Kd.R_below (by (with_reducible repeat (first | apply Kd.R_alloc | apply Kd.R_drewN | apply Kd.R_drew)); exact HO309.out) hb); have n1_ := Aside0.mk (Kd.R_below (by (with_reducible repeat (first | apply Kd.R_alloc | apply Kd.R_drewN | apply Kd.R_drew)); exact HO317.out) hb); have n2_ := Aside0.mk (Kd.R_elder' (by (with_reducible repeat (first | apply Kd.R_alloc | apply Kd.R_drewN | apply Kd.R_drew)); exact HO319.out) (Kd.R_base ho0) hb); have n3_ := Aside0.mk (Kd.R_lower (Kd.R_new' ho0 (Kd.R_lt (by (with_reducible repeat (first | apply Kd.R_alloc | apply Kd.R_drewN | apply Kd.R_drew)); exact HO319.out))) (below_size (by repeat (first | (with_reducible first | exact HB.out | apply below_alloc | apply pw_below_drewN | apply below_drew1) | exact HB.out)))); have n4_ := Aside0.mk (below_step (by repeat (first | (with_reducible first | exact HB.out | apply below_alloc | apply pw_below_drewN | apply below_drew1) | exact HB.out)) hb); clear HO309; clear HO317; clear HO319; clear HB; have HO309 := n0_; have HO317 := n1_; have HO319 := n2_; have HO323 := n3_; have HB := n4_; clear n0_ n1_ n2_ n3_ n4_; (try clear hb); (try clear hb2); (try clear hk); (try clear hi); (try clear ho0)) | (go_at_call 17; (with_reducible refine (spec_ShuffleBy.calls kj9 _ _ t314 _ _ t315 t324 t325 _ ?side1 ?side2 ?side3 ?side4 A43.out).mono ?_); (case side1 => repeat (first | exact (Kd.R_reads' HO317.out).2.2 | (with_reducible refine Kd.C_alloc ?_ _) | (with_reducible refine Kd.C_drewN ?_ _) | (with_reducible refine Kd.C_drew ?_))); (case side2 => exact (Kd.R_reads' HO317.out).2.1); (case side3 => repeat (first | exact (Kd.R_reads' HO319.out).2.2 | (with_reducible refine Kd.C_alloc ?_ _) | (with_reducible refine Kd.C_drewN ?_ _) | (with_reducible refine Kd.C_drew ?_))); (case side4 => exact (Kd.R_reads' HO319.out).2.1); rintro e w61 ⟨v326, rfl, ho0, hb⟩; have n0_ := Aside0.mk (Kd.R_below (by (with_reducible repeat (first | apply Kd.R_alloc | apply Kd.R_drewN | apply Kd.R_drew)); exact HO309.out) hb); have n1_ := Aside0.mk (Kd.R_below (by (with_reducible repeat (first | apply Kd.R_alloc | apply Kd.R_drewN | apply Kd.R_drew)); exact HO317.out) hb); have n2_ := Aside0.mk (Kd.R_elder' (by (with_reducible repeat (first | apply Kd.R_alloc | apply Kd.R_drewN | apply Kd.R_drew)); exact HO319.out) (Kd.R_base ho0) hb); have n3_ := Aside0.mk (Kd.R_elder' (by (with_reducible repeat (first | apply Kd.R_alloc | apply Kd.R_drewN | apply Kd.R_drew)); exact HO323.out) (Kd.R_base ho0) hb); have n4_ := Aside0.mk (Kd.R_lower (Kd.R_new' (Kd.R_new' ho0 (Kd.R_lt (by (with_reducible repeat (first | apply Kd.R_alloc | apply Kd.R_drewN | apply Kd.R_drew)); exact HO319.out))) (Kd.R_lt (by (with_reducible repeat (first | apply Kd.R_alloc | apply Kd.R_drewN | apply Kd.R_drew)); exact HO323.out))) (below_size (by repeat (first | (with_reducible first | exact HB.out | apply below_alloc | apply pw_below_drewN | apply below_drew1) | exact HB.out)))); have n5_ := Aside0.mk (below_step (by repeat (first | (with_reducible first | exact HB.out | apply below_alloc | apply pw_below_drewN | apply below_drew1) | exact HB.out)) hb); clear HO309; clear HO317; clear HO319; clear HO323; clear HB; have HO309 := n0_; have HO317 := n1_; have HO319 := n2_; have HO323 := n3_; have HO327 := n4_; have HB := n5_; clear n0_ n1_ n2_ n3_ n4_ n5_; (try clear hb); (try clear hb2); (try clear hk); (try clear hi); (try clear ho0)) | (go_at_call 18; (with_reducible refine (spec_DrawOrdersOf.calls _ _ l1 t328 _ ?side1 ?side2 A44.out).mono ?_); (case side1 => repeat (first | exact (Kd.C_below HR1.out HB.out) | (with_reducible refine Kd.C_alloc ?_ _) | (with_reducible refine Kd.C_drewN ?_ _) | (with_reducible refine Kd.C_drew ?_))); (case side2 => exact HC1.out); rintro e w62 ⟨rfl, hb⟩; have n0_ := Aside0.mk (Kd.R_below (by (with_reducible repeat (first | apply Kd.R_alloc | apply Kd.R_drewN | apply Kd.R_drew)); exact HO309.out) hb); have n1_ := Aside0.mk (Kd.R_below (by (with_reducible repeat (first | apply Kd.R_alloc | apply Kd.R_drewN | apply Kd.R_drew)); exact HO317.out) hb); have n2_ := Aside0.mk (Kd.R_below (by (with_reducible repeat (first | apply Kd.R_alloc | apply Kd.R_drewN | apply Kd.R_drew)); exact HO319.out) hb); have n3_ := Aside0.mk (Kd.R_below (by (with_reducible repeat (first | apply Kd.R_alloc | apply Kd.R_drewN | apply Kd.R_drew)); exact HO323.out) hb); have n4_ := Aside0.mk (Kd.R_below (by (with_reducible repeat (first | apply Kd.R_alloc | apply Kd.R_drewN | apply Kd.R_drew)); exact HO327.out) hb); have n5_ := Aside0.mk (below_step (by repeat (first | (with_reducible first | exact HB.out | apply below_alloc | apply pw_below_drewN | apply below_drew1) | exact HB.out)) hb); clear HO309; clear HO317; clear HO319; clear HO323; clear HO327; clear HB; have HO309 := n0_; have HO317 := n1_; have HO319 := n2_; have HO323 := n3_; have HO327 := n4_; have HB := n5_; clear n0_ n1_ n2_ n3_ n4_ n5_; (try clear hb); (try clear hb2); (try clear hk); (try clear hi)) | (go_at_call 12; (with_reducible refine (impl_OrdersOf.calls kj9 t328 t329 t330 _ A45.out).mono ?_); rintro e w' ⟨rfl, ⟨nd, rfl⟩⟩; (try first | exact ⟨rfl, _, World.drewN_drewN _ _ _⟩ | exact ⟨rfl, _, Eq.trans (World.drewN_drewN _ _ _) (congrArg (World.drewN _) (Nat.add_assoc _ _ _))⟩)) | (go_at_call 19; (with_reducible refine (spec_OrdersOf.calls kj9 t328 t331 t332 _ A46.out).mono ?_); rintro e w' ⟨rfl, ⟨nd, rfl⟩⟩; (try first | exact ⟨rfl, _, World.drewN_drewN _ _ _⟩ | exact ⟨rfl, _, Eq.trans (World.drewN_drewN _ _ _) (congrArg (World.drewN _) (Nat.add_assoc _ _ _))⟩); obtain ⟨Ao63, co63, eo63⟩ := Kd.R_slice HO323.out; subst eo63; obtain ⟨Ao64, co64, eo64⟩ := Kd.R_slice HO327.out; subst eo64) | (go_at_call 20; (with_reducible refine (laws_sameTexts.calls kj9 _ _ t320 _ _ t324 true _ ?side1 ?side2 ?side3 ?side4 A50.out).mono ?_); (case side1 => repeat (first | exact (Kd.R_reads' HO323.out).2.2 | (with_reducible refine Kd.C_alloc ?_ _) | (with_reducible refine Kd.C_drewN ?_ _) | (with_reducible refine Kd.C_drew ?_))); (case side2 => exact (Kd.R_reads' HO323.out).2.1); (case side3 => repeat (first | exact (Kd.R_reads' HO327.out).2.2 | (with_reducible refine Kd.C_alloc ?_ _) | (with_reducible refine Kd.C_drewN ?_ _) | (with_reducible refine Kd.C_drew ?_))); (case side4 => exact (Kd.R_reads' HO327.out).2.1); rintro e w' ⟨rfl, ⟨nd, rfl⟩⟩; (try first | exact ⟨rfl, _, World.drewN_drewN _ _ _⟩ | exact ⟨rfl, _, Eq.trans (World.drewN_drewN _ _ _) (congrArg (World.drewN _) (Nat.add_assoc _ _ _))⟩))); try go_wp2_with (first | (go_at_call 13; (with_reducible refine (spec_DrawNumberOf.calls kj9 _ _ l1 t307 _ ?side1 ?side2 A38.out).mono ?_); (case side1 => repeat (first | exact (Kd.C_below HR1.out HB.out) | (with_reducible refine Kd.C_alloc ?_ _) | (with_reducible refine Kd.C_drewN ?_ _) | (with_reducible refine Kd.C_drew ?_))); (case side2 => exact HC1.out); rintro e w55 ⟨v308, rfl, ho0, hb⟩; have n0_ := Aside0.mk (Kd.R_lower ho0 (below_size (by repeat (first | (with_reducible first | exact HB.out | apply below_alloc | apply pw_below_drewN | apply below_drew1) | exact HB.out)))); have n1_ := Aside0.mk (below_step (by repeat (first | (with_reducible first | exact HB.out | apply below_alloc | apply pw_below_drewN | apply below_drew1) | exact HB.out)) hb); clear HB; have HO309 := n0_; have HB := n1_; clear n0_ n1_; (try clear hb); (try clear hb2); (try clear hk); (try clear hi); (try clear ho0); obtain ⟨Ao56, co56, eo56⟩ := Kd.R_slice HO309.out; subst eo56) | (go_at_call 11; (with_reducible refine (impl_NumberOf.calls kj9 _ _ t307 t310 t311 _ ?side1 ?side2 A39.out).mono ?_); (case side1 => repeat (first | exact (Kd.R_reads' HO309.out).2.2 | (with_reducible refine Kd.C_alloc ?_ _) | (with_reducible refine Kd.C_drewN ?_ _) | (with_reducible refine Kd.C_drew ?_))); (case side2 => exact (Kd.R_reads' HO309.out).2.1); rintro e w' ⟨rfl, ⟨nd, rfl⟩⟩; (try first | exact ⟨rfl, _, World.drewN_drewN _ _ _⟩ | exact ⟨rfl, _, Eq.trans (World.drewN_drewN _ _ _) (congrArg (World.drewN _) (Nat.add_assoc _ _ _))⟩)) | (go_at_call 14; (with_reducible refine (spec_NumberOf.calls kj9 _ _ t307 t312 t313 _ ?side1 ?side2 A40.out).mono ?_); (case side1 => repeat (first | exact (Kd.R_reads' HO309.out).2.2 | (with_reducible refine Kd.C_alloc ?_ _) | (with_reducible refine Kd.C_drewN ?_ _) | (with_reducible refine Kd.C_drew ?_))); (case side2 => exact (Kd.R_reads' HO309.out).2.1); rintro e w' ⟨rfl, ⟨nd, rfl⟩⟩; (try first | exact ⟨rfl, _, World.drewN_drewN _ _ _⟩ | exact ⟨rfl, _, Eq.trans (World.drewN_drewN _ _ _) (congrArg (World.drewN _) (Nat.add_assoc _ _ _))⟩)) | (go_at_call 15; (with_reducible refine (spec_DrawShuffleBy.calls kj9 _ _ l1 t314 t315 _ ?side1 ?side2 A41.out).mono ?_); (case side1 => repeat (first | exact (Kd.C_below HR1.out (by repeat (first | (with_reducible first | exact HB.out | apply below_alloc | apply pw_below_drewN | apply below_drew1) | exact HB.out))) | (with_reducible refine Kd.C_alloc ?_ _) | (with_reducible refine Kd.C_drewN ?_ _) | (with_reducible refine Kd.C_drew ?_))); (case side2 => exact HC1.out); rintro e w57 ⟨v316, v318, rfl, ho0, ho1, hb⟩; have n0_ := Aside0.mk (Kd.R_elder' (by (with_reducible repeat (first | apply Kd.R_alloc | apply Kd.R_drewN | apply Kd.R_drew)); exact HO309.out) (Kd.R_base ho0) hb); have n1_ := Aside0.mk (Kd.R_lower (Kd.R_new' ho0 (Kd.R_lt (by (with_reducible repeat (first | apply Kd.R_alloc | apply Kd.R_drewN | apply Kd.R_drew)); exact HO309.out))) (below_size (by repeat (first | (with_reducible first | exact HB.out | apply below_alloc | apply pw_below_drewN | apply below_drew1) | exact HB.out)))); have n2_ := Aside0.mk (Kd.R_lower ho1 (below_size (by repeat (first | (with_reducible first | exact HB.out | apply below_alloc | apply pw_below_drewN | apply below_drew1) | exact HB.out)))); have n3_ := Aside0.mk (below_step (by repeat (first | (with_reducible first | exact HB.out | apply below_alloc | apply pw_below_drewN | apply below_drew1) | exact HB.out)) hb); clear HO309; clear HB; have HO309 := n0_; have HO317 := n1_; have HO319 := n2_; have HB := n3_; clear n0_ n1_ n2_ n3_; (try clear hb); (try clear hb2); (try clear hk); (try clear hi); (try clear ho0); (try clear ho1); obtain ⟨Ao58, co58, eo58⟩ := Kd.R_slice HO317.out; subst eo58; obtain ⟨Ao59, co59, eo59⟩ := Kd.R_slice HO319.out; subst eo59) | (go_at_call 16; (with_reducible refine (impl_ShuffleBy.calls kj9 _ _ t314 _ _ t315 t320 true _ ?side1 ?side2 ?side3 ?side4 A42.out).mono ?_); (case side1 => repeat (first | exact (Kd.R_reads' HO317.out).2.2 | (with_reducible refine Kd.C_alloc ?_ _) | (with_reducible refine Kd.C_drewN ?_ _) | (with_reducible refine Kd.C_drew ?_))); (case side2 => exact (Kd.R_reads' HO317.out).2.1); (case side3 => repeat (first | exact (Kd.R_reads' HO319.out).2.2 | (with_reducible refine Kd.C_alloc ?_ _) | (with_reducible refine Kd.C_drewN ?_ _) | (with_reducible refine Kd.C_drew ?_))); (case side4 => exact (Kd.R_reads' HO319.out).2.1); rintro e w60 ⟨v322, rfl, ho0, hb⟩; have n0_ := Aside0.mk (Kd.R_below (by (with_reducible repeat (first | apply Kd.R_alloc | apply Kd.R_drewN | apply Kd.R_drew)); exact HO309.out) hb); have n1_ := Aside0.mk (Kd.R_below (by (with_reducible repeat (first | apply Kd.R_alloc | apply Kd.R_drewN | apply Kd.R_drew)); exact HO317.out) hb); have n2_ := Aside0.mk (Kd.R_elder' (by (with_reducible repeat (first | apply Kd.R_alloc | apply Kd.R_drewN | apply Kd.R_drew)); exact HO319.out) (Kd.R_base ho0) hb); have n3_ := Aside0.mk (Kd.R_lower (Kd.R_new' ho0 (Kd.R_lt (by (with_reducible repeat (first | apply Kd.R_alloc | apply Kd.R_drewN | apply Kd.R_drew)); exact HO319.out))) (below_size (by repeat (first | (with_reducible first | exact HB.out | apply below_alloc | apply pw_below_drewN | apply below_drew1) | exact HB.out)))); have n4_ := Aside0.mk (below_step (by repeat (first | (with_reducible first | exact HB.out | apply below_alloc | apply pw_below_drewN | apply below_drew1) | exact HB.out)) hb); clear HO309; clear HO317; clear HO319; clear HB; have HO309 := n0_; have HO317 := n1_; have HO319 := n2_; have HO323 := n3_; have HB := n4_; clear n0_ n1_ n2_ n3_ n4_; (try clear hb); (try clear hb2); (try clear hk); (try clear hi); (try clear ho0)) | (go_at_call 17; (with_reducible refine (spec_ShuffleBy.calls kj9 _ _ t314 _ _ t315 t324 t325 _ ?side1 ?side2 ?side3 ?side4 A43.out).mono ?_); (case side1 => repeat (first | exact (Kd.R_reads' HO317.out).2.2 | (with_reducible refine Kd.C_alloc ?_ _) | (with_reducible refine Kd.C_drewN ?_ _) | (with_reducible refine Kd.C_drew ?_))); (case side2 => exact (Kd.R_reads' HO317.out).2.1); (case side3 => repeat (first | exact (Kd.R_reads' HO319.out).2.2 | (with_reducible refine Kd.C_alloc ?_ _) | (with_reducible refine Kd.C_drewN ?_ _) | (with_reducible refine Kd.C_drew ?_))); (case side4 => exact (Kd.R_reads' HO319.out).2.1); rintro e w61 ⟨v326, rfl, ho0, hb⟩; have n0_ := Aside0.mk (Kd.R_below (by (with_reducible repeat (first | apply Kd.R_alloc | apply Kd.R_drewN | apply Kd.R_drew)); exact HO309.out) hb); have n1_ := Aside0.mk (Kd.R_below (by (with_reducible repeat (first | apply Kd.R_alloc | apply Kd.R_drewN | apply Kd.R_drew)); exact HO317.out) hb); have n2_ := Aside0.mk (Kd.R_elder' (by (with_reducible repeat (first | apply Kd.R_alloc | apply Kd.R_drewN | apply Kd.R_drew)); exact HO319.out) (Kd.R_base ho0) hb); have n3_ := Aside0.mk (Kd.R_elder' (by (with_reducible repeat (first | apply Kd.R_alloc | apply Kd.R_drewN | apply Kd.R_drew)); exact HO323.out) (Kd.R_base ho0) hb); have n4_ := Aside0.mk (Kd.R_lower (Kd.R_new' (Kd.R_new' ho0 (Kd.R_lt (by (with_reducible repeat (first | apply Kd.R_alloc | apply Kd.R_drewN | apply Kd.R_drew)); exact HO319.out))) (Kd.R_lt (by (with_reducible repeat (first | apply Kd.R_alloc | apply Kd.R_drewN | apply Kd.R_drew)); exact HO323.out))) (below_size (by repeat (first | (with_reducible first | exact HB.out | apply below_alloc | apply pw_below_drewN | apply below_drew1) | exact HB.out)))); have n5_ := Aside0.mk (below_step (by repeat (first | (with_reducible first | exact HB.out | apply below_alloc | apply pw_below_drewN | apply below_drew1) | exact HB.out)) hb); clear HO309; clear HO317; clear HO319; clear HO323; clear HB; have HO309 := n0_; have HO317 := n1_; have HO319 := n2_; have HO323 := n3_; have HO327 := n4_; have HB := n5_; clear n0_ n1_ n2_ n3_ n4_ n5_; (try clear hb); (try clear hb2); (try clear hk); (try clear hi); (try clear ho0)) | (go_at_call 18; (with_reducible refine (spec_DrawOrdersOf.calls _ _ l1 t328 _ ?side1 ?side2 A44.out).mono ?_); (case side1 => repeat (first | exact (Kd.C_below HR1.out HB.out) | (with_reducible refine Kd.C_alloc ?_ _) | (with_reducible refine Kd.C_drewN ?_ _) | (with_reducible refine Kd.C_drew ?_))); (case side2 => exact HC1.out); rintro e w62 ⟨rfl, hb⟩; have n0_ := Aside0.mk (Kd.R_below (by (with_reducible repeat (first | apply Kd.R_alloc | apply Kd.R_drewN | apply Kd.R_drew)); exact HO309.out) hb); have n1_ := Aside0.mk (Kd.R_below (by (with_reducible repeat (first | apply Kd.R_alloc | apply Kd.R_drewN | apply Kd.R_drew)); exact HO317.out) hb); have n2_ := Aside0.mk (Kd.R_below (by (with_reducible repeat (first | apply Kd.R_alloc | apply Kd.R_drewN | apply Kd.R_drew)); exact HO319.out) hb); have n3_ := Aside0.mk (Kd.R_below (by (with_reducible repeat (first | apply Kd.R_alloc | apply Kd.R_drewN | apply Kd.R_drew)); exact HO323.out) hb); have n4_ := Aside0.mk (Kd.R_below (by (with_reducible repeat (first | apply Kd.R_alloc | apply Kd.R_drewN | apply Kd.R_drew)); exact HO327.out) hb); have n5_ := Aside0.mk (below_step (by repeat (first | (with_reducible first | exact HB.out | apply below_alloc | apply pw_below_drewN | apply below_drew1) | exact HB.out)) hb); clear HO309; clear HO317; clear HO319; clear HO323; clear HO327; clear HB; have HO309 := n0_; have HO317 := n1_; have HO319 := n2_; have HO323 := n3_; have HO327 := n4_; have HB := n5_; clear n0_ n1_ n2_ n3_ n4_ n5_; (try clear hb); (try clear hb2); (try clear hk); (try clear hi)) | (go_at_call 12; (with_reducible refine (impl_OrdersOf.calls kj9 t328 t329 t330 _ A45.out).mono ?_); rintro e w' ⟨rfl, ⟨nd, rfl⟩⟩; (try first | exact ⟨rfl, _, World.drewN_drewN _ _ _⟩ | exact ⟨rfl, _, Eq.trans (World.drewN_drewN _ _ _) (congrArg (World.drewN _) (Nat.add_assoc _ _ _))⟩)) | (go_at_call 19; (with_reducible refine (spec_OrdersOf.calls kj9 t328 t331 t332 _ A46.out).mono ?_); rintro e w' ⟨rfl, ⟨nd, rfl⟩⟩; (try first | exact ⟨rfl, _, World.drewN_drewN _ _ _⟩ | exact ⟨rfl, _, Eq.trans (World.drewN_drewN _ _ _) (congrArg (World.drewN _) (Nat.add_assoc _ _ _))⟩); obtain ⟨Ao63, co63, eo63⟩ := Kd.R_slice HO323.out; subst eo63; obtain ⟨Ao64, co64, eo64⟩ := Kd.R_slice HO327.out; subst eo64) | (go_at_call 20; (with_reducible refine (laws_sameTexts.calls kj9 _ _ t320 _ _ t324 true _ ?side1 ?side2 ?side3 ?side4 A50.out).mono ?_); (case side1 => repeat (first | exact (Kd.R_reads' HO323.out).2.2 | (with_reducible refine Kd.C_alloc ?_ _) | (with_reducible refine Kd.C_drewN ?_ _) | (with_reducible refine Kd.C_drew ?_))); (case side2 => exact (Kd.R_reads' HO323.out).2.1); (case side3 => repeat (first | exact (Kd.R_reads' HO327.out).2.2 | (with_reducible refine Kd.C_alloc ?_ _) | (with_reducible refine Kd.C_drewN ?_ _) | (with_reducible refine Kd.C_drew ?_))); (case side4 => exact (Kd.R_reads' HO327.out).2.1); rintro e w' ⟨rfl, ⟨nd, rfl⟩⟩; (try first | exact ⟨rfl, _, World.drewN_drewN _ _ _⟩ | exact ⟨rfl, _, Eq.trans (World.drewN_drewN _ _ _) (congrArg (World.drewN _) (Nat.add_assoc _ _ _))⟩))))
                          go_loopg [219] kj9 (fun kq v219 w' => ∃ (x219_2 : Int), v219 = .int .i64 x219_2 ∧ Aside0 (laws_FnOrders.l1 kq t315 t320 t315 (t315.length : Int) x219_2 = some r) ∧ Aside0 (kq ≤ kj9) ∧ Aside0 (Kd.R Kd.string 9 w' w.heap.size (fun k_ => some k_ ≠ ((.slice Ao63 t320.length co63) : Value).ownBlock) (.slice Ao59 t315.length co59) t315) ∧ Aside0 (Kd.R Kd.string 9 w' w.heap.size (fun k_ => some k_ ≠ ((.slice Ao59 t315.length co59) : Value).ownBlock ∧ some k_ ≠ ((.slice Ao59 t315.length co59) : Value).ownBlock) (.slice Ao63 t320.length co63) t320) ∧ Aside0 (Kd.R Kd.string 9 w' w.heap.size (fun k_ => some k_ ≠ ((.slice Ao63 t320.length co63) : Value).ownBlock) (.slice Ao59 t315.length co59) t315) ∧ Aside0 (Below w.heap.size w w'))
                          case atStart => exact ⟨(0), (by first | rfl | (simp; done) | (simp [*]; done)), H', ⟨Nat.le_refl _⟩, ⟨by (with_reducible repeat (first | apply Kd.R_alloc | apply Kd.R_drewN | apply Kd.R_drew)); exact Kd.R_mono HO319.out (fun _ hk => hk.1.2)⟩, ⟨by (with_reducible repeat (first | apply Kd.R_alloc | apply Kd.R_drewN | apply Kd.R_drew)); exact Kd.R_mono HO323.out (fun _ hk => ⟨hk.1.2, hk.1.2⟩)⟩, ⟨by (with_reducible repeat (first | apply Kd.R_alloc | apply Kd.R_drewN | apply Kd.R_drew)); exact Kd.R_mono HO319.out (fun _ hk => hk.1.2)⟩, ⟨by repeat (first | (with_reducible first | exact HB.out | apply below_alloc | apply pw_below_drewN | apply below_drew1) | exact HB.out)⟩⟩
                          case round =>
                            clear H'
                            try clear c1
                            try clear c2
                            try clear p2
                            try clear c3
                            try clear c3b0
                            try clear p3
                            try clear q3
                            try clear hx3
                            try clear c4
                            try clear c5
                            try clear p6
                            try clear c7
                            try clear c7b0
                            try clear c7b1
                            try clear c7b2
                            try clear c9
                            try clear c16
                            try clear c19
                            try clear c20
                            try clear c20b0
                            try clear c20b1
                            try clear c21
                            try clear c22
                            try clear c22b0
                            try clear c23
                            try clear c23b0
                            try clear c23b1
                            try clear c24
                            try clear c24b0
                            try clear c27
                            try clear c27b0
                            try clear c28
                            try clear c28b0
                            try clear c29
                            try clear c29b0
                            try clear c30
                            try clear c30b0
                            try clear p30
                            try clear q30
                            try clear hx30
                            try clear c31
                            try clear c31b0
                            try clear c31b1
                            try clear c33
                            try clear c34
                            try clear c34b0
                            try clear c36
                            try clear c37
                            try clear c47
                            try clear c47b0
                            try clear c47b1
                            try clear c47b2
                            try clear c48
                            try clear c48b0
                            try clear c48b1
                            try clear c49
                            try clear c49b0
                            try clear c49b1
                            try clear c49b2
                            try clear c51
                            try clear c52
                            try clear c52b0
                            try clear c52b1
                            try clear c52b2
                            try clear c53
                            try clear c53b0
                            try clear c53b1
                            try clear c54
                            try clear p64
                            try clear hx303_0
                            try clear hx304_0
                            try clear hx305_0
                            try clear hx306_0
                            try clear p2
                            try clear p3
                            try clear p30
                            try clear p303
                            try clear p304
                            try clear p305
                            try clear p306
                            try clear p6
                            try clear q3
                            try clear q30
                            try clear q303
                            try clear q304
                            try clear q305
                            try clear q306
                            obtain ⟨x219_2, rfl, HA, HK2, HO_25, HO_26, HO_217, HB⟩ := hrel
                            cases gk with
                            | zero => exact absurd HA.out (by simp [laws_FnOrders.l1])
                            | succ k2 =>
                              have H := HA.out
                              clear HA
                              simp only [laws_FnOrders.l1] at H
                              by_cases c65 : x219_2 < (t315.length : Int)
                              · rw [if_pos c65] at H
                                have c65b0 : decide (x219_2 < (t315.length : Int)) = true := decide_eq_true c65
                                clear c65
                                by_cases c66 : 0 ≤ x219_2
                                · rw [if_pos c66] at H
                                  have c66b0 : decide (0 ≤ x219_2) = true := decide_eq_true c66
                                  clear c66
                                  by_cases c67 : x219_2 < (t315.length : Int)
                                  · rw [if_pos c67] at H
                                    have c67b0 : decide (x219_2 < (t315.length : Int)) = true := decide_eq_true c67
                                    clear c67
                                    have H' := Aside0.mk H
                                    clear H
                                    have p334 : 0 ≤ (x219_2 : Int) := of_decide_eq_true (by first | (with_reducible assumption) | assumption)
                                    have q334 : x219_2 < (t315.length : Int) := of_decide_eq_true (by first | (with_reducible assumption) | assumption)
                                    obtain ⟨ad334, e334, hx334_0⟩ := Kd.at_string (Kd.R_reads' HO_217.out).2.2 x219_2 p334 q334
                                    cases e334
                                    replace p334 := eq_true p334
                                    replace q334 := eq_true q334
                                    go_wp2
                                    repeat (go_quiet (fail); try go_wp2)
                                    (try generalize ad334.add (x219_2 : Int).toNat = ad334z)
                                    go_loopg [37, 225] k2 (fun kq v37 v225 w' => ∃ (x37_3 : Int) (x225_3 : Int), v37 = .int .i64 x37_3 ∧ v225 = .int .i64 x225_3 ∧ Aside0 (laws_FnOrders.l2 kq t315 t320 (rdOf ByteArray.empty t315 x219_2) x37_3 t315 (t315.length : Int) x219_2 t315 (t315.length : Int) x225_3 = some r) ∧ Aside0 (kq ≤ k2) ∧ Aside0 (Kd.R Kd.string 9 w' w.heap.size (fun k_ => some k_ ≠ ((.slice Ao63 t320.length co63) : Value).ownBlock) (.slice (some ad334) t315.length co59) t315) ∧ Aside0 (Kd.R Kd.string 9 w' w.heap.size (fun k_ => some k_ ≠ ((.slice (some ad334) t315.length co59) : Value).ownBlock ∧ some k_ ≠ ((.slice (some ad334) t315.length co59) : Value).ownBlock ∧ some k_ ≠ ((.slice (some ad334) t315.length co59) : Value).ownBlock) (.slice Ao63 t320.length co63) t320) ∧ Aside0 (Kd.R Kd.string 9 w' w.heap.size (fun k_ => some k_ ≠ ((.slice Ao63 t320.length co63) : Value).ownBlock) (.slice (some ad334) t315.length co59) t315) ∧ Aside0 (Kd.R Kd.string 9 w' w.heap.size (fun k_ => some k_ ≠ ((.slice Ao63 t320.length co63) : Value).ownBlock) (.slice (some ad334) t315.length co59) t315) ∧ Aside0 (Below w.heap.size w w'))
                                    case atStart => exact ⟨(0), (0), (by first | rfl | (simp; done) | (simp [*]; done)), (by first | rfl | (simp; done) | (simp [*]; done)), H', ⟨Nat.le_refl _⟩, ⟨by (with_reducible repeat (first | apply Kd.R_alloc | apply Kd.R_drewN | apply Kd.R_drew)); exact HO_25.out⟩, ⟨by (with_reducible repeat (first | apply Kd.R_alloc | apply Kd.R_drewN | apply Kd.R_drew)); exact Kd.R_mono HO_26.out (fun _ hk => ⟨hk.1, ⟨hk.2, hk.1⟩⟩)⟩, ⟨by (with_reducible repeat (first | apply Kd.R_alloc | apply Kd.R_drewN | apply Kd.R_drew)); exact HO_217.out⟩, ⟨by (with_reducible repeat (first | apply Kd.R_alloc | apply Kd.R_drewN | apply Kd.R_drew)); exact HO_25.out⟩, ⟨by repeat (first | (with_reducible first | exact HB.out | apply below_alloc | apply pw_below_drewN | apply below_drew1) | exact HB.out)⟩⟩
                                    case round =>
                                      clear H'
                                      try clear c1
                                      try clear c2
                                      try clear p2
                                      try clear c3
                                      try clear c3b0
                                      try clear p3
                                      try clear q3
                                      try clear hx3
                                      try clear c4
                                      try clear c5
                                      try clear c6
                                      try clear p6
                                      try clear c7
                                      try clear c7b0
                                      try clear c7b1
                                      try clear c7b2
                                      try clear c9
                                      try clear c16
                                      try clear c19
                                      try clear c20
                                      try clear c20b0
                                      try clear c20b1
                                      try clear c21
                                      try clear c22
                                      try clear c22b0
                                      try clear c23
                                      try clear c23b0
                                      try clear c23b1
                                      try clear c24
                                      try clear c24b0
                                      try clear c27
                                      try clear c27b0
                                      try clear c28
                                      try clear c28b0
                                      try clear c29
                                      try clear c29b0
                                      try clear c30
                                      try clear c30b0
                                      try clear p30
                                      try clear q30
                                      try clear hx30
                                      try clear c31
                                      try clear c31b0
                                      try clear c31b1
                                      try clear c33
                                      try clear p33
                                      try clear q33
                                      try clear hx33
                                      try clear c34
                                      try clear c34b0
                                      try clear c36
                                      try clear c37
                                      try clear c47
                                      try clear c47b0
                                      try clear c47b1
                                      try clear c47b2
                                      try clear c48
                                      try clear c48b0
                                      try clear c48b1
                                      try clear c49
                                      try clear c49b0
                                      try clear c49b1
                                      try clear c49b2
                                      try clear c51
                                      try clear c52
                                      try clear c52b0
                                      try clear c52b1
                                      try clear c52b2
                                      try clear c53
                                      try clear c53b0
                                      try clear c53b1
                                      try clear c54
                                      try clear p64
                                      try clear c65
                                      try clear c65b0
                                      try clear c66
                                      try clear c66b0
                                      try clear c67
                                      try clear c67b0
                                      try clear hx303_0
                                      try clear hx304_0
                                      try clear hx305_0
                                      try clear hx306_0
                                      try clear hx334_0
                                      try clear p2
                                      try clear p3
                                      try clear p30
                                      try clear p303
                                      try clear p304
                                      try clear p305
                                      try clear p306
                                      try clear p334
                                      try clear p6
                                      try clear p64
                                      try clear q3
                                      try clear q30
                                      try clear q303
                                      try clear q304
                                      try clear q305
                                      try clear q306
                                      try clear q334
                                      obtain ⟨x37_3, x225_3, rfl, rfl, HA, HK3, HO_25, HO_26, HO_217, HO_223, HB⟩ := hrel
                                      cases gk with
                                      | zero => exact absurd HA.out (by simp [laws_FnOrders.l2])
                                      | succ k3 =>
                                        have H := HA.out
                                        clear HA
                                        simp only [laws_FnOrders.l2] at H
                                        by_cases c68 : x225_3 < (t315.length : Int)
                                        · rw [if_pos c68] at H
                                          have c68b0 : decide (x225_3 < (t315.length : Int)) = true := decide_eq_true c68
                                          clear c68
                                          by_cases c69 : 0 ≤ x225_3
                                          · rw [if_pos c69] at H
                                            have c69b0 : decide (0 ≤ x225_3) = true := decide_eq_true c69
                                            clear c69
                                            by_cases c70 : x225_3 < (t315.length : Int)
                                            · rw [if_pos c70] at H
                                              have c70b0 : decide (x225_3 < (t315.length : Int)) = true := decide_eq_true c70
                                              clear c70
                                              by_cases c71 : (rdOf ByteArray.empty t315 x225_3).toList = (rdOf ByteArray.empty t315 x219_2).toList
                                              · rw [if_pos c71] at H
                                                have c71b0 : ((rdOf ByteArray.empty t315 x225_3).toList == (rdOf ByteArray.empty t315 x219_2).toList) = true := beq_iff_eq.mpr c71
                                                have c71b1 : ((rdOf ByteArray.empty t315 x225_3).toList != (rdOf ByteArray.empty t315 x219_2).toList) = false := bne_eq_false_iff_eq.mpr c71
                                                clear c71
                                                have H' := Aside0.mk H
                                                clear H
                                                have p335 : 0 ≤ (x225_3 : Int) := of_decide_eq_true (by first | (with_reducible assumption) | assumption)
                                                have q335 : x225_3 < (t315.length : Int) := of_decide_eq_true (by first | (with_reducible assumption) | assumption)
                                                obtain ⟨ad335, e335, hx335_0⟩ := Kd.at_string (Kd.R_reads' HO_223.out).2.2 x225_3 p335 q335
                                                obtain rfl : ad334 = ad335 := (by injection e335)
                                                replace p335 := eq_true p335
                                                replace q335 := eq_true q335
                                                go_wp2
                                                repeat (go_quiet (fail); try go_wp2)
                                                go_roundg k3
                                                case measure => have := HJ9.out; have := HK2.out; have := HK3.out; omega
                                                case rel => exact ⟨(wrap64 (x37_3 + 1)), (wrap64 (x225_3 + 1)), (by first | rfl | (simp; done) | (simp [*]; done)), (by first | rfl | (simp; done) | (simp [*]; done)), H', ⟨by have := HJ9.out; have := HK2.out; have := HK3.out; omega⟩, ⟨by (with_reducible repeat (first | apply Kd.R_alloc | apply Kd.R_drewN | apply Kd.R_drew)); exact HO_25.out⟩, ⟨by (with_reducible repeat (first | apply Kd.R_alloc | apply Kd.R_drewN | apply Kd.R_drew)); exact HO_26.out⟩, ⟨by (with_reducible repeat (first | apply Kd.R_alloc | apply Kd.R_drewN | apply Kd.R_drew)); exact HO_217.out⟩, ⟨by (with_reducible repeat (first | apply Kd.R_alloc | apply Kd.R_drewN | apply Kd.R_drew)); exact HO_223.out⟩, ⟨by repeat (first | (with_reducible first | exact HB.out | apply below_alloc | apply pw_below_drewN | apply below_drew1) | exact HB.out)⟩⟩
                                              · rw [if_neg c71] at H
                                                have c71b0 : ((rdOf ByteArray.empty t315 x225_3).toList == (rdOf ByteArray.empty t315 x219_2).toList) = false := beq_eq_false_iff_ne.mpr c71
                                                have c71b1 : ((rdOf ByteArray.empty t315 x225_3).toList != (rdOf ByteArray.empty t315 x219_2).toList) = true := bne_iff_ne.mpr c71
                                                have H' := Aside0.mk H
                                                clear H
                                                have p335 : 0 ≤ (x225_3 : Int) := of_decide_eq_true (by first | (with_reducible assumption) | assumption)
                                                have q335 : x225_3 < (t315.length : Int) := of_decide_eq_true (by first | (with_reducible assumption) | assumption)
                                                obtain ⟨ad335, e335, hx335_0⟩ := Kd.at_string (Kd.R_reads' HO_223.out).2.2 x225_3 p335 q335
                                                obtain rfl : ad334 = ad335 := (by injection e335)
                                                replace p335 := eq_true p335
                                                replace q335 := eq_true q335
                                                go_wp2
                                                repeat (go_quiet (fail); try go_wp2)
                                                go_roundg k3
                                                case measure => have := HJ9.out; have := HK2.out; have := HK3.out; omega
                                                case rel => exact ⟨(x37_3), (wrap64 (x225_3 + 1)), (by first | rfl | (simp; done) | (simp [*]; done)), (by first | rfl | (simp; done) | (simp [*]; done)), H', ⟨by have := HJ9.out; have := HK2.out; have := HK3.out; omega⟩, ⟨by (with_reducible repeat (first | apply Kd.R_alloc | apply Kd.R_drewN | apply Kd.R_drew)); exact HO_25.out⟩, ⟨by (with_reducible repeat (first | apply Kd.R_alloc | apply Kd.R_drewN | apply Kd.R_drew)); exact HO_26.out⟩, ⟨by (with_reducible repeat (first | apply Kd.R_alloc | apply Kd.R_drewN | apply Kd.R_drew)); exact HO_217.out⟩, ⟨by (with_reducible repeat (first | apply Kd.R_alloc | apply Kd.R_drewN | apply Kd.R_drew)); exact HO_223.out⟩, ⟨by repeat (first | (with_reducible first | exact HB.out | apply below_alloc | apply pw_below_drewN | apply below_drew1) | exact HB.out)⟩⟩
                                            · rw [if_neg c70] at H
                                              exact absurd H (by simp)
                                          · rw [if_neg c69] at H
                                            exact absurd H (by simp)
                                        · rw [if_neg c68] at H
                                          have c68b0 : decide (x225_3 < (t315.length : Int)) = false := decide_eq_false c68
                                          clear c68
                                          have H' := Aside0.mk H
                                          clear H
                                          go_wp2
                                          repeat (go_quiet (fail); try go_wp2)
                                          (try generalize ad335.add (x225_3 : Int).toNat = ad335z)
                                          (try generalize ad335.add (x225_3 : Int).toNat = ad335z)
                                          go_loopg [37, 237] k3 (fun kq v37 v237 w' => ∃ (x37_4 : Int) (x237_4 : Int), v37 = .int .i64 x37_4 ∧ v237 = .int .i64 x237_4 ∧ Aside0 (laws_FnOrders.l3 kq t315 t320 (rdOf ByteArray.empty t315 x219_2) x37_4 t315 (t315.length : Int) x219_2 t320 (t320.length : Int) x237_4 = some r) ∧ Aside0 (kq ≤ k3) ∧ Aside0 (Kd.R Kd.string 9 w' w.heap.size (fun k_ => some k_ ≠ ((.slice Ao63 t320.length co63) : Value).ownBlock ∧ some k_ ≠ ((.slice Ao63 t320.length co63) : Value).ownBlock) (.slice (some ad334) t315.length co59) t315) ∧ Aside0 (Kd.R Kd.string 9 w' w.heap.size (fun k_ => some k_ ≠ ((.slice (some ad334) t315.length co59) : Value).ownBlock ∧ some k_ ≠ ((.slice (some ad334) t315.length co59) : Value).ownBlock) (.slice Ao63 t320.length co63) t320) ∧ Aside0 (Kd.R Kd.string 9 w' w.heap.size (fun k_ => some k_ ≠ ((.slice Ao63 t320.length co63) : Value).ownBlock ∧ some k_ ≠ ((.slice Ao63 t320.length co63) : Value).ownBlock) (.slice (some ad334) t315.length co59) t315) ∧ Aside0 (Kd.R Kd.string 9 w' w.heap.size (fun k_ => some k_ ≠ ((.slice (some ad334) t315.length co59) : Value).ownBlock ∧ some k_ ≠ ((.slice (some ad334) t315.length co59) : Value).ownBlock) (.slice Ao63 t320.length co63) t320) ∧ Aside0 (Below w.heap.size w w'))
                                          case atStart => exact ⟨(x37_3), (0), (by first | rfl | (simp; done) | (simp [*]; done)), (by first | rfl | (simp; done) | (simp [*]; done)), H', ⟨Nat.le_refl _⟩, ⟨by (with_reducible repeat (first | apply Kd.R_alloc | apply Kd.R_drewN | apply Kd.R_drew)); exact Kd.R_mono HO_25.out (fun _ hk => ⟨hk, hk⟩)⟩, ⟨by (with_reducible repeat (first | apply Kd.R_alloc | apply Kd.R_drewN | apply Kd.R_drew)); exact Kd.R_mono HO_26.out (fun _ hk => ⟨hk.1, hk.2.1⟩)⟩, ⟨by (with_reducible repeat (first | apply Kd.R_alloc | apply Kd.R_drewN | apply Kd.R_drew)); exact Kd.R_mono HO_217.out (fun _ hk => ⟨hk, hk⟩)⟩, ⟨by (with_reducible repeat (first | apply Kd.R_alloc | apply Kd.R_drewN | apply Kd.R_drew)); exact Kd.R_mono HO_26.out (fun _ hk => ⟨hk.1, hk.2.1⟩)⟩, ⟨by repeat (first | (with_reducible first | exact HB.out | apply below_alloc | apply pw_below_drewN | apply below_drew1) | exact HB.out)⟩⟩
                                          case round =>
                                            clear H'
                                            try clear c1
                                            try clear c2
                                            try clear p2
                                            try clear c3
                                            try clear c3b0
                                            try clear p3
                                            try clear q3
                                            try clear hx3
                                            try clear c4
                                            try clear c5
                                            try clear c6
                                            try clear p6
                                            try clear c7
                                            try clear c7b0
                                            try clear c7b1
                                            try clear c7b2
                                            try clear c9
                                            try clear c16
                                            try clear c19
                                            try clear c20
                                            try clear c20b0
                                            try clear c20b1
                                            try clear c21
                                            try clear c22
                                            try clear c22b0
                                            try clear c23
                                            try clear c23b0
                                            try clear c23b1
                                            try clear c24
                                            try clear c24b0
                                            try clear c27
                                            try clear c27b0
                                            try clear c28
                                            try clear c28b0
                                            try clear c29
                                            try clear c29b0
                                            try clear c30
                                            try clear c30b0
                                            try clear p30
                                            try clear q30
                                            try clear hx30
                                            try clear c31
                                            try clear c31b0
                                            try clear c31b1
                                            try clear c33
                                            try clear p33
                                            try clear q33
                                            try clear hx33
                                            try clear c34
                                            try clear c34b0
                                            try clear c36
                                            try clear c37
                                            try clear c47
                                            try clear c47b0
                                            try clear c47b1
                                            try clear c47b2
                                            try clear c48
                                            try clear c48b0
                                            try clear c48b1
                                            try clear c49
                                            try clear c49b0
                                            try clear c49b1
                                            try clear c49b2
                                            try clear c51
                                            try clear c52
                                            try clear c52b0
                                            try clear c52b1
                                            try clear c52b2
                                            try clear c53
                                            try clear c53b0
                                            try clear c53b1
                                            try clear c54
                                            try clear p64
                                            try clear c65
                                            try clear c65b0
                                            try clear c66
                                            try clear c66b0
                                            try clear c67
                                            try clear c67b0
                                            try clear c68
                                            try clear c68b0
                                            try clear c69
                                            try clear c69b0
                                            try clear c70
                                            try clear c70b0
                                            try clear c71
                                            try clear c71b0
                                            try clear c71b1
                                            try clear hx303_0
                                            try clear hx304_0
                                            try clear hx305_0
                                            try clear hx306_0
                                            try clear hx334_0
                                            try clear hx335_0
                                            try clear p2
                                            try clear p3
                                            try clear p30
                                            try clear p303
                                            try clear p304
                                            try clear p305
                                            try clear p306
                                            try clear p33
                                            try clear p334
                                            try clear p335
                                            try clear p6
                                            try clear p64
                                            try clear q3
                                            try clear q30
                                            try clear q303
                                            try clear q304
                                            try clear q305
                                            try clear q306
                                            try clear q33
                                            try clear q334
                                            try clear q335
                                            obtain ⟨x37_4, x237_4, rfl, rfl, HA, HK4, HO_25, HO_26, HO_217, HO_235, HB⟩ := hrel
                                            cases gk with
                                            | zero => exact absurd HA.out (by simp [laws_FnOrders.l3])
                                            | succ k4 =>
                                              have H := HA.out
                                              clear HA
                                              simp only [laws_FnOrders.l3] at H
                                              by_cases c72 : x237_4 < (t320.length : Int)
                                              · rw [if_pos c72] at H
                                                have c72b0 : decide (x237_4 < (t320.length : Int)) = true := decide_eq_true c72
                                                clear c72
                                                by_cases c73 : 0 ≤ x237_4
                                                · rw [if_pos c73] at H
                                                  have c73b0 : decide (0 ≤ x237_4) = true := decide_eq_true c73
                                                  clear c73
                                                  by_cases c74 : x237_4 < (t320.length : Int)
                                                  · rw [if_pos c74] at H
                                                    have c74b0 : decide (x237_4 < (t320.length : Int)) = true := decide_eq_true c74
                                                    clear c74
                                                    by_cases c75 : (rdOf ByteArray.empty t320 x237_4).toList = (rdOf ByteArray.empty t315 x219_2).toList
                                                    · rw [if_pos c75] at H
                                                      have c75b0 : ((rdOf ByteArray.empty t320 x237_4).toList == (rdOf ByteArray.empty t315 x219_2).toList) = true := beq_iff_eq.mpr c75
                                                      have c75b1 : ((rdOf ByteArray.empty t320 x237_4).toList != (rdOf ByteArray.empty t315 x219_2).toList) = false := bne_eq_false_iff_eq.mpr c75
                                                      clear c75
                                                      have H' := Aside0.mk H
                                                      clear H
                                                      have p336 : 0 ≤ (x237_4 : Int) := of_decide_eq_true (by first | (with_reducible assumption) | assumption)
                                                      have q336 : x237_4 < (t320.length : Int) := of_decide_eq_true (by first | (with_reducible assumption) | assumption)
                                                      obtain ⟨ad336, e336, hx336_0⟩ := Kd.at_string (Kd.R_reads' HO_235.out).2.2 x237_4 p336 q336
                                                      cases e336
                                                      replace p336 := eq_true p336
                                                      replace q336 := eq_true q336
                                                      go_wp2
                                                      repeat (go_quiet (fail); try go_wp2)
                                                      go_roundg k4
                                                      case measure => have := HJ9.out; have := HK2.out; have := HK3.out; have := HK4.out; omega
                                                      case rel => exact ⟨(wrap64 (x37_4 - 1)), (wrap64 (x237_4 + 1)), (by first | rfl | (simp; done) | (simp [*]; done)), (by first | rfl | (simp; done) | (simp [*]; done)), H', ⟨by have := HJ9.out; have := HK2.out; have := HK3.out; have := HK4.out; omega⟩, ⟨by (with_reducible repeat (first | apply Kd.R_alloc | apply Kd.R_drewN | apply Kd.R_drew)); exact HO_25.out⟩, ⟨by (with_reducible repeat (first | apply Kd.R_alloc | apply Kd.R_drewN | apply Kd.R_drew)); exact HO_26.out⟩, ⟨by (with_reducible repeat (first | apply Kd.R_alloc | apply Kd.R_drewN | apply Kd.R_drew)); exact HO_217.out⟩, ⟨by (with_reducible repeat (first | apply Kd.R_alloc | apply Kd.R_drewN | apply Kd.R_drew)); exact HO_235.out⟩, ⟨by repeat (first | (with_reducible first | exact HB.out | apply below_alloc | apply pw_below_drewN | apply below_drew1) | exact HB.out)⟩⟩
                                                    · rw [if_neg c75] at H
                                                      have c75b0 : ((rdOf ByteArray.empty t320 x237_4).toList == (rdOf ByteArray.empty t315 x219_2).toList) = false := beq_eq_false_iff_ne.mpr c75
                                                      have c75b1 : ((rdOf ByteArray.empty t320 x237_4).toList != (rdOf ByteArray.empty t315 x219_2).toList) = true := bne_iff_ne.mpr c75
                                                      have H' := Aside0.mk H
                                                      clear H
                                                      have p336 : 0 ≤ (x237_4 : Int) := of_decide_eq_true (by first | (with_reducible assumption) | assumption)
                                                      have q336 : x237_4 < (t320.length : Int) := of_decide_eq_true (by first | (with_reducible assumption) | assumption)
                                                      obtain ⟨ad336, e336, hx336_0⟩ := Kd.at_string (Kd.R_reads' HO_235.out).2.2 x237_4 p336 q336
                                                      cases e336
                                                      replace p336 := eq_true p336
                                                      replace q336 := eq_true q336
                                                      go_wp2
                                                      repeat (go_quiet (fail); try go_wp2)
                                                      go_roundg k4
                                                      case measure => have := HJ9.out; have := HK2.out; have := HK3.out; have := HK4.out; omega
                                                      case rel => exact ⟨(x37_4), (wrap64 (x237_4 + 1)), (by first | rfl | (simp; done) | (simp [*]; done)), (by first | rfl | (simp; done) | (simp [*]; done)), H', ⟨by have := HJ9.out; have := HK2.out; have := HK3.out; have := HK4.out; omega⟩, ⟨by (with_reducible repeat (first | apply Kd.R_alloc | apply Kd.R_drewN | apply Kd.R_drew)); exact HO_25.out⟩, ⟨by (with_reducible repeat (first | apply Kd.R_alloc | apply Kd.R_drewN | apply Kd.R_drew)); exact HO_26.out⟩, ⟨by (with_reducible repeat (first | apply Kd.R_alloc | apply Kd.R_drewN | apply Kd.R_drew)); exact HO_217.out⟩, ⟨by (with_reducible repeat (first | apply Kd.R_alloc | apply Kd.R_drewN | apply Kd.R_drew)); exact HO_235.out⟩, ⟨by repeat (first | (with_reducible first | exact HB.out | apply below_alloc | apply pw_below_drewN | apply below_drew1) | exact HB.out)⟩⟩
                                                  · rw [if_neg c74] at H
                                                    exact absurd H (by simp)
                                                · rw [if_neg c73] at H
                                                  exact absurd H (by simp)
                                              · rw [if_neg c72] at H
                                                have c72b0 : decide (x237_4 < (t320.length : Int)) = false := decide_eq_false c72
                                                clear c72
                                                by_cases c76 : x37_4 = 0
                                                · rw [if_pos c76] at H
                                                  have c76b0 : (x37_4 == 0) = true := beq_iff_eq.mpr c76
                                                  have c76b1 : (x37_4 != 0) = false := bne_eq_false_iff_eq.mpr c76
                                                  clear c76
                                                  have H' := Aside0.mk H
                                                  clear H
                                                  go_wp2
                                                  repeat (go_quiet (fail); try go_wp2)
                                                  go_roundg k4
                                                  case measure => have := HJ9.out; have := HK2.out; have := HK3.out; have := HK4.out; omega
                                                  case rel => exact ⟨(wrap64 (x219_2 + 1)), (by first | rfl | (simp; done) | (simp [*]; done)), H', ⟨by have := HJ9.out; have := HK2.out; have := HK3.out; have := HK4.out; omega⟩, ⟨by (with_reducible repeat (first | apply Kd.R_alloc | apply Kd.R_drewN | apply Kd.R_drew)); exact Kd.R_mono HO_25.out (fun _ hk => hk.1)⟩, ⟨by (with_reducible repeat (first | apply Kd.R_alloc | apply Kd.R_drewN | apply Kd.R_drew)); exact HO_26.out⟩, ⟨by (with_reducible repeat (first | apply Kd.R_alloc | apply Kd.R_drewN | apply Kd.R_drew)); exact Kd.R_mono HO_217.out (fun _ hk => hk.1)⟩, ⟨by repeat (first | (with_reducible first | exact HB.out | apply below_alloc | apply pw_below_drewN | apply below_drew1) | exact HB.out)⟩⟩
                                                · rw [if_neg c76] at H
                                                  have c76b0 : (x37_4 == 0) = false := beq_eq_false_iff_ne.mpr c76
                                                  have c76b1 : (x37_4 != 0) = true := bne_iff_ne.mpr c76
                                                  obtain rfl := Option.some.inj H
                                                  exact absurd hr_.out (by simp)
                                  · rw [if_neg c67] at H
                                    exact absurd H (by simp)
                                · rw [if_neg c66] at H
                                  exact absurd H (by simp)
                              · rw [if_neg c65] at H
                                have c65b0 : decide (x219_2 < (t315.length : Int)) = false := decide_eq_false c65
                                clear c65
                                obtain rfl := Option.some.inj H
                                simp only [Option.some.injEq, Prod.mk.injEq] at H
                                obtain ⟨rfl⟩ := H
                                go_wp2
                                repeat (go_quiet (fail); try go_wp2)
                                go_ret
                                exact ⟨by first | rfl | (simp [errW_none, errW_some] <;> rfl) | (simp [*, errW_none, errW_some] <;> rfl), by repeat (first | (with_reducible first | exact HB.out | apply below_alloc | apply pw_below_drewN | apply below_drew1) | exact HB.out)⟩
                        · replace c54 := Bool.eq_false_iff.mpr c54
                          subst c54
                          have H1 : (some true) = some r := by rw [if_neg (show ¬ (false = true) by decide)] at H; exact H
                          clear H
                          have H := H1
                          clear H1
                          obtain rfl := Option.some.inj H
                          simp only [Option.some.injEq, Prod.mk.injEq] at H
                          obtain ⟨rfl⟩ := H
                          go_wp2_with (first | (go_at_call 13; (with_reducible refine (spec_DrawNumberOf.calls kj9 _ _ l1 t307 _ ?side1 ?side2 A38.out).mono ?_); (case side1 => repeat (first | exact (Kd.C_below HR1.out HB.out) | (with_reducible refine Kd.C_alloc ?_ _) | (with_reducible refine Kd.C_drewN ?_ _) | (with_reducible refine Kd.C_drew ?_))); (case side2 => exact HC1.out); rintro e w77 ⟨v308, rfl, ho0, hb⟩; have n0_ := Aside0.mk (Kd.R_lower ho0 (below_size (by repeat (first | (with_reducible first | exact HB.out | apply below_alloc | apply pw_below_drewN | apply below_drew1) | exact HB.out)))); have n1_ := Aside0.mk (below_step (by repeat (first | (with_reducible first | exact HB.out | apply below_alloc | apply pw_below_drewN | apply below_drew1) | exact HB.out)) hb); clear HB; have HO309 := n0_; have HB := n1_; clear n0_ n1_; (try clear hb); (try clear hb2); (try clear hk); (try clear hi); (try clear ho0); obtain ⟨Ao78, co78, eo78⟩ := Kd.R_slice HO309.out; subst eo78) | (go_at_call 11; (with_reducible refine (impl_NumberOf.calls kj9 _ _ t307 t310 t311 _ ?side1 ?side2 A39.out).mono ?_); (case side1 => repeat (first | exact (Kd.R_reads' HO309.out).2.2 | (with_reducible refine Kd.C_alloc ?_ _) | (with_reducible refine Kd.C_drewN ?_ _) | (with_reducible refine Kd.C_drew ?_))); (case side2 => exact (Kd.R_reads' HO309.out).2.1); rintro e w' ⟨rfl, ⟨nd, rfl⟩⟩; (try first | exact ⟨rfl, _, World.drewN_drewN _ _ _⟩ | exact ⟨rfl, _, Eq.trans (World.drewN_drewN _ _ _) (congrArg (World.drewN _) (Nat.add_assoc _ _ _))⟩)) | (go_at_call 14; (with_reducible refine (spec_NumberOf.calls kj9 _ _ t307 t312 t313 _ ?side1 ?side2 A40.out).mono ?_); (case side1 => repeat (first | exact (Kd.R_reads' HO309.out).2.2 | (with_reducible refine Kd.C_alloc ?_ _) | (with_reducible refine Kd.C_drewN ?_ _) | (with_reducible refine Kd.C_drew ?_))); (case side2 => exact (Kd.R_reads' HO309.out).2.1); rintro e w' ⟨rfl, ⟨nd, rfl⟩⟩; (try first | exact ⟨rfl, _, World.drewN_drewN _ _ _⟩ | exact ⟨rfl, _, Eq.trans (World.drewN_drewN _ _ _) (congrArg (World.drewN _) (Nat.add_assoc _ _ _))⟩)) | (go_at_call 15; (with_reducible refine (spec_DrawShuffleBy.calls kj9 _ _ l1 t314 t315 _ ?side1 ?side2 A41.out).mono ?_); (case side1 => repeat (first | exact (Kd.C_below HR1.out (by repeat (first | (with_reducible first | exact HB.out | apply below_alloc | apply pw_below_drewN | apply below_drew1) | exact HB.out))) | (with_reducible refine Kd.C_alloc ?_ _) | (with_reducible refine Kd.C_drewN ?_ _) | (with_reducible refine Kd.C_drew ?_))); (case side2 => exact HC1.out); rintro e w79 ⟨v316, v318, rfl, ho0, ho1, hb⟩; have n0_ := Aside0.mk (Kd.R_elder' (by (with_reducible repeat (first | apply Kd.R_alloc | apply Kd.R_drewN | apply Kd.R_drew)); exact HO309.out) (Kd.R_base ho0) hb); have n1_ := Aside0.mk (Kd.R_lower (Kd.R_new' ho0 (Kd.R_lt (by (with_reducible repeat (first | apply Kd.R_alloc | apply Kd.R_drewN | apply Kd.R_drew)); exact HO309.out))) (below_size (by repeat (first | (with_reducible first | exact HB.out | apply below_alloc | apply pw_below_drewN | apply below_drew1) | exact HB.out)))); have n2_ := Aside0.mk (Kd.R_lower ho1 (below_size (by repeat (first | (with_reducible first | exact HB.out | apply below_alloc | apply pw_below_drewN | apply below_drew1) | exact HB.out)))); have n3_ := Aside0.mk (below_step (by repeat (first | (with_reducible first | exact HB.out | apply below_alloc | apply pw_below_drewN | apply below_drew1) | exact HB.out)) hb); clear HO309; clear HB; have HO309 := n0_; have HO317 := n1_; have HO319 := n2_; have HB := n3_; clear n0_ n1_ n2_ n3_; (try clear hb); (try clear hb2); (try clear hk); (try clear hi); (try clear ho0); (try clear ho1); obtain ⟨Ao80, co80, eo80⟩ := Kd.R_slice HO317.out; subst eo80; obtain ⟨Ao81, co81, eo81⟩ := Kd.R_slice HO319.out; subst eo81) | (go_at_call 16; (with_reducible refine (impl_ShuffleBy.calls kj9 _ _ t314 _ _ t315 t320 false _ ?side1 ?side2 ?side3 ?side4 A42.out).mono ?_); (case side1 => repeat (first | exact (Kd.R_reads' HO317.out).2.2 | (with_reducible refine Kd.C_alloc ?_ _) | (with_reducible refine Kd.C_drewN ?_ _) | (with_reducible refine Kd.C_drew ?_))); (case side2 => exact (Kd.R_reads' HO317.out).2.1); (case side3 => repeat (first | exact (Kd.R_reads' HO319.out).2.2 | (with_reducible refine Kd.C_alloc ?_ _) | (with_reducible refine Kd.C_drewN ?_ _) | (with_reducible refine Kd.C_drew ?_))); (case side4 => exact (Kd.R_reads' HO319.out).2.1); rintro e w82 ⟨v322, rfl, ho0, hb⟩; have n0_ := Aside0.mk (Kd.R_below (by (with_reducible repeat (first | apply Kd.R_alloc | apply Kd.R_drewN | apply Kd.R_drew)); exact HO309.out) hb); have n1_ := Aside0.mk (Kd.R_below (by (with_reducible repeat (first | apply Kd.R_alloc | apply Kd.R_drewN | apply Kd.R_drew)); exact HO317.out) hb); have n2_ := Aside0.mk (Kd.R_elder' (by (with_reducible repeat (first | apply Kd.R_alloc | apply Kd.R_drewN | apply Kd.R_drew)); exact HO319.out) (Kd.R_base ho0) hb); have n3_ := Aside0.mk (Kd.R_lower (Kd.R_new' ho0 (Kd.R_lt (by (with_reducible repeat (first | apply Kd.R_alloc | apply Kd.R_drewN | apply Kd.R_drew)); exact HO319.out))) (below_size (by repeat (first | (with_reducible first | exact HB.out | apply below_alloc | apply pw_below_drewN | apply below_drew1) | exact HB.out)))); have n4_ := Aside0.mk (below_step (by repeat (first | (with_reducible first | exact HB.out | apply below_alloc | apply pw_below_drewN | apply below_drew1) | exact HB.out)) hb); clear HO309; clear HO317; clear HO319; clear HB; have HO309 := n0_; have HO317 := n1_; have HO319 := n2_; have HO323 := n3_; have HB := n4_; clear n0_ n1_ n2_ n3_ n4_; (try clear hb); (try clear hb2); (try clear hk); (try clear hi); (try clear ho0)) | (go_at_call 17; (with_reducible refine (spec_ShuffleBy.calls kj9 _ _ t314 _ _ t315 t324 t325 _ ?side1 ?side2 ?side3 ?side4 A43.out).mono ?_); (case side1 => repeat (first | exact (Kd.R_reads' HO317.out).2.2 | (with_reducible refine Kd.C_alloc ?_ _) | (with_reducible refine Kd.C_drewN ?_ _) | (with_reducible refine Kd.C_drew ?_))); (case side2 => exact (Kd.R_reads' HO317.out).2.1); (case side3 => repeat (first | exact (Kd.R_reads' HO319.out).2.2 | (with_reducible refine Kd.C_alloc ?_ _) | (with_reducible refine Kd.C_drewN ?_ _) | (with_reducible refine Kd.C_drew ?_))); (case side4 => exact (Kd.R_reads' HO319.out).2.1); rintro e w83 ⟨v326, rfl, ho0, hb⟩; have n0_ := Aside0.mk (Kd.R_below (by (with_reducible repeat (first | apply Kd.R_alloc | apply Kd.R_drewN | apply Kd.R_drew)); exact HO309.out) hb); have n1_ := Aside0.mk (Kd.R_below (by (with_reducible repeat (first | apply Kd.R_alloc | apply Kd.R_drewN | apply Kd.R_drew)); exact HO317.out) hb); have n2_ := Aside0.mk (Kd.R_elder' (by (with_reducible repeat (first | apply Kd.R_alloc | apply Kd.R_drewN | apply Kd.R_drew)); exact HO319.out) (Kd.R_base ho0) hb); have n3_ := Aside0.mk (Kd.R_elder' (by (with_reducible repeat (first | apply Kd.R_alloc | apply Kd.R_drewN | apply Kd.R_drew)); exact HO323.out) (Kd.R_base ho0) hb); have n4_ := Aside0.mk (Kd.R_lower (Kd.R_new' (Kd.R_new' ho0 (Kd.R_lt (by (with_reducible repeat (first | apply Kd.R_alloc | apply Kd.R_drewN | apply Kd.R_drew)); exact HO319.out))) (Kd.R_lt (by (with_reducible repeat (first | apply Kd.R_alloc | apply Kd.R_drewN | apply Kd.R_drew)); exact HO323.out))) (below_size (by repeat (first | (with_reducible first | exact HB.out | apply below_alloc | apply pw_below_drewN | apply below_drew1) | exact HB.out)))); have n5_ := Aside0.mk (below_step (by repeat (first | (with_reducible first | exact HB.out | apply below_alloc | apply pw_below_drewN | apply below_drew1) | exact HB.out)) hb); clear HO309; clear HO317; clear HO319; clear HO323; clear HB; have HO309 := n0_; have HO317 := n1_; have HO319 := n2_; have HO323 := n3_; have HO327 := n4_; have HB := n5_; clear n0_ n1_ n2_ n3_ n4_ n5_; (try clear hb); (try clear hb2); (try clear hk); (try clear hi); (try clear ho0)) | (go_at_call 18; (with_reducible refine (spec_DrawOrdersOf.calls _ _ l1 t328 _ ?side1 ?side2 A44.out).mono ?_); (case side1 => repeat (first | exact (Kd.C_below HR1.out HB.out) | (with_reducible refine Kd.C_alloc ?_ _) | (with_reducible refine Kd.C_drewN ?_ _) | (with_reducible refine Kd.C_drew ?_))); (case side2 => exact HC1.out); rintro e w84 ⟨rfl, hb⟩; have n0_ := Aside0.mk (Kd.R_below (by (with_reducible repeat (first | apply Kd.R_alloc | apply Kd.R_drewN | apply Kd.R_drew)); exact HO309.out) hb); have n1_ := Aside0.mk (Kd.R_below (by (with_reducible repeat (first | apply Kd.R_alloc | apply Kd.R_drewN | apply Kd.R_drew)); exact HO317.out) hb); have n2_ := Aside0.mk (Kd.R_below (by (with_reducible repeat (first | apply Kd.R_alloc | apply Kd.R_drewN | apply Kd.R_drew)); exact HO319.out) hb); have n3_ := Aside0.mk (Kd.R_below (by (with_reducible repeat (first | apply Kd.R_alloc | apply Kd.R_drewN | apply Kd.R_drew)); exact HO323.out) hb); have n4_ := Aside0.mk (Kd.R_below (by (with_reducible repeat (first | apply Kd.R_alloc | apply Kd.R_drewN | apply Kd.R_drew)); exact HO327.out) hb); have n5_ := Aside0.mk (below_step (by repeat (first | (with_reducible first | exact HB.out | apply below_alloc | apply pw_below_drewN | apply below_drew1) | exact HB.out)) hb); clear HO309; clear HO317; clear HO319; clear HO323; clear HO327; clear HB; have HO309 := n0_; have HO317 := n1_; have HO319 := n2_; have HO323 := n3_; have HO327 := n4_; have HB := n5_; clear n0_ n1_ n2_ n3_ n4_ n5_; (try clear hb); (try clear hb2); (try clear hk); (try clear hi)) | (go_at_call 12; (with_reducible refine (impl_OrdersOf.calls kj9 t328 t329 t330 _ A45.out).mono ?_); rintro e w' ⟨rfl, ⟨nd, rfl⟩⟩; (try first | exact ⟨rfl, _, World.drewN_drewN _ _ _⟩ | exact ⟨rfl, _, Eq.trans (World.drewN_drewN _ _ _) (congrArg (World.drewN _) (Nat.add_assoc _ _ _))⟩)) | (go_at_call 19; (with_reducible refine (spec_OrdersOf.calls kj9 t328 t331 t332 _ A46.out).mono ?_); rintro e w' ⟨rfl, ⟨nd, rfl⟩⟩; (try first | exact ⟨rfl, _, World.drewN_drewN _ _ _⟩ | exact ⟨rfl, _, Eq.trans (World.drewN_drewN _ _ _) (congrArg (World.drewN _) (Nat.add_assoc _ _ _))⟩); obtain ⟨Ao85, co85, eo85⟩ := Kd.R_slice HO323.out; subst eo85; obtain ⟨Ao86, co86, eo86⟩ := Kd.R_slice HO327.out; subst eo86) | (go_at_call 20; (with_reducible refine (laws_sameTexts.calls kj9 _ _ t320 _ _ t324 true _ ?side1 ?side2 ?side3 ?side4 A50.out).mono ?_); (case side1 => repeat (first | exact (Kd.R_reads' HO323.out).2.2 | (with_reducible refine Kd.C_alloc ?_ _) | (with_reducible refine Kd.C_drewN ?_ _) | (with_reducible refine Kd.C_drew ?_))); (case side2 => exact (Kd.R_reads' HO323.out).2.1); (case side3 => repeat (first | exact (Kd.R_reads' HO327.out).2.2 | (with_reducible refine Kd.C_alloc ?_ _) | (with_reducible refine Kd.C_drewN ?_ _) | (with_reducible refine Kd.C_drew ?_))); (case side4 => exact (Kd.R_reads' HO327.out).2.1); rintro e w' ⟨rfl, ⟨nd, rfl⟩⟩; (try first | exact ⟨rfl, _, World.drewN_drewN _ _ _⟩ | exact ⟨rfl, _, Eq.trans (World.drewN_drewN _ _ _) (congrArg (World.drewN _) (Nat.add_assoc _ _ _))⟩)))
                          repeat (go_quiet (first | (go_at_call 13; (with_reducible refine (spec_DrawNumberOf.calls kj9 _ _ l1 t307 _ ?side1 ?side2 A38.out).mono ?_); (case side1 => repeat (first | exact (Kd.C_below HR1.out HB.out) | (with_reducible refine Kd.C_alloc ?_ _) | (with_reducible refine Kd.C_drewN ?_ _) | (with_reducible refine Kd.C_drew ?_))); (case side2 => exact HC1.out); rintro e w77 ⟨v308, rfl, ho0, hb⟩; have n0_ := Aside0.mk (Kd.R_lower ho0 (below_size (by repeat (first | (with_reducible first | exact HB.out | apply below_alloc | apply pw_below_drewN | apply below_drew1) | exact HB.out)))); have n1_ := Aside0.mk (below_step (by repeat (first | (with_reducible first | exact HB.out | apply below_alloc | apply pw_below_drewN | apply below_drew1) | exact HB.out)) hb); clear HB; have HO309 := n0_; have HB := n1_; clear n0_ n1_; (try clear hb); (try clear hb2); (try clear hk); (try clear hi); (try clear ho0); obtain ⟨Ao78, co78, eo78⟩ := Kd.R_slice HO309.out; subst eo78) | (go_at_call 11; (with_reducible refine (impl_NumberOf.calls kj9 _ _ t307 t310 t311 _ ?side1 ?side2 A39.out).mono ?_); (case side1 => repeat (first | exact (Kd.R_reads' HO309.out).2.2 | (with_reducible refine Kd.C_alloc ?_ _) | (with_reducible refine Kd.C_drewN ?_ _) | (with_reducible refine Kd.C_drew ?_))); (case side2 => exact (Kd.R_reads' HO309.out).2.1); rintro e w' ⟨rfl, ⟨nd, rfl⟩⟩; (try first | exact ⟨rfl, _, World.drewN_drewN _ _ _⟩ | exact ⟨rfl, _, Eq.trans (World.drewN_drewN _ _ _) (congrArg (World.drewN _) (Nat.add_assoc _ _ _))⟩)) | (go_at_call 14; (with_reducible refine (spec_NumberOf.calls kj9 _ _ t307 t312 t313 _ ?side1 ?side2 A40.out).mono ?_); (case side1 => repeat (first | exact (Kd.R_reads' HO309.out).2.2 | (with_reducible refine Kd.C_alloc ?_ _) | (with_reducible refine Kd.C_drewN ?_ _) | (with_reducible refine Kd.C_drew ?_))); (case side2 => exact (Kd.R_reads' HO309.out).2.1); rintro e w' ⟨rfl, ⟨nd, rfl⟩⟩; (try first | exact ⟨rfl, _, World.drewN_drewN _ _ _⟩ | exact ⟨rfl, _, Eq.trans (World.drewN_drewN _ _ _) (congrArg (World.drewN _) (Nat.add_assoc _ _ _))⟩)) | (go_at_call 15; (with_reducible refine (spec_DrawShuffleBy.calls kj9 _ _ l1 t314 t315 _ ?side1 ?side2 A41.out).mono ?_); (case side1 => repeat (first | exact (Kd.C_below HR1.out (by repeat (first | (with_reducible first | exact HB.out | apply below_alloc | apply pw_below_drewN | apply below_drew1) | exact HB.out))) | (with_reducible refine Kd.C_alloc ?_ _) | (with_reducible refine Kd.C_drewN ?_ _) | (with_reducible refine Kd.C_drew ?_))); (case side2 => exact HC1.out); rintro e w79 ⟨v316, v318, rfl, ho0, ho1, hb⟩; have n0_ := Aside0.mk (Kd.R_elder' (by (with_reducible repeat (first | apply Kd.R_alloc | apply Kd.R_drewN | apply Kd.R_drew)); exact HO309.out) (Kd.R_base ho0) hb); have n1_ := Aside0.mk (Kd.R_lower (Kd.R_new' ho0 (Kd.R_lt (by (with_reducible repeat (first | apply Kd.R_alloc | apply Kd.R_drewN | apply Kd.R_drew)); exact HO309.out))) (below_size (by repeat (first | (with_reducible first | exact HB.out | apply below_alloc | apply pw_below_drewN | apply below_drew1) | exact HB.out)))); have n2_ := Aside0.mk (Kd.R_lower ho1 (below_size (by repeat (first | (with_reducible first | exact HB.out | apply below_alloc | apply pw_below_drewN | apply below_drew1) | exact HB.out)))); have n3_ := Aside0.mk (below_step (by repeat (first | (with_reducible first | exact HB.out | apply below_alloc | apply pw_below_drewN | apply below_drew1) | exact HB.out)) hb); clear HO309; clear HB; have HO309 := n0_; have HO317 := n1_; have HO319 := n2_; have HB := n3_; clear n0_ n1_ n2_ n3_; (try clear hb); (try clear hb2); (try clear hk); (try clear hi); (try clear ho0); (try clear ho1); obtain ⟨Ao80, co80, eo80⟩ := Kd.R_slice HO317.out; subst eo80; obtain ⟨Ao81, co81, eo81⟩ := Kd.R_slice HO319.out; subst eo81) | (go_at_call 16; (with_reducible refine (impl_ShuffleBy.calls kj9 _ _ t314 _ _ t315 t320 false _ ?side1 ?side2 ?side3 ?side4 A42.out).mono ?_); (case side1 => repeat (first | exact (Kd.R_reads' HO317.out).2.2 | (with_reducible refine Kd.C_alloc ?_ _) | (with_reducible refine Kd.C_drewN ?_ _) | (with_reducible refine Kd.C_drew ?_))); (case side2 => exact (Kd.R_reads' HO317.out).2.1); (case side3 => repeat (first | exact (Kd.R_reads' HO319.out).2.2 | (with_reducible refine Kd.C_alloc ?_ _) | (with_reducible refine Kd.C_drewN ?_ _) | (with_reducible refine Kd.C_drew ?_))); (case side4 => exact (Kd.R_reads' HO319.out).2.1); rintro e w82 ⟨v322, rfl, ho0, hb⟩; have n0_ := Aside0.mk (Kd.R_below (by (with_reducible repeat (first | apply Kd.R_alloc | apply Kd.R_drewN | apply Kd.R_drew)); exact HO309.out) hb); have n1_ := Aside0.mk (Kd.R_below (by (with_reducible repeat (first | apply Kd.R_alloc | apply Kd.R_drewN | apply Kd.R_drew)); exact HO317.out) hb); have n2_ := Aside0.mk (Kd.R_elder' (by (with_reducible repeat (first | apply Kd.R_alloc | apply Kd.R_drewN | apply Kd.R_drew)); exact HO319.out) (Kd.R_base ho0) hb); have n3_ := Aside0.mk (Kd.R_lower (Kd.R_new' ho0 (Kd.R_lt (by (with_reducible repeat (first | apply Kd.R_alloc | apply Kd.R_drewN | apply Kd.R_drew)); exact HO319.out))) (below_size (by repeat (first | (with_reducible first | exact HB.out | apply below_alloc | apply pw_below_drewN | apply below_drew1) | exact HB.out)))); have n4_ := Aside0.mk (below_step (by repeat (first | (with_reducible first | exact HB.out | apply below_alloc | apply pw_below_drewN | apply below_drew1) | exact HB.out)) hb); clear HO309; clear HO317; clear HO319; clear HB; have HO309 := n0_; have HO317 := n1_; have HO319 := n2_; have HO323 := n3_; have HB := n4_; clear n0_ n1_ n2_ n3_ n4_; (try clear hb); (try clear hb2); (try clear hk); (try clear hi); (try clear ho0)) | (go_at_call 17; (with_reducible refine (spec_ShuffleBy.calls kj9 _ _ t314 _ _ t315 t324 t325 _ ?side1 ?side2 ?side3 ?side4 A43.out).mono ?_); (case side1 => repeat (first | exact (Kd.R_reads' HO317.out).2.2 | (with_reducible refine Kd.C_alloc ?_ _) | (with_reducible refine Kd.C_drewN ?_ _) | (with_reducible refine Kd.C_drew ?_))); (case side2 => exact (Kd.R_reads' HO317.out).2.1); (case side3 => repeat (first | exact (Kd.R_reads' HO319.out).2.2 | (with_reducible refine Kd.C_alloc ?_ _) | (with_reducible refine Kd.C_drewN ?_ _) | (with_reducible refine Kd.C_drew ?_))); (case side4 => exact (Kd.R_reads' HO319.out).2.1); rintro e w83 ⟨v326, rfl, ho0, hb⟩; have n0_ := Aside0.mk (Kd.R_below (by (with_reducible repeat (first | apply Kd.R_alloc | apply Kd.R_drewN | apply Kd.R_drew)); exact HO309.out) hb); have n1_ := Aside0.mk (Kd.R_below (by (with_reducible repeat (first | apply Kd.R_alloc | apply Kd.R_drewN | apply Kd.R_drew)); exact HO317.out) hb); have n2_ := Aside0.mk (Kd.R_elder' (by (with_reducible repeat (first | apply Kd.R_alloc | apply Kd.R_drewN | apply Kd.R_drew)); exact HO319.out) (Kd.R_base ho0) hb); have n3_ := Aside0.mk (Kd.R_elder' (by (with_reducible repeat (first | apply Kd.R_alloc | apply Kd.R_drewN | apply Kd.R_drew)); exact HO323.out) (Kd.R_base ho0) hb); have n4_ := Aside0.mk (Kd.R_lower (Kd.R_new' (Kd.R_new' ho0 (Kd.R_lt (by (with_reducible repeat (first | apply Kd.R_alloc | apply Kd.R_drewN | apply Kd.R_drew)); exact HO319.out))) (Kd.R_lt (by (with_reducible repeat (first | apply Kd.R_alloc | apply Kd.R_drewN | apply Kd.R_drew)); exact HO323.out))) (below_size (by repeat (first | (with_reducible first | exact HB.out | apply below_alloc | apply pw_below_drewN | apply below_drew1) | exact HB.out)))); have n5_ := Aside0.mk (below_step (by repeat (first | (with_reducible first | exact HB.out | apply below_alloc | apply pw_below_drewN | apply below_drew1) | exact HB.out)) hb); clear HO309; clear HO317; clear HO319; clear HO323; clear HB; have HO309 := n0_; have HO317 := n1_; have HO319 := n2_; have HO323 := n3_; have HO327 := n4_; have HB := n5_; clear n0_ n1_ n2_ n3_ n4_ n5_; (try clear hb); (try clear hb2); (try clear hk); (try clear hi); (try clear ho0)) | (go_at_call 18; (with_reducible refine (spec_DrawOrdersOf.calls _ _ l1 t328 _ ?side1 ?side2 A44.out).mono ?_); (case side1 => repeat (first | exact (Kd.C_below HR1.out HB.out) | (with_reducible refine Kd.C_alloc ?_ _) | (with_reducible refine Kd.C_drewN ?_ _) | (with_reducible refine Kd.C_drew ?_))); (case side2 => exact HC1.out); rintro e w84 ⟨rfl, hb⟩; have n0_ := Aside0.mk (Kd.R_below (by (with_reducible repeat (first | apply Kd.R_alloc | apply Kd.R_drewN | apply Kd.R_drew)); exact HO309.out) hb); have n1_ := Aside0.mk (Kd.R_below (by (with_reducible repeat (first | apply Kd.R_alloc | apply Kd.R_drewN | apply Kd.R_drew)); exact HO317.out) hb); have n2_ := Aside0.mk (Kd.R_below (by (with_reducible repeat (first | apply Kd.R_alloc | apply Kd.R_drewN | apply Kd.R_drew)); exact HO319.out) hb); have n3_ := Aside0.mk (Kd.R_below (by (with_reducible repeat (first | apply Kd.R_alloc | apply Kd.R_drewN | apply Kd.R_drew)); exact HO323.out) hb); have n4_ := Aside0.mk (Kd.R_below (by (with_reducible repeat (first | apply Kd.R_alloc | apply Kd.R_drewN | apply Kd.R_drew)); exact HO327.out) hb); have n5_ := Aside0.mk (below_step (by repeat (first | (with_reducible first | exact HB.out | apply below_alloc | apply pw_below_drewN | apply below_drew1) | exact HB.out)) hb); clear HO309; clear HO317; clear HO319; clear HO323; clear HO327; clear HB; have HO309 := n0_; have HO317 := n1_; have HO319 := n2_; have HO323 := n3_; have HO327 := n4_; have HB := n5_; clear n0_ n1_ n2_ n3_ n4_ n5_; (try clear hb); (try clear hb2); (try clear hk); (try clear hi)) | (go_at_call 12; (with_reducible refine (impl_OrdersOf.calls kj9 t328 t329 t330 _ A45.out).mono ?_); rintro e w' ⟨rfl, ⟨nd, rfl⟩⟩; (try first | exact ⟨rfl, _, World.drewN_drewN _ _ _⟩ | exact ⟨rfl, _, Eq.trans (World.drewN_drewN _ _ _) (congrArg (World.drewN _) (Nat.add_assoc _ _ _))⟩)) | (go_at_call 19; (with_reducible refine (spec_OrdersOf.calls kj9 t328 t331 t332 _ A46.out).mono ?_); rintro e w' ⟨rfl, ⟨nd, rfl⟩⟩; (try first | exact ⟨rfl, _, World.drewN_drewN _ _ _⟩ | exact ⟨rfl, _, Eq.trans (World.drewN_drewN _ _ _) (congrArg (World.drewN _) (Nat.add_assoc _ _ _))⟩); obtain ⟨Ao85, co85, eo85⟩ := Kd.R_slice HO323.out; subst eo85; obtain ⟨Ao86, co86, eo86⟩ := Kd.R_slice HO327.out; subst eo86) | (go_at_call 20; (with_reducible refine (laws_sameTexts.calls kj9 _ _ t320 _ _ t324 true _ ?side1 ?side2 ?side3 ?side4 A50.out).mono ?_); (case side1 => repeat (first | exact (Kd.R_reads' HO323.out).2.2 | (with_reducible refine Kd.C_alloc ?_ _) | (with_reducible refine Kd.C_drewN ?_ _) | (with_reducible refine Kd.C_drew ?_))); (case side2 => exact (Kd.R_reads' HO323.out).2.1); (case side3 => repeat (first | exact (Kd.R_reads' HO327.out).2.2 | (with_reducible refine Kd.C_alloc ?_ _) | (with_reducible refine Kd.C_drewN ?_ _) | (with_reducible refine Kd.C_drew ?_))); (case side4 => exact (Kd.R_reads' HO327.out).2.1); rintro e w' ⟨rfl, ⟨nd, rfl⟩⟩; (try first | exact ⟨rfl, _, World.drewN_drewN _ _ _⟩ | exact ⟨rfl, _, Eq.trans (World.drewN_drewN _ _ _) (congrArg (World.drewN _) (Nat.add_assoc _ _ _))⟩))); try go_wp2_with (first | (go_at_call 13; (with_reducible refine (spec_DrawNumberOf.calls kj9 _ _ l1 t307 _ ?side1 ?side2 A38.out).mono ?_); (case side1 => repeat (first | exact (Kd.C_below HR1.out HB.out) | (with_reducible refine Kd.C_alloc ?_ _) | (with_reducible refine Kd.C_drewN ?_ _) | (with_reducible refine Kd.C_drew ?_))); (case side2 => exact HC1.out); rintro e w77 ⟨v308, rfl, ho0, hb⟩; have n0_ := Aside0.mk (Kd.R_lower ho0 (below_size (by repeat (first | (with_reducible first | exact HB.out | apply below_alloc | apply pw_below_drewN | apply below_drew1) | exact HB.out)))); have n1_ := Aside0.mk (below_step (by repeat (first | (with_reducible first | exact HB.out | apply below_alloc | apply pw_below_drewN | apply below_drew1) | exact HB.out)) hb); clear HB; have HO309 := n0_; have HB := n1_; clear n0_ n1_; (try clear hb); (try clear hb2); (try clear hk); (try clear hi); (try clear ho0); obtain ⟨Ao78, co78, eo78⟩ := Kd.R_slice HO309.out; subst eo78) | (go_at_call 11; (with_reducible refine (impl_NumberOf.calls kj9 _ _ t307 t310 t311 _ ?side1 ?side2 A39.out).mono ?_); (case side1 => repeat (first | exact (Kd.R_reads' HO309.out).2.2 | (with_reducible refine Kd.C_alloc ?_ _) | (with_reducible refine Kd.C_drewN ?_ _) | (with_reducible refine Kd.C_drew ?_))); (case side2 => exact (Kd.R_reads' HO309.out).2.1); rintro e w' ⟨rfl, ⟨nd, rfl⟩⟩; (try first | exact ⟨rfl, _, World.drewN_drewN _ _ _⟩ | exact ⟨rfl, _, Eq.trans (World.drewN_drewN _ _ _) (congrArg (World.drewN _) (Nat.add_assoc _ _ _))⟩)) | (go_at_call 14; (with_reducible refine (spec_NumberOf.calls kj9 _ _ t307 t312 t313 _ ?side1 ?side2 A40.out).mono ?_); (case side1 => repeat (first | exact (Kd.R_reads' HO309.out).2.2 | (with_reducible refine Kd.C_alloc ?_ _) | (with_reducible refine Kd.C_drewN ?_ _) | (with_reducible refine Kd.C_drew ?_))); (case side2 => exact (Kd.R_reads' HO309.out).2.1); rintro e w' ⟨rfl, ⟨nd, rfl⟩⟩; (try first | exact ⟨rfl, _, World.drewN_drewN _ _ _⟩ | exact ⟨rfl, _, Eq.trans (World.drewN_drewN _ _ _) (congrArg (World.drewN _) (Nat.add_assoc _ _ _))⟩)) | (go_at_call 15; (with_reducible refine (spec_DrawShuffleBy.calls kj9 _ _ l1 t314 t315 _ ?side1 ?side2 A41.out).mono ?_); (case side1 => repeat (first | exact (Kd.C_below HR1.out (by repeat (first | (with_reducible first | exact HB.out | apply below_alloc | apply pw_below_drewN | apply below_drew1) | exact HB.out))) | (with_reducible refine Kd.C_alloc ?_ _) | (with_reducible refine Kd.C_drewN ?_ _) | (with_reducible refine Kd.C_drew ?_))); (case side2 => exact HC1.out); rintro e w79 ⟨v316, v318, rfl, ho0, ho1, hb⟩; have n0_ := Aside0.mk (Kd.R_elder' (by (with_reducible repeat (first | apply Kd.R_alloc | apply Kd.R_drewN | apply Kd.R_drew)); exact HO309.out) (Kd.R_base ho0) hb); have n1_ := Aside0.mk (Kd.R_lower (Kd.R_new' ho0 (Kd.R_lt (by (with_reducible repeat (first | apply Kd.R_alloc | apply Kd.R_drewN | apply Kd.R_drew)); exact HO309.out))) (below_size (by repeat (first | (with_reducible first | exact HB.out | apply below_alloc | apply pw_below_drewN | apply below_drew1) | exact HB.out)))); have n2_ := Aside0.mk (Kd.R_lower ho1 (below_size (by repeat (first | (with_reducible first | exact HB.out | apply below_alloc | apply pw_below_drewN | apply below_drew1) | exact HB.out)))); have n3_ := Aside0.mk (below_step (by repeat (first | (with_reducible first | exact HB.out | apply below_alloc | apply pw_below_drewN | apply below_drew1) | exact HB.out)) hb); clear HO309; clear HB; have HO309 := n0_; have HO317 := n1_; have HO319 := n2_; have HB := n3_; clear n0_ n1_ n2_ n3_; (try clear hb); (try clear hb2); (try clear hk); (try clear hi); (try clear ho0); (try clear ho1); obtain ⟨Ao80, co80, eo80⟩ := Kd.R_slice HO317.out; subst eo80; obtain ⟨Ao81, co81, eo81⟩ := Kd.R_slice HO319.out; subst eo81) | (go_at_call 16; (with_reducible refine (impl_ShuffleBy.calls kj9 _ _ t314 _ _ t315 t320 false _ ?side1 ?side2 ?side3 ?side4 A42.out).mono ?_); (case side1 => repeat (first | exact (Kd.R_reads' HO317.out).2.2 | (with_reducible refine Kd.C_alloc ?_ _) | (with_reducible refine Kd.C_drewN ?_ _) | (with_reducible refine Kd.C_drew ?_))); (case side2 => exact (Kd.R_reads' HO317.out).2.1); (case side3 => repeat (first | exact (Kd.R_reads' HO319.out).2.2 | (with_reducible refine Kd.C_alloc ?_ _) | (with_reducible refine Kd.C_drewN ?_ _) | (with_reducible refine Kd.C_drew ?_))); (case side4 => exact (Kd.R_reads' HO319.out).2.1); rintro e w82 ⟨v322, rfl, ho0, hb⟩; have n0_ := Aside0.mk (Kd.R_below (by (with_reducible repeat (first | apply Kd.R_alloc | apply Kd.R_drewN | apply Kd.R_drew)); exact HO309.out) hb); have n1_ := Aside0.mk (Kd.R_below (by (with_reducible repeat (first | apply Kd.R_alloc | apply Kd.R_drewN | apply Kd.R_drew)); exact HO317.out) hb); have n2_ := Aside0.mk (Kd.R_elder' (by (with_reducible repeat (first | apply Kd.R_alloc | apply Kd.R_drewN | apply Kd.R_drew)); exact HO319.out) (Kd.R_base ho0) hb); have n3_ := Aside0.mk (Kd.R_lower (Kd.R_new' ho0 (Kd.R_lt (by (with_reducible repeat (first | apply Kd.R_alloc | apply Kd.R_drewN | apply Kd.R_drew)); exact HO319.out))) (below_size (by repeat (first | (with_reducible first | exact HB.out | apply below_alloc | apply pw_below_drewN | apply below_drew1) | exact HB.out)))); have n4_ := Aside0.mk (below_step (by repeat (first | (with_reducible first | exact HB.out | apply below_alloc | apply pw_below_drewN | apply below_drew1) | exact HB.out)) hb); clear HO309; clear HO317; clear HO319; clear HB; have HO309 := n0_; have HO317 := n1_; have HO319 := n2_; have HO323 := n3_; have HB := n4_; clear n0_ n1_ n2_ n3_ n4_; (try clear hb); (try clear hb2); (try clear hk); (try clear hi); (try clear ho0)) | (go_at_call 17; (with_reducible refine (spec_ShuffleBy.calls kj9 _ _ t314 _ _ t315 t324 t325 _ ?side1 ?side2 ?side3 ?side4 A43.out).mono ?_); (case side1 => repeat (first | exact (Kd.R_reads' HO317.out).2.2 | (with_reducible refine Kd.C_alloc ?_ _) | (with_reducible refine Kd.C_drewN ?_ _) | (with_reducible refine Kd.C_drew ?_))); (case side2 => exact (Kd.R_reads' HO317.out).2.1); (case side3 => repeat (first | exact (Kd.R_reads' HO319.out).2.2 | (with_reducible refine Kd.C_alloc ?_ _) | (with_reducible refine Kd.C_drewN ?_ _) | (with_reducible refine Kd.C_drew ?_))); (case side4 => exact (Kd.R_reads' HO319.out).2.1); rintro e w83 ⟨v326, rfl, ho0, hb⟩; have n0_ := Aside0.mk (Kd.R_below (by (with_reducible repeat (first | apply Kd.R_alloc | apply Kd.R_drewN | apply Kd.R_drew)); exact HO309.out) hb); have n1_ := Aside0.mk (Kd.R_below (by (with_reducible repeat (first | apply Kd.R_alloc | apply Kd.R_drewN | apply Kd.R_drew)); exact HO317.out) hb); have n2_ := Aside0.mk (Kd.R_elder' (by (with_reducible repeat (first | apply Kd.R_alloc | apply Kd.R_drewN | apply Kd.R_drew)); exact HO319.out) (Kd.R_base ho0) hb); have n3_ := Aside0.mk (Kd.R_elder' (by (with_reducible repeat (first | apply Kd.R_alloc | apply Kd.R_drewN | apply Kd.R_drew)); exact HO323.out) (Kd.R_base ho0) hb); have n4_ := Aside0.mk (Kd.R_lower (Kd.R_new' (Kd.R_new' ho0 (Kd.R_lt (by (with_reducible repeat (first | apply Kd.R_alloc | apply Kd.R_drewN | apply Kd.R_drew)); exact HO319.out))) (Kd.R_lt (by (with_reducible repeat (first | apply Kd.R_alloc | apply Kd.R_drewN | apply Kd.R_drew)); exact HO323.out))) (below_size (by repeat (first | (with_reducible first | exact HB.out | apply below_alloc | apply pw_below_drewN | apply below_drew1) | exact HB.out)))); have n5_ := Aside0.mk (below_step (by repeat (first | (with_reducible first | exact HB.out | apply below_alloc | apply pw_below_drewN | apply below_drew1) | exact HB.out)) hb); clear HO309; clear HO317; clear HO319; clear HO323; clear HB; have HO309 := n0_; have HO317 := n1_; have HO319 := n2_; have HO323 := n3_; have HO327 := n4_; have HB := n5_; clear n0_ n1_ n2_ n3_ n4_ n5_; (try clear hb); (try clear hb2); (try clear hk); (try clear hi); (try clear ho0)) | (go_at_call 18; (with_reducible refine (spec_DrawOrdersOf.calls _ _ l1 t328 _ ?side1 ?side2 A44.out).mono ?_); (case side1 => repeat (first | exact (Kd.C_below HR1.out HB.out) | (with_reducible refine Kd.C_alloc ?_ _) | (with_reducible refine Kd.C_drewN ?_ _) | (with_reducible refine Kd.C_drew ?_))); (case side2 => exact HC1.out); rintro e w84 ⟨rfl, hb⟩; have n0_ := Aside0.mk (Kd.R_below (by (with_reducible repeat (first | apply Kd.R_alloc | apply Kd.R_drewN | apply Kd.R_drew)); exact HO309.out) hb); have n1_ := Aside0.mk (Kd.R_below (by (with_reducible repeat (first | apply Kd.R_alloc | apply Kd.R_drewN | apply Kd.R_drew)); exact HO317.out) hb); have n2_ := Aside0.mk (Kd.R_below (by (with_reducible repeat (first | apply Kd.R_alloc | apply Kd.R_drewN | apply Kd.R_drew)); exact HO319.out) hb); have n3_ := Aside0.mk (Kd.R_below (by (with_reducible repeat (first | apply Kd.R_alloc | apply Kd.R_drewN | apply Kd.R_drew)); exact HO323.out) hb); have n4_ := Aside0.mk (Kd.R_below (by (with_reducible repeat (first | apply Kd.R_alloc | apply Kd.R_drewN | apply Kd.R_drew)); exact HO327.out) hb); have n5_ := Aside0.mk (below_step (by repeat (first | (with_reducible first | exact HB.out | apply below_alloc | apply pw_below_drewN | apply below_drew1) | exact HB.out)) hb); clear HO309; clear HO317; clear HO319; clear HO323; clear HO327; clear HB; have HO309 := n0_; have HO317 := n1_; have HO319 := n2_; have HO323 := n3_; have HO327 := n4_; have HB := n5_; clear n0_ n1_ n2_ n3_ n4_ n5_; (try clear hb); (try clear hb2); (try clear hk); (try clear hi)) | (go_at_call 12; (with_reducible refine (impl_OrdersOf.calls kj9 t328 t329 t330 _ A45.out).mono ?_); rintro e w' ⟨rfl, ⟨nd, rfl⟩⟩; (try first | exact ⟨rfl, _, World.drewN_drewN _ _ _⟩ | exact ⟨rfl, _, Eq.trans (World.drewN_drewN _ _ _) (congrArg (World.drewN _) (Nat.add_assoc _ _ _))⟩)) | (go_at_call 19; (with_reducible refine (spec_OrdersOf.calls kj9 t328 t331 t332 _ A46.out).mono ?_); rintro e w' ⟨rfl, ⟨nd, rfl⟩⟩; (try first | exact ⟨rfl, _, World.drewN_drewN _ _ _⟩ | exact ⟨rfl, _, Eq.trans (World.drewN_drewN _ _ _) (congrArg (World.drewN _) (Nat.add_assoc _ _ _))⟩); obtain ⟨Ao85, co85, eo85⟩ := Kd.R_slice HO323.out; subst eo85; obtain ⟨Ao86, co86, eo86⟩ := Kd.R_slice HO327.out; subst eo86) | (go_at_call 20; (with_reducible refine (laws_sameTexts.calls kj9 _ _ t320 _ _ t324 true _ ?side1 ?side2 ?side3 ?side4 A50.out).mono ?_); (case side1 => repeat (first | exact (Kd.R_reads' HO323.out).2.2 | (with_reducible refine Kd.C_alloc ?_ _) | (with_reducible refine Kd.C_drewN ?_ _) | (with_reducible refine Kd.C_drew ?_))); (case side2 => exact (Kd.R_reads' HO323.out).2.1); (case side3 => repeat (first | exact (Kd.R_reads' HO327.out).2.2 | (with_reducible refine Kd.C_alloc ?_ _) | (with_reducible refine Kd.C_drewN ?_ _) | (with_reducible refine Kd.C_drew ?_))); (case side4 => exact (Kd.R_reads' HO327.out).2.1); rintro e w' ⟨rfl, ⟨nd, rfl⟩⟩; (try first | exact ⟨rfl, _, World.drewN_drewN _ _ _⟩ | exact ⟨rfl, _, Eq.trans (World.drewN_drewN _ _ _) (congrArg (World.drewN _) (Nat.add_assoc _ _ _))⟩))))
                          go_ret
                          exact ⟨by first | rfl | (simp [errW_none, errW_some] <;> rfl) | (simp [*, errW_none, errW_some] <;> rfl), by repeat (first | (with_reducible first | exact HB.out | apply below_alloc | apply pw_below_drewN | apply below_drew1) | exact HB.out)⟩
                      · rw [if_neg c53] at H
                        have c53b0 : (t329 == t331) = false := beq_eq_false_iff_ne.mpr c53
                        have c53b1 : (t329 != t331) = true := bne_iff_ne.mpr c53
                        obtain rfl := Option.some.inj H
                        exact absurd hr_.out (by simp)
                  · replace c51 := Bool.eq_false_iff.mpr c51
                    subst c51
                    have H1 : (some false) = some r := by rw [if_neg (show ¬ (false = true) by decide)] at H; exact H
                    clear H
                    have H := H1
                    clear H1
                    obtain rfl := Option.some.inj H
                    exact absurd hr_.out (by simp)
              · rw [if_neg c48] at H
                have c48b0 : (t310 == t312) = false := beq_eq_false_iff_ne.mpr c48
                have c48b1 : (t310 != t312) = true := bne_iff_ne.mpr c48
                obtain rfl := Option.some.inj H
                exact absurd hr_.out (by simp)
      · replace c9 := Bool.eq_false_iff.mpr c9
        subst c9
        have H1 : (some false) = some r := by rw [if_neg (show ¬ (false = true) by decide)] at H; exact H
        clear H
        have H := H1
        clear H1
        obtain rfl := Option.some.inj H
        exact absurd hr_.out (by simp)

/-- THE ONE PURE STATEMENT of laws_FnOrders: yours. -/
def laws_FnOrders.Pure : Prop := ∀ (l0 : List Int) (l1 : List Int), l0.length ≤ maxLen → l0.length * 1 ≤ 140737488351232 → (∀ x ∈ l0, (Lit.int .u8 x).wf = true) → l1.length ≤ maxLen → l1.length * 1 ≤ 140737488351232 → (∀ x ∈ l1, (Lit.int .u8 x).wf = true) → ∃ k, laws_FnOrders.f k l0 l1 = some true
theorem laws_FnOrders.walk (P : laws_FnOrders.Pure) (a0 : Option Addr) (len0 cap0 : Nat) (z0 : List Int) (a1 : Option Addr) (len1 cap1 : Nat) (z1 : List Int) (w : World) (w0 : (a0 = none ∧ len0 = 0 ∧ cap0 = 0 ∧ z0 = []) ∨ ∃ x, a0 = some x ∧ len0 ≤ cap0 ∧ cap0 ≤ maxLen ∧ z0.length = cap0 ∧ (∀ i, i < z0.length → w.cell? (x.add i) = some (.int .u8 (z0.getD i 0))) ∧ ∀ n ∈ z0, (Lit.int .u8 n).wf = true) (y0 : len0 * 1 ≤ 140737488351232) (w1 : (a1 = none ∧ len1 = 0 ∧ cap1 = 0 ∧ z1 = []) ∨ ∃ x, a1 = some x ∧ len1 ≤ cap1 ∧ cap1 ≤ maxLen ∧ z1.length = cap1 ∧ (∀ i, i < z1.length → w.cell? (x.add i) = some (.int .u8 (z1.getD i 0))) ∧ ∀ n ∈ z1, (Lit.int .u8 n).wf = true) (y1 : len1 * 1 ≤ 140737488351232) :
    Calls Try.prog 3 #[.slice a0 len0 cap0, .slice a1 len1 cap1] w fun e w' => e = .returned (.bool true) ∧ Below w.heap.size w w' := by
  obtain ⟨l0, rfl, hr0, hm0, hw0, hc0⟩ := ReadsInt.ofRowC w0
  obtain ⟨l1, rfl, hr1, hm1, hw1, hc1⟩ := ReadsInt.ofRowC w1
  obtain ⟨k, h⟩ := P l0 l1 hm0 y0 hw0 hm1 y1 hw1
  refine (laws_FnOrders.calls k _ _ l0 _ _ l1 true w (Kd.C_of_reads (d := (0 : Int)) (h1 := fun _ => rfl) hr0) hc0 (Kd.C_of_reads (d := (0 : Int)) (h1 := fun _ => rfl) hr1) hc1 h ⟨rfl⟩).mono ?_
  rintro e w' ⟨rfl, hd⟩
  exact ⟨rfl, hd⟩

end Go.Proofs.Ytebpikejljgfgaa.PFnOrders
