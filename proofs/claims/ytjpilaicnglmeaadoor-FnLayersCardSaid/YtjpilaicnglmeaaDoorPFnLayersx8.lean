-- Written by a program of this session, after the kit's print (changed in some places; see NOTES.md). Lean checks it.
import Derived.Test.YtjpilaicnglmeaaDoorPFnLayersx0
import Derived.Test.YtjpilaicnglmeaaDoorPFnLayersx2
import Derived.Test.YtjpilaicnglmeaaDoorPFnLayersx6
import Derived.Test.YtjpilaicnglmeaaDoorPFnLayersx7
namespace Go.Proofs.YtjpilaicnglmeaaDoor.PFnLayers
open Go.RowKit Go.Proofs.YtjpilaicnglmeaaDoorW.PrintWords Go.Proofs.YtjpilaicnglmeaaDoorW.PrintLast Go.Proofs.YtjpilaicnglmeaaDoorW.PrintMore
attribute [local go_sem] max2_int min2_int max_two min_two max_three min_three max_four min_four   -- for this text's walks alone
set_option linter.unusedVariables false
set_option linter.unusedSimpArgs false

/-! ### spec_DrawPeelOnion: function 10 -/
mutual
def spec_DrawPeelOnion.j0 : Nat → List Int → ByteArray → Bool → List Int → Int → Int → Option (Int × ByteArray)
  | 0, _, _, _, _, _, _ => none
  | k + 1, x5, x7, x30, x288000, x288001, x288002 => if x30 = true then ((spec_l1Cur_pick.f x288000 x288001 x288002 24).bind fun bt304 => ((spec_l1Cur_pick.f x288000 bt304.2.1 bt304.2.2 8).bind fun bt307 => (if 0 ≤ bt304.1 then (if bt304.1 < (x7.size : Int) then (if x7.size + x7.size ≤ 9223372036854775807 then (spec_DrawPeelOnion.j1 k x5 (Go.Proofs.YtjpilaicnglmeaaDoor.Hand.flipB x7 bt304.1 bt307.1) x288000 bt307.2.1 bt307.2.2) else (none)) else (none)) else (none)))) else (spec_DrawPeelOnion.j1 k x5 x7 x288000 x288001 x288002)
def spec_DrawPeelOnion.j1 : Nat → List Int → ByteArray → List Int → Int → Int → Option (Int × ByteArray)
  | 0, _, _, _, _, _ => none
  | k + 1, x5, x7, x288000, x288001, x288002 => (spec_l1Cur_one.f x288000 x288001 x288002 8).bind fun bt310 => (if bt310.1 = true then ((spec_l1Cur_key.f x288000 bt310.2.1 bt310.2.2).bind fun bt313 => (some (bt313.1, x7))) else (if 0 < (x5.length : Int) then (some (rd x5 0, x7)) else (none)))
end
def spec_DrawPeelOnion.f (k : Nat) (l0 : List Int) : Option (Int × ByteArray) := (spec_l1Cur_route.f k l0 0 0).bind fun bt288 => ((spec_l1Cur_body.f l0 bt288.2.2.1 bt288.2.2.2).bind fun bt296 => ((spec_BuildOnion.f k bt288.1 bt288.2.1 bt296.1).bind fun bt299 => (if bt299.2 = true then ((spec_l1Cur_one.f l0 bt296.2.1 bt296.2.2 4).bind fun bt301 => (spec_DrawPeelOnion.j0 k bt288.1 bt299.1 bt301.1 l0 bt301.2.1 bt301.2.2)) else (spec_DrawPeelOnion.j0 k bt288.1 bt299.1 false l0 bt296.2.1 bt296.2.2))))
theorem spec_DrawPeelOnion.mono_l : ∀ k, (∀ y0 y1 y2 y3 y4 y5, LeO (spec_DrawPeelOnion.j0 k y0 y1 y2 y3 y4 y5) (spec_DrawPeelOnion.j0 (k + 1) y0 y1 y2 y3 y4 y5)) ∧ (∀ y0 y1 y2 y3 y4, LeO (spec_DrawPeelOnion.j1 k y0 y1 y2 y3 y4) (spec_DrawPeelOnion.j1 (k + 1) y0 y1 y2 y3 y4))
  | 0 => ⟨fun _ _ _ _ _ _ r h => by simp [spec_DrawPeelOnion.j0] at h, fun _ _ _ _ _ r h => by simp [spec_DrawPeelOnion.j1] at h⟩
  | k + 1 => by
    obtain ⟨ih0, ih1⟩ := spec_DrawPeelOnion.mono_l k
    refine ⟨?_, ?_⟩
    · intro y0 y1 y2 y3 y4 y5
      unfold spec_DrawPeelOnion.j0
      repeat' first
      | (with_reducible exact ih0 _ _ _ _ _ _)
      | (with_reducible exact ih1 _ _ _ _ _)
      | (with_reducible exact spec_BuildOnion.mono _ _ _ _)
      | (with_reducible exact spec_l1Cur_route.mono _ _ _ _)
      | (with_reducible exact LeO.refl _)
      | (with_reducible exact LeO.none _)
      | (with_reducible refine LeO.ite ?_ ?_)
      | (with_reducible refine LeO.bind ?_ (fun _ => ?_))
      | exact ih0 _ _ _ _ _ _
      | exact ih1 _ _ _ _ _
      | exact spec_BuildOnion.mono _ _ _ _
      | exact spec_l1Cur_route.mono _ _ _ _
      | exact LeO.none _
      | refine LeO.ite ?_ ?_
      | refine LeO.bind ?_ (fun _ => ?_)
    · intro y0 y1 y2 y3 y4
      unfold spec_DrawPeelOnion.j1
      repeat' first
      | (with_reducible exact ih0 _ _ _ _ _ _)
      | (with_reducible exact ih1 _ _ _ _ _)
      | (with_reducible exact spec_BuildOnion.mono _ _ _ _)
      | (with_reducible exact spec_l1Cur_route.mono _ _ _ _)
      | (with_reducible exact LeO.refl _)
      | (with_reducible exact LeO.none _)
      | (with_reducible refine LeO.ite ?_ ?_)
      | (with_reducible refine LeO.bind ?_ (fun _ => ?_))
      | exact ih0 _ _ _ _ _ _
      | exact ih1 _ _ _ _ _
      | exact spec_BuildOnion.mono _ _ _ _
      | exact spec_l1Cur_route.mono _ _ _ _
      | exact LeO.none _
      | refine LeO.ite ?_ ?_
      | refine LeO.bind ?_ (fun _ => ?_)
theorem spec_DrawPeelOnion.mono : ∀ a0 k, LeO (spec_DrawPeelOnion.f k a0) (spec_DrawPeelOnion.f (k + 1) a0) := by
  intro a0 k
  obtain ⟨ih0, ih1⟩ := spec_DrawPeelOnion.mono_l k
  unfold spec_DrawPeelOnion.f
  repeat' first
      | (with_reducible exact ih0 _ _ _ _ _ _)
      | (with_reducible exact ih1 _ _ _ _ _)
      | (with_reducible exact spec_BuildOnion.mono _ _ _ _)
      | (with_reducible exact spec_l1Cur_route.mono _ _ _ _)
      | (with_reducible exact LeO.refl _)
      | (with_reducible exact LeO.none _)
      | (with_reducible refine LeO.ite ?_ ?_)
      | (with_reducible refine LeO.bind ?_ (fun _ => ?_))
      | exact ih0 _ _ _ _ _ _
      | exact ih1 _ _ _ _ _
      | exact spec_BuildOnion.mono _ _ _ _
      | exact spec_l1Cur_route.mono _ _ _ _
      | exact LeO.none _
      | refine LeO.ite ?_ ?_
      | refine LeO.bind ?_ (fun _ => ?_)
def spec_DrawPeelOnion.T6 : Bool × List (List Nat × List Nat) := (true, [([], []), ([], []), ([1], [1]), ([0, 2], [0, 2]), ([3], [3]), ([], []), ([5, 2], [5]), ([6], [6]), ([7], [7]), ([4, 8], [4, 8]), ([0, 2, 0, 1, 2, 3, 4, 5, 6, 7, 8, 9], [0, 2]), ([10, 9, 6, 0, 1, 2, 3, 4, 5, 6, 7, 8, 9], [9, 10])])
def spec_DrawPeelOnion.B6 : List Nat := [0, 0, 2, 7, 15, 0, 38, 102, 230, 511, 1023, 2047]
theorem spec_DrawPeelOnion.tab6 : rtab .any (opsOf Tryd.f10 6) = spec_DrawPeelOnion.T6 := by kernel_rfl
theorem spec_DrawPeelOnion.bits6 : waitsOk spec_DrawPeelOnion.T6.2 spec_DrawPeelOnion.B6 = true := by kernel_rfl
set_option maxHeartbeats 8000000 in
set_option maxRecDepth 100000 in
theorem spec_DrawPeelOnion.calls (k : Nat) (A0 : Option Addr) (c0 : Nat) (l0 : List Int) (r1 : Int) (r2 : ByteArray) (w : World) (hr0 : Kd.C (Kd.int .u8) w A0 l0.length l0) (hc0 : l0.length ≤ c0) (h : spec_DrawPeelOnion.f k l0 = some (r1, r2)) :
    Calls Tryd.prog 10 #[.slice A0 l0.length c0] w fun e w' => e = .returned (.tuple #[.int .i64 r1, .string r2]) ∧ Below w.heap.size w w' := by
  have hu43 := Tryd.underlying43
  have HR0 := Aside0.mk hr0
  have HC0 := Aside0.mk hc0
  clear hr0 hc0
  have HB := Aside0.mk (Below.refl w.heap.size w)
  have H : ((spec_l1Cur_route.f k l0 0 0).bind fun bt288 => ((spec_l1Cur_body.f l0 bt288.2.2.1 bt288.2.2.2).bind fun bt296 => ((spec_BuildOnion.f k bt288.1 bt288.2.1 bt296.1).bind fun bt299 => (if bt299.2 = true then ((spec_l1Cur_one.f l0 bt296.2.1 bt296.2.2 4).bind fun bt301 => (spec_DrawPeelOnion.j0 k bt288.1 bt299.1 bt301.1 l0 bt301.2.1 bt301.2.2)) else (spec_DrawPeelOnion.j0 k bt288.1 bt299.1 false l0 bt296.2.1 bt296.2.2))))) = some (r1, r2) := h
  clear h
  replace H := Option.bind_eq_some_iff.mp H
  obtain ⟨⟨t288, t291, t294, t295⟩, A20, H⟩ := H
  replace H : ((spec_l1Cur_body.f l0 t294 t295).bind fun bt296 => ((spec_BuildOnion.f k t288 t291 bt296.1).bind fun bt299 => (if bt299.2 = true then ((spec_l1Cur_one.f l0 bt296.2.1 bt296.2.2 4).bind fun bt301 => (spec_DrawPeelOnion.j0 k t288 bt299.1 bt301.1 l0 bt301.2.1 bt301.2.2)) else (spec_DrawPeelOnion.j0 k t288 bt299.1 false l0 bt296.2.1 bt296.2.2)))) = some (r1, r2) := H
  have A2 := Aside0.mk A20
  clear A20
  replace H := Option.bind_eq_some_iff.mp H
  obtain ⟨⟨t296, t297, t298⟩, A30, H⟩ := H
  replace H : ((spec_BuildOnion.f k t288 t291 t296).bind fun bt299 => (if bt299.2 = true then ((spec_l1Cur_one.f l0 t297 t298 4).bind fun bt301 => (spec_DrawPeelOnion.j0 k t288 bt299.1 bt301.1 l0 bt301.2.1 bt301.2.2)) else (spec_DrawPeelOnion.j0 k t288 bt299.1 false l0 t297 t298))) = some (r1, r2) := H
  have A3 := Aside0.mk A30
  clear A30
  replace H := Option.bind_eq_some_iff.mp H
  obtain ⟨⟨t299, t300⟩, A40, H⟩ := H
  replace H : (if t300 = true then ((spec_l1Cur_one.f l0 t297 t298 4).bind fun bt301 => (spec_DrawPeelOnion.j0 k t288 t299 bt301.1 l0 bt301.2.1 bt301.2.2)) else (spec_DrawPeelOnion.j0 k t288 t299 false l0 t297 t298)) = some (r1, r2) := H
  have A4 := Aside0.mk A40
  clear A40
  have HC5 := Aside0.mk H
  clear H
  go_enter Tryd.func10, Tryd.ntmps10
  go_upto_region 4 with (first | ((with_reducible refine gate_dst (N := 12) rfl ?_); refine box_event ?hg (N := 12) ?hd (cs := #[.slice A0 l0.length c0, .int .i64 0, .int .u64 0]) (t := 43) ?hr ?_; (case hd => rfl); (case hg => rfl); (case hr => first | (go_simp; done) | (go_simp; rfl)); intro gb287 hg w6 hbox hb; have n0_ := Aside0.mk (below_step (by repeat (first | (with_reducible first | exact HB.out | apply below_alloc | apply pw_below_drewN | apply below_drew1) | exact HB.out)) hb); have n1_ := Aside0.mk ((show IsS43 w w6 gb287 l0 0 0 from ⟨_, _, hbox, (by rw [hg]; exact (below_size (by repeat (first | (with_reducible first | exact HB.out | apply below_alloc | apply pw_below_drewN | apply below_drew1) | exact HB.out))) : w.heap.size ≤ gb287), HR0.out⟩)); clear HB; have HB := n0_; have HI287 := n1_; clear n0_ n1_; clear hb hbox hg) | ((with_reducible refine gate_callee (f := 14) rfl ?_); refine goesL_ (some 15) rfl rfl Tryd.func14 (by kernel_rfl) rfl #[.pointer (some ⟨gb287, 0, none⟩)] rfl (by (try simp only [List.map_toArray, List.map_cons, List.map_nil]); first | done | rfl | (simp only [List.length_drop, List.length_take]; rfl)) ?_; (with_reducible refine (spec_l1Cur_route.calls k gb287 l0 0 0 t288 t291 t294 t295 w _ ?side1 ?side2 A2.out).mono ?_); (case side1 => first | ((repeat (first | (with_reducible first | exact HI287.out | apply IsS43.alloc | apply IsS43.drewN | apply IsS43.drew | apply IsS43.set_1 | apply IsS43.set_2) | exact HI287.out)); done) | (simp only [Int.add_zero]; repeat (first | (with_reducible first | exact HI287.out | apply IsS43.alloc | apply IsS43.drewN | apply IsS43.drew | apply IsS43.set_1 | apply IsS43.set_2) | exact HI287.out))); (case side2 => repeat (first | (with_reducible first | exact HB.out | apply below_alloc | apply pw_below_drewN | apply below_drew1 | refine below_set ?_ (IsS43.ge HI287.out)) | exact HB.out)); rintro e w7 ⟨v289, v292, rfl, ho0, ho1, hi, hb, hk⟩; refine ⟨_, rfl, ?_⟩; have n0_ := Aside0.mk (Kd.R_lower ho0 (below_size (by repeat (first | (with_reducible first | exact HB.out | apply below_alloc | apply pw_below_drewN | apply below_drew1 | refine below_set ?_ (IsS43.ge HI287.out)) | exact HB.out)))); have n1_ := Aside0.mk (Kd.R_lower ho1 (below_size (by repeat (first | (with_reducible first | exact HB.out | apply below_alloc | apply pw_below_drewN | apply below_drew1 | refine below_set ?_ (IsS43.ge HI287.out)) | exact HB.out)))); have n2_ := Aside0.mk (hb); have n3_ := Aside0.mk (hi); clear HB; clear HI287; have HO290 := n0_; have HO293 := n1_; have HB := n2_; have HI287 := n3_; clear n0_ n1_ n2_ n3_; (try clear hb); (try clear hb2); (try clear hk); (try clear hi); (try clear ho0); (try clear ho1)) | ((with_reducible refine gate_callee (f := 15) rfl ?_); refine goesL_ (some 22) rfl rfl Tryd.func15 (by kernel_rfl) rfl #[.pointer (some ⟨gb287, 0, none⟩)] rfl (by (try simp only [List.map_toArray, List.map_cons, List.map_nil]); first | done | rfl | (simp only [List.length_drop, List.length_take]; rfl)) ?_; (with_reducible refine (spec_l1Cur_body.calls gb287 l0 t294 t295 t296 t297 t298 w _ ?side1 ?side2 A3.out).mono ?_); (case side1 => first | ((repeat (first | (with_reducible first | exact HI287.out | apply IsS43.alloc | apply IsS43.drewN | apply IsS43.drew | apply IsS43.set_1 | apply IsS43.set_2) | exact HI287.out)); done) | (simp only [Int.add_zero]; repeat (first | (with_reducible first | exact HI287.out | apply IsS43.alloc | apply IsS43.drewN | apply IsS43.drew | apply IsS43.set_1 | apply IsS43.set_2) | exact HI287.out))); (case side2 => repeat (first | (with_reducible first | exact HB.out | apply below_alloc | apply pw_below_drewN | apply below_drew1 | refine below_set ?_ (IsS43.ge HI287.out)) | exact HB.out)); rintro e w8 ⟨rfl, hi, hb, hk⟩; refine ⟨_, rfl, ?_⟩; have n0_ := Aside0.mk (Kd.R_mono (Kd.R_keep (IsS43.apart (show IsS43 w _ gb287 l0 t294 t295 from by first | ((repeat (first | (with_reducible first | exact HI287.out | apply IsS43.alloc | apply IsS43.drewN | apply IsS43.drew | apply IsS43.set_1 | apply IsS43.set_2) | exact HI287.out)); done) | (simp only [Int.add_zero]; repeat (first | (with_reducible first | exact HI287.out | apply IsS43.alloc | apply IsS43.drewN | apply IsS43.drew | apply IsS43.set_1 | apply IsS43.set_2) | exact HI287.out))) (by (with_reducible repeat (first | apply Kd.R_alloc | apply Kd.R_drewN | apply Kd.R_drew)); exact HO290.out) (by decide)) hk (fun _ h => h.2)) (fun _ h => h.1)); have n1_ := Aside0.mk (Kd.R_mono (Kd.R_keep (IsS43.apart (show IsS43 w _ gb287 l0 t294 t295 from by first | ((repeat (first | (with_reducible first | exact HI287.out | apply IsS43.alloc | apply IsS43.drewN | apply IsS43.drew | apply IsS43.set_1 | apply IsS43.set_2) | exact HI287.out)); done) | (simp only [Int.add_zero]; repeat (first | (with_reducible first | exact HI287.out | apply IsS43.alloc | apply IsS43.drewN | apply IsS43.drew | apply IsS43.set_1 | apply IsS43.set_2) | exact HI287.out))) (by (with_reducible repeat (first | apply Kd.R_alloc | apply Kd.R_drewN | apply Kd.R_drew)); exact HO293.out) (by decide)) hk (fun _ h => h.2)) (fun _ h => h.1)); have n2_ := Aside0.mk (hb); have n3_ := Aside0.mk (hi); clear HO290; clear HO293; clear HB; clear HI287; have HO290 := n0_; have HO293 := n1_; have HB := n2_; have HI287 := n3_; clear n0_ n1_ n2_ n3_; (try clear hb); (try clear hb2); (try clear hk); (try clear hi); obtain ⟨Ao9, co9, eo9⟩ := Kd.R_slice HO290.out; subst eo9; obtain ⟨Ao10, co10, eo10⟩ := Kd.R_slice HO293.out; subst eo10) | ((with_reducible refine gate_callee (f := 6) rfl ?_); refine goesL_ (some 23) rfl rfl Tryd.func6 (by kernel_rfl) rfl #[.slice Ao9 t288.length co9, .slice Ao10 t291.length co10, .string t296] rfl (by (try simp only [List.map_toArray, List.map_cons, List.map_nil]); first | done | rfl | (simp only [List.length_drop, List.length_take]; rfl)) ?_; (with_reducible refine (spec_BuildOnion.calls k _ _ t288 _ _ t291 t296 t299 t300 _ ?side1 ?side2 ?side3 ?side4 A4.out).mono ?_); (case side1 => repeat (first | exact (Kd.R_reads' HO290.out).2.2 | (with_reducible refine Kd.C_alloc ?_ _) | (with_reducible refine Kd.C_drewN ?_ _) | (with_reducible refine Kd.C_drew ?_))); (case side2 => exact (Kd.R_reads' HO290.out).2.1); (case side3 => repeat (first | exact (Kd.R_reads' HO293.out).2.2 | (with_reducible refine Kd.C_alloc ?_ _) | (with_reducible refine Kd.C_drewN ?_ _) | (with_reducible refine Kd.C_drew ?_))); (case side4 => exact (Kd.R_reads' HO293.out).2.1); rintro e w11 ⟨rfl, hb⟩; refine ⟨_, rfl, ?_⟩; have n0_ := Aside0.mk (Kd.R_below (by (with_reducible repeat (first | apply Kd.R_alloc | apply Kd.R_drewN | apply Kd.R_drew)); exact HO290.out) hb); have n1_ := Aside0.mk (Kd.R_below (by (with_reducible repeat (first | apply Kd.R_alloc | apply Kd.R_drewN | apply Kd.R_drew)); exact HO293.out) hb); have n2_ := Aside0.mk (IsS43.below (by first | ((repeat (first | (with_reducible first | exact HI287.out | apply IsS43.alloc | apply IsS43.drewN | apply IsS43.drew | apply IsS43.set_1 | apply IsS43.set_2) | exact HI287.out)); done) | (simp only [Int.add_zero]; repeat (first | (with_reducible first | exact HI287.out | apply IsS43.alloc | apply IsS43.drewN | apply IsS43.drew | apply IsS43.set_1 | apply IsS43.set_2) | exact HI287.out))) hb); have n3_ := Aside0.mk (below_step (by repeat (first | (with_reducible first | exact HB.out | apply below_alloc | apply pw_below_drewN | apply below_drew1 | refine below_set ?_ (IsS43.ge HI287.out)) | exact HB.out)) hb); clear HO290; clear HO293; clear HI287; clear HB; have HO290 := n0_; have HO293 := n1_; have HI287 := n2_; have HB := n3_; clear n0_ n1_ n2_ n3_; (try clear hb); (try clear hb2); (try clear hk); (try clear hi)))
  (try simp only [Act.put, List.setIfInBounds_toArray, List.set_cons_zero, List.set_cons_succ])
  go_cut [30] (fun v30 wc => ∃ (kq : Nat) (x30_4 : Bool) (x288001_4 : Int) (x288002_4 : Int), v30 = .bool x30_4 ∧ Aside0 (spec_DrawPeelOnion.j0 kq t288 t299 x30_4 l0 x288001_4 x288002_4 = some (r1, r2)) ∧ Aside0 (kq ≤ k) ∧ Aside0 (Kd.R (Kd.int .i64) 3 wc w.heap.size (fun _ => True) (.slice Ao9 t288.length co9) t288) ∧ Aside0 (IsS43 w wc gb287 l0 x288001_4 x288002_4) ∧ Aside0 (Below w.heap.size w wc))
  case first =>
    have H := HC5.out
    clear HC5
    by_cases c12 : t300 = true
    · subst c12
      have H1 : ((spec_l1Cur_one.f l0 t297 t298 4).bind fun bt301 => (spec_DrawPeelOnion.j0 k t288 t299 bt301.1 l0 bt301.2.1 bt301.2.2)) = some (r1, r2) := by rw [if_pos rfl] at H; exact H
      clear H
      have H := H1
      clear H1
      replace H := Option.bind_eq_some_iff.mp H
      obtain ⟨⟨t301, t302, t303⟩, A130, H⟩ := H
      replace H : (spec_DrawPeelOnion.j0 k t288 t299 t301 l0 t302 t303) = some (r1, r2) := H
      have A13 := Aside0.mk A130
      clear A130
      have H' := Aside0.mk H
      clear H
      go_wp2_with (first | (go_at_call 33; (with_reducible refine (spec_l1Cur_one.calls gb287 l0 t297 t298 4 t301 t302 t303 w _ ?side1 ?side2 A13.out).mono ?_); (case side1 => first | ((repeat (first | (with_reducible first | exact HI287.out | apply IsS43.alloc | apply IsS43.drewN | apply IsS43.drew | apply IsS43.set_1 | apply IsS43.set_2) | exact HI287.out)); done) | (simp only [Int.add_zero]; repeat (first | (with_reducible first | exact HI287.out | apply IsS43.alloc | apply IsS43.drewN | apply IsS43.drew | apply IsS43.set_1 | apply IsS43.set_2) | exact HI287.out))); (case side2 => repeat (first | (with_reducible first | exact HB.out | apply below_alloc | apply pw_below_drewN | apply below_drew1 | refine below_set ?_ (IsS43.ge HI287.out)) | exact HB.out)); rintro e w14 ⟨rfl, hi, hb, hk⟩; have n0_ := Aside0.mk (Kd.R_mono (Kd.R_keep (IsS43.apart (show IsS43 w _ gb287 l0 t297 t298 from by first | ((repeat (first | (with_reducible first | exact HI287.out | apply IsS43.alloc | apply IsS43.drewN | apply IsS43.drew | apply IsS43.set_1 | apply IsS43.set_2) | exact HI287.out)); done) | (simp only [Int.add_zero]; repeat (first | (with_reducible first | exact HI287.out | apply IsS43.alloc | apply IsS43.drewN | apply IsS43.drew | apply IsS43.set_1 | apply IsS43.set_2) | exact HI287.out))) (by (with_reducible repeat (first | apply Kd.R_alloc | apply Kd.R_drewN | apply Kd.R_drew)); exact HO290.out) (by decide)) hk (fun _ h => h.2)) (fun _ h => h.1)); have n1_ := Aside0.mk (Kd.R_mono (Kd.R_keep (IsS43.apart (show IsS43 w _ gb287 l0 t297 t298 from by first | ((repeat (first | (with_reducible first | exact HI287.out | apply IsS43.alloc | apply IsS43.drewN | apply IsS43.drew | apply IsS43.set_1 | apply IsS43.set_2) | exact HI287.out)); done) | (simp only [Int.add_zero]; repeat (first | (with_reducible first | exact HI287.out | apply IsS43.alloc | apply IsS43.drewN | apply IsS43.drew | apply IsS43.set_1 | apply IsS43.set_2) | exact HI287.out))) (by (with_reducible repeat (first | apply Kd.R_alloc | apply Kd.R_drewN | apply Kd.R_drew)); exact HO293.out) (by decide)) hk (fun _ h => h.2)) (fun _ h => h.1)); have n2_ := Aside0.mk (hb); have n3_ := Aside0.mk (hi); clear HO290; clear HO293; clear HB; clear HI287; have HO290 := n0_; have HO293 := n1_; have HB := n2_; have HI287 := n3_; clear n0_ n1_ n2_ n3_; (try clear hb); (try clear hb2); (try clear hk); (try clear hi)))
      go_meet
      case rel => exact ⟨_, (t301), (t302), (t303), (by first | rfl | (simp; done) | (simp [*]; done)), H', ⟨by first | omega | exact Nat.le_refl _⟩, ⟨by (with_reducible repeat (first | apply Kd.R_alloc | apply Kd.R_drewN | apply Kd.R_drew)); exact Kd.R_mono HO290.out (fun _ hk => trivial)⟩, ⟨by first | ((repeat (first | (with_reducible first | exact HI287.out | apply IsS43.alloc | apply IsS43.drewN | apply IsS43.drew | apply IsS43.set_1 | apply IsS43.set_2) | exact HI287.out)); done) | (simp only [Int.add_zero]; repeat (first | (with_reducible first | exact HI287.out | apply IsS43.alloc | apply IsS43.drewN | apply IsS43.drew | apply IsS43.set_1 | apply IsS43.set_2) | exact HI287.out))⟩, ⟨by repeat (first | (with_reducible first | exact HB.out | apply below_alloc | apply pw_below_drewN | apply below_drew1 | refine below_set ?_ (IsS43.ge HI287.out)) | exact HB.out)⟩⟩
    · replace c12 := Bool.eq_false_iff.mpr c12
      subst c12
      have H1 : (spec_DrawPeelOnion.j0 k t288 t299 false l0 t297 t298) = some (r1, r2) := by rw [if_neg (show ¬ (false = true) by decide)] at H; exact H
      clear H
      have H := H1
      clear H1
      have H' := Aside0.mk H
      clear H
      go_wp2
      go_meet
      case rel => exact ⟨_, (false), (t297), (t298), (by first | rfl | (simp; done) | (simp [*]; done)), H', ⟨by first | omega | exact Nat.le_refl _⟩, ⟨by (with_reducible repeat (first | apply Kd.R_alloc | apply Kd.R_drewN | apply Kd.R_drew)); exact Kd.R_mono HO290.out (fun _ hk => trivial)⟩, ⟨by first | ((repeat (first | (with_reducible first | exact HI287.out | apply IsS43.alloc | apply IsS43.drewN | apply IsS43.drew | apply IsS43.set_1 | apply IsS43.set_2) | exact HI287.out)); done) | (simp only [Int.add_zero]; repeat (first | (with_reducible first | exact HI287.out | apply IsS43.alloc | apply IsS43.drewN | apply IsS43.drew | apply IsS43.set_1 | apply IsS43.set_2) | exact HI287.out))⟩, ⟨by repeat (first | (with_reducible first | exact HB.out | apply below_alloc | apply pw_below_drewN | apply below_drew1 | refine below_set ?_ (IsS43.ge HI287.out)) | exact HB.out)⟩⟩
  case rest =>
    clear HC5
    try clear c1
    try clear p2
    try clear c6
    try clear c10
    try clear c12
    try clear c14
    obtain ⟨kq, x30_4, x288001_4, x288002_4, rfl, HA, HJ4, HO_5, HI287, HB⟩ := hcut
    cases kq with
    | zero => exact absurd HA.out (by simp [spec_DrawPeelOnion.j0])
    | succ kj4 =>
      have H := HA.out
      clear HA
      simp only [spec_DrawPeelOnion.j0] at H
      have HC15 := Aside0.mk H
      clear H
      go_upto_if 30 with (fail)
      go_cut [7] (fun v7 wc => ∃ (kq : Nat) (x7_14 : ByteArray) (x288001_14 : Int) (x288002_14 : Int), v7 = .string x7_14 ∧ Aside0 (spec_DrawPeelOnion.j1 kq t288 x7_14 l0 x288001_14 x288002_14 = some (r1, r2)) ∧ Aside0 (kq ≤ kj4) ∧ Aside0 (Kd.R (Kd.int .i64) 3 wc w.heap.size (fun _ => True) (.slice Ao9 t288.length co9) t288) ∧ Aside0 (IsS43 w wc gb287 l0 x288001_14 x288002_14) ∧ Aside0 (Below w.heap.size w wc))
      case first =>
        have H := HC15.out
        clear HC15
        by_cases c16 : x30_4 = true
        · subst c16
          have H1 : ((spec_l1Cur_pick.f l0 x288001_4 x288002_4 24).bind fun bt304 => ((spec_l1Cur_pick.f l0 bt304.2.1 bt304.2.2 8).bind fun bt307 => (if 0 ≤ bt304.1 then (if bt304.1 < (t299.size : Int) then (if t299.size + t299.size ≤ 9223372036854775807 then (spec_DrawPeelOnion.j1 kj4 t288 (Go.Proofs.YtjpilaicnglmeaaDoor.Hand.flipB t299 bt304.1 bt307.1) l0 bt307.2.1 bt307.2.2) else (none)) else (none)) else (none)))) = some (r1, r2) := by rw [if_pos rfl] at H; exact H
          clear H
          have H := H1
          clear H1
          replace H := Option.bind_eq_some_iff.mp H
          obtain ⟨⟨t304, t305, t306⟩, A170, H⟩ := H
          replace H : ((spec_l1Cur_pick.f l0 t305 t306 8).bind fun bt307 => (if 0 ≤ t304 then (if t304 < (t299.size : Int) then (if t299.size + t299.size ≤ 9223372036854775807 then (spec_DrawPeelOnion.j1 kj4 t288 (Go.Proofs.YtjpilaicnglmeaaDoor.Hand.flipB t299 t304 bt307.1) l0 bt307.2.1 bt307.2.2) else (none)) else (none)) else (none))) = some (r1, r2) := H
          have A17 := Aside0.mk A170
          clear A170
          replace H := Option.bind_eq_some_iff.mp H
          obtain ⟨⟨t307, t308, t309⟩, A180, H⟩ := H
          replace H : (if 0 ≤ t304 then (if t304 < (t299.size : Int) then (if t299.size + t299.size ≤ 9223372036854775807 then (spec_DrawPeelOnion.j1 kj4 t288 (Go.Proofs.YtjpilaicnglmeaaDoor.Hand.flipB t299 t304 t307) l0 t308 t309) else (none)) else (none)) else (none)) = some (r1, r2) := H
          have A18 := Aside0.mk A180
          clear A180
          by_cases c19 : 0 ≤ t304
          · rw [if_pos c19] at H
            have c19b0 : decide (0 ≤ t304) = true := decide_eq_true c19
            clear c19
            (first | rw [c19b0] | (simp only [i64_w, i32_w]; rw [c19b0]) | skip)
            by_cases c20 : t304 < (t299.size : Int)
            · rw [if_pos c20] at H
              have c20b0 : decide (t304 < (t299.size : Int)) = true := decide_eq_true c20
              clear c20
              by_cases c22 : t299.size + t299.size ≤ 9223372036854775807
              · rw [if_pos c22] at H
                have c22b0 := eq_true c22
                have c22b1 : decide (t299.size + t299.size ≤ 9223372036854775807) = true := decide_eq_true c22
                try have c22b2 : (9223372036854775807 < t299.size + t299.size) = False := eq_false (Nat.not_lt.2 c22)
                have H' := Aside0.mk H
                clear H
                have p21 : 0 ≤ (t304 : Int) := of_decide_eq_true (by first | (with_reducible assumption) | assumption)
                have q21 : t304 < (t299.size : Int) := of_decide_eq_true (by first | (with_reducible assumption) | assumption)
                have hlt9 : (t304 : Int).toNat < t299.size := by omega
                replace p21 := eq_true p21
                replace q21 := eq_true q21
                have hv9 := Go.Proofs.YtjpilaicnglmeaaDoor.Hand.wrapu_nonneg t307
                have hconv : ∀ (w : World) (s : ByteArray), (convert 9 22 (.string s)).run Tryd.prog w = .ok (.slice (some ⟨w.heap.size, 0, none⟩) s.size (grownCap w s.size 0 5)) (Lib.bytesWorld w 5 s) := fun w s => Lib.run_convert_string_bytes w 9 22 5 s Tryd.underlying9 Tryd.underlying22 Tryd.underlying5
                obtain ⟨g9, hg9, hge9, hM9⟩ := Go.Proofs.YtjpilaicnglmeaaDoor.Hand.conv_pack HB.out 5 t299
                have m0_ := Kd.R_drew (Kd.R_below HO_5.out (Go.Proofs.YtjpilaicnglmeaaDoor.Hand.bytes_below _ 5 t299))
                have m1_ := IsS43.drew (IsS43.below HI287.out (Go.Proofs.YtjpilaicnglmeaaDoor.Hand.bytes_below _ 5 t299))
                have m2_ := below_drew1 (below_step HB.out (Go.Proofs.YtjpilaicnglmeaaDoor.Hand.bytes_below _ 5 t299))
                have m3_ := hM9.drew
                go_upto_region 6 with (fail)
                (try simp only [Act.put, List.setIfInBounds_toArray, List.set_cons_zero, List.set_cons_succ])
                (try rw [hg9])
                generalize grownCap _ _ _ _ = cp9
                refine start_ (n := 12) (S := fun w' => w'.cell? ⟨g9, (t304 : Int).toNat, none⟩ = some (.int .u8 ((bytesOf t299).getD (t304 : Int).toNat 0))) (ds := [11]) #[false, false, false, false, false, false, false, false, false, false, false, false] (by kernel_rfl) rfl rfl (m3_.cell _ hlt9) (fun hHeld => ?_); refine with_tabW spec_DrawPeelOnion.tab6 spec_DrawPeelOnion.bits6 (fun HT_ HW_ => ?_)
                generalize World.drew _ = WB at m0_ m1_ m2_ m3_ hHeld ⊢
                have hne9 : g9 ≠ gb287 := by
                  intro e
                  obtain ⟨cs, lo, h1⟩ := m3_.at_g
                  obtain ⟨A0, c0, h2, _⟩ := m1_
                  rw [e, h2] at h1
                  simp at h1
                clear HO_5 HI287 HB
                have HO_5 := Aside0.mk m0_
                have HI287 := Aside0.mk m1_
                have HB := Aside0.mk m2_
                have HM9 := Aside0.mk m3_
                clear m0_ m1_ m2_ m3_ hM9 hg9
                refine pure_ (i := 0) (N := some 33) (v := ?_) (a' := ?_) #[true, false, false, false, false, false, false, false, false, false, false, false] rfl rfl (any_of HT_.out (by kernel_rfl)) (fun _ _ _ h => h) (Or.inl ⟨by rfl, ?_⟩) ?_ ?_
                rotate_left
                · intro w'
                  go_simp
                  with_reducible rfl
                rotate_left
                · simp only [Act.put, List.setIfInBounds_toArray, List.set_cons_zero, List.set_cons_succ, i64_w, i32_w]
                  rfl
                refine pure_ (i := 1) (N := some 34) (v := ?_) (a' := ?_) #[true, true, false, false, false, false, false, false, false, false, false, false] rfl rfl (any_of HT_.out (by kernel_rfl)) (fun _ _ _ h => h) (Or.inl ⟨by rfl, ?_⟩) ?_ ?_
                rotate_left
                · intro w'
                  go_simp
                  with_reducible rfl
                rotate_left
                · simp only [Act.put, List.setIfInBounds_toArray, List.set_cons_zero, List.set_cons_succ, i64_w, i32_w]
                  rfl
                refine pure_ (i := 5) (N := some 38) (v := ?_) (a' := ?_) #[true, true, false, false, false, true, false, false, false, false, false, false] rfl rfl (any_of HT_.out (by kernel_rfl)) (fun _ _ _ h => h) (Or.inl ⟨by rfl, ?_⟩) ?_ ?_
                rotate_left
                · intro w'
                  go_simp
                  with_reducible rfl
                rotate_left
                · simp only [Act.put, List.setIfInBounds_toArray, List.set_cons_zero, List.set_cons_succ, i64_w, i32_w]
                  rfl
                refine one_ (i := 2) (N := some 35) #[true, true, true, false, false, true, false, false, false, false, false, false] rfl rfl (one_of HT_.out (by kernel_rfl)) (by decide) (fun K hK => ?_)
                refine goes_ Tryd.func34 (by kernel_rfl) rfl #[.pointer (some ⟨gb287, 0, none⟩), .int .i64 24] (by rfl) rfl rfl (by (try simp only [List.map_toArray, List.map_cons, List.map_nil]); first | done | rfl) ?_
                with_reducible refine (spec_l1Cur_pick.calls gb287 l0 x288001_4 x288002_4 24 t304 t305 t306 w _ HI287.out HB.out A17.out).mono ?_
                rintro e w' ⟨rfl, hi, hb, hk⟩
                refine ⟨_, rfl, ?_⟩
                have n0_ := Aside0.mk (Kd.R_mono (Kd.R_keep (IsS43.apart HI287.out HO_5.out (by decide)) hk (fun _ h => h.2)) (fun _ h => h.1))
                have n1_ := Aside0.mk hb
                have n2_ := Aside0.mk hi
                have n3_ := HM9.out.keep hk hne9
                have hc9 := n3_.cell _ hlt9
                clear HB HI287 HO_5
                have HO_5 := n0_
                have HB := n1_
                have HI287 := n2_
                have HM9 := Aside0.mk n3_
                clear n0_ n1_ n2_ n3_ hk hi hb
                refine hK.out _ _ hc9 (fun hHeld => ?_)
                clear hK K
                refine norm_ (a' := ?_) ?_ ?_
                rotate_left
                · show Act.put _ (some 35) _ = _
                  simp only [Act.put, List.setIfInBounds_toArray, List.set_cons_zero, List.set_cons_succ, i64_w, i32_w]
                  rfl
                refine pure_ (i := 3) (N := some 36) (v := ?_) (a' := ?_) #[true, true, true, true, false, true, false, false, false, false, false, false] rfl rfl (any_of HT_.out (by kernel_rfl)) (fun _ _ _ h => h) (Or.inl ⟨by rfl, ?_⟩) ?_ ?_
                rotate_left
                · intro w'
                  go_simp
                  with_reducible rfl
                rotate_left
                · simp only [Act.put, List.setIfInBounds_toArray, List.set_cons_zero, List.set_cons_succ, i64_w, i32_w]
                  rfl
                refine take_ (i := 4) (N := some 37) (v := ?_) (a' := ?_) #[true, true, true, true, true, true, false, false, false, false, false, false] rfl rfl (take_ofW HT_.out HW_.out (by kernel_rfl)) (fun _ _ _ h => h) (Or.inl ⟨by rfl, ?_⟩) hHeld ?_ ?_
                rotate_left
                · rintro w' s0
                  go_simp
                  with_reducible rfl
                rotate_left
                · simp only [Act.put, List.setIfInBounds_toArray, List.set_cons_zero, List.set_cons_succ, i64_w, i32_w]
                  rfl
                refine one_ (i := 6) (N := some 39) #[true, true, true, true, true, true, true, false, false, false, false, false] rfl rfl (one_of HT_.out (by kernel_rfl)) (by decide) (fun K hK => ?_)
                refine goes_ Tryd.func34 (by kernel_rfl) rfl #[.pointer (some ⟨gb287, 0, none⟩), .int .i64 8] (by rfl) rfl rfl (by (try simp only [List.map_toArray, List.map_cons, List.map_nil]); first | done | rfl) ?_
                with_reducible refine (spec_l1Cur_pick.calls gb287 l0 t305 t306 8 t307 t308 t309 w _ HI287.out HB.out A18.out).mono ?_
                rintro e w' ⟨rfl, hi, hb, hk⟩
                refine ⟨_, rfl, ?_⟩
                have n0_ := Aside0.mk (Kd.R_mono (Kd.R_keep (IsS43.apart HI287.out HO_5.out (by decide)) hk (fun _ h => h.2)) (fun _ h => h.1))
                have n1_ := Aside0.mk hb
                have n2_ := Aside0.mk hi
                have n3_ := HM9.out.keep hk hne9
                have hc9 := n3_.cell _ hlt9
                clear HB HI287 HO_5
                have HO_5 := n0_
                have HB := n1_
                have HI287 := n2_
                have HM9 := Aside0.mk n3_
                clear n0_ n1_ n2_ n3_ hk hi hb
                refine hK.out _ _ hc9 (fun hHeld => ?_)
                clear hK K
                refine norm_ (a' := ?_) ?_ ?_
                rotate_left
                · show Act.put _ (some 39) _ = _
                  simp only [Act.put, List.setIfInBounds_toArray, List.set_cons_zero, List.set_cons_succ, i64_w, i32_w]
                  rfl
                refine pure_ (i := 7) (N := some 40) (v := ?_) (a' := ?_) #[true, true, true, true, true, true, true, true, false, false, false, false] rfl rfl (any_of HT_.out (by kernel_rfl)) (fun _ _ _ h => h) (Or.inl ⟨by rfl, ?_⟩) ?_ ?_
                rotate_left
                · intro w'
                  go_simp
                  with_reducible rfl
                rotate_left
                · simp only [Act.put, List.setIfInBounds_toArray, List.set_cons_zero, List.set_cons_succ, i64_w, i32_w]
                  rfl
                refine pure_ (i := 8) (N := some 41) (v := ?_) (a' := ?_) #[true, true, true, true, true, true, true, true, true, false, false, false] rfl rfl (any_of HT_.out (by kernel_rfl)) (fun _ _ _ h => h) (Or.inl ⟨by rfl, ?_⟩) ?_ ?_
                rotate_left
                · intro w'
                  go_simp
                  with_reducible rfl
                rotate_left
                · simp only [Act.put, List.setIfInBounds_toArray, List.set_cons_zero, List.set_cons_succ, i64_w, i32_w]
                  rfl
                refine pure_ (i := 9) (N := some 42) (v := ?_) (a' := ?_) #[true, true, true, true, true, true, true, true, true, true, false, false] rfl rfl (any_of HT_.out (by kernel_rfl)) (fun _ _ _ h => h) (Or.inl ⟨by rfl, ?_⟩) ?_ ?_
                rotate_left
                · intro w'
                  go_simp
                  with_reducible rfl
                rotate_left
                · simp only [Act.put, List.setIfInBounds_toArray, List.set_cons_zero, List.set_cons_succ, i64_w, i32_w]
                  rfl
                refine pure_ (i := 10) (N := some 43) (v := ?_) (a' := ?_) #[true, true, true, true, true, true, true, true, true, true, true, false] rfl rfl (any_of HT_.out (by kernel_rfl)) (fun _ _ _ h => h) (Or.inl ⟨by rfl, ?_⟩) ?_ ?_
                rotate_left
                · intro w'
                  go_simp
                  with_reducible rfl
                rotate_left
                · simp only [Act.put, List.setIfInBounds_toArray, List.set_cons_zero, List.set_cons_succ, i64_w, i32_w]
                  rfl
                have hf9 := HM9.out.frozen _ hlt9
                have hx9 := HM9.out.cell _ hlt9
                refine last_ (i := 11) (N := none) #[true, true, true, true, true, true, true, true, true, true, true, true] rfl rfl (one_of HT_.out (by kernel_rfl)) (by decide) (fun K hK => ?_)
                refine skip_ (w1 := ?_) (by rfl) rfl ?_ ?_
                rotate_left
                · go_simp
                  rfl
                refine hK.out _ _ ?_
                clear hK K
                refine done_ (done_of HT_.out (by kernel_rfl)) ?_
                have HM8 := HM9.out.set _ hlt9 (Go.Proofs.YtjpilaicnglmeaaDoor.Hand.flipV t299 t304 t307)
                have hcs9 : ∀ c, (convert 22 9 (.slice (some ⟨g9, 0, none⟩) t299.size c)).run Tryd.prog _ = .ok (.string (Go.Proofs.YtjpilaicnglmeaaDoor.Hand.flipB t299 t304 t307)) _ := fun c => string_of_reads Tryd.underlying22 Tryd.underlying5 Tryd.underlying9 (HM8.reads (by have := (of_eq_true c22b0 : t299.size + t299.size ≤ 9223372036854775807); omega))
                have n0_ := Aside0.mk (Kd.R_mono (ok' := fun _ => True) (Kd.R_far (p := ⟨g9, (t304 : Int).toNat, none⟩) (Kd.R_mono (Kd.R_bound HO_5.out) (fun k_ hk => (show k_ ≠ g9 from fun e_ => by
                  obtain ⟨_, _, _, q_, hq_, cs_, hc_⟩ := hk
                  obtain ⟨cs2_, lo_, h1_⟩ := HM9.out.at_g
                  rw [e_, h1_] at hc_
                  simp at hc_))) (fun _ hk => hk) (.int .u8 (Go.Proofs.YtjpilaicnglmeaaDoor.Hand.flipV t299 t304 t307))) (fun _ _ => trivial))
                have n1_ := Aside0.mk (show IsS43 w _ _ _ _ _ from (by
                  obtain ⟨A0, c0, h2, h3, h4⟩ := HI287.out
                  exact ⟨A0, c0, (Below.heap_setCell _ ⟨g9, (t304 : Int).toNat, none⟩ (.int .u8 (Go.Proofs.YtjpilaicnglmeaaDoor.Hand.flipV t299 t304 t307)) _ (Ne.symm hne9)).trans h2, h3, h4⟩))
                have n2_ := Aside0.mk (below_set (g := g9) (j := (t304 : Int).toNat) (v := .int .u8 (Go.Proofs.YtjpilaicnglmeaaDoor.Hand.flipV t299 t304 t307)) HB.out hge9)
                rw [show bits BinOp.xor IntKind.u8 ((bytesOf t299)[(t304 : Int).toNat]?.getD 0) (IntKind.u8.wrap (2 ^ min (IntKind.u64.wrap t307).toNat 8)) = Go.Proofs.YtjpilaicnglmeaaDoor.Hand.flipV t299 t304 t307 from rfl]
                clear HO_5 HI287 HB HM9 hx9 hf9
                have HO_5 := n0_
                have HI287 := n1_
                have HB := n2_
                clear n0_ n1_ n2_
                go_wp2
                go_meet
                case rel => exact ⟨_, (Go.Proofs.YtjpilaicnglmeaaDoor.Hand.flipB t299 t304 t307), (t308), (t309), (by first | rfl | (simp; done) | (simp [*]; done)), H', ⟨by have := HJ4.out; first | omega | exact Nat.le_refl _⟩, ⟨by (with_reducible repeat (first | apply Kd.R_alloc | apply Kd.R_drewN | apply Kd.R_drew)); exact HO_5.out⟩, ⟨by first | ((repeat (first | (with_reducible first | exact HI287.out | apply IsS43.alloc | apply IsS43.drewN | apply IsS43.drew | apply IsS43.set_1 | apply IsS43.set_2) | exact HI287.out)); done) | (simp only [Int.add_zero]; repeat (first | (with_reducible first | exact HI287.out | apply IsS43.alloc | apply IsS43.drewN | apply IsS43.drew | apply IsS43.set_1 | apply IsS43.set_2) | exact HI287.out))⟩, ⟨by repeat (first | (with_reducible first | exact HB.out | apply below_alloc | apply pw_below_drewN | apply below_drew1 | refine below_set ?_ (IsS43.ge HI287.out)) | exact HB.out)⟩⟩
              · rw [if_neg c22] at H
                exact absurd H (by simp)
            · rw [if_neg c20] at H
              exact absurd H (by simp)
          · rw [if_neg c19] at H
            exact absurd H (by simp)
        · replace c16 := Bool.eq_false_iff.mpr c16
          subst c16
          have H1 : (spec_DrawPeelOnion.j1 kj4 t288 t299 l0 x288001_4 x288002_4) = some (r1, r2) := by rw [if_neg (show ¬ (false = true) by decide)] at H; exact H
          clear H
          have H := H1
          clear H1
          have H' := Aside0.mk H
          clear H
          go_wp2
          go_meet
          case rel => exact ⟨_, (t299), (x288001_4), (x288002_4), (by first | rfl | (simp; done) | (simp [*]; done)), H', ⟨by have := HJ4.out; first | omega | exact Nat.le_refl _⟩, ⟨by (with_reducible repeat (first | apply Kd.R_alloc | apply Kd.R_drewN | apply Kd.R_drew)); exact HO_5.out⟩, ⟨by first | ((repeat (first | (with_reducible first | exact HI287.out | apply IsS43.alloc | apply IsS43.drewN | apply IsS43.drew | apply IsS43.set_1 | apply IsS43.set_2) | exact HI287.out)); done) | (simp only [Int.add_zero]; repeat (first | (with_reducible first | exact HI287.out | apply IsS43.alloc | apply IsS43.drewN | apply IsS43.drew | apply IsS43.set_1 | apply IsS43.set_2) | exact HI287.out))⟩, ⟨by repeat (first | (with_reducible first | exact HB.out | apply below_alloc | apply pw_below_drewN | apply below_drew1 | refine below_set ?_ (IsS43.ge HI287.out)) | exact HB.out)⟩⟩
      case rest =>
        clear HC15
        try clear c1
        try clear c2
        try clear p2
        try clear q2
        try clear hx2
        try clear c3
        try clear c6
        try clear c10
        try clear c12
        try clear c14
        try clear c15
        try clear c16
        try clear c19
        try clear c19b0
        try clear c20
        try clear c20b0
        try clear p21
        try clear q21
        try clear hx21
        try clear c22
        try clear c22b0
        try clear c22b1
        try clear c22b2
        try clear p2
        try clear p21
        try clear q21
        obtain ⟨kq, x7_14, x288001_14, x288002_14, rfl, HA, HJ14, HO_5, HI287, HB⟩ := hcut
        cases kq with
        | zero => exact absurd HA.out (by simp [spec_DrawPeelOnion.j1])
        | succ kj14 =>
          have H := HA.out
          clear HA
          simp only [spec_DrawPeelOnion.j1] at H
          replace H := Option.bind_eq_some_iff.mp H
          obtain ⟨⟨t310, t311, t312⟩, A250, H⟩ := H
          replace H : (if t310 = true then ((spec_l1Cur_key.f l0 t311 t312).bind fun bt313 => (some (bt313.1, x7_14))) else (if 0 < (t288.length : Int) then (some (rd t288 0, x7_14)) else (none))) = some (r1, r2) := H
          have A25 := Aside0.mk A250
          clear A250
          by_cases c26 : t310 = true
          · subst c26
            have H1 : ((spec_l1Cur_key.f l0 t311 t312).bind fun bt313 => (some (bt313.1, x7_14))) = some (r1, r2) := by rw [if_pos rfl] at H; exact H
            clear H
            have H := H1
            clear H1
            replace H := Option.bind_eq_some_iff.mp H
            obtain ⟨⟨t313, t314, t315⟩, A270, H⟩ := H
            replace H : (some (t313, x7_14)) = some (r1, r2) := H
            have A27 := Aside0.mk A270
            clear A270
            simp only [Option.some.injEq, Prod.mk.injEq] at H
            obtain ⟨rfl, rfl⟩ := H
            go_wp2_with (first | ((with_reducible refine gate_callee (f := 33) rfl ?_); refine goesL_ (some 47) rfl rfl Tryd.func33 (by kernel_rfl) rfl #[.pointer (some ⟨gb287, 0, none⟩), .int .i64 8] rfl (by (try simp only [List.map_toArray, List.map_cons, List.map_nil]); first | done | rfl | (simp only [List.length_drop, List.length_take]; rfl)) ?_; (with_reducible refine (spec_l1Cur_one.calls gb287 l0 x288001_14 x288002_14 8 true t311 t312 w _ ?side1 ?side2 A25.out).mono ?_); (case side1 => first | ((repeat (first | (with_reducible first | exact HI287.out | apply IsS43.alloc | apply IsS43.drewN | apply IsS43.drew | apply IsS43.set_1 | apply IsS43.set_2) | exact HI287.out)); done) | (simp only [Int.add_zero]; repeat (first | (with_reducible first | exact HI287.out | apply IsS43.alloc | apply IsS43.drewN | apply IsS43.drew | apply IsS43.set_1 | apply IsS43.set_2) | exact HI287.out))); (case side2 => repeat (first | (with_reducible first | exact HB.out | apply below_alloc | apply pw_below_drewN | apply below_drew1 | refine below_set ?_ (IsS43.ge HI287.out)) | exact HB.out)); rintro e w28 ⟨rfl, hi, hb, hk⟩; refine ⟨_, rfl, ?_⟩; have n0_ := Aside0.mk (Kd.R_mono (Kd.R_keep (IsS43.apart (show IsS43 w _ gb287 l0 x288001_14 x288002_14 from by first | ((repeat (first | (with_reducible first | exact HI287.out | apply IsS43.alloc | apply IsS43.drewN | apply IsS43.drew | apply IsS43.set_1 | apply IsS43.set_2) | exact HI287.out)); done) | (simp only [Int.add_zero]; repeat (first | (with_reducible first | exact HI287.out | apply IsS43.alloc | apply IsS43.drewN | apply IsS43.drew | apply IsS43.set_1 | apply IsS43.set_2) | exact HI287.out))) (by (with_reducible repeat (first | apply Kd.R_alloc | apply Kd.R_drewN | apply Kd.R_drew)); exact HO_5.out) (by decide)) hk (fun _ h => h.2)) (fun _ h => h.1)); have n1_ := Aside0.mk (hb); have n2_ := Aside0.mk (hi); clear HO_5; clear HB; clear HI287; have HO_5 := n0_; have HB := n1_; have HI287 := n2_; clear n0_ n1_ n2_; (try clear hb); (try clear hb2); (try clear hk); (try clear hi)) | ((with_reducible refine gate_callee (f := 35) rfl ?_); refine goesL_ (some 49) rfl rfl Tryd.func35 (by kernel_rfl) rfl #[.pointer (some ⟨gb287, 0, none⟩)] rfl (by (try simp only [List.map_toArray, List.map_cons, List.map_nil]); first | done | rfl | (simp only [List.length_drop, List.length_take]; rfl)) ?_; (with_reducible refine (spec_l1Cur_key.calls gb287 l0 t311 t312 t313 t314 t315 w _ ?side1 ?side2 A27.out).mono ?_); (case side1 => first | ((repeat (first | (with_reducible first | exact HI287.out | apply IsS43.alloc | apply IsS43.drewN | apply IsS43.drew | apply IsS43.set_1 | apply IsS43.set_2) | exact HI287.out)); done) | (simp only [Int.add_zero]; repeat (first | (with_reducible first | exact HI287.out | apply IsS43.alloc | apply IsS43.drewN | apply IsS43.drew | apply IsS43.set_1 | apply IsS43.set_2) | exact HI287.out))); (case side2 => repeat (first | (with_reducible first | exact HB.out | apply below_alloc | apply pw_below_drewN | apply below_drew1 | refine below_set ?_ (IsS43.ge HI287.out)) | exact HB.out)); rintro e w29 ⟨rfl, hi, hb, hk⟩; refine ⟨_, rfl, ?_⟩; have n0_ := Aside0.mk (Kd.R_mono (Kd.R_keep (IsS43.apart (show IsS43 w _ gb287 l0 t311 t312 from by first | ((repeat (first | (with_reducible first | exact HI287.out | apply IsS43.alloc | apply IsS43.drewN | apply IsS43.drew | apply IsS43.set_1 | apply IsS43.set_2) | exact HI287.out)); done) | (simp only [Int.add_zero]; repeat (first | (with_reducible first | exact HI287.out | apply IsS43.alloc | apply IsS43.drewN | apply IsS43.drew | apply IsS43.set_1 | apply IsS43.set_2) | exact HI287.out))) (by (with_reducible repeat (first | apply Kd.R_alloc | apply Kd.R_drewN | apply Kd.R_drew)); exact HO_5.out) (by decide)) hk (fun _ h => h.2)) (fun _ h => h.1)); have n1_ := Aside0.mk (hb); have n2_ := Aside0.mk (hi); clear HO_5; clear HB; clear HI287; have HO_5 := n0_; have HB := n1_; have HI287 := n2_; clear n0_ n1_ n2_; (try clear hb); (try clear hb2); (try clear hk); (try clear hi)))
            go_ret2
            exact ⟨by first | rfl | (simp [errW_none, errW_some] <;> rfl) | (simp [*, errW_none, errW_some] <;> rfl), by repeat (first | (with_reducible first | exact HB.out | apply below_alloc | apply pw_below_drewN | apply below_drew1 | refine below_set ?_ (IsS43.ge HI287.out)) | exact HB.out)⟩
          · replace c26 := Bool.eq_false_iff.mpr c26
            subst c26
            have H1 : (if 0 < (t288.length : Int) then (some (rd t288 0, x7_14)) else (none)) = some (r1, r2) := by rw [if_neg (show ¬ (false = true) by decide)] at H; exact H
            clear H
            have H := H1
            clear H1
            by_cases c30 : 0 < (t288.length : Int)
            · rw [if_pos c30] at H
              have c30b0 : decide (0 < (t288.length : Int)) = true := decide_eq_true c30
              have c30b1 : decide (0 < t288.length) = true := decide_eq_true (by omega)
              clear c30
              simp only [Option.some.injEq, Prod.mk.injEq] at H
              obtain ⟨rfl, rfl⟩ := H
              go_wp2_with (first | ((with_reducible refine gate_callee (f := 33) rfl ?_); refine goesL_ (some 47) rfl rfl Tryd.func33 (by kernel_rfl) rfl #[.pointer (some ⟨gb287, 0, none⟩), .int .i64 8] rfl (by (try simp only [List.map_toArray, List.map_cons, List.map_nil]); first | done | rfl | (simp only [List.length_drop, List.length_take]; rfl)) ?_; (with_reducible refine (spec_l1Cur_one.calls gb287 l0 x288001_14 x288002_14 8 false t311 t312 w _ ?side1 ?side2 A25.out).mono ?_); (case side1 => first | ((repeat (first | (with_reducible first | exact HI287.out | apply IsS43.alloc | apply IsS43.drewN | apply IsS43.drew | apply IsS43.set_1 | apply IsS43.set_2) | exact HI287.out)); done) | (simp only [Int.add_zero]; repeat (first | (with_reducible first | exact HI287.out | apply IsS43.alloc | apply IsS43.drewN | apply IsS43.drew | apply IsS43.set_1 | apply IsS43.set_2) | exact HI287.out))); (case side2 => repeat (first | (with_reducible first | exact HB.out | apply below_alloc | apply pw_below_drewN | apply below_drew1 | refine below_set ?_ (IsS43.ge HI287.out)) | exact HB.out)); rintro e w31 ⟨rfl, hi, hb, hk⟩; refine ⟨_, rfl, ?_⟩; have n0_ := Aside0.mk (Kd.R_mono (Kd.R_keep (IsS43.apart (show IsS43 w _ gb287 l0 x288001_14 x288002_14 from by first | ((repeat (first | (with_reducible first | exact HI287.out | apply IsS43.alloc | apply IsS43.drewN | apply IsS43.drew | apply IsS43.set_1 | apply IsS43.set_2) | exact HI287.out)); done) | (simp only [Int.add_zero]; repeat (first | (with_reducible first | exact HI287.out | apply IsS43.alloc | apply IsS43.drewN | apply IsS43.drew | apply IsS43.set_1 | apply IsS43.set_2) | exact HI287.out))) (by (with_reducible repeat (first | apply Kd.R_alloc | apply Kd.R_drewN | apply Kd.R_drew)); exact HO_5.out) (by decide)) hk (fun _ h => h.2)) (fun _ h => h.1)); have n1_ := Aside0.mk (hb); have n2_ := Aside0.mk (hi); clear HO_5; clear HB; clear HI287; have HO_5 := n0_; have HB := n1_; have HI287 := n2_; clear n0_ n1_ n2_; (try clear hb); (try clear hb2); (try clear hk); (try clear hi); have p316 : 0 ≤ (0 : Int) := (by omega); have q316 : 0 < (t288.length : Int) := of_decide_eq_true (by first | (with_reducible assumption) | assumption); obtain ⟨ad316, e316, hx316_0⟩ := Kd.at_int (Kd.R_reads' HO_5.out).2.2 0 p316 q316; cases e316; have qi316 : (0 < t288.length) = True := eq_true (by omega); (try rw [show ((0 : Int)).toNat = 0 from rfl] at hx316_0); (try rw [Addr.add_zero'] at hx316_0); replace p316 := eq_true p316; replace q316 := eq_true q316))
              go_ret2
              exact ⟨by first | rfl | (simp [errW_none, errW_some] <;> rfl) | (simp [*, errW_none, errW_some] <;> rfl), by repeat (first | (with_reducible first | exact HB.out | apply below_alloc | apply pw_below_drewN | apply below_drew1 | refine below_set ?_ (IsS43.ge HI287.out)) | exact HB.out)⟩
            · rw [if_neg c30] at H
              exact absurd H (by simp)

/-! ### spec_UnpadBody: function 37 -/
def spec_UnpadBody.l0 : Nat → ByteArray → Int → Option (ByteArray × Bool)
  | 0, _, _ => none
  | k + 1, x0, x4 => if x4 > 0 then (if 0 ≤ x4 then (if x4 < (x0.size : Int) then (if (bt x0 x4) = 0 then (spec_UnpadBody.l0 k x0 (wrap64 (x4 - 1))) else (if (bt x0 x4) = 128 then (if x4 ≤ (x0.size : Int) then (some (x0.extract 0 (x4 : Int).toNat, true)) else (none)) else (some ((⟨#[]⟩ : ByteArray), false)))) else (none)) else (none)) else (if 0 ≤ x4 then (if x4 < (x0.size : Int) then (if (bt x0 x4) = 128 then (if x4 ≤ (x0.size : Int) then (some (x0.extract 0 (x4 : Int).toNat, true)) else (none)) else (some ((⟨#[]⟩ : ByteArray), false))) else (none)) else (none))
def spec_UnpadBody.f (k : Nat) (a0 : ByteArray) : Option (ByteArray × Bool) := if (a0.size : Int) = 16 then (spec_UnpadBody.l0 k a0 (wrap64 ((a0.size : Int) - 1))) else (some ((⟨#[]⟩ : ByteArray), false))
theorem spec_UnpadBody.mono_l : ∀ k, (∀ y0 y1, LeO (spec_UnpadBody.l0 k y0 y1) (spec_UnpadBody.l0 (k + 1) y0 y1))
  | 0 => fun _ _ r h => by simp [spec_UnpadBody.l0] at h
  | k + 1 => by
    have ih0 := spec_UnpadBody.mono_l k
    · intro y0 y1
      unfold spec_UnpadBody.l0
      repeat' first
      | (with_reducible exact ih0 _ _)
      | (with_reducible exact LeO.refl _)
      | (with_reducible exact LeO.none _)
      | (with_reducible refine LeO.ite ?_ ?_)
      | (with_reducible refine LeO.bind ?_ (fun _ => ?_))
      | exact ih0 _ _
      | exact LeO.none _
      | refine LeO.ite ?_ ?_
      | refine LeO.bind ?_ (fun _ => ?_)
theorem spec_UnpadBody.mono : ∀ a0 k, LeO (spec_UnpadBody.f k a0) (spec_UnpadBody.f (k + 1) a0) := by
  intro a0 k
  have ih0 := spec_UnpadBody.mono_l k
  unfold spec_UnpadBody.f
  repeat' first
      | (with_reducible exact ih0 _ _)
      | (with_reducible exact LeO.refl _)
      | (with_reducible exact LeO.none _)
      | (with_reducible refine LeO.ite ?_ ?_)
      | (with_reducible refine LeO.bind ?_ (fun _ => ?_))
      | exact ih0 _ _
      | exact LeO.none _
      | refine LeO.ite ?_ ?_
      | refine LeO.bind ?_ (fun _ => ?_)
set_option maxHeartbeats 8000000 in
set_option maxRecDepth 100000 in
theorem spec_UnpadBody.calls (k : Nat) (a0 : ByteArray) (r1 : ByteArray) (r2 : Bool) (w : World) (h : spec_UnpadBody.f k a0 = some (r1, r2)) :
    Calls Tryd.prog 37 #[.string a0] w fun e w' => e = .returned (.tuple #[.string r1, .bool r2]) ∧ Drawn0 w w' := by
  have H : (if (a0.size : Int) = 16 then (spec_UnpadBody.l0 k a0 (wrap64 ((a0.size : Int) - 1))) else (some ((⟨#[]⟩ : ByteArray), false))) = some (r1, r2) := h
  clear h
  by_cases c2 : (a0.size : Int) = 16
  · rw [if_pos c2] at H
    have c2b0 : ((a0.size : Int) == 16) = true := beq_iff_eq.mpr c2
    have c2b1 : ((a0.size : Int) != 16) = false := bne_eq_false_iff_eq.mpr c2
    clear c2
    have H' := Aside0.mk H
    clear H
    go_enter Tryd.func37, Tryd.ntmps37
    go_wp2
    go_loopg [4] k (fun kq v4 w' => ∃ (x4_1 : Int), v4 = .int .i64 x4_1 ∧ Aside0 (spec_UnpadBody.l0 kq a0 x4_1 = some (r1, r2)) ∧ Aside0 (kq ≤ k) ∧ Drawn0 w w')
    case atStart => exact ⟨(wrap64 ((a0.size : Int) - 1)), (by first | rfl | (simp; done) | (simp [*]; done)), H', ⟨Nat.le_refl _⟩, by repeat (first | exact Drawn0.refl _ | apply Drawn0.step)⟩
    case round =>
      clear H'
      try clear c2
      try clear c2b0
      try clear c2b1
      try clear p2
      obtain ⟨x4_1, rfl, HA, HK1, ⟨m1, rfl⟩⟩ := hrel
      cases gk with
      | zero => exact absurd HA.out (by simp [spec_UnpadBody.l0])
      | succ k1 =>
        have H := HA.out
        clear HA
        simp only [spec_UnpadBody.l0] at H
        by_cases c3 : x4_1 > 0
        · rw [if_pos c3] at H
          have c3b0 : decide (0 < x4_1) = true := decide_eq_true c3
          clear c3
          by_cases c4 : 0 ≤ x4_1
          · rw [if_pos c4] at H
            have c4b0 : decide (0 ≤ x4_1) = true := decide_eq_true c4
            clear c4
            by_cases c5 : x4_1 < (a0.size : Int)
            · rw [if_pos c5] at H
              have c5b0 : decide (x4_1 < (a0.size : Int)) = true := decide_eq_true c5
              clear c5
              by_cases c7 : (bt a0 x4_1) = 0
              · rw [if_pos c7] at H
                have c7b0 : ((bt a0 x4_1) == 0) = true := beq_iff_eq.mpr c7
                have c7b1 : ((bt a0 x4_1) != 0) = false := bne_eq_false_iff_eq.mpr c7
                clear c7
                have H' := Aside0.mk H
                clear H
                have p6 : 0 ≤ (x4_1 : Int) := of_decide_eq_true (by first | (with_reducible assumption) | assumption)
                have q6 : x4_1 < (a0.size : Int) := of_decide_eq_true (by first | (with_reducible assumption) | assumption)
                have hx6 := bt_at a0 x4_1
                replace p6 := eq_true p6
                replace q6 := eq_true q6
                go_wp2
                go_roundg k1
                case measure => have := HK1.out; omega
                case rel => exact ⟨(wrap64 (x4_1 - 1)), (by first | rfl | (simp; done) | (simp [*]; done)), H', ⟨by have := HK1.out; omega⟩, by repeat (first | exact Drawn0.refl _ | apply Drawn0.step)⟩
              · rw [if_neg c7] at H
                have c7b0 : ((bt a0 x4_1) == 0) = false := beq_eq_false_iff_ne.mpr c7
                have c7b1 : ((bt a0 x4_1) != 0) = true := bne_iff_ne.mpr c7
                by_cases c9 : (bt a0 x4_1) = 128
                · rw [if_pos c9] at H
                  have c9b0 : ((bt a0 x4_1) == 128) = true := beq_iff_eq.mpr c9
                  have c9b1 : ((bt a0 x4_1) != 128) = false := bne_eq_false_iff_eq.mpr c9
                  clear c9
                  have c10b0 := eq_true (of_decide_eq_true (by first | (with_reducible assumption) | assumption) : 0 ≤ x4_1)
                  by_cases c11 : x4_1 ≤ (a0.size : Int)
                  · rw [if_pos c11] at H
                    have c11b0 := eq_true c11
                    have c11b1 : decide (x4_1 ≤ (a0.size : Int)) = true := decide_eq_true c11
                    clear c11
                    simp only [Option.some.injEq, Prod.mk.injEq] at H
                    obtain ⟨rfl, rfl⟩ := H
                    have p6 : 0 ≤ (x4_1 : Int) := of_decide_eq_true (by first | (with_reducible assumption) | assumption)
                    have q6 : x4_1 < (a0.size : Int) := of_decide_eq_true (by first | (with_reducible assumption) | assumption)
                    have hx6 := bt_at a0 x4_1
                    replace p6 := eq_true p6
                    replace q6 := eq_true q6
                    have p8 : 0 ≤ (x4_1 : Int) := of_decide_eq_true (by first | (with_reducible assumption) | assumption)
                    have q8 : x4_1 < (a0.size : Int) := of_decide_eq_true (by first | (with_reducible assumption) | assumption)
                    have hx8 := bt_at a0 x4_1
                    replace p8 := eq_true p8
                    replace q8 := eq_true q8
                    go_wp2
                    go_ret2
                    exact ⟨by first | rfl | (simp; done) | (simp [*]; done), by repeat (first | exact Drawn0.refl _ | apply Drawn0.step)⟩
                  · rw [if_neg c11] at H
                    exact absurd H (by simp)
                · rw [if_neg c9] at H
                  have c9b0 : ((bt a0 x4_1) == 128) = false := beq_eq_false_iff_ne.mpr c9
                  have c9b1 : ((bt a0 x4_1) != 128) = true := bne_iff_ne.mpr c9
                  simp only [Option.some.injEq, Prod.mk.injEq] at H
                  obtain ⟨rfl, rfl⟩ := H
                  have p6 : 0 ≤ (x4_1 : Int) := of_decide_eq_true (by first | (with_reducible assumption) | assumption)
                  have q6 : x4_1 < (a0.size : Int) := of_decide_eq_true (by first | (with_reducible assumption) | assumption)
                  have hx6 := bt_at a0 x4_1
                  replace p6 := eq_true p6
                  replace q6 := eq_true q6
                  have p8 : 0 ≤ (x4_1 : Int) := of_decide_eq_true (by first | (with_reducible assumption) | assumption)
                  have q8 : x4_1 < (a0.size : Int) := of_decide_eq_true (by first | (with_reducible assumption) | assumption)
                  have hx8 := bt_at a0 x4_1
                  replace p8 := eq_true p8
                  replace q8 := eq_true q8
                  go_wp2
                  go_ret2
                  exact ⟨by first | rfl | (simp; done) | (simp [*]; done), by repeat (first | exact Drawn0.refl _ | apply Drawn0.step)⟩
            · rw [if_neg c5] at H
              exact absurd H (by simp)
          · rw [if_neg c4] at H
            exact absurd H (by simp)
        · rw [if_neg c3] at H
          have c3b0 : decide (0 < x4_1) = false := decide_eq_false c3
          clear c3
          by_cases c12 : 0 ≤ x4_1
          · rw [if_pos c12] at H
            have c12b0 : decide (0 ≤ x4_1) = true := decide_eq_true c12
            clear c12
            by_cases c13 : x4_1 < (a0.size : Int)
            · rw [if_pos c13] at H
              have c13b0 : decide (x4_1 < (a0.size : Int)) = true := decide_eq_true c13
              clear c13
              by_cases c15 : (bt a0 x4_1) = 128
              · rw [if_pos c15] at H
                have c15b0 : ((bt a0 x4_1) == 128) = true := beq_iff_eq.mpr c15
                have c15b1 : ((bt a0 x4_1) != 128) = false := bne_eq_false_iff_eq.mpr c15
                clear c15
                have c16b0 := eq_true (of_decide_eq_true (by first | (with_reducible assumption) | assumption) : 0 ≤ x4_1)
                by_cases c17 : x4_1 ≤ (a0.size : Int)
                · rw [if_pos c17] at H
                  have c17b0 := eq_true c17
                  have c17b1 : decide (x4_1 ≤ (a0.size : Int)) = true := decide_eq_true c17
                  clear c17
                  simp only [Option.some.injEq, Prod.mk.injEq] at H
                  obtain ⟨rfl, rfl⟩ := H
                  have p14 : 0 ≤ (x4_1 : Int) := of_decide_eq_true (by first | (with_reducible assumption) | assumption)
                  have q14 : x4_1 < (a0.size : Int) := of_decide_eq_true (by first | (with_reducible assumption) | assumption)
                  have hx14 := bt_at a0 x4_1
                  replace p14 := eq_true p14
                  replace q14 := eq_true q14
                  go_wp2
                  go_ret2
                  exact ⟨by first | rfl | (simp; done) | (simp [*]; done), by repeat (first | exact Drawn0.refl _ | apply Drawn0.step)⟩
                · rw [if_neg c17] at H
                  exact absurd H (by simp)
              · rw [if_neg c15] at H
                have c15b0 : ((bt a0 x4_1) == 128) = false := beq_eq_false_iff_ne.mpr c15
                have c15b1 : ((bt a0 x4_1) != 128) = true := bne_iff_ne.mpr c15
                simp only [Option.some.injEq, Prod.mk.injEq] at H
                obtain ⟨rfl, rfl⟩ := H
                have p14 : 0 ≤ (x4_1 : Int) := of_decide_eq_true (by first | (with_reducible assumption) | assumption)
                have q14 : x4_1 < (a0.size : Int) := of_decide_eq_true (by first | (with_reducible assumption) | assumption)
                have hx14 := bt_at a0 x4_1
                replace p14 := eq_true p14
                replace q14 := eq_true q14
                go_wp2
                go_ret2
                exact ⟨by first | rfl | (simp; done) | (simp [*]; done), by repeat (first | exact Drawn0.refl _ | apply Drawn0.step)⟩
            · rw [if_neg c13] at H
              exact absurd H (by simp)
          · rw [if_neg c12] at H
            exact absurd H (by simp)
  · rw [if_neg c2] at H
    have c2b0 : ((a0.size : Int) == 16) = false := beq_eq_false_iff_ne.mpr c2
    have c2b1 : ((a0.size : Int) != 16) = true := bne_iff_ne.mpr c2
    simp only [Option.some.injEq, Prod.mk.injEq] at H
    obtain ⟨rfl, rfl⟩ := H
    go_enter Tryd.func37, Tryd.ntmps37
    go_wp2
    go_ret2
    exact ⟨by first | rfl | (simp; done) | (simp [*]; done), by repeat (first | exact Drawn0.refl _ | apply Drawn0.step)⟩

end Go.Proofs.YtjpilaicnglmeaaDoor.PFnLayers
