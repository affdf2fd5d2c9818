-- Written by a program of this session, after the kit's print (changed in some places; see NOTES.md). Lean checks it.
import Derived.Test.YtebpikejljgfgaaPFnBlamedx0
import Derived.Test.YtebpikejljgfgaaPFnBlamedx2
import Derived.Test.YtebpikejljgfgaaPFnBlamedx5
import Derived.Test.YtebpikejljgfgaaPFnBlamedx6
namespace Go.Proofs.Ytebpikejljgfgaa.PFnBlamed
open Go.RowKit Go.Proofs.YtebpikejljgfgaaW.PrintWords Go.Proofs.YtebpikejljgfgaaW.PrintLast Go.Proofs.YtebpikejljgfgaaW.PrintMore
attribute [local go_sem] max2_int min2_int max_two min_two max_three min_three max_four min_four   -- for this text's walks alone
set_option linter.unusedVariables false
set_option linter.unusedSimpArgs false
def spec_DrawBlameOf.j0 : Nat → Int → List Int → List (S71) → Bool → List Int → Int → Int → Option (List Int × Int × (List (S71)))
 | 0, _, _, _, _, _, _, _ => none
 | k + 1, x6, x11, x13, x44, x261000, x261001, x261002 => if x44 = true then ((spec_l1Cur_pick.f x261000 x261001 x261002 (x13.length : Int)).bind fun bt279 => ((some (([] : List (S71)) : List (S71))).bind fun y282 => (if 0 ≤ bt279.1 then (if bt279.1 ≤ (x13.length : Int) then ((some (x13.take (bt279.1 : Int).toNat : List (S71))).bind fun y285 => (if y282.length + y285.length < 4398046511104 then ((some (y282 ++ y285 : List (S71))).bind fun y289 => (if 0 ≤ (wrap64 (bt279.1 + 1)) then (if (wrap64 (bt279.1 + 1)) ≤ (x13.length : Int) then ((some (x13.drop ((wrap64 (bt279.1 + 1)) : Int).toNat : List (S71))).bind fun y292 => (if y289.length + y292.length < 4398046511104 then ((some (y289 ++ y292 : List (S71))).bind fun y296 => (if (y296.length : Int) > 0 then ((spec_l1Cur_one.f x261000 bt279.2.1 bt279.2.2 6).bind fun bt299 => (if bt299.1 = true then (if 0 < (y296.length : Int) then (some (x11, x6, (y296.set (0 : Int).toNat (⟨(rd_T71 y296 0).f0, (rd_T71 y296 0).f1, (rd_T71 y296 0).f2, Int.tmod (wrap64 (((rd_T71 y296 0).f3) + 1)) 1499⟩ : S71)))) else (none)) else (some (x11, x6, y296)))) else (some (x11, x6, y296)))) else (none))) else (none)) else (none))) else (none))) else (none)) else (none)))) else (if (x13.length : Int) > 0 then ((spec_l1Cur_one.f x261000 x261001 x261002 6).bind fun bt304 => (if bt304.1 = true then (if 0 < (x13.length : Int) then (some (x11, x6, (x13.set (0 : Int).toNat (⟨(rd_T71 x13 0).f0, (rd_T71 x13 0).f1, (rd_T71 x13 0).f2, Int.tmod (wrap64 (((rd_T71 x13 0).f3) + 1)) 1499⟩ : S71)))) else (none)) else (some (x11, x6, x13)))) else (some (x11, x6, x13)))
def spec_DrawBlameOf.f (k : Nat) (l0 : List Int) : Option (List Int × Int × (List (S71))) := (spec_DrawRunTrip.f k l0).bind fun bt255 => ((spec_RunTrip.f k bt255.1 bt255.2.1 bt255.2.2).bind fun bt261 => ((spec_PublicsOf.f k bt255.1).bind fun bt272 => (if (bt261.2.2.2.1.length : Int) > 1 then ((spec_l1Cur_one.f l0 0 0 4).bind fun bt276 => (spec_DrawBlameOf.j0 k bt255.2.1 bt272.1 bt261.2.2.2.1 bt276.1 l0 bt276.2.1 bt276.2.2)) else (spec_DrawBlameOf.j0 k bt255.2.1 bt272.1 bt261.2.2.2.1 false l0 0 0))))
theorem spec_DrawBlameOf.mono_l : ∀ k, (∀ y0 y1 y2 y3 y4 y5 y6, LeO (spec_DrawBlameOf.j0 k y0 y1 y2 y3 y4 y5 y6) (spec_DrawBlameOf.j0 (k + 1) y0 y1 y2 y3 y4 y5 y6))
 | 0 => fun _ _ _ _ _ _ _ r h => by simp [spec_DrawBlameOf.j0] at h
 | k + 1 => by
  have ih0 := spec_DrawBlameOf.mono_l k
  ·intro y0 y1 y2 y3 y4 y5 y6
   unfold spec_DrawBlameOf.j0
   repeat' first
   | (with_reducible exact ih0 _ _ _ _ _ _ _)
   | (with_reducible exact spec_DrawRunTrip.mono _ _)
   | (with_reducible exact spec_PublicsOf.mono _ _)
   | (with_reducible exact spec_RunTrip.mono _ _ _ _)
   | (with_reducible exact LeO.refl _)
   | (with_reducible exact LeO.none _)
   | (with_reducible refine LeO.ite ?_ ?_)
   | (with_reducible refine LeO.bind ?_ (fun _ => ?_))
   | exact ih0 _ _ _ _ _ _ _
   | exact spec_DrawRunTrip.mono _ _
   | exact spec_PublicsOf.mono _ _
   | exact spec_RunTrip.mono _ _ _ _
   | exact LeO.none _
   | refine LeO.ite ?_ ?_
   | refine LeO.bind ?_ (fun _ => ?_)
theorem spec_DrawBlameOf.mono : ∀ a0 k, LeO (spec_DrawBlameOf.f k a0) (spec_DrawBlameOf.f (k + 1) a0) := by
 intro a0 k
 have ih0 := spec_DrawBlameOf.mono_l k
 unfold spec_DrawBlameOf.f
 repeat' first
   | (with_reducible exact ih0 _ _ _ _ _ _ _)
   | (with_reducible exact spec_DrawRunTrip.mono _ _)
   | (with_reducible exact spec_PublicsOf.mono _ _)
   | (with_reducible exact spec_RunTrip.mono _ _ _ _)
   | (with_reducible exact LeO.refl _)
   | (with_reducible exact LeO.none _)
   | (with_reducible refine LeO.ite ?_ ?_)
   | (with_reducible refine LeO.bind ?_ (fun _ => ?_))
   | exact ih0 _ _ _ _ _ _ _
   | exact spec_DrawRunTrip.mono _ _
   | exact spec_PublicsOf.mono _ _
   | exact spec_RunTrip.mono _ _ _ _
   | exact LeO.none _
   | refine LeO.ite ?_ ?_
   | refine LeO.bind ?_ (fun _ => ?_)
def spec_DrawBlameOf.T8 : Bool × List (List Nat × List Nat) := (true, [([], []), ([], []), ([], []), ([1, 2], [1, 2]), ([0, 3], [0, 3]), ([], []), ([], []), ([6], [6]), ([5, 7], [5, 7]), ([4, 8, 4], [4, 8]), ([9, 9, 0, 1, 2, 3, 4, 5, 6, 7, 8, 9], [1, 5, 9])])
def spec_DrawBlameOf.B8 : List Nat := [0, 0, 0, 6, 15, 0, 0, 64, 224, 511, 1023]
theorem spec_DrawBlameOf.tab8 : rtab .any (opsOf Try.f58 8) = spec_DrawBlameOf.T8 := by kernel_rfl
theorem spec_DrawBlameOf.bits8 : waitsOk spec_DrawBlameOf.T8.2 spec_DrawBlameOf.B8 = true := by kernel_rfl
set_option maxHeartbeats 8000000 in
set_option maxRecDepth 100000 in
theorem spec_DrawBlameOf.calls (k : Nat) (A0 : Option Addr) (c0 : Nat) (l0 : List Int) (r1 : List Int) (r2 : Int) (r3 : List (S71)) (w : World) (hr0 : Kd.C (Kd.int .u8) w A0 l0.length l0) (hc0 : l0.length ≤ c0) (h : spec_DrawBlameOf.f k l0 = some (r1, r2, r3)) :
  Calls Try.prog 58 #[.slice A0 l0.length c0] w fun e w' => ∃ v0_ v2_ : Value, e = .returned (.tuple #[v0_, .int .i64 r2, v2_]) ∧ Kd.R (Kd.int .i64) 3 w' w.heap.size (fun _ => True) v0_ r1 ∧ Kd.R k71 71 w' w.heap.size (fun _ => True) v2_ r3 ∧ Below w.heap.size w w' := by
 have hu77 := Try.underlying77
 have hu60 := Try.underlying60
 have HR0 := Aside0.mk hr0
 have HC0 := Aside0.mk hc0
 clear hr0 hc0
 have HB := Aside0.mk (Below.refl w.heap.size w)
 have H : ((spec_DrawRunTrip.f k l0).bind fun bt255 => ((spec_RunTrip.f k bt255.1 bt255.2.1 bt255.2.2).bind fun bt261 => ((spec_PublicsOf.f k bt255.1).bind fun bt272 => (if (bt261.2.2.2.1.length : Int) > 1 then ((spec_l1Cur_one.f l0 0 0 4).bind fun bt276 => (spec_DrawBlameOf.j0 k bt255.2.1 bt272.1 bt261.2.2.2.1 bt276.1 l0 bt276.2.1 bt276.2.2)) else (spec_DrawBlameOf.j0 k bt255.2.1 bt272.1 bt261.2.2.2.1 false l0 0 0))))) = some (r1, r2, r3) := h
 clear h
 replace H := Option.bind_eq_some_iff.mp H
 obtain ⟨⟨t255, t256, t257⟩, A20, H⟩ := H
 replace H : ((spec_RunTrip.f k t255 t256 t257).bind fun bt261 => ((spec_PublicsOf.f k t255).bind fun bt272 => (if (bt261.2.2.2.1.length : Int) > 1 then ((spec_l1Cur_one.f l0 0 0 4).bind fun bt276 => (spec_DrawBlameOf.j0 k t256 bt272.1 bt261.2.2.2.1 bt276.1 l0 bt276.2.1 bt276.2.2)) else (spec_DrawBlameOf.j0 k t256 bt272.1 bt261.2.2.2.1 false l0 0 0)))) = some (r1, r2, r3) := H
 have A2 := Aside0.mk A20
 clear A20
 replace H := Option.bind_eq_some_iff.mp H
 obtain ⟨⟨t261, t264, t265, t266, t269, t270⟩, A30, H⟩ := H
 replace H : ((spec_PublicsOf.f k t255).bind fun bt272 => (if (t266.length : Int) > 1 then ((spec_l1Cur_one.f l0 0 0 4).bind fun bt276 => (spec_DrawBlameOf.j0 k t256 bt272.1 t266 bt276.1 l0 bt276.2.1 bt276.2.2)) else (spec_DrawBlameOf.j0 k t256 bt272.1 t266 false l0 0 0))) = some (r1, r2, r3) := H
 have A3 := Aside0.mk A30
 clear A30
 replace H := Option.bind_eq_some_iff.mp H
 obtain ⟨⟨t272, t273⟩, A40, H⟩ := H
 replace H : (if (t266.length : Int) > 1 then ((spec_l1Cur_one.f l0 0 0 4).bind fun bt276 => (spec_DrawBlameOf.j0 k t256 t272 t266 bt276.1 l0 bt276.2.1 bt276.2.2)) else (spec_DrawBlameOf.j0 k t256 t272 t266 false l0 0 0)) = some (r1, r2, r3) := H
 have A4 := Aside0.mk A40
 clear A40
 have HC5 := Aside0.mk H
 clear H
 go_enter Try.func58, Try.ntmps58
 go_upto_region 6 with (first | ((with_reducible refine gate_callee (f := 48) rfl ?_); refine goesL_ (some 17) rfl rfl Try.func48 (by kernel_rfl) rfl #[.slice A0 l0.length c0] rfl (by (try simp only [List.map_toArray, List.map_cons, List.map_nil]); first | done | rfl | (simp only [List.length_drop, List.length_take]; rfl)) ?_; (with_reducible refine (spec_DrawRunTrip.calls k _ _ l0 t255 t256 t257 _ ?side1 ?side2 A2.out).mono ?_); (case side1 => repeat (first | exact HR0.out | (with_reducible refine Kd.C_alloc ?_ _) | (with_reducible refine Kd.C_drewN ?_ _) | (with_reducible refine Kd.C_drew ?_))); (case side2 => exact HC0.out); rintro e w6 ⟨v258, rfl, ho0, hb⟩; refine ⟨_, rfl, ?_⟩; have n0_ := Aside0.mk (Kd.R_lower ho0 (below_size (by repeat (first | (with_reducible first | exact HB.out | apply below_alloc | apply pw_below_drewN | apply below_drew1) | exact HB.out)))); have n1_ := Aside0.mk (below_step (by repeat (first | (with_reducible first | exact HB.out | apply below_alloc | apply pw_below_drewN | apply below_drew1) | exact HB.out)) hb); clear HB; have HO259 := n0_; have HB := n1_; clear n0_ n1_; (try clear hb); (try clear hb2); (try clear hk); (try clear hi); (try clear ho0)) | ((with_reducible refine gate_dst (N := 23) rfl ?_); refine box_event ?hg (N := 23) ?hd (cs := #[.slice A0 l0.length c0, .int .i64 0, .int .u64 0]) (t := 77) ?hr ?_; (case hd => rfl); (case hg => rfl); (case hr => first | (go_simp; done) | (go_simp; rfl)); intro gb260 hg w7 hbox hb; have n0_ := Aside0.mk (Kd.R_below (by (with_reducible repeat (first | apply Kd.R_alloc | apply Kd.R_drewN | apply Kd.R_drew)); exact HO259.out) hb); have n1_ := Aside0.mk (below_step (by repeat (first | (with_reducible first | exact HB.out | apply below_alloc | apply pw_below_drewN | apply below_drew1) | exact HB.out)) hb); have n2_ := Aside0.mk ((show IsS77 w w7 gb260 l0 0 0 from ⟨_, _, hbox, (by rw [hg]; exact (below_size (by repeat (first | (with_reducible first | exact HB.out | apply below_alloc | apply pw_below_drewN | apply below_drew1) | exact HB.out))) : w.heap.size ≤ gb260), HR0.out⟩)); clear HO259; clear HB; have HO259 := n0_; have HB := n1_; have HI260 := n2_; clear n0_ n1_ n2_; clear hb hbox hg; obtain ⟨Ao8, co8, eo8⟩ := Kd.R_slice HO259.out; subst eo8) | ((with_reducible refine gate_callee (f := 50) rfl ?_); refine goesL_ (some 28) rfl rfl Try.func50 (by kernel_rfl) rfl #[.slice Ao8 t255.length co8, .int .i64 t256, .int .i64 t257] rfl (by (try simp only [List.map_toArray, List.map_cons, List.map_nil]); first | done | rfl | (simp only [List.length_drop, List.length_take]; rfl)) ?_; (with_reducible refine (spec_RunTrip.calls k _ _ t255 t256 t257 t261 t264 t265 t266 t269 t270 _ ?side1 ?side2 A3.out).mono ?_); (case side1 => repeat (first | exact (Kd.R_reads' HO259.out).2.2 | (with_reducible refine Kd.C_alloc ?_ _) | (with_reducible refine Kd.C_drewN ?_ _) | (with_reducible refine Kd.C_drew ?_))); (case side2 => exact (Kd.R_reads' HO259.out).2.1); rintro e w9 ⟨v262, v267, rfl, ho0, ho1, hb⟩; refine ⟨_, rfl, ?_⟩; have n0_ := Aside0.mk (Kd.R_elder' (by (with_reducible repeat (first | apply Kd.R_alloc | apply Kd.R_drewN | apply Kd.R_drew)); exact HO259.out) (Kd.R_base ho0) hb); have n1_ := Aside0.mk (Kd.R_lower (Kd.R_new' ho0 (Kd.R_lt (by (with_reducible repeat (first | apply Kd.R_alloc | apply Kd.R_drewN | apply Kd.R_drew)); exact HO259.out))) (below_size (by repeat (first | (with_reducible first | exact HB.out | apply below_alloc | apply pw_below_drewN | apply below_drew1 | refine below_set ?_ (IsS77.ge HI260.out)) | exact HB.out)))); have n2_ := Aside0.mk (Kd.R_lower ho1 (below_size (by repeat (first | (with_reducible first | exact HB.out | apply below_alloc | apply pw_below_drewN | apply below_drew1 | refine below_set ?_ (IsS77.ge HI260.out)) | exact HB.out)))); have n3_ := Aside0.mk (IsS77.below (by first | ((repeat (first | (with_reducible first | exact HI260.out | apply IsS77.alloc | apply IsS77.drewN | apply IsS77.drew | apply IsS77.set_1 | apply IsS77.set_2) | exact HI260.out)); done) | (simp only [Int.add_zero]; repeat (first | (with_reducible first | exact HI260.out | apply IsS77.alloc | apply IsS77.drewN | apply IsS77.drew | apply IsS77.set_1 | apply IsS77.set_2) | exact HI260.out))) hb); have n4_ := Aside0.mk (below_step (by repeat (first | (with_reducible first | exact HB.out | apply below_alloc | apply pw_below_drewN | apply below_drew1 | refine below_set ?_ (IsS77.ge HI260.out)) | exact HB.out)) hb); clear HO259; clear HI260; clear HB; have HO259 := n0_; have HO263 := n1_; have HO268 := n2_; have HI260 := n3_; have HB := n4_; clear n0_ n1_ n2_ n3_ n4_; (try clear hb); (try clear hb2); (try clear hk); (try clear hi); (try clear ho0); (try clear ho1)) | ((with_reducible refine gate_dst (N := 9) rfl ?_); refine box_event ?hg (N := 9) ?hd (cs := #[.slice none 0 0, .int .i64 0, .int .i64 0, .slice none 0 0, .int .i64 0]) (t := 60) ?hr ?_; (case hd => rfl); (case hg => rfl); (case hr => first | (go_simp; done) | (go_simp; rfl)); intro gb271 hg w10 hbox hb; have n0_ := Aside0.mk (Kd.R_below (by (with_reducible repeat (first | apply Kd.R_alloc | apply Kd.R_drewN | apply Kd.R_drew)); exact HO259.out) hb); have n1_ := Aside0.mk (Kd.R_below (by (with_reducible repeat (first | apply Kd.R_alloc | apply Kd.R_drewN | apply Kd.R_drew)); exact HO263.out) hb); have n2_ := Aside0.mk (Kd.R_below (by (with_reducible repeat (first | apply Kd.R_alloc | apply Kd.R_drewN | apply Kd.R_drew)); exact HO268.out) hb); have n3_ := Aside0.mk (IsS77.below (by first | ((repeat (first | (with_reducible first | exact HI260.out | apply IsS77.alloc | apply IsS77.drewN | apply IsS77.drew | apply IsS77.set_1 | apply IsS77.set_2) | exact HI260.out)); done) | (simp only [Int.add_zero]; repeat (first | (with_reducible first | exact HI260.out | apply IsS77.alloc | apply IsS77.drewN | apply IsS77.drew | apply IsS77.set_1 | apply IsS77.set_2) | exact HI260.out))) hb); have n4_ := Aside0.mk (below_step (by repeat (first | (with_reducible first | exact HB.out | apply below_alloc | apply pw_below_drewN | apply below_drew1 | refine below_set ?_ (IsS77.ge HI260.out)) | exact HB.out)) hb); have n5_ := Aside0.mk (hbox); have n6_ := Aside0.mk ((by rw [hg]; exact (below_size (by repeat (first | (with_reducible first | exact HB.out | apply below_alloc | apply pw_below_drewN | apply below_drew1 | refine below_set ?_ (IsS77.ge HI260.out)) | exact HB.out))) : w.heap.size ≤ gb271)); have n7_ := Aside0.mk ((by rw [hg]; exact (below_size (by repeat (first | (with_reducible first | exact HB.out | apply below_alloc | apply pw_below_drewN | apply below_drew1 | refine below_set ?_ (IsS77.ge HI260.out)) | exact HB.out))) : w.heap.size ≤ gb271)); have n8_ := Aside0.mk ((by rw [hg]; exact Nat.ne_of_lt (IsS77.lt (show IsS77 w _ gb260 l0 0 0 from by first | ((repeat (first | (with_reducible first | exact HI260.out | apply IsS77.alloc | apply IsS77.drewN | apply IsS77.drew | apply IsS77.set_1 | apply IsS77.set_2) | exact HI260.out)); done) | (simp only [Int.add_zero]; repeat (first | (with_reducible first | exact HI260.out | apply IsS77.alloc | apply IsS77.drewN | apply IsS77.drew | apply IsS77.set_1 | apply IsS77.set_2) | exact HI260.out)))) : gb260 ≠ gb271)); have n9_ := Aside0.mk ((by rw [hg]; exact Nat.ne_of_gt (IsS77.lt (show IsS77 w _ gb260 l0 0 0 from by first | ((repeat (first | (with_reducible first | exact HI260.out | apply IsS77.alloc | apply IsS77.drewN | apply IsS77.drew | apply IsS77.set_1 | apply IsS77.set_2) | exact HI260.out)); done) | (simp only [Int.add_zero]; repeat (first | (with_reducible first | exact HI260.out | apply IsS77.alloc | apply IsS77.drewN | apply IsS77.drew | apply IsS77.set_1 | apply IsS77.set_2) | exact HI260.out)))) : gb271 ≠ gb260)); clear HO259; clear HO263; clear HO268; clear HI260; clear HB; have HO259 := n0_; have HO263 := n1_; have HO268 := n2_; have HI260 := n3_; have HB := n4_; have BK271 := n5_; have GW271 := n6_; have GE271 := n7_; have NB260_271 := n8_; have NB271_260 := n9_; clear n0_ n1_ n2_ n3_ n4_ n5_ n6_ n7_ n8_ n9_; clear hb hbox hg; obtain ⟨Ao11, co11, eo11⟩ := Kd.R_slice HO263.out; subst eo11; have hnb12 := NB271_260.out; have hnc12 := NB260_271.out; have hcz13_0 : w10.cell? ⟨gb271, 0, none⟩ = some (.slice none 0 0) := (blk_cell BK271.out 0).trans rfl; have hcz13_1 : w10.cell? ⟨gb271, 1, none⟩ = some (.int .i64 0) := (blk_cell BK271.out 1).trans rfl; have hcz13_2 : w10.cell? ⟨gb271, 2, none⟩ = some (.int .i64 0) := (blk_cell BK271.out 2).trans rfl; have hcz13_3 : w10.cell? ⟨gb271, 3, none⟩ = some (.slice none 0 0) := (blk_cell BK271.out 3).trans rfl; have hcz13_4 : w10.cell? ⟨gb271, 4, none⟩ = some (.int .i64 0) := (blk_cell BK271.out 4).trans rfl; have hfz13_0 := blk_frozen BK271.out 0; have hfz13_1 := blk_frozen BK271.out 1; have hfz13_2 := blk_frozen BK271.out 2; have hfz13_3 := blk_frozen BK271.out 3; have hfz13_4 := blk_frozen BK271.out 4; obtain ⟨Ao14, co14, eo14⟩ := Kd.R_slice HO268.out; subst eo14) | ((with_reducible refine gate_callee (f := 52) rfl ?_); refine goesL_ (some 33) rfl rfl Try.func52 (by kernel_rfl) rfl #[.slice Ao8 t255.length co8] rfl (by (try simp only [List.map_toArray, List.map_cons, List.map_nil]); first | done | rfl | (simp only [List.length_drop, List.length_take]; rfl)) ?_; (with_reducible refine (spec_PublicsOf.calls k _ _ t255 t272 t273 _ ?side1 ?side2 A4.out).mono ?_); (case side1 => refine (Kd.R_reads' (e := 3) (base := w.heap.size) (ok := fun k_ => (True ∧ some k_ ≠ (.slice Ao11 t261.length co11 : Value).ownBlock)) (n := t255.length) (c := co8) ?_).2.2; exact (by (with_reducible repeat (first | apply Kd.R_alloc | apply Kd.R_drewN | apply Kd.R_drew)); exact (Kd.R_mono (Kd.R_far (p := ⟨gb271, 4, none⟩) (Kd.R_far (p := ⟨gb271, 3, none⟩) (Kd.R_far (p := ⟨gb271, 2, none⟩) (Kd.R_far (p := ⟨gb271, 1, none⟩) (Kd.R_far (p := ⟨gb271, 0, none⟩) (Kd.R_types HO259.out BK271.out (by decide)) (fun _ hk => hk.2) (.slice Ao11 t261.length co11)) (fun _ hk => hk.2) (.int .i64 t264)) (fun _ hk => hk.2) (.int .i64 t265)) (fun _ hk => hk.2) (.slice Ao14 t266.length co14)) (fun _ hk => hk.2) (.int .i64 t269)) (fun _ h_ => h_.1)))); (case side2 => exact (Kd.R_reads' HO259.out).2.1); rintro e w15 ⟨v274, rfl, ho0, hb⟩; refine ⟨_, rfl, ?_⟩; have n0_ := Aside0.mk (Kd.R_elder' (by (with_reducible repeat (first | apply Kd.R_alloc | apply Kd.R_drewN | apply Kd.R_drew)); exact (Kd.R_mono (Kd.R_far (p := ⟨gb271, 4, none⟩) (Kd.R_far (p := ⟨gb271, 3, none⟩) (Kd.R_far (p := ⟨gb271, 2, none⟩) (Kd.R_far (p := ⟨gb271, 1, none⟩) (Kd.R_far (p := ⟨gb271, 0, none⟩) (Kd.R_types HO259.out BK271.out (by decide)) (fun _ hk => hk.2) (.slice Ao11 t261.length co11)) (fun _ hk => hk.2) (.int .i64 t264)) (fun _ hk => hk.2) (.int .i64 t265)) (fun _ hk => hk.2) (.slice Ao14 t266.length co14)) (fun _ hk => hk.2) (.int .i64 t269)) (fun _ h_ => h_.1))) (Kd.R_base ho0) hb); have n1_ := Aside0.mk (Kd.R_elder' (by (with_reducible repeat (first | apply Kd.R_alloc | apply Kd.R_drewN | apply Kd.R_drew)); exact (Kd.R_mono (Kd.R_far (p := ⟨gb271, 4, none⟩) (Kd.R_far (p := ⟨gb271, 3, none⟩) (Kd.R_far (p := ⟨gb271, 2, none⟩) (Kd.R_far (p := ⟨gb271, 1, none⟩) (Kd.R_far (p := ⟨gb271, 0, none⟩) (Kd.R_types HO263.out BK271.out (by decide)) (fun _ hk => hk.2) (.slice Ao11 t261.length co11)) (fun _ hk => hk.2) (.int .i64 t264)) (fun _ hk => hk.2) (.int .i64 t265)) (fun _ hk => hk.2) (.slice Ao14 t266.length co14)) (fun _ hk => hk.2) (.int .i64 t269)) (fun _ h_ => h_.1))) (Kd.R_base ho0) hb); have n2_ := Aside0.mk (Kd.R_below (by (with_reducible repeat (first | apply Kd.R_alloc | apply Kd.R_drewN | apply Kd.R_drew)); exact (Kd.R_mono (Kd.R_far (p := ⟨gb271, 4, none⟩) (Kd.R_far (p := ⟨gb271, 3, none⟩) (Kd.R_far (p := ⟨gb271, 2, none⟩) (Kd.R_far (p := ⟨gb271, 1, none⟩) (Kd.R_far (p := ⟨gb271, 0, none⟩) (Kd.R_types HO268.out BK271.out (by decide)) (fun _ hk => hk.2) (.slice Ao11 t261.length co11)) (fun _ hk => hk.2) (.int .i64 t264)) (fun _ hk => hk.2) (.int .i64 t265)) (fun _ hk => hk.2) (.slice Ao14 t266.length co14)) (fun _ hk => hk.2) (.int .i64 t269)) (fun _ h_ => h_.1))) hb); have n3_ := Aside0.mk (Kd.R_lower (Kd.R_new' (Kd.R_new' ho0 (Kd.R_lt (by (with_reducible repeat (first | apply Kd.R_alloc | apply Kd.R_drewN | apply Kd.R_drew)); exact (Kd.R_mono (Kd.R_far (p := ⟨gb271, 4, none⟩) (Kd.R_far (p := ⟨gb271, 3, none⟩) (Kd.R_far (p := ⟨gb271, 2, none⟩) (Kd.R_far (p := ⟨gb271, 1, none⟩) (Kd.R_far (p := ⟨gb271, 0, none⟩) (Kd.R_types HO259.out BK271.out (by decide)) (fun _ hk => hk.2) (.slice Ao11 t261.length co11)) (fun _ hk => hk.2) (.int .i64 t264)) (fun _ hk => hk.2) (.int .i64 t265)) (fun _ hk => hk.2) (.slice Ao14 t266.length co14)) (fun _ hk => hk.2) (.int .i64 t269)) (fun _ h_ => h_.1))))) (Kd.R_lt (by (with_reducible repeat (first | apply Kd.R_alloc | apply Kd.R_drewN | apply Kd.R_drew)); exact (Kd.R_mono (Kd.R_far (p := ⟨gb271, 4, none⟩) (Kd.R_far (p := ⟨gb271, 3, none⟩) (Kd.R_far (p := ⟨gb271, 2, none⟩) (Kd.R_far (p := ⟨gb271, 1, none⟩) (Kd.R_far (p := ⟨gb271, 0, none⟩) (Kd.R_types HO263.out BK271.out (by decide)) (fun _ hk => hk.2) (.slice Ao11 t261.length co11)) (fun _ hk => hk.2) (.int .i64 t264)) (fun _ hk => hk.2) (.int .i64 t265)) (fun _ hk => hk.2) (.slice Ao14 t266.length co14)) (fun _ hk => hk.2) (.int .i64 t269)) (fun _ h_ => h_.1))))) (below_size (by repeat (first | (with_reducible first | exact HB.out | apply below_alloc | apply pw_below_drewN | apply below_drew1 | refine below_set ?_ (IsS77.ge HI260.out) | refine below_set ?_ GE271.out) | exact HB.out)))); have n4_ := Aside0.mk (IsS77.below (show IsS77 w (((((w10.setCell ⟨gb271, 0, none⟩ (.slice Ao11 t261.length co11)).setCell ⟨gb271, 1, none⟩ (.int .i64 t264)).setCell ⟨gb271, 2, none⟩ (.int .i64 t265)).setCell ⟨gb271, 3, none⟩ (.slice Ao14 t266.length co14)).setCell ⟨gb271, 4, none⟩ (.int .i64 t269)) gb260 l0 0 0 from by first | ((repeat (first | (with_reducible first | exact HI260.out | apply IsS77.alloc | apply IsS77.drewN | apply IsS77.drew | apply IsS77.set_1 | apply IsS77.set_2 | refine IsS77.far ?_ NB260_271.out _ | refine IsS77.far (p := ⟨gb271, _, _⟩) ?_ NB260_271.out _) | exact HI260.out)); done) | (simp only [Int.add_zero]; repeat (first | (with_reducible first | exact HI260.out | apply IsS77.alloc | apply IsS77.drewN | apply IsS77.drew | apply IsS77.set_1 | apply IsS77.set_2 | refine IsS77.far ?_ NB260_271.out _ | refine IsS77.far (p := ⟨gb271, _, _⟩) ?_ NB260_271.out _) | exact HI260.out))) hb); have n5_ := Aside0.mk (blk_below (g := gb271) (o := .cells #[.slice Ao11 t261.length co11, .int .i64 t264, .int .i64 t265, .slice Ao14 t266.length co14, .int .i64 t269] 60 (0, 0)) (by (with_reducible repeat (first | refine blk_drewN ?_ _ | refine blk_drew ?_ | refine blk_alloc ?_ _)); refine blk_put (cs := #[.slice Ao11 t261.length co11, .int .i64 t264, .int .i64 t265, .slice Ao14 t266.length co14, .int .i64 0]) ?_ 4 _ rfl; (with_reducible repeat (first | refine blk_drewN ?_ _ | refine blk_drew ?_ | refine blk_alloc ?_ _)); refine blk_put (cs := #[.slice Ao11 t261.length co11, .int .i64 t264, .int .i64 t265, .slice none 0 0, .int .i64 0]) ?_ 3 _ rfl; (with_reducible repeat (first | refine blk_drewN ?_ _ | refine blk_drew ?_ | refine blk_alloc ?_ _)); refine blk_put (cs := #[.slice Ao11 t261.length co11, .int .i64 t264, .int .i64 0, .slice none 0 0, .int .i64 0]) ?_ 2 _ rfl; (with_reducible repeat (first | refine blk_drewN ?_ _ | refine blk_drew ?_ | refine blk_alloc ?_ _)); refine blk_put (cs := #[.slice Ao11 t261.length co11, .int .i64 0, .int .i64 0, .slice none 0 0, .int .i64 0]) ?_ 1 _ rfl; (with_reducible repeat (first | refine blk_drewN ?_ _ | refine blk_drew ?_ | refine blk_alloc ?_ _)); refine blk_put (cs := #[.slice none 0 0, .int .i64 0, .int .i64 0, .slice none 0 0, .int .i64 0]) ?_ 0 _ rfl; (with_reducible repeat (first | refine blk_drewN ?_ _ | refine blk_drew ?_ | refine blk_alloc ?_ _)); exact BK271.out) hb); have n6_ := Aside0.mk (below_step (by repeat (first | (with_reducible first | exact HB.out | apply below_alloc | apply pw_below_drewN | apply below_drew1 | refine below_set ?_ (IsS77.ge HI260.out) | refine below_set ?_ GE271.out) | exact HB.out)) hb); clear HO259; clear HO263; clear HO268; clear HI260; clear BK271; clear HB; have HO259 := n0_; have HO263 := n1_; have HO268 := n2_; have HO275 := n3_; have HI260 := n4_; have BK271 := n5_; have HB := n6_; clear n0_ n1_ n2_ n3_ n4_ n5_ n6_; (try clear hb); (try clear hb2); (try clear hk); (try clear hi); (try clear ho0); have hcz16_0 : w15.cell? ⟨gb271, 0, none⟩ = some (.slice Ao11 t261.length co11) := (blk_cell BK271.out 0).trans rfl; have hcz16_1 : w15.cell? ⟨gb271, 1, none⟩ = some (.int .i64 t264) := (blk_cell BK271.out 1).trans rfl; have hcz16_2 : w15.cell? ⟨gb271, 2, none⟩ = some (.int .i64 t265) := (blk_cell BK271.out 2).trans rfl; have hcz16_3 : w15.cell? ⟨gb271, 3, none⟩ = some (.slice Ao14 t266.length co14) := (blk_cell BK271.out 3).trans rfl; have hcz16_4 : w15.cell? ⟨gb271, 4, none⟩ = some (.int .i64 t269) := (blk_cell BK271.out 4).trans rfl; have hfz16_0 := blk_frozen BK271.out 0; have hfz16_1 := blk_frozen BK271.out 1; have hfz16_2 := blk_frozen BK271.out 2; have hfz16_3 := blk_frozen BK271.out 3; have hfz16_4 := blk_frozen BK271.out 4))
 (try simp only [Act.put, List.setIfInBounds_toArray, List.set_cons_zero, List.set_cons_succ])
 go_cut [44] (fun v44 wc => ∃ (kq : Nat) (x44_4 : Bool) (x261001_4 : Int) (x261002_4 : Int), v44 = .bool x44_4 ∧ Aside0 (spec_DrawBlameOf.j0 kq t256 t272 t266 x44_4 l0 x261001_4 x261002_4 = some (r1, r2, r3)) ∧ Aside0 (kq ≤ k) ∧ Aside0 (Kd.R (Kd.int .i64) 3 wc w.heap.size (fun k_ => some k_ ≠ ((.slice Ao11 t261.length co11) : Value).ownBlock) v274 t272) ∧ Aside0 (Kd.R k71 71 wc w.heap.size (fun _ => True) (.slice Ao14 t266.length co14) t266) ∧ Aside0 (Kd.R (Kd.int .i64) 3 wc w.heap.size (fun k_ => some k_ ≠ (v274 : Value).ownBlock) (.slice Ao11 t261.length co11) t261) ∧ Aside0 (Kd.R k71 71 wc w.heap.size (fun _ => True) (.slice Ao14 t266.length co14) t266) ∧ Aside0 (wc.heap[gb271]? = some (.cells #[(.slice Ao11 t261.length co11), .int .i64 t264, .int .i64 t265, (.slice Ao14 t266.length co14), .int .i64 t269] 60 (0, 0))) ∧ Aside0 (IsS77 w wc gb260 l0 x261001_4 x261002_4) ∧ Aside0 (Below w.heap.size w wc))
 case first =>
  have H := HC5.out
  clear HC5
  by_cases c17 : (t266.length : Int) > 1
  ·rw [if_pos c17] at H
   have c17b0 : decide (1 < (t266.length : Int)) = true := decide_eq_true c17
   have c17b1 : decide (1 < t266.length) = true := decide_eq_true (by omega)
   clear c17
   (first | rw [c17b0] | (simp only [i64_w, i32_w]; rw [c17b0]) | skip)
   replace H := Option.bind_eq_some_iff.mp H
   obtain ⟨⟨t276, t277, t278⟩, A180, H⟩ := H
   replace H : (spec_DrawBlameOf.j0 k t256 t272 t266 t276 l0 t277 t278) = some (r1, r2, r3) := H
   have A18 := Aside0.mk A180
   clear A180
   have H' := Aside0.mk H
   clear H
   go_wp2_with (first | (go_at_call 62; (with_reducible refine (spec_l1Cur_one.calls gb260 l0 0 0 4 t276 t277 t278 w _ ?side1 ?side2 A18.out).mono ?_); (case side1 => first | ((repeat (first | (with_reducible first | exact HI260.out | apply IsS77.alloc | apply IsS77.drewN | apply IsS77.drew | apply IsS77.set_1 | apply IsS77.set_2 | refine IsS77.far ?_ NB260_271.out _ | refine IsS77.far (p := ⟨gb271, _, _⟩) ?_ NB260_271.out _) | exact HI260.out)); done) | (simp only [Int.add_zero]; repeat (first | (with_reducible first | exact HI260.out | apply IsS77.alloc | apply IsS77.drewN | apply IsS77.drew | apply IsS77.set_1 | apply IsS77.set_2 | refine IsS77.far ?_ NB260_271.out _ | refine IsS77.far (p := ⟨gb271, _, _⟩) ?_ NB260_271.out _) | exact HI260.out))); (case side2 => repeat (first | (with_reducible first | exact HB.out | apply below_alloc | apply pw_below_drewN | apply below_drew1 | refine below_set ?_ (IsS77.ge HI260.out) | refine below_set ?_ GE271.out) | exact HB.out)); rintro e w19 ⟨rfl, hi, hb, hk⟩; have n0_ := Aside0.mk (Kd.R_mono (Kd.R_keep (IsS77.apart (show IsS77 w _ gb260 l0 0 0 from by first | ((repeat (first | (with_reducible first | exact HI260.out | apply IsS77.alloc | apply IsS77.drewN | apply IsS77.drew | apply IsS77.set_1 | apply IsS77.set_2 | refine IsS77.far ?_ NB260_271.out _ | refine IsS77.far (p := ⟨gb271, _, _⟩) ?_ NB260_271.out _) | exact HI260.out)); done) | (simp only [Int.add_zero]; repeat (first | (with_reducible first | exact HI260.out | apply IsS77.alloc | apply IsS77.drewN | apply IsS77.drew | apply IsS77.set_1 | apply IsS77.set_2 | refine IsS77.far ?_ NB260_271.out _ | refine IsS77.far (p := ⟨gb271, _, _⟩) ?_ NB260_271.out _) | exact HI260.out))) (by (with_reducible repeat (first | apply Kd.R_alloc | apply Kd.R_drewN | apply Kd.R_drew)); exact HO259.out) (by decide)) hk (fun _ h => h.2)) (fun _ h => h.1)); have n1_ := Aside0.mk (Kd.R_mono (Kd.R_keep (IsS77.apart (show IsS77 w _ gb260 l0 0 0 from by first | ((repeat (first | (with_reducible first | exact HI260.out | apply IsS77.alloc | apply IsS77.drewN | apply IsS77.drew | apply IsS77.set_1 | apply IsS77.set_2 | refine IsS77.far ?_ NB260_271.out _ | refine IsS77.far (p := ⟨gb271, _, _⟩) ?_ NB260_271.out _) | exact HI260.out)); done) | (simp only [Int.add_zero]; repeat (first | (with_reducible first | exact HI260.out | apply IsS77.alloc | apply IsS77.drewN | apply IsS77.drew | apply IsS77.set_1 | apply IsS77.set_2 | refine IsS77.far ?_ NB260_271.out _ | refine IsS77.far (p := ⟨gb271, _, _⟩) ?_ NB260_271.out _) | exact HI260.out))) (by (with_reducible repeat (first | apply Kd.R_alloc | apply Kd.R_drewN | apply Kd.R_drew)); exact HO263.out) (by decide)) hk (fun _ h => h.2)) (fun _ h => h.1)); have n2_ := Aside0.mk (Kd.R_mono (Kd.R_keep (IsS77.apart (show IsS77 w _ gb260 l0 0 0 from by first | ((repeat (first | (with_reducible first | exact HI260.out | apply IsS77.alloc | apply IsS77.drewN | apply IsS77.drew | apply IsS77.set_1 | apply IsS77.set_2 | refine IsS77.far ?_ NB260_271.out _ | refine IsS77.far (p := ⟨gb271, _, _⟩) ?_ NB260_271.out _) | exact HI260.out)); done) | (simp only [Int.add_zero]; repeat (first | (with_reducible first | exact HI260.out | apply IsS77.alloc | apply IsS77.drewN | apply IsS77.drew | apply IsS77.set_1 | apply IsS77.set_2 | refine IsS77.far ?_ NB260_271.out _ | refine IsS77.far (p := ⟨gb271, _, _⟩) ?_ NB260_271.out _) | exact HI260.out))) (by (with_reducible repeat (first | apply Kd.R_alloc | apply Kd.R_drewN | apply Kd.R_drew)); exact HO268.out) (by decide)) hk (fun _ h => h.2)) (fun _ h => h.1)); have n3_ := Aside0.mk (KeepBut.blk hk (g' := gb271) (o := .cells #[.slice Ao11 t261.length co11, .int .i64 t264, .int .i64 t265, .slice Ao14 t266.length co14, .int .i64 t269] 60 (0, 0)) (by (with_reducible repeat (first | refine blk_drewN ?_ _ | refine blk_drew ?_ | refine blk_alloc ?_ _)); exact BK271.out) NB271_260.out (by simp)); have n4_ := Aside0.mk (Kd.R_mono (Kd.R_keep (IsS77.apart (show IsS77 w _ gb260 l0 0 0 from by first | ((repeat (first | (with_reducible first | exact HI260.out | apply IsS77.alloc | apply IsS77.drewN | apply IsS77.drew | apply IsS77.set_1 | apply IsS77.set_2 | refine IsS77.far ?_ NB260_271.out _ | refine IsS77.far (p := ⟨gb271, _, _⟩) ?_ NB260_271.out _) | exact HI260.out)); done) | (simp only [Int.add_zero]; repeat (first | (with_reducible first | exact HI260.out | apply IsS77.alloc | apply IsS77.drewN | apply IsS77.drew | apply IsS77.set_1 | apply IsS77.set_2 | refine IsS77.far ?_ NB260_271.out _ | refine IsS77.far (p := ⟨gb271, _, _⟩) ?_ NB260_271.out _) | exact HI260.out))) (by (with_reducible repeat (first | apply Kd.R_alloc | apply Kd.R_drewN | apply Kd.R_drew)); exact HO275.out) (by decide)) hk (fun _ h => h.2)) (fun _ h => h.1)); have n5_ := Aside0.mk (hb); have n6_ := Aside0.mk (hi); clear HO259; clear HO263; clear HO268; clear BK271; clear HO275; clear HB; clear HI260; have HO259 := n0_; have HO263 := n1_; have HO268 := n2_; have BK271 := n3_; have HO275 := n4_; have HB := n5_; have HI260 := n6_; clear n0_ n1_ n2_ n3_ n4_ n5_ n6_; (try clear hb); (try clear hb2); (try clear hk); (try clear hi)))
   go_meet
   case rel => exact ⟨_, (t276), (t277), (t278), (by first | rfl | (simp; done) | (simp [*]; done)), H', ⟨by first | omega | exact Nat.le_refl _⟩, ⟨by (with_reducible repeat (first | apply Kd.R_alloc | apply Kd.R_drewN | apply Kd.R_drew)); exact Kd.R_mono HO275.out (fun _ hk => hk.2)⟩, ⟨by (with_reducible repeat (first | apply Kd.R_alloc | apply Kd.R_drewN | apply Kd.R_drew)); exact HO268.out⟩, ⟨by (with_reducible repeat (first | apply Kd.R_alloc | apply Kd.R_drewN | apply Kd.R_drew)); exact Kd.R_mono HO263.out (fun _ hk => hk.2)⟩, ⟨by (with_reducible repeat (first | apply Kd.R_alloc | apply Kd.R_drewN | apply Kd.R_drew)); exact HO268.out⟩, ⟨by (with_reducible repeat (first | refine blk_drewN ?_ _ | refine blk_drew ?_ | refine blk_alloc ?_ _)); exact BK271.out⟩, ⟨by first | ((repeat (first | (with_reducible first | exact HI260.out | apply IsS77.alloc | apply IsS77.drewN | apply IsS77.drew | apply IsS77.set_1 | apply IsS77.set_2 | refine IsS77.far ?_ NB260_271.out _ | refine IsS77.far (p := ⟨gb271, _, _⟩) ?_ NB260_271.out _) | exact HI260.out)); done) | (simp only [Int.add_zero]; repeat (first | (with_reducible first | exact HI260.out | apply IsS77.alloc | apply IsS77.drewN | apply IsS77.drew | apply IsS77.set_1 | apply IsS77.set_2 | refine IsS77.far ?_ NB260_271.out _ | refine IsS77.far (p := ⟨gb271, _, _⟩) ?_ NB260_271.out _) | exact HI260.out))⟩, ⟨by repeat (first | (with_reducible first | exact HB.out | apply below_alloc | apply pw_below_drewN | apply below_drew1 | refine below_set ?_ (IsS77.ge HI260.out) | refine below_set ?_ GE271.out) | exact HB.out)⟩⟩
  ·rw [if_neg c17] at H
   have c17b0 : decide (1 < (t266.length : Int)) = false := decide_eq_false c17
   have c17b1 : decide (1 < t266.length) = false := decide_eq_false (by omega)
   clear c17
   (first | rw [c17b0] | (simp only [i64_w, i32_w]; rw [c17b0]) | skip)
   have H' := Aside0.mk H
   clear H
   go_wp2
   go_meet
   case rel => exact ⟨_, (false), (0), (0), (by first | rfl | (simp; done) | (simp [*]; done)), H', ⟨by first | omega | exact Nat.le_refl _⟩, ⟨by (with_reducible repeat (first | apply Kd.R_alloc | apply Kd.R_drewN | apply Kd.R_drew)); exact Kd.R_mono HO275.out (fun _ hk => hk.2)⟩, ⟨by (with_reducible repeat (first | apply Kd.R_alloc | apply Kd.R_drewN | apply Kd.R_drew)); exact HO268.out⟩, ⟨by (with_reducible repeat (first | apply Kd.R_alloc | apply Kd.R_drewN | apply Kd.R_drew)); exact Kd.R_mono HO263.out (fun _ hk => hk.2)⟩, ⟨by (with_reducible repeat (first | apply Kd.R_alloc | apply Kd.R_drewN | apply Kd.R_drew)); exact HO268.out⟩, ⟨by (with_reducible repeat (first | refine blk_drewN ?_ _ | refine blk_drew ?_ | refine blk_alloc ?_ _)); exact BK271.out⟩, ⟨by first | ((repeat (first | (with_reducible first | exact HI260.out | apply IsS77.alloc | apply IsS77.drewN | apply IsS77.drew | apply IsS77.set_1 | apply IsS77.set_2 | refine IsS77.far ?_ NB260_271.out _ | refine IsS77.far (p := ⟨gb271, _, _⟩) ?_ NB260_271.out _) | exact HI260.out)); done) | (simp only [Int.add_zero]; repeat (first | (with_reducible first | exact HI260.out | apply IsS77.alloc | apply IsS77.drewN | apply IsS77.drew | apply IsS77.set_1 | apply IsS77.set_2 | refine IsS77.far ?_ NB260_271.out _ | refine IsS77.far (p := ⟨gb271, _, _⟩) ?_ NB260_271.out _) | exact HI260.out))⟩, ⟨by repeat (first | (with_reducible first | exact HB.out | apply below_alloc | apply pw_below_drewN | apply below_drew1 | refine below_set ?_ (IsS77.ge HI260.out) | refine below_set ?_ GE271.out) | exact HB.out)⟩⟩
 case rest =>
  clear HC5
  try clear c1
  try clear p2
  try clear c4
  try clear c5
  try clear c12
  try clear c17
  try clear c17b0
  try clear c17b1
  try clear hcz13_0
  try clear hcz13_1
  try clear hcz13_2
  try clear hcz13_3
  try clear hcz13_4
  try clear hcz16_0
  try clear hcz16_1
  try clear hcz16_2
  try clear hcz16_3
  try clear hcz16_4
  try clear hfz13_0
  try clear hfz13_1
  try clear hfz13_2
  try clear hfz13_3
  try clear hfz13_4
  try clear hfz16_0
  try clear hfz16_1
  try clear hfz16_2
  try clear hfz16_3
  try clear hfz16_4
  obtain ⟨kq, x44_4, x261001_4, x261002_4, rfl, HA, HJ4, HO_11, HO_13, HO_272000, HO_272003, BK271, HI260, HB⟩ := hcut
  cases kq with
  | zero => exact absurd HA.out (by simp [spec_DrawBlameOf.j0])
  | succ kj4 =>
   have H := HA.out
   clear HA
   simp only [spec_DrawBlameOf.j0] at H
   by_cases c20 : x44_4 = true
   ·subst c20
    have H1 : ((spec_l1Cur_pick.f l0 x261001_4 x261002_4 (t266.length : Int)).bind fun bt279 => ((some (([] : List (S71)) : List (S71))).bind fun y282 => (if 0 ≤ bt279.1 then (if bt279.1 ≤ (t266.length : Int) then ((some (t266.take (bt279.1 : Int).toNat : List (S71))).bind fun y285 => (if y282.length + y285.length < 4398046511104 then ((some (y282 ++ y285 : List (S71))).bind fun y289 => (if 0 ≤ (wrap64 (bt279.1 + 1)) then (if (wrap64 (bt279.1 + 1)) ≤ (t266.length : Int) then ((some (t266.drop ((wrap64 (bt279.1 + 1)) : Int).toNat : List (S71))).bind fun y292 => (if y289.length + y292.length < 4398046511104 then ((some (y289 ++ y292 : List (S71))).bind fun y296 => (if (y296.length : Int) > 0 then ((spec_l1Cur_one.f l0 bt279.2.1 bt279.2.2 6).bind fun bt299 => (if bt299.1 = true then (if 0 < (y296.length : Int) then (some (t272, t256, (y296.set (0 : Int).toNat (⟨(rd_T71 y296 0).f0, (rd_T71 y296 0).f1, (rd_T71 y296 0).f2, Int.tmod (wrap64 (((rd_T71 y296 0).f3) + 1)) 1499⟩ : S71)))) else (none)) else (some (t272, t256, y296)))) else (some (t272, t256, y296)))) else (none))) else (none)) else (none))) else (none))) else (none)) else (none)))) = some (r1, r2, r3) := by rw [if_pos rfl] at H; exact H
    clear H
    have H := H1
    clear H1
    replace H := Option.bind_eq_some_iff.mp H
    obtain ⟨⟨t279, t280, t281⟩, A210, H⟩ := H
    replace H : ((some (([] : List (S71)) : List (S71))).bind fun y282 => (if 0 ≤ t279 then (if t279 ≤ (t266.length : Int) then ((some (t266.take (t279 : Int).toNat : List (S71))).bind fun y285 => (if y282.length + y285.length < 4398046511104 then ((some (y282 ++ y285 : List (S71))).bind fun y289 => (if 0 ≤ (wrap64 (t279 + 1)) then (if (wrap64 (t279 + 1)) ≤ (t266.length : Int) then ((some (t266.drop ((wrap64 (t279 + 1)) : Int).toNat : List (S71))).bind fun y292 => (if y289.length + y292.length < 4398046511104 then ((some (y289 ++ y292 : List (S71))).bind fun y296 => (if (y296.length : Int) > 0 then ((spec_l1Cur_one.f l0 t280 t281 6).bind fun bt299 => (if bt299.1 = true then (if 0 < (y296.length : Int) then (some (t272, t256, (y296.set (0 : Int).toNat (⟨(rd_T71 y296 0).f0, (rd_T71 y296 0).f1, (rd_T71 y296 0).f2, Int.tmod (wrap64 (((rd_T71 y296 0).f3) + 1)) 1499⟩ : S71)))) else (none)) else (some (t272, t256, y296)))) else (some (t272, t256, y296)))) else (none))) else (none)) else (none))) else (none))) else (none)) else (none))) = some (r1, r2, r3) := H
    have A21 := Aside0.mk A210
    clear A210
    obtain ⟨y282, hy282⟩ : ∃ y_ : List (S71), y_ = (([] : List (S71))) := ⟨_, rfl⟩
    replace H : (if 0 ≤ t279 then (if t279 ≤ (t266.length : Int) then ((some (t266.take (t279 : Int).toNat : List (S71))).bind fun y285 => (if y282.length + y285.length < 4398046511104 then ((some (y282 ++ y285 : List (S71))).bind fun y289 => (if 0 ≤ (wrap64 (t279 + 1)) then (if (wrap64 (t279 + 1)) ≤ (t266.length : Int) then ((some (t266.drop ((wrap64 (t279 + 1)) : Int).toNat : List (S71))).bind fun y292 => (if y289.length + y292.length < 4398046511104 then ((some (y289 ++ y292 : List (S71))).bind fun y296 => (if (y296.length : Int) > 0 then ((spec_l1Cur_one.f l0 t280 t281 6).bind fun bt299 => (if bt299.1 = true then (if 0 < (y296.length : Int) then (some (t272, t256, (y296.set (0 : Int).toNat (⟨(rd_T71 y296 0).f0, (rd_T71 y296 0).f1, (rd_T71 y296 0).f2, Int.tmod (wrap64 (((rd_T71 y296 0).f3) + 1)) 1499⟩ : S71)))) else (none)) else (some (t272, t256, y296)))) else (some (t272, t256, y296)))) else (none))) else (none)) else (none))) else (none))) else (none)) else (none)) = some (r1, r2, r3) := by first | (rw [hy282]; with_reducible exact H) | (have H2_ := (Option.bind_some _ _).symm.trans H; rw [hy282]; with_reducible exact H2_) | (have H2_ := (Option.bind_some _ _).symm.trans H; with_reducible exact H2_) | with_reducible exact H | (rw [hy282]; exact H) | exact H
    have Ny282 := Aside0.mk hy282
    clear hy282
    by_cases c22 : 0 ≤ t279
    ·rw [if_pos c22] at H
     have c22b0 := eq_true c22
     have c22b1 : decide (0 ≤ t279) = true := decide_eq_true c22
     clear c22
     by_cases c23 : t279 ≤ (t266.length : Int)
     ·rw [if_pos c23] at H
      have c23b0 := eq_true c23
      have c23b1 : decide (t279 ≤ (t266.length : Int)) = true := decide_eq_true c23
      clear c23
      obtain ⟨y285, hy285⟩ : ∃ y_ : List (S71), y_ = (t266.take (t279 : Int).toNat) := ⟨_, rfl⟩
      replace H : (if y282.length + y285.length < 4398046511104 then ((some (y282 ++ y285 : List (S71))).bind fun y289 => (if 0 ≤ (wrap64 (t279 + 1)) then (if (wrap64 (t279 + 1)) ≤ (t266.length : Int) then ((some (t266.drop ((wrap64 (t279 + 1)) : Int).toNat : List (S71))).bind fun y292 => (if y289.length + y292.length < 4398046511104 then ((some (y289 ++ y292 : List (S71))).bind fun y296 => (if (y296.length : Int) > 0 then ((spec_l1Cur_one.f l0 t280 t281 6).bind fun bt299 => (if bt299.1 = true then (if 0 < (y296.length : Int) then (some (t272, t256, (y296.set (0 : Int).toNat (⟨(rd_T71 y296 0).f0, (rd_T71 y296 0).f1, (rd_T71 y296 0).f2, Int.tmod (wrap64 (((rd_T71 y296 0).f3) + 1)) 1499⟩ : S71)))) else (none)) else (some (t272, t256, y296)))) else (some (t272, t256, y296)))) else (none))) else (none)) else (none))) else (none)) = some (r1, r2, r3) := by first | (rw [hy285]; with_reducible exact H) | (have H2_ := (Option.bind_some _ _).symm.trans H; rw [hy285]; with_reducible exact H2_) | (have H2_ := (Option.bind_some _ _).symm.trans H; with_reducible exact H2_) | with_reducible exact H | (rw [hy285]; exact H) | exact H
      have Ny285 := Aside0.mk hy285
      clear hy285
      by_cases c24 : y282.length + y285.length < 4398046511104
      ·rw [if_pos c24] at H
       have LMc24 := Aside0.mk c24
       clear c24
       obtain ⟨y289, hy289⟩ : ∃ y_ : List (S71), y_ = (y282 ++ y285) := ⟨_, rfl⟩
       replace H : (if 0 ≤ (wrap64 (t279 + 1)) then (if (wrap64 (t279 + 1)) ≤ (t266.length : Int) then ((some (t266.drop ((wrap64 (t279 + 1)) : Int).toNat : List (S71))).bind fun y292 => (if y289.length + y292.length < 4398046511104 then ((some (y289 ++ y292 : List (S71))).bind fun y296 => (if (y296.length : Int) > 0 then ((spec_l1Cur_one.f l0 t280 t281 6).bind fun bt299 => (if bt299.1 = true then (if 0 < (y296.length : Int) then (some (t272, t256, (y296.set (0 : Int).toNat (⟨(rd_T71 y296 0).f0, (rd_T71 y296 0).f1, (rd_T71 y296 0).f2, Int.tmod (wrap64 (((rd_T71 y296 0).f3) + 1)) 1499⟩ : S71)))) else (none)) else (some (t272, t256, y296)))) else (some (t272, t256, y296)))) else (none))) else (none)) else (none)) = some (r1, r2, r3) := by first | (rw [hy289]; with_reducible exact H) | (have H2_ := (Option.bind_some _ _).symm.trans H; rw [hy289]; with_reducible exact H2_) | (have H2_ := (Option.bind_some _ _).symm.trans H; with_reducible exact H2_) | with_reducible exact H | (rw [hy289]; exact H) | exact H
       have Ny289 := Aside0.mk hy289
       clear hy289
       obtain ⟨ji25, hji25⟩ : ∃ j_ : Int, (wrap64 (t279 + 1)) = j_ := ⟨_, rfl⟩
       replace H : (if 0 ≤ (ji25) then (if (ji25) ≤ (t266.length : Int) then ((some (t266.drop ((ji25) : Int).toNat : List (S71))).bind fun y292 => (if y289.length + y292.length < 4398046511104 then ((some (y289 ++ y292 : List (S71))).bind fun y296 => (if (y296.length : Int) > 0 then ((spec_l1Cur_one.f l0 t280 t281 6).bind fun bt299 => (if bt299.1 = true then (if 0 < (y296.length : Int) then (some (t272, t256, (y296.set (0 : Int).toNat (⟨(rd_T71 y296 0).f0, (rd_T71 y296 0).f1, (rd_T71 y296 0).f2, Int.tmod (wrap64 (((rd_T71 y296 0).f3) + 1)) 1499⟩ : S71)))) else (none)) else (some (t272, t256, y296)))) else (some (t272, t256, y296)))) else (none))) else (none)) else (none)) = some (r1, r2, r3) := by first | (rw [hji25] at H; exact H) | (simp only [hji25] at H ⊢; exact H)
       (try rw [hji25] at A21)
       have hji25w : (IntKind.i64.wrap (t279 + 1)) = ji25 := (i64_w _).trans hji25
       by_cases c26 : 0 ≤ (ji25)
       ·rw [if_pos c26] at H
        have c26b0 := eq_true c26
        have c26b1 : decide (0 ≤ (ji25)) = true := decide_eq_true c26
        clear c26
        by_cases c27 : (ji25) ≤ (t266.length : Int)
        ·rw [if_pos c27] at H
         have c27b0 := eq_true c27
         have c27b1 : decide ((ji25) ≤ (t266.length : Int)) = true := decide_eq_true c27
         clear c27
         obtain ⟨y292, hy292⟩ : ∃ y_ : List (S71), y_ = (t266.drop ((ji25) : Int).toNat) := ⟨_, rfl⟩
         replace H : (if y289.length + y292.length < 4398046511104 then ((some (y289 ++ y292 : List (S71))).bind fun y296 => (if (y296.length : Int) > 0 then ((spec_l1Cur_one.f l0 t280 t281 6).bind fun bt299 => (if bt299.1 = true then (if 0 < (y296.length : Int) then (some (t272, t256, (y296.set (0 : Int).toNat (⟨(rd_T71 y296 0).f0, (rd_T71 y296 0).f1, (rd_T71 y296 0).f2, Int.tmod (wrap64 (((rd_T71 y296 0).f3) + 1)) 1499⟩ : S71)))) else (none)) else (some (t272, t256, y296)))) else (some (t272, t256, y296)))) else (none)) = some (r1, r2, r3) := by first | (rw [hy292]; with_reducible exact H) | (have H2_ := (Option.bind_some _ _).symm.trans H; rw [hy292]; with_reducible exact H2_) | (have H2_ := (Option.bind_some _ _).symm.trans H; with_reducible exact H2_) | with_reducible exact H | (rw [hy292]; exact H) | exact H
         have Ny292 := Aside0.mk hy292
         clear hy292
         by_cases c28 : y289.length + y292.length < 4398046511104
         ·rw [if_pos c28] at H
          have LMc28 := Aside0.mk c28
          clear c28
          obtain ⟨y296, hy296⟩ : ∃ y_ : List (S71), y_ = (y289 ++ y292) := ⟨_, rfl⟩
          replace H : (if (y296.length : Int) > 0 then ((spec_l1Cur_one.f l0 t280 t281 6).bind fun bt299 => (if bt299.1 = true then (if 0 < (y296.length : Int) then (some (t272, t256, (y296.set (0 : Int).toNat (⟨(rd_T71 y296 0).f0, (rd_T71 y296 0).f1, (rd_T71 y296 0).f2, Int.tmod (wrap64 (((rd_T71 y296 0).f3) + 1)) 1499⟩ : S71)))) else (none)) else (some (t272, t256, y296)))) else (some (t272, t256, y296))) = some (r1, r2, r3) := by first | (rw [hy296]; with_reducible exact H) | (have H2_ := (Option.bind_some _ _).symm.trans H; rw [hy296]; with_reducible exact H2_) | (have H2_ := (Option.bind_some _ _).symm.trans H; with_reducible exact H2_) | with_reducible exact H | (rw [hy296]; exact H) | exact H
          have Ny296 := Aside0.mk hy296
          clear hy296
          by_cases c29 : (y296.length : Int) > 0
          ·rw [if_pos c29] at H
           have c29b0 : decide (0 < (y296.length : Int)) = true := decide_eq_true c29
           have c29b1 : decide (0 < y296.length) = true := decide_eq_true (by omega)
           clear c29
           replace H := Option.bind_eq_some_iff.mp H
           obtain ⟨⟨t299, t300, t301⟩, A300, H⟩ := H
           replace H : (if t299 = true then (if 0 < (y296.length : Int) then (some (t272, t256, (y296.set (0 : Int).toNat (⟨(rd_T71 y296 0).f0, (rd_T71 y296 0).f1, (rd_T71 y296 0).f2, Int.tmod (wrap64 (((rd_T71 y296 0).f3) + 1)) 1499⟩ : S71)))) else (none)) else (some (t272, t256, y296))) = some (r1, r2, r3) := H
           have A30 := Aside0.mk A300
           clear A300
           by_cases c31 : t299 = true
           ·subst c31
            have H1 : (if 0 < (y296.length : Int) then (some (t272, t256, (y296.set (0 : Int).toNat (⟨(rd_T71 y296 0).f0, (rd_T71 y296 0).f1, (rd_T71 y296 0).f2, Int.tmod (wrap64 (((rd_T71 y296 0).f3) + 1)) 1499⟩ : S71)))) else (none)) = some (r1, r2, r3) := by rw [if_pos rfl] at H; exact H
            clear H
            have H := H1
            clear H1
            by_cases c32 : 0 < (y296.length : Int)
            ·rw [if_pos c32] at H
             have c32b0 : decide (0 < (y296.length : Int)) = true := decide_eq_true c32
             have c32b1 : decide (0 < y296.length) = true := decide_eq_true (by omega)
             clear c32
             obtain ⟨y303, hy303⟩ : ∃ y_ : List (S71), y_ = (y296.set (0 : Int).toNat (⟨(rd_T71 y296 0).f0, (rd_T71 y296 0).f1, (rd_T71 y296 0).f2, Int.tmod (wrap64 (((rd_T71 y296 0).f3) + 1)) 1499⟩ : S71)) := ⟨_, rfl⟩
             replace H : (some (t272, t256, y303)) = some (r1, r2, r3) := by first | (rw [hy303]; with_reducible exact H) | (have H2_ := (Option.bind_some _ _).symm.trans H; rw [hy303]; with_reducible exact H2_) | (have H2_ := (Option.bind_some _ _).symm.trans H; with_reducible exact H2_) | with_reducible exact H | (rw [hy303]; exact H) | exact H
             have Ny303 := Aside0.mk hy303
             clear hy303
             simp only [Option.some.injEq, Prod.mk.injEq] at H
             obtain ⟨rfl, rfl, rfl⟩ := H
             try go_wp2_with (first | ((with_reducible refine gate_callee (f := 61) rfl ?_); refine goesL_ (some 48) rfl rfl Try.func61 (by kernel_rfl) rfl #[.pointer (some ⟨gb260, 0, none⟩), .int .i64 (t266.length : Int)] rfl (by (try simp only [List.map_toArray, List.map_cons, List.map_nil]); first | done | rfl | (simp only [List.length_drop, List.length_take]; rfl)) ?_; (with_reducible refine (spec_l1Cur_pick.calls gb260 l0 x261001_4 x261002_4 (t266.length : Int) t279 t280 t281 w _ ?side1 ?side2 A21.out).mono ?_); (case side1 => first | ((repeat (first | (with_reducible first | exact HI260.out | apply IsS77.alloc | apply IsS77.drewN | apply IsS77.drew | apply IsS77.set_1 | apply IsS77.set_2 | refine IsS77.far ?_ NB260_271.out _ | refine IsS77.far (p := ⟨gb271, _, _⟩) ?_ NB260_271.out _) | exact HI260.out)); done) | (simp only [Int.add_zero]; repeat (first | (with_reducible first | exact HI260.out | apply IsS77.alloc | apply IsS77.drewN | apply IsS77.drew | apply IsS77.set_1 | apply IsS77.set_2 | refine IsS77.far ?_ NB260_271.out _ | refine IsS77.far (p := ⟨gb271, _, _⟩) ?_ NB260_271.out _) | exact HI260.out))); (case side2 => repeat (first | (with_reducible first | exact HB.out | apply below_alloc | apply pw_below_drewN | apply below_drew1 | refine below_set ?_ (IsS77.ge HI260.out) | refine below_set ?_ GE271.out) | exact HB.out)); rintro e w34 ⟨rfl, hi, hb, hk⟩; refine ⟨_, rfl, ?_⟩; have n0_ := Aside0.mk (Kd.R_mono (Kd.R_keep (IsS77.apart (show IsS77 w _ gb260 l0 x261001_4 x261002_4 from by first | ((repeat (first | (with_reducible first | exact HI260.out | apply IsS77.alloc | apply IsS77.drewN | apply IsS77.drew | apply IsS77.set_1 | apply IsS77.set_2 | refine IsS77.far ?_ NB260_271.out _ | refine IsS77.far (p := ⟨gb271, _, _⟩) ?_ NB260_271.out _) | exact HI260.out)); done) | (simp only [Int.add_zero]; repeat (first | (with_reducible first | exact HI260.out | apply IsS77.alloc | apply IsS77.drewN | apply IsS77.drew | apply IsS77.set_1 | apply IsS77.set_2 | refine IsS77.far ?_ NB260_271.out _ | refine IsS77.far (p := ⟨gb271, _, _⟩) ?_ NB260_271.out _) | exact HI260.out))) (by (with_reducible repeat (first | apply Kd.R_alloc | apply Kd.R_drewN | apply Kd.R_drew)); exact HO_11.out) (by decide)) hk (fun _ h => h.2)) (fun _ h => h.1)); have n1_ := Aside0.mk (Kd.R_mono (Kd.R_keep (IsS77.apart (show IsS77 w _ gb260 l0 x261001_4 x261002_4 from by first | ((repeat (first | (with_reducible first | exact HI260.out | apply IsS77.alloc | apply IsS77.drewN | apply IsS77.drew | apply IsS77.set_1 | apply IsS77.set_2 | refine IsS77.far ?_ NB260_271.out _ | refine IsS77.far (p := ⟨gb271, _, _⟩) ?_ NB260_271.out _) | exact HI260.out)); done) | (simp only [Int.add_zero]; repeat (first | (with_reducible first | exact HI260.out | apply IsS77.alloc | apply IsS77.drewN | apply IsS77.drew | apply IsS77.set_1 | apply IsS77.set_2 | refine IsS77.far ?_ NB260_271.out _ | refine IsS77.far (p := ⟨gb271, _, _⟩) ?_ NB260_271.out _) | exact HI260.out))) (by (with_reducible repeat (first | apply Kd.R_alloc | apply Kd.R_drewN | apply Kd.R_drew)); exact HO_13.out) (by decide)) hk (fun _ h => h.2)) (fun _ h => h.1)); have n2_ := Aside0.mk (Kd.R_mono (Kd.R_keep (IsS77.apart (show IsS77 w _ gb260 l0 x261001_4 x261002_4 from by first | ((repeat (first | (with_reducible first | exact HI260.out | apply IsS77.alloc | apply IsS77.drewN | apply IsS77.drew | apply IsS77.set_1 | apply IsS77.set_2 | refine IsS77.far ?_ NB260_271.out _ | refine IsS77.far (p := ⟨gb271, _, _⟩) ?_ NB260_271.out _) | exact HI260.out)); done) | (simp only [Int.add_zero]; repeat (first | (with_reducible first | exact HI260.out | apply IsS77.alloc | apply IsS77.drewN | apply IsS77.drew | apply IsS77.set_1 | apply IsS77.set_2 | refine IsS77.far ?_ NB260_271.out _ | refine IsS77.far (p := ⟨gb271, _, _⟩) ?_ NB260_271.out _) | exact HI260.out))) (by (with_reducible repeat (first | apply Kd.R_alloc | apply Kd.R_drewN | apply Kd.R_drew)); exact HO_272000.out) (by decide)) hk (fun _ h => h.2)) (fun _ h => h.1)); have n3_ := Aside0.mk (Kd.R_mono (Kd.R_keep (IsS77.apart (show IsS77 w _ gb260 l0 x261001_4 x261002_4 from by first | ((repeat (first | (with_reducible first | exact HI260.out | apply IsS77.alloc | apply IsS77.drewN | apply IsS77.drew | apply IsS77.set_1 | apply IsS77.set_2 | refine IsS77.far ?_ NB260_271.out _ | refine IsS77.far (p := ⟨gb271, _, _⟩) ?_ NB260_271.out _) | exact HI260.out)); done) | (simp only [Int.add_zero]; repeat (first | (with_reducible first | exact HI260.out | apply IsS77.alloc | apply IsS77.drewN | apply IsS77.drew | apply IsS77.set_1 | apply IsS77.set_2 | refine IsS77.far ?_ NB260_271.out _ | refine IsS77.far (p := ⟨gb271, _, _⟩) ?_ NB260_271.out _) | exact HI260.out))) (by (with_reducible repeat (first | apply Kd.R_alloc | apply Kd.R_drewN | apply Kd.R_drew)); exact HO_272003.out) (by decide)) hk (fun _ h => h.2)) (fun _ h => h.1)); have n4_ := Aside0.mk (KeepBut.blk hk (g' := gb271) (o := .cells #[.slice Ao11 t261.length co11, .int .i64 t264, .int .i64 t265, .slice Ao14 t266.length co14, .int .i64 t269] 60 (0, 0)) (by (with_reducible repeat (first | refine blk_drewN ?_ _ | refine blk_drew ?_ | refine blk_alloc ?_ _)); exact BK271.out) NB271_260.out (by simp)); have n5_ := Aside0.mk (hb); have n6_ := Aside0.mk (hi); clear HO_11; clear HO_13; clear HO_272000; clear HO_272003; clear BK271; clear HB; clear HI260; have HO_11 := n0_; have HO_13 := n1_; have HO_272000 := n2_; have HO_272003 := n3_; have BK271 := n4_; have HB := n5_; have HI260 := n6_; clear n0_ n1_ n2_ n3_ n4_ n5_ n6_; (try clear hb); (try clear hb2); (try clear hk); (try clear hi)))
             have n0_ := Aside0.mk (Kd.R_drew HO_11.out)
             have n1_ := Aside0.mk (Kd.R_drew HO_13.out)
             have n2_ := Aside0.mk (Kd.R_drew HO_272000.out)
             have n3_ := Aside0.mk (Kd.R_drew HO_272003.out)
             have n4_ := Aside0.mk (blk_drew BK271.out)
             have n5_ := Aside0.mk (IsS77.drew HI260.out)
             have n6_ := Aside0.mk (below_drew1 HB.out)
             clear HO_11
             clear HO_13
             clear HO_272000
             clear HO_272003
             clear BK271
             clear HI260
             clear HB
             have HO_11 := n0_
             have HO_13 := n1_
             have HO_272000 := n2_
             have HO_272003 := n3_
             have BK271 := n4_
             have HI260 := n5_
             have HB := n6_
             clear n0_ n1_ n2_ n3_ n4_ n5_ n6_
             have q36 : (t279 : Int) ≤ ((t266.length : Int) : Int) := of_decide_eq_true (by first | (with_reducible assumption) | assumption)
             obtain ⟨i036, hi036, _, hsz36, _⟩ := info_parts info71
             have hroom36 : t266.length ≤ co14 := (Kd.R_reads' HO_13.out).2.1
             have hC36 : Kd.C k71 _ Ao14 t266.length t266 := (Kd.R_reads' HO_13.out).2.2
             have hcut36 := cut_to (P := Try.prog) 58 71 .i64 Try.underlying58 hi036 Ao14 t266.length co14 t279 (of_decide_eq_true (by first | (with_reducible assumption) | assumption)) q36 hroom36
             have hr36 := Kd.C_take (m := (t279 : Int).toNat) hC36 (by omega)
             have hy36 : y285.length = (t279 : Int).toNat := (by rw [Ny285.out, List.length_take]; omega)
             rw [← Ny285.out] at hr36
             rw [← hy36] at hcut36
             have HR288 := Aside0.mk hr36
             have HC288 := Aside0.mk (show y285.length ≤ co14 from by omega)
             clear hr36 hC36 hroom36 hi036 hsz36
             have KY36 := Aside0.mk hy36
             clear hy36
             have KL36 := Aside0.mk (show (t279 : Int).toNat ≤ t266.length from by omega)
             replace q36 := eq_true q36
             have q37 : ((ji25) : Int) ≤ ((t266.length : Int) : Int) := of_decide_eq_true (by first | (with_reducible assumption) | assumption)
             obtain ⟨i037, hi037, _, hsz37, _⟩ := info_parts info71
             have hroom37 : t266.length ≤ co14 := (Kd.R_reads' HO_13.out).2.1
             have hC37 : Kd.C k71 _ Ao14 t266.length t266 := (Kd.R_reads' HO_13.out).2.2
             have q037 : (0 : Int) ≤ ((ji25) : Int) := of_decide_eq_true (by first | (with_reducible assumption) | assumption)
             have hcut37 := cut_from (P := Try.prog) 58 71 .i64 Try.underlying58 hi037 4 hsz37 Ao14 t266.length co14 (ji25) q037 q37
             have hr37 := Kd.C_drop (m := ((ji25) : Int).toNat) (c := co14) hC37 (by omega) hroom37
             obtain ⟨A37, hA37⟩ : ∃ A1, A1 = (if co14 = ((ji25) : Int).toNat then Ao14 else (Ao14 : Option Addr).map (·.add (((ji25) : Int).toNat * 4))) := ⟨_, rfl⟩
             obtain ⟨c37, hc37⟩ : ∃ c1, c1 = co14 - ((ji25) : Int).toNat := ⟨_, rfl⟩
             have hy37 : y292.length = t266.length - ((ji25) : Int).toNat := (by rw [Ny292.out, List.length_drop] <;> omega)
             rw [show (t266).drop ((ji25) : Int).toNat = y292 from Ny292.out.symm] at hr37
             replace hr37 : Kd.C k71 _ A37 y292.length y292 := (by rw [hA37]; exact hr37)
             rw [← hy37, ← hA37, ← hc37] at hcut37
             have HR295 := Aside0.mk hr37
             have HC295 := Aside0.mk (show y292.length ≤ c37 from by rw [hy37, hc37]; exact Nat.sub_le_sub_right hroom37 _)
             clear hr37 hC37 hroom37 hi037 hsz37 hc37
             have KY37 := Aside0.mk hy37
             have KA37 := Aside0.mk hA37
             clear hy37 hA37
             have KL37 := Aside0.mk (show ((ji25) : Int).toNat ≤ t266.length from by omega)
             replace q37 := eq_true q37
             refine start_ (n := 11) (S := fun w' => True) (ds := []) #[false, false, false, false, false, false, false, false, false, false, false] (by kernel_rfl) rfl rfl trivial (fun hHeld => ?_); refine with_tabW spec_DrawBlameOf.tab8 spec_DrawBlameOf.bits8 (fun HT_ HW_ => ?_)
             generalize w34.drew = w35 at HO_11 HO_13 HO_272000 HO_272003 BK271 HI260 HB HR288 HR295 hHeld ⊢
             refine pure_ (i := 1) (N := some 50) (v := ?_) (a' := ?_) #[false, true, false, false, false, false, false, false, false, false, false] rfl rfl (any_of HT_.out (by kernel_rfl)) (fun _ _ _ h => h) (Or.inl ⟨by rfl, ?_⟩) ?_ ?_
             rotate_left
             ·intro w'
              go_simp
              with_reducible rfl
             rotate_left
             ·simp only [Act.put, List.setIfInBounds_toArray, List.set_cons_zero, List.set_cons_succ, i64_w, i32_w]
              rfl
             refine pure_ (i := 2) (N := some 51) (v := ?_) (a' := ?_) #[false, true, true, false, false, false, false, false, false, false, false] rfl rfl (any_of HT_.out (by kernel_rfl)) (fun _ _ _ h => h) (Or.inl ⟨by rfl, ?_⟩) ?_ ?_
             rotate_left
             ·intro w'
              go_simp
              with_reducible rfl
             rotate_left
             ·simp only [Act.put, List.setIfInBounds_toArray, List.set_cons_zero, List.set_cons_succ, i64_w, i32_w]
              rfl
             refine pure_ (i := 3) (N := some 52) (v := ?_) (a' := ?_) #[false, true, true, true, false, false, false, false, false, false, false] rfl rfl (any_of HT_.out (by kernel_rfl)) (fun _ _ _ h => h) (Or.inl ⟨by rfl, ?_⟩) ?_ ?_
             rotate_left
             ·intro w'
              go_simp
              with_reducible rfl
             rotate_left
             ·simp only [Act.put, List.setIfInBounds_toArray, List.set_cons_zero, List.set_cons_succ, i64_w, i32_w]
              rfl
             refine pure_ (i := 5) (N := some 54) (v := ?_) (a' := ?_) #[false, true, true, true, false, true, false, false, false, false, false] rfl rfl (any_of HT_.out (by kernel_rfl)) (fun _ _ _ h => h) (Or.inl ⟨by rfl, ?_⟩) ?_ ?_
             rotate_left
             ·intro w'
              go_simp
              with_reducible rfl
             rotate_left
             ·simp only [Act.put, List.setIfInBounds_toArray, List.set_cons_zero, List.set_cons_succ, i64_w, i32_w]
              rfl
             refine pure_ (i := 6) (N := some 55) (v := ?_) (a' := ?_) #[false, true, true, true, false, true, true, false, false, false, false] rfl rfl (any_of HT_.out (by kernel_rfl)) (fun _ _ _ h => h) (Or.inl ⟨by rfl, ?_⟩) ?_ ?_
             rotate_left
             ·intro w'
              go_simp
              with_reducible rfl
             rotate_left
             ·simp only [Act.put, List.setIfInBounds_toArray, List.set_cons_zero, List.set_cons_succ, i64_w, i32_w]
              rfl
             refine pure_ (i := 7) (N := some 56) (v := ?_) (a' := ?_) #[false, true, true, true, false, true, true, true, false, false, false] rfl rfl (any_of HT_.out (by kernel_rfl)) (fun _ _ _ h => h) (Or.inl ⟨by rfl, ?_⟩) ?_ ?_
             rotate_left
             ·intro w'
              go_simp
              with_reducible rfl
             rotate_left
             ·simp only [Act.put, List.setIfInBounds_toArray, List.set_cons_zero, List.set_cons_succ, i64_w, i32_w]
              rfl
             refine pure_ (i := 8) (N := some 57) (v := ?_) (a' := ?_) #[false, true, true, true, false, true, true, true, true, false, false] rfl rfl (any_of HT_.out (by kernel_rfl)) (fun _ _ _ h => h) (Or.inl ⟨by rfl, ?_⟩) ?_ ?_
             rotate_left
             ·intro w'
              go_simp
              with_reducible rfl
             rotate_left
             ·simp only [Act.put, List.setIfInBounds_toArray, List.set_cons_zero, List.set_cons_succ, i64_w, i32_w]
              rfl
             refine one_ (i := 0) (N := some 49) #[true, true, true, true, false, true, true, true, true, false, false] rfl rfl (one_of HT_.out (by kernel_rfl)) (by decide) (fun K hK => ?_)
             refine Kd.R_lit_step k71 _ 71 ?hg (N := 49) ?hd (xs := ([] : List (S71))) (inner := []) (ok := fun _ => True) (okp := fun _ => True) ?hr ?hp (fun _ hk => hk) trivial (Below.refl _ _) (Nat.le_refl _) (by simp) ?_; (case hd => rfl); (case hg => rfl); (case hr => first | (go_simp; done) | (go_simp; rfl)); (case hp => exact (Reps.none _ _))
             intro v283 w38 ho39 hb hg_ hnew_
             clear hg_ hnew_
             (first | rw [← Ny282.out] at ho39 | (simp only [Int.reduceToNat] at ho39; rw [← Ny282.out] at ho39))
             have n0_ := Aside0.mk (Kd.R_below (by (with_reducible repeat (first | apply Kd.R_alloc | apply Kd.R_drewN | apply Kd.R_drew)); exact HO_11.out) hb)
             have n1_ := Aside0.mk (Kd.R_elder' (by (with_reducible repeat (first | apply Kd.R_alloc | apply Kd.R_drewN | apply Kd.R_drew)); exact HO_13.out) (Kd.R_base ho39) hb)
             have n2_ := Aside0.mk (Kd.R_below (by (with_reducible repeat (first | apply Kd.R_alloc | apply Kd.R_drewN | apply Kd.R_drew)); exact HO_272000.out) hb)
             have n3_ := Aside0.mk (Kd.R_elder' (by (with_reducible repeat (first | apply Kd.R_alloc | apply Kd.R_drewN | apply Kd.R_drew)); exact HO_272003.out) (Kd.R_base ho39) hb)
             have n4_ := Aside0.mk (Kd.R_lower (Kd.R_new' (Kd.R_new' ho39 (Kd.R_lt (by (with_reducible repeat (first | apply Kd.R_alloc | apply Kd.R_drewN | apply Kd.R_drew)); exact HO_13.out))) (Kd.R_lt (by (with_reducible repeat (first | apply Kd.R_alloc | apply Kd.R_drewN | apply Kd.R_drew)); exact HO_272003.out))) (below_size (by repeat (first | (with_reducible first | exact HB.out | apply below_alloc | apply pw_below_drewN | apply below_drew1 | refine below_set ?_ (IsS77.ge HI260.out) | refine below_set ?_ GE271.out) | exact HB.out))))
             have n5_ := Aside0.mk (blk_below (g := gb271) (o := .cells #[.slice Ao11 t261.length co11, .int .i64 t264, .int .i64 t265, .slice Ao14 t266.length co14, .int .i64 t269] 60 (0, 0)) (by (with_reducible repeat (first | refine blk_drewN ?_ _ | refine blk_drew ?_ | refine blk_alloc ?_ _)); exact BK271.out) hb)
             have n6_ := Aside0.mk (IsS77.below (by first | ((repeat (first | (with_reducible first | exact HI260.out | apply IsS77.alloc | apply IsS77.drewN | apply IsS77.drew | apply IsS77.set_1 | apply IsS77.set_2 | refine IsS77.far ?_ NB260_271.out _ | refine IsS77.far (p := ⟨gb271, _, _⟩) ?_ NB260_271.out _) | exact HI260.out)); done) | (simp only [Int.add_zero]; repeat (first | (with_reducible first | exact HI260.out | apply IsS77.alloc | apply IsS77.drewN | apply IsS77.drew | apply IsS77.set_1 | apply IsS77.set_2 | refine IsS77.far ?_ NB260_271.out _ | refine IsS77.far (p := ⟨gb271, _, _⟩) ?_ NB260_271.out _) | exact HI260.out))) hb)
             have n7_ := Aside0.mk (Kd.C_below (by repeat (first | (with_reducible exact HR288.out) | (with_reducible refine Kd.C_alloc ?_ _) | (with_reducible refine Kd.C_drewN ?_ _) | (with_reducible refine Kd.C_drew ?_) | exact HR288.out)) hb)
             have n8_ := Aside0.mk (Kd.C_below (by repeat (first | (with_reducible exact HR295.out) | (with_reducible refine Kd.C_alloc ?_ _) | (with_reducible refine Kd.C_drewN ?_ _) | (with_reducible refine Kd.C_drew ?_) | exact HR295.out)) hb)
             have n9_ := Aside0.mk (below_step (by repeat (first | (with_reducible first | exact HB.out | apply below_alloc | apply pw_below_drewN | apply below_drew1 | refine below_set ?_ (IsS77.ge HI260.out) | refine below_set ?_ GE271.out) | exact HB.out)) hb)
             clear HO_11
             clear HO_13
             clear HO_272000
             clear HO_272003
             clear BK271
             clear HI260
             clear HR288
             clear HR295
             clear HB
             have HO_11 := n0_
             have HO_13 := n1_
             have HO_272000 := n2_
             have HO_272003 := n3_
             have HO284 := n4_
             have BK271 := n5_
             have HI260 := n6_
             have HR288 := n7_
             have HR295 := n8_
             have HB := n9_
             clear n0_ n1_ n2_ n3_ n4_ n5_ n6_ n7_ n8_ n9_
             clear hb ho39
             refine hK.out _ _ trivial (fun hHeld => ?_)
             clear hK K
             refine norm_ (a' := ?_) ?_ ?_
             rotate_left
             ·show Act.put _ (some 49) _ = _
              simp only [Act.put, List.setIfInBounds_toArray, List.set_cons_zero, List.set_cons_succ, i64_w, i32_w]
              rfl
             refine one_ (i := 4) (N := some 53) #[true, true, true, true, true, true, true, true, true, false, false] rfl rfl (one_of HT_.out (by kernel_rfl)) (by decide) (fun K hK => ?_)
             refine Kd.R_append_rows_step k71 (w0 := w) w.heap.size (by rfl) (.tmp 49) (.tmp 52) 58 71 (.agg #[(.int .i64 0), (.int .i64 0), (.int .i64 0), (.int .i64 0)]) 32 rfl Try.underlying58 info71 rfl (by decide) (by omega) v283 y282 y285 _ _ _ (fun k_ => some k_ ≠ (.slice Ao14 t266.length co14 : Value).ownBlock ∧ some k_ ≠ (.slice Ao14 t266.length co14 : Value).ownBlock) (fun _ => False) rfl rfl ?aO ?aR (fun _ _ h => h) (fun _ h => h.elim) ?aF ?aB ?aS ?aL ?_
             (case aR => repeat (first | exact (by repeat (first | (with_reducible exact HR288.out) | (with_reducible refine Kd.C_alloc ?_ _) | (with_reducible refine Kd.C_drewN ?_ _) | (with_reducible refine Kd.C_drew ?_) | exact HR288.out)) | (with_reducible refine Kd.C_alloc ?_ _) | (with_reducible refine Kd.C_drewN ?_ _) | (with_reducible refine Kd.C_drew ?_)))
             (case aB => exact (by repeat (first | (with_reducible first | exact HB.out | apply below_alloc | apply pw_below_drewN | apply below_drew1 | refine below_set ?_ (IsS77.ge HI260.out) | refine below_set ?_ GE271.out) | exact HB.out)))
             (case aF => exact (fun k_ hk => ⟨Kd.fresh' (Kd.R_lt (by (with_reducible repeat (first | apply Kd.R_alloc | apply Kd.R_drewN | apply Kd.R_drew)); exact HO_13.out)) k_ hk, Kd.fresh' (Kd.R_lt (by (with_reducible repeat (first | apply Kd.R_alloc | apply Kd.R_drewN | apply Kd.R_drew)); exact HO_272003.out)) k_ hk⟩))
             (case aO => exact (by (with_reducible repeat (first | apply Kd.R_alloc | apply Kd.R_drewN | apply Kd.R_drew)); exact Kd.R_mono HO284.out (fun _ hk => ⟨hk.1.2, hk.2⟩)))
             (case aS => exact (below_size (by repeat (first | (with_reducible first | exact HB.out | apply below_alloc | apply pw_below_drewN | apply below_drew1 | refine below_set ?_ (IsS77.ge HI260.out) | refine below_set ?_ GE271.out) | exact HB.out))))
             (case aL => have := LMc24.out; omega)
             intro v290 w40 ho hb hg hat
             rw [← Ny289.out] at ho
             have n0_ := Aside0.mk (Kd.R_over' (by (with_reducible repeat (first | apply Kd.R_alloc | apply Kd.R_drewN | apply Kd.R_drew)); exact HO_11.out) (Kd.R_typed (by (with_reducible repeat (first | apply Kd.R_alloc | apply Kd.R_drewN | apply Kd.R_drew)); exact HO284.out)) (by decide) hg)
             have n1_ := Aside0.mk (Kd.R_after (ok := (fun _ => True)) (by (with_reducible repeat (first | apply Kd.R_alloc | apply Kd.R_drewN | apply Kd.R_drew)); exact HO_13.out) hg hat)
             have n2_ := Aside0.mk (Kd.R_over' (by (with_reducible repeat (first | apply Kd.R_alloc | apply Kd.R_drewN | apply Kd.R_drew)); exact HO_272000.out) (Kd.R_typed (by (with_reducible repeat (first | apply Kd.R_alloc | apply Kd.R_drewN | apply Kd.R_drew)); exact HO284.out)) (by decide) hg)
             have n3_ := Aside0.mk (Kd.R_after (ok := (fun _ => True)) (by (with_reducible repeat (first | apply Kd.R_alloc | apply Kd.R_drewN | apply Kd.R_drew)); exact HO_272003.out) hg hat)
             have n4_ := Aside0.mk (blk_grown (g := gb271) (o := .cells #[.slice Ao11 t261.length co11, .int .i64 t264, .int .i64 t265, .slice Ao14 t266.length co14, .int .i64 t269] 60 (0, 0)) (by (with_reducible repeat (first | refine blk_drewN ?_ _ | refine blk_drew ?_ | refine blk_alloc ?_ _)); exact BK271.out) hg (Kd.R_ne HO284.out BK271.out (by decide)))
             have n5_ := Aside0.mk ((show IsS77 w _ gb260 l0 t280 t281 from IsS77.grown (by first | ((repeat (first | (with_reducible first | exact HI260.out | apply IsS77.alloc | apply IsS77.drewN | apply IsS77.drew | apply IsS77.set_1 | apply IsS77.set_2 | refine IsS77.far ?_ NB260_271.out _ | refine IsS77.far (p := ⟨gb271, _, _⟩) ?_ NB260_271.out _) | exact HI260.out)); done) | (simp only [Int.add_zero]; repeat (first | (with_reducible first | exact HI260.out | apply IsS77.alloc | apply IsS77.drewN | apply IsS77.drew | apply IsS77.set_1 | apply IsS77.set_2 | refine IsS77.far ?_ NB260_271.out _ | refine IsS77.far (p := ⟨gb271, _, _⟩) ?_ NB260_271.out _) | exact HI260.out))) hg (IsS77.own_ne HI260.out HO284.out (by decide))))
             have n6_ := Aside0.mk (hb)
             have n7_ := Aside0.mk ((show Kd.C k71 w40 Ao14 y285.length y285 from by rw [Ny285.out]; exact Kd.C_take (m := (t279 : Int).toNat) ((Kd.R_reads' (Kd.R_after (ok := (fun _ => True)) (by (with_reducible repeat (first | apply Kd.R_alloc | apply Kd.R_drewN | apply Kd.R_drew)); exact HO_13.out) hg hat)).2.2) KL36.out))
             have n8_ := Aside0.mk ((show Kd.C k71 w40 A37 y292.length y292 from by rw [Ny292.out, KA37.out]; exact Kd.C_drop (m := ((ji25) : Int).toNat) (c := co14) ((Kd.R_reads' (Kd.R_after (ok := (fun _ => True)) (by (with_reducible repeat (first | apply Kd.R_alloc | apply Kd.R_drewN | apply Kd.R_drew)); exact HO_13.out) hg hat)).2.2) KL37.out ((Kd.R_reads' (Kd.R_after (ok := (fun _ => True)) (by (with_reducible repeat (first | apply Kd.R_alloc | apply Kd.R_drewN | apply Kd.R_drew)); exact HO_13.out) hg hat)).2.1)))
             have n9_ := Aside0.mk (ho)
             clear HO_11
             clear HO_13
             clear HO_272000
             clear HO_272003
             clear BK271
             clear HI260
             clear HB
             clear HR288
             clear HR295
             clear HO284
             have HO_11 := n0_
             have HO_13 := n1_
             have HO_272000 := n2_
             have HO_272003 := n3_
             have BK271 := n4_
             have HI260 := n5_
             have HB := n6_
             have HR288 := n7_
             have HR295 := n8_
             have HO291 := n9_
             clear n0_ n1_ n2_ n3_ n4_ n5_ n6_ n7_ n8_ n9_
             clear ho hb hg hat
             refine hK.out _ _ trivial (fun hHeld => ?_)
             clear hK K
             refine norm_ (a' := ?_) ?_ ?_
             rotate_left
             ·show Act.put _ (some 53) _ = _
              simp only [Act.put, List.setIfInBounds_toArray, List.set_cons_zero, List.set_cons_succ, i64_w, i32_w]
              rfl
             refine one_ (i := 9) (N := some 58) #[true, true, true, true, true, true, true, true, true, true, false] rfl rfl (one_of HT_.out (by kernel_rfl)) (by decide) (fun K hK => ?_)
             refine Kd.R_append_rows_step k71 (w0 := w) w.heap.size (by rfl) (.tmp 53) (.tmp 57) 58 71 (.agg #[(.int .i64 0), (.int .i64 0), (.int .i64 0), (.int .i64 0)]) 32 rfl Try.underlying58 info71 rfl (by decide) (by omega) v290 y289 y292 _ _ _ (fun k_ => some k_ ≠ (.slice Ao14 t266.length co14 : Value).ownBlock ∧ some k_ ≠ (.slice Ao14 t266.length co14 : Value).ownBlock) (fun _ => False) rfl rfl ?aO ?aR (fun _ _ h => h) (fun _ h => h.elim) ?aF ?aB ?aS ?aL ?_
             (case aR => repeat (first | exact (by repeat (first | (with_reducible exact HR295.out) | (with_reducible refine Kd.C_alloc ?_ _) | (with_reducible refine Kd.C_drewN ?_ _) | (with_reducible refine Kd.C_drew ?_) | exact HR295.out)) | (with_reducible refine Kd.C_alloc ?_ _) | (with_reducible refine Kd.C_drewN ?_ _) | (with_reducible refine Kd.C_drew ?_)))
             (case aB => exact (by repeat (first | (with_reducible first | exact HB.out | apply below_alloc | apply pw_below_drewN | apply below_drew1 | refine below_set ?_ (IsS77.ge HI260.out) | refine below_set ?_ GE271.out) | exact HB.out)))
             (case aF => exact (fun k_ hk => ⟨Kd.fresh' (Kd.R_lt (by (with_reducible repeat (first | apply Kd.R_alloc | apply Kd.R_drewN | apply Kd.R_drew)); exact HO_13.out)) k_ hk, Kd.fresh' (Kd.R_lt (by (with_reducible repeat (first | apply Kd.R_alloc | apply Kd.R_drewN | apply Kd.R_drew)); exact HO_272003.out)) k_ hk⟩))
             (case aO => exact (by (with_reducible repeat (first | apply Kd.R_alloc | apply Kd.R_drewN | apply Kd.R_drew)); exact HO291.out))
             (case aS => exact (below_size (by repeat (first | (with_reducible first | exact HB.out | apply below_alloc | apply pw_below_drewN | apply below_drew1 | refine below_set ?_ (IsS77.ge HI260.out) | refine below_set ?_ GE271.out) | exact HB.out))))
             (case aL => have := LMc28.out; omega)
             intro v297 w41 ho hb hg hat
             rw [← Ny296.out] at ho
             have n0_ := Aside0.mk (Kd.R_over' (by (with_reducible repeat (first | apply Kd.R_alloc | apply Kd.R_drewN | apply Kd.R_drew)); exact HO_11.out) (Kd.R_typed (by (with_reducible repeat (first | apply Kd.R_alloc | apply Kd.R_drewN | apply Kd.R_drew)); exact HO291.out)) (by decide) hg)
             have n1_ := Aside0.mk (Kd.R_after (ok := (fun _ => True)) (by (with_reducible repeat (first | apply Kd.R_alloc | apply Kd.R_drewN | apply Kd.R_drew)); exact HO_13.out) hg hat)
             have n2_ := Aside0.mk (Kd.R_over' (by (with_reducible repeat (first | apply Kd.R_alloc | apply Kd.R_drewN | apply Kd.R_drew)); exact HO_272000.out) (Kd.R_typed (by (with_reducible repeat (first | apply Kd.R_alloc | apply Kd.R_drewN | apply Kd.R_drew)); exact HO291.out)) (by decide) hg)
             have n3_ := Aside0.mk (Kd.R_after (ok := (fun _ => True)) (by (with_reducible repeat (first | apply Kd.R_alloc | apply Kd.R_drewN | apply Kd.R_drew)); exact HO_272003.out) hg hat)
             have n4_ := Aside0.mk (blk_grown (g := gb271) (o := .cells #[.slice Ao11 t261.length co11, .int .i64 t264, .int .i64 t265, .slice Ao14 t266.length co14, .int .i64 t269] 60 (0, 0)) (by (with_reducible repeat (first | refine blk_drewN ?_ _ | refine blk_drew ?_ | refine blk_alloc ?_ _)); exact BK271.out) hg (Kd.R_ne HO291.out BK271.out (by decide)))
             have n5_ := Aside0.mk ((show IsS77 w _ gb260 l0 t280 t281 from IsS77.grown (by first | ((repeat (first | (with_reducible first | exact HI260.out | apply IsS77.alloc | apply IsS77.drewN | apply IsS77.drew | apply IsS77.set_1 | apply IsS77.set_2 | refine IsS77.far ?_ NB260_271.out _ | refine IsS77.far (p := ⟨gb271, _, _⟩) ?_ NB260_271.out _) | exact HI260.out)); done) | (simp only [Int.add_zero]; repeat (first | (with_reducible first | exact HI260.out | apply IsS77.alloc | apply IsS77.drewN | apply IsS77.drew | apply IsS77.set_1 | apply IsS77.set_2 | refine IsS77.far ?_ NB260_271.out _ | refine IsS77.far (p := ⟨gb271, _, _⟩) ?_ NB260_271.out _) | exact HI260.out))) hg (IsS77.own_ne HI260.out HO291.out (by decide))))
             have n6_ := Aside0.mk (hb)
             have n7_ := Aside0.mk ((show Kd.C k71 w41 Ao14 y285.length y285 from by rw [Ny285.out]; exact Kd.C_take (m := (t279 : Int).toNat) ((Kd.R_reads' (Kd.R_after (ok := (fun _ => True)) (by (with_reducible repeat (first | apply Kd.R_alloc | apply Kd.R_drewN | apply Kd.R_drew)); exact HO_13.out) hg hat)).2.2) KL36.out))
             have n8_ := Aside0.mk ((show Kd.C k71 w41 A37 y292.length y292 from by rw [Ny292.out, KA37.out]; exact Kd.C_drop (m := ((ji25) : Int).toNat) (c := co14) ((Kd.R_reads' (Kd.R_after (ok := (fun _ => True)) (by (with_reducible repeat (first | apply Kd.R_alloc | apply Kd.R_drewN | apply Kd.R_drew)); exact HO_13.out) hg hat)).2.2) KL37.out ((Kd.R_reads' (Kd.R_after (ok := (fun _ => True)) (by (with_reducible repeat (first | apply Kd.R_alloc | apply Kd.R_drewN | apply Kd.R_drew)); exact HO_13.out) hg hat)).2.1)))
             have n9_ := Aside0.mk (ho)
             clear HO_11
             clear HO_13
             clear HO_272000
             clear HO_272003
             clear BK271
             clear HI260
             clear HB
             clear HR288
             clear HR295
             clear HO291
             have HO_11 := n0_
             have HO_13 := n1_
             have HO_272000 := n2_
             have HO_272003 := n3_
             have BK271 := n4_
             have HI260 := n5_
             have HB := n6_
             have HR288 := n7_
             have HR295 := n8_
             have HO298 := n9_
             clear n0_ n1_ n2_ n3_ n4_ n5_ n6_ n7_ n8_ n9_
             clear ho hb hg hat
             refine hK.out _ _ trivial (fun hHeld => ?_)
             clear hK K
             refine norm_ (a' := ?_) ?_ ?_
             rotate_left
             ·show Act.put _ (some 58) _ = _
              simp only [Act.put, List.setIfInBounds_toArray, List.set_cons_zero, List.set_cons_succ, i64_w, i32_w]
              rfl
             refine pure_ (i := 10) (N := some 13) (v := ?_) (a' := ?_) #[true, true, true, true, true, true, true, true, true, true, true] rfl rfl (any_of HT_.out (by kernel_rfl)) (fun _ _ _ h => h) (Or.inl ⟨by rfl, ?_⟩) ?_ ?_
             rotate_left
             ·intro w'
              go_simp
              with_reducible rfl
             rotate_left
             ·simp only [Act.put, List.setIfInBounds_toArray, List.set_cons_zero, List.set_cons_succ, i64_w, i32_w]
              rfl
             refine done_ (done_of HT_.out (by kernel_rfl)) ?_
             obtain ⟨Ao42, co42, eo42⟩ := Kd.R_slice HO298.out
             subst eo42
             try go_wp2_with (first | (go_at_call 62; (with_reducible refine (spec_l1Cur_one.calls gb260 l0 t280 t281 6 true t300 t301 w _ ?side1 ?side2 A30.out).mono ?_); (case side1 => first | ((repeat (first | (with_reducible first | exact HI260.out | apply IsS77.alloc | apply IsS77.drewN | apply IsS77.drew | apply IsS77.set_1 | apply IsS77.set_2 | refine IsS77.far ?_ NB260_271.out _ | refine IsS77.far (p := ⟨gb271, _, _⟩) ?_ NB260_271.out _) | exact HI260.out)); done) | (simp only [Int.add_zero]; repeat (first | (with_reducible first | exact HI260.out | apply IsS77.alloc | apply IsS77.drewN | apply IsS77.drew | apply IsS77.set_1 | apply IsS77.set_2 | refine IsS77.far ?_ NB260_271.out _ | refine IsS77.far (p := ⟨gb271, _, _⟩) ?_ NB260_271.out _) | exact HI260.out))); (case side2 => repeat (first | (with_reducible first | exact HB.out | apply below_alloc | apply pw_below_drewN | apply below_drew1 | refine below_set ?_ (IsS77.ge HI260.out) | refine below_set ?_ GE271.out) | exact HB.out)); rintro e w43 ⟨rfl, hi, hb, hk⟩; have n0_ := Aside0.mk (Kd.R_mono (Kd.R_keep (IsS77.apart (show IsS77 w _ gb260 l0 t280 t281 from by first | ((repeat (first | (with_reducible first | exact HI260.out | apply IsS77.alloc | apply IsS77.drewN | apply IsS77.drew | apply IsS77.set_1 | apply IsS77.set_2 | refine IsS77.far ?_ NB260_271.out _ | refine IsS77.far (p := ⟨gb271, _, _⟩) ?_ NB260_271.out _) | exact HI260.out)); done) | (simp only [Int.add_zero]; repeat (first | (with_reducible first | exact HI260.out | apply IsS77.alloc | apply IsS77.drewN | apply IsS77.drew | apply IsS77.set_1 | apply IsS77.set_2 | refine IsS77.far ?_ NB260_271.out _ | refine IsS77.far (p := ⟨gb271, _, _⟩) ?_ NB260_271.out _) | exact HI260.out))) (by (with_reducible repeat (first | apply Kd.R_alloc | apply Kd.R_drewN | apply Kd.R_drew)); exact HO_11.out) (by decide)) hk (fun _ h => h.2)) (fun _ h => h.1)); have n1_ := Aside0.mk (Kd.R_mono (Kd.R_keep (IsS77.apart (show IsS77 w _ gb260 l0 t280 t281 from by first | ((repeat (first | (with_reducible first | exact HI260.out | apply IsS77.alloc | apply IsS77.drewN | apply IsS77.drew | apply IsS77.set_1 | apply IsS77.set_2 | refine IsS77.far ?_ NB260_271.out _ | refine IsS77.far (p := ⟨gb271, _, _⟩) ?_ NB260_271.out _) | exact HI260.out)); done) | (simp only [Int.add_zero]; repeat (first | (with_reducible first | exact HI260.out | apply IsS77.alloc | apply IsS77.drewN | apply IsS77.drew | apply IsS77.set_1 | apply IsS77.set_2 | refine IsS77.far ?_ NB260_271.out _ | refine IsS77.far (p := ⟨gb271, _, _⟩) ?_ NB260_271.out _) | exact HI260.out))) (by (with_reducible repeat (first | apply Kd.R_alloc | apply Kd.R_drewN | apply Kd.R_drew)); exact HO_13.out) (by decide)) hk (fun _ h => h.2)) (fun _ h => h.1)); have n2_ := Aside0.mk (Kd.R_mono (Kd.R_keep (IsS77.apart (show IsS77 w _ gb260 l0 t280 t281 from by first | ((repeat (first | (with_reducible first | exact HI260.out | apply IsS77.alloc | apply IsS77.drewN | apply IsS77.drew | apply IsS77.set_1 | apply IsS77.set_2 | refine IsS77.far ?_ NB260_271.out _ | refine IsS77.far (p := ⟨gb271, _, _⟩) ?_ NB260_271.out _) | exact HI260.out)); done) | (simp only [Int.add_zero]; repeat (first | (with_reducible first | exact HI260.out | apply IsS77.alloc | apply IsS77.drewN | apply IsS77.drew | apply IsS77.set_1 | apply IsS77.set_2 | refine IsS77.far ?_ NB260_271.out _ | refine IsS77.far (p := ⟨gb271, _, _⟩) ?_ NB260_271.out _) | exact HI260.out))) (by (with_reducible repeat (first | apply Kd.R_alloc | apply Kd.R_drewN | apply Kd.R_drew)); exact HO_272000.out) (by decide)) hk (fun _ h => h.2)) (fun _ h => h.1)); have n3_ := Aside0.mk (Kd.R_mono (Kd.R_keep (IsS77.apart (show IsS77 w _ gb260 l0 t280 t281 from by first | ((repeat (first | (with_reducible first | exact HI260.out | apply IsS77.alloc | apply IsS77.drewN | apply IsS77.drew | apply IsS77.set_1 | apply IsS77.set_2 | refine IsS77.far ?_ NB260_271.out _ | refine IsS77.far (p := ⟨gb271, _, _⟩) ?_ NB260_271.out _) | exact HI260.out)); done) | (simp only [Int.add_zero]; repeat (first | (with_reducible first | exact HI260.out | apply IsS77.alloc | apply IsS77.drewN | apply IsS77.drew | apply IsS77.set_1 | apply IsS77.set_2 | refine IsS77.far ?_ NB260_271.out _ | refine IsS77.far (p := ⟨gb271, _, _⟩) ?_ NB260_271.out _) | exact HI260.out))) (by (with_reducible repeat (first | apply Kd.R_alloc | apply Kd.R_drewN | apply Kd.R_drew)); exact HO_272003.out) (by decide)) hk (fun _ h => h.2)) (fun _ h => h.1)); have n4_ := Aside0.mk (KeepBut.blk hk (g' := gb271) (o := .cells #[.slice Ao11 t261.length co11, .int .i64 t264, .int .i64 t265, .slice Ao14 t266.length co14, .int .i64 t269] 60 (0, 0)) (by (with_reducible repeat (first | refine blk_drewN ?_ _ | refine blk_drew ?_ | refine blk_alloc ?_ _)); exact BK271.out) NB271_260.out (by simp)); have n5_ := Aside0.mk (Kd.R_mono (Kd.R_keep (IsS77.apart (show IsS77 w _ gb260 l0 t280 t281 from by first | ((repeat (first | (with_reducible first | exact HI260.out | apply IsS77.alloc | apply IsS77.drewN | apply IsS77.drew | apply IsS77.set_1 | apply IsS77.set_2 | refine IsS77.far ?_ NB260_271.out _ | refine IsS77.far (p := ⟨gb271, _, _⟩) ?_ NB260_271.out _) | exact HI260.out)); done) | (simp only [Int.add_zero]; repeat (first | (with_reducible first | exact HI260.out | apply IsS77.alloc | apply IsS77.drewN | apply IsS77.drew | apply IsS77.set_1 | apply IsS77.set_2 | refine IsS77.far ?_ NB260_271.out _ | refine IsS77.far (p := ⟨gb271, _, _⟩) ?_ NB260_271.out _) | exact HI260.out))) (by (with_reducible repeat (first | apply Kd.R_alloc | apply Kd.R_drewN | apply Kd.R_drew)); exact HO298.out) (by decide)) hk (fun _ h => h.2)) (fun _ h => h.1)); have n6_ := Aside0.mk (hb); have n7_ := Aside0.mk (hi); clear HO_11; clear HO_13; clear HO_272000; clear HO_272003; clear BK271; clear HO298; clear HB; clear HI260; have HO_11 := n0_; have HO_13 := n1_; have HO_272000 := n2_; have HO_272003 := n3_; have BK271 := n4_; have HO298 := n5_; have HB := n6_; have HI260 := n7_; clear n0_ n1_ n2_ n3_ n4_ n5_ n6_ n7_; (try clear hb); (try clear hb2); (try clear hk); (try clear hi); have p302 : 0 ≤ (0 : Int) := (by omega); have q302 : 0 < (y296.length : Int) := of_decide_eq_true (by first | (with_reducible assumption) | assumption); obtain ⟨ad302, e302, hx302_0, hx302_1, hx302_2, hx302_3⟩ := at_T71 (Kd.R_reads' HO298.out).2.2 0 p302 q302; cases e302; have qi302 : (0 < y296.length) = True := eq_true (by omega); (try rw [show ((0 : Int)).toNat = 0 from rfl] at hx302_0); (try rw [show 0 * 4 = 0 from rfl] at hx302_0); (try rw [Addr.add_zero'] at hx302_0); (try rw [show ((0 : Int)).toNat = 0 from rfl] at hx302_1); (try rw [show 0 * 4 = 0 from rfl] at hx302_1); (try rw [Addr.add_zero'] at hx302_1); (try rw [show ((0 : Int)).toNat = 0 from rfl] at hx302_2); (try rw [show 0 * 4 = 0 from rfl] at hx302_2); (try rw [Addr.add_zero'] at hx302_2); (try rw [show ((0 : Int)).toNat = 0 from rfl] at hx302_3); (try rw [show 0 * 4 = 0 from rfl] at hx302_3); (try rw [Addr.add_zero'] at hx302_3); replace p302 := eq_true p302; replace q302 := eq_true q302; have p33 : 0 ≤ (0 : Int) := (by omega); have q33 : (0 : Int) < ((y296.length : Int) : Int) := of_decide_eq_true (by first | (with_reducible assumption) | assumption); have qi33 : (0 < y296.length) = True := eq_true (by omega); obtain ⟨go33, co33, eo33, gb33, gl33, cl33, HG33⟩ := Kd.R_form HO298.out (by omega); (first | cases eo33 | (injection eo33 with ea_ en_ ec_; (first | subst ea_ | (injection ea_ with ea_; subst ea_)); subst ec_; clear en_)); have GB33 := Aside0.mk gb33; have GG33 := Aside0.mk HG33; clear gb33 gl33 HG33; (first | simp only [add_plain] at hx302_0 | skip); (first | simp only [add_plain] at hx302_1 | skip); (first | simp only [add_plain] at hx302_2 | skip); (first | simp only [add_plain] at hx302_3 | skip); obtain ⟨ce33, hcl33, hM33, hcc33, hfr33⟩ := Kd.R_elem HO298.out z71 (0 : Int) p33 q33; obtain rfl := k71_openM hM33; have hx33_0 : w43.cell? ⟨go33, (0 : Int).toNat * 4, none⟩ = some (.int .i64 ((rd_T71 y296 0).f0)) := hcc33 0 _ rfl; have hx33_1 : w43.cell? ⟨go33, (0 : Int).toNat * 4 + 1, none⟩ = some (.int .i64 ((rd_T71 y296 0).f1)) := hcc33 1 _ rfl; have hx33_2 : w43.cell? ⟨go33, (0 : Int).toNat * 4 + 2, none⟩ = some (.int .i64 ((rd_T71 y296 0).f2)) := hcc33 2 _ rfl; have hx33_3 : w43.cell? ⟨go33, (0 : Int).toNat * 4 + 3, none⟩ = some (.int .i64 ((rd_T71 y296 0).f3)) := hcc33 3 _ rfl; have hf33_0 : w43.frozen? ⟨go33, (0 : Int).toNat * 4, none⟩ = false := hfr33 0; have hf33_1 : w43.frozen? ⟨go33, (0 : Int).toNat * 4 + 1, none⟩ = false := hfr33 1; have hf33_2 : w43.frozen? ⟨go33, (0 : Int).toNat * 4 + 2, none⟩ = false := hfr33 2; have hf33_3 : w43.frozen? ⟨go33, (0 : Int).toNat * 4 + 3, none⟩ = false := hfr33 3; (clear hcl33 hcc33 hfr33; (try clear hM33)); (try rw [show ((0 : Int)).toNat = 0 from rfl] at hx33_0); (try simp only [Nat.reduceMul, Nat.zero_mul, Nat.zero_add, Nat.add_zero, Nat.reduceAdd] at hx33_0); (try rw [show ((0 : Int)).toNat = 0 from rfl] at hf33_0); (try simp only [Nat.reduceMul, Nat.zero_mul, Nat.zero_add, Nat.add_zero, Nat.reduceAdd] at hf33_0); (try rw [show ((0 : Int)).toNat = 0 from rfl] at hx33_1); (try simp only [Nat.reduceMul, Nat.zero_mul, Nat.zero_add, Nat.add_zero, Nat.reduceAdd] at hx33_1); (try rw [show ((0 : Int)).toNat = 0 from rfl] at hf33_1); (try simp only [Nat.reduceMul, Nat.zero_mul, Nat.zero_add, Nat.add_zero, Nat.reduceAdd] at hf33_1); (try rw [show ((0 : Int)).toNat = 0 from rfl] at hx33_2); (try simp only [Nat.reduceMul, Nat.zero_mul, Nat.zero_add, Nat.add_zero, Nat.reduceAdd] at hx33_2); (try rw [show ((0 : Int)).toNat = 0 from rfl] at hf33_2); (try simp only [Nat.reduceMul, Nat.zero_mul, Nat.zero_add, Nat.add_zero, Nat.reduceAdd] at hf33_2); (try rw [show ((0 : Int)).toNat = 0 from rfl] at hx33_3); (try simp only [Nat.reduceMul, Nat.zero_mul, Nat.zero_add, Nat.add_zero, Nat.reduceAdd] at hx33_3); (try rw [show ((0 : Int)).toNat = 0 from rfl] at hf33_3); (try simp only [Nat.reduceMul, Nat.zero_mul, Nat.zero_add, Nat.add_zero, Nat.reduceAdd] at hf33_3); replace p33 := eq_true p33; replace q33 := eq_true q33; have HX44 := Aside0.mk (show Kd.R k71 71 w43 w.heap.size (fun k_ => some k_ ≠ (.slice Ao14 t266.length co14 : Value).ownBlock ∧ some k_ ≠ (.slice Ao14 t266.length co14 : Value).ownBlock) (.slice (some ⟨go33, 0, none⟩) y296.length co42) y296 from (by (with_reducible repeat (first | apply Kd.R_alloc | apply Kd.R_drewN | apply Kd.R_drew)); exact HO298.out)); obtain ⟨ce44, hcl44, hM44, hcc44, hfr44⟩ := Kd.R_elem HX44.out z71 (0 : Int) (by omega) (by have h_ : (0 : Int) < ((y296.length : Int) : Int) := of_decide_eq_true (by first | (with_reducible assumption) | assumption); first | exact h_ | (have e_ := (Kd.R_reads' HO298.out).1; omega) | simpa using h_); obtain rfl := k71_openM hM44; have HP44 := Kd.R_seg HX44.out (0 : Int) (by omega) (by have h_ : (0 : Int) < ((y296.length : Int) : Int) := of_decide_eq_true (by first | (with_reducible assumption) | assumption); first | exact h_ | (have e_ := (Kd.R_reads' HO298.out).1; omega) | simpa using h_) (seg := [.int .i64 (Int.tmod (wrap64 (((rd_T71 y296 0).f3) + 1)) 1499)]) (j := 3) hcl44 hcc44 (show 4 ≤ 4 from by decide) (x' := (⟨(rd_T71 y296 0).f0, (rd_T71 y296 0).f1, (rd_T71 y296 0).f2, Int.tmod (wrap64 (((rd_T71 y296 0).f3) + 1)) 1499⟩ : S71)) (k71_mkM _ _ _ (⟨(rd_T71 y296 0).f0, (rd_T71 y296 0).f1, (rd_T71 y296 0).f2, Int.tmod (wrap64 (((rd_T71 y296 0).f3) + 1)) 1499⟩ : S71) ) (fun _ hk => hk); have hx44_3 := hcc44 3 _ rfl; (try simp only [show (k71).sz = 4 from rfl, Nat.mul_one, Nat.add_zero] at hx44_3); (try rw [show ((0 : Int)).toNat = 0 from rfl] at hx44_3); (try simp only [Nat.reduceMul, Nat.zero_mul, Nat.zero_add, Nat.add_zero, Nat.reduceAdd] at hx44_3); have hf44_3 := hfr44 3; (try simp only [show (k71).sz = 4 from rfl, Nat.mul_one, Nat.add_zero] at hf44_3); (try rw [show ((0 : Int)).toNat = 0 from rfl] at hf44_3); (try simp only [Nat.reduceMul, Nat.zero_mul, Nat.zero_add, Nat.add_zero, Nat.reduceAdd] at hf44_3); (clear hcl44 hcc44 hfr44; (try clear hM44))) | ((with_reducible refine gate_store (t := 3) (p := 74) rfl ?_); refine store_event (t := 3) (p := 74) (v := ?vo_w45) (w1 := (w43.setCell ⟨go33, 3, none⟩ (.int .i64 (Int.tmod (wrap64 (((rd_T71 y296 0).f3) + 1)) 1499)))) ?hg ?ho ?hn ?hr ?_; (case ho => rfl); (case hg => rfl); (case hn => rfl); (case hr => first | (go_simp; done) | (go_simp; rfl)); intro w45 hw; have hg : w43.grownBy w45 (some go33) := (by rw [hw]; exact HP44.2); have hp_ : Kd.R k71 71 w45 w.heap.size (fun k_ => some k_ ≠ (.slice Ao14 t266.length co14 : Value).ownBlock ∧ some k_ ≠ (.slice Ao14 t266.length co14 : Value).ownBlock) (.slice (some ⟨go33, 0, none⟩) y296.length co42) y303 := (by rw [hw, Ny303.out]; exact HP44.1); clear HP44; have n0_ := Aside0.mk (Kd.R_over' (v := (.slice (some ⟨go33, 0, none⟩) y296.length co42)) (by (with_reducible repeat (first | apply Kd.R_alloc | apply Kd.R_drewN | apply Kd.R_drew)); exact HO_11.out) (Kd.R_typed HO298.out) (by decide) hg); have n1_ := Aside0.mk (Kd.R_after (v := (.slice (some ⟨go33, 0, none⟩) y296.length co42)) (v1 := (.slice (some ⟨go33, 0, none⟩) y296.length co42)) (ok := (fun _ => True)) (by (with_reducible repeat (first | apply Kd.R_alloc | apply Kd.R_drewN | apply Kd.R_drew)); exact HO_13.out) hg (.inl rfl)); have n2_ := Aside0.mk (Kd.R_over' (v := (.slice (some ⟨go33, 0, none⟩) y296.length co42)) (by (with_reducible repeat (first | apply Kd.R_alloc | apply Kd.R_drewN | apply Kd.R_drew)); exact HO_272000.out) (Kd.R_typed HO298.out) (by decide) hg); have n3_ := Aside0.mk (Kd.R_after (v := (.slice (some ⟨go33, 0, none⟩) y296.length co42)) (v1 := (.slice (some ⟨go33, 0, none⟩) y296.length co42)) (ok := (fun _ => True)) (by (with_reducible repeat (first | apply Kd.R_alloc | apply Kd.R_drewN | apply Kd.R_drew)); exact HO_272003.out) hg (.inl rfl)); have n4_ := Aside0.mk (blk_grown (g := gb271) (o := .cells #[.slice Ao11 t261.length co11, .int .i64 t264, .int .i64 t265, .slice Ao14 t266.length co14, .int .i64 t269] 60 (0, 0)) (by (with_reducible repeat (first | refine blk_drewN ?_ _ | refine blk_drew ?_ | refine blk_alloc ?_ _)); exact BK271.out) hg (Kd.R_ne HO298.out BK271.out (by decide))); have n5_ := Aside0.mk ((show IsS77 w _ gb260 l0 t300 t301 from IsS77.grown (by first | ((repeat (first | (with_reducible first | exact HI260.out | apply IsS77.alloc | apply IsS77.drewN | apply IsS77.drew | apply IsS77.set_1 | apply IsS77.set_2 | refine IsS77.far ?_ NB260_271.out _ | refine IsS77.far (p := ⟨gb271, _, _⟩) ?_ NB260_271.out _) | exact HI260.out)); done) | (simp only [Int.add_zero]; repeat (first | (with_reducible first | exact HI260.out | apply IsS77.alloc | apply IsS77.drewN | apply IsS77.drew | apply IsS77.set_1 | apply IsS77.set_2 | refine IsS77.far ?_ NB260_271.out _ | refine IsS77.far (p := ⟨gb271, _, _⟩) ?_ NB260_271.out _) | exact HI260.out))) hg (IsS77.own_ne HI260.out HO298.out (by decide)))); have n6_ := Aside0.mk (hp_); have n7_ := Aside0.mk ((by rw [hw]; exact below_set (HB.out) GB33.out : Below w.heap.size w w45)); clear HO_11; clear HO_13; clear HO_272000; clear HO_272003; clear BK271; clear HI260; clear HO298; clear HB; have HO_11 := n0_; have HO_13 := n1_; have HO_272000 := n2_; have HO_272003 := n3_; have BK271 := n4_; have HI260 := n5_; have HO298 := n6_; have HB := n7_; clear n0_ n1_ n2_ n3_ n4_ n5_ n6_ n7_; clear hg hw hp_))
             go_ret3
             exact ⟨_, _, by first | rfl | (simp [errW_none, errW_some] <;> rfl) | (simp only [← hji25]; first | rfl | (simp [errW_none, errW_some] <;> rfl)) | (simp [*, errW_none, errW_some] <;> rfl), by (with_reducible repeat (first | apply Kd.R_alloc | apply Kd.R_drewN | apply Kd.R_drew)); exact Kd.R_mono HO_11.out (fun _ hk => trivial), by (with_reducible repeat (first | apply Kd.R_alloc | apply Kd.R_drewN | apply Kd.R_drew)); exact Kd.R_mono HO298.out (fun _ hk => trivial), by repeat (first | (with_reducible first | exact HB.out | apply below_alloc | apply pw_below_drewN | apply below_drew1 | refine below_set ?_ (IsS77.ge HI260.out) | refine below_set ?_ GE271.out) | exact HB.out)⟩
            ·rw [if_neg c32] at H
             exact absurd H (by simp)
           ·replace c31 := Bool.eq_false_iff.mpr c31
            subst c31
            have H1 : (some (t272, t256, y296)) = some (r1, r2, r3) := by rw [if_neg (show ¬ (false = true) by decide)] at H; exact H
            clear H
            have H := H1
            clear H1
            simp only [Option.some.injEq, Prod.mk.injEq] at H
            obtain ⟨rfl, rfl, rfl⟩ := H
            try go_wp2_with (first | ((with_reducible refine gate_callee (f := 61) rfl ?_); refine goesL_ (some 48) rfl rfl Try.func61 (by kernel_rfl) rfl #[.pointer (some ⟨gb260, 0, none⟩), .int .i64 (t266.length : Int)] rfl (by (try simp only [List.map_toArray, List.map_cons, List.map_nil]); first | done | rfl | (simp only [List.length_drop, List.length_take]; rfl)) ?_; (with_reducible refine (spec_l1Cur_pick.calls gb260 l0 x261001_4 x261002_4 (t266.length : Int) t279 t280 t281 w _ ?side1 ?side2 A21.out).mono ?_); (case side1 => first | ((repeat (first | (with_reducible first | exact HI260.out | apply IsS77.alloc | apply IsS77.drewN | apply IsS77.drew | apply IsS77.set_1 | apply IsS77.set_2 | refine IsS77.far ?_ NB260_271.out _ | refine IsS77.far (p := ⟨gb271, _, _⟩) ?_ NB260_271.out _) | exact HI260.out)); done) | (simp only [Int.add_zero]; repeat (first | (with_reducible first | exact HI260.out | apply IsS77.alloc | apply IsS77.drewN | apply IsS77.drew | apply IsS77.set_1 | apply IsS77.set_2 | refine IsS77.far ?_ NB260_271.out _ | refine IsS77.far (p := ⟨gb271, _, _⟩) ?_ NB260_271.out _) | exact HI260.out))); (case side2 => repeat (first | (with_reducible first | exact HB.out | apply below_alloc | apply pw_below_drewN | apply below_drew1 | refine below_set ?_ (IsS77.ge HI260.out) | refine below_set ?_ GE271.out) | exact HB.out)); rintro e w46 ⟨rfl, hi, hb, hk⟩; refine ⟨_, rfl, ?_⟩; have n0_ := Aside0.mk (Kd.R_mono (Kd.R_keep (IsS77.apart (show IsS77 w _ gb260 l0 x261001_4 x261002_4 from by first | ((repeat (first | (with_reducible first | exact HI260.out | apply IsS77.alloc | apply IsS77.drewN | apply IsS77.drew | apply IsS77.set_1 | apply IsS77.set_2 | refine IsS77.far ?_ NB260_271.out _ | refine IsS77.far (p := ⟨gb271, _, _⟩) ?_ NB260_271.out _) | exact HI260.out)); done) | (simp only [Int.add_zero]; repeat (first | (with_reducible first | exact HI260.out | apply IsS77.alloc | apply IsS77.drewN | apply IsS77.drew | apply IsS77.set_1 | apply IsS77.set_2 | refine IsS77.far ?_ NB260_271.out _ | refine IsS77.far (p := ⟨gb271, _, _⟩) ?_ NB260_271.out _) | exact HI260.out))) (by (with_reducible repeat (first | apply Kd.R_alloc | apply Kd.R_drewN | apply Kd.R_drew)); exact HO_11.out) (by decide)) hk (fun _ h => h.2)) (fun _ h => h.1)); have n1_ := Aside0.mk (Kd.R_mono (Kd.R_keep (IsS77.apart (show IsS77 w _ gb260 l0 x261001_4 x261002_4 from by first | ((repeat (first | (with_reducible first | exact HI260.out | apply IsS77.alloc | apply IsS77.drewN | apply IsS77.drew | apply IsS77.set_1 | apply IsS77.set_2 | refine IsS77.far ?_ NB260_271.out _ | refine IsS77.far (p := ⟨gb271, _, _⟩) ?_ NB260_271.out _) | exact HI260.out)); done) | (simp only [Int.add_zero]; repeat (first | (with_reducible first | exact HI260.out | apply IsS77.alloc | apply IsS77.drewN | apply IsS77.drew | apply IsS77.set_1 | apply IsS77.set_2 | refine IsS77.far ?_ NB260_271.out _ | refine IsS77.far (p := ⟨gb271, _, _⟩) ?_ NB260_271.out _) | exact HI260.out))) (by (with_reducible repeat (first | apply Kd.R_alloc | apply Kd.R_drewN | apply Kd.R_drew)); exact HO_13.out) (by decide)) hk (fun _ h => h.2)) (fun _ h => h.1)); have n2_ := Aside0.mk (Kd.R_mono (Kd.R_keep (IsS77.apart (show IsS77 w _ gb260 l0 x261001_4 x261002_4 from by first | ((repeat (first | (with_reducible first | exact HI260.out | apply IsS77.alloc | apply IsS77.drewN | apply IsS77.drew | apply IsS77.set_1 | apply IsS77.set_2 | refine IsS77.far ?_ NB260_271.out _ | refine IsS77.far (p := ⟨gb271, _, _⟩) ?_ NB260_271.out _) | exact HI260.out)); done) | (simp only [Int.add_zero]; repeat (first | (with_reducible first | exact HI260.out | apply IsS77.alloc | apply IsS77.drewN | apply IsS77.drew | apply IsS77.set_1 | apply IsS77.set_2 | refine IsS77.far ?_ NB260_271.out _ | refine IsS77.far (p := ⟨gb271, _, _⟩) ?_ NB260_271.out _) | exact HI260.out))) (by (with_reducible repeat (first | apply Kd.R_alloc | apply Kd.R_drewN | apply Kd.R_drew)); exact HO_272000.out) (by decide)) hk (fun _ h => h.2)) (fun _ h => h.1)); have n3_ := Aside0.mk (Kd.R_mono (Kd.R_keep (IsS77.apart (show IsS77 w _ gb260 l0 x261001_4 x261002_4 from by first | ((repeat (first | (with_reducible first | exact HI260.out | apply IsS77.alloc | apply IsS77.drewN | apply IsS77.drew | apply IsS77.set_1 | apply IsS77.set_2 | refine IsS77.far ?_ NB260_271.out _ | refine IsS77.far (p := ⟨gb271, _, _⟩) ?_ NB260_271.out _) | exact HI260.out)); done) | (simp only [Int.add_zero]; repeat (first | (with_reducible first | exact HI260.out | apply IsS77.alloc | apply IsS77.drewN | apply IsS77.drew | apply IsS77.set_1 | apply IsS77.set_2 | refine IsS77.far ?_ NB260_271.out _ | refine IsS77.far (p := ⟨gb271, _, _⟩) ?_ NB260_271.out _) | exact HI260.out))) (by (with_reducible repeat (first | apply Kd.R_alloc | apply Kd.R_drewN | apply Kd.R_drew)); exact HO_272003.out) (by decide)) hk (fun _ h => h.2)) (fun _ h => h.1)); have n4_ := Aside0.mk (KeepBut.blk hk (g' := gb271) (o := .cells #[.slice Ao11 t261.length co11, .int .i64 t264, .int .i64 t265, .slice Ao14 t266.length co14, .int .i64 t269] 60 (0, 0)) (by (with_reducible repeat (first | refine blk_drewN ?_ _ | refine blk_drew ?_ | refine blk_alloc ?_ _)); exact BK271.out) NB271_260.out (by simp)); have n5_ := Aside0.mk (hb); have n6_ := Aside0.mk (hi); clear HO_11; clear HO_13; clear HO_272000; clear HO_272003; clear BK271; clear HB; clear HI260; have HO_11 := n0_; have HO_13 := n1_; have HO_272000 := n2_; have HO_272003 := n3_; have BK271 := n4_; have HB := n5_; have HI260 := n6_; clear n0_ n1_ n2_ n3_ n4_ n5_ n6_; (try clear hb); (try clear hb2); (try clear hk); (try clear hi)))
            have n0_ := Aside0.mk (Kd.R_drew HO_11.out)
            have n1_ := Aside0.mk (Kd.R_drew HO_13.out)
            have n2_ := Aside0.mk (Kd.R_drew HO_272000.out)
            have n3_ := Aside0.mk (Kd.R_drew HO_272003.out)
            have n4_ := Aside0.mk (blk_drew BK271.out)
            have n5_ := Aside0.mk (IsS77.drew HI260.out)
            have n6_ := Aside0.mk (below_drew1 HB.out)
            clear HO_11
            clear HO_13
            clear HO_272000
            clear HO_272003
            clear BK271
            clear HI260
            clear HB
            have HO_11 := n0_
            have HO_13 := n1_
            have HO_272000 := n2_
            have HO_272003 := n3_
            have BK271 := n4_
            have HI260 := n5_
            have HB := n6_
            clear n0_ n1_ n2_ n3_ n4_ n5_ n6_
            have q48 : (t279 : Int) ≤ ((t266.length : Int) : Int) := of_decide_eq_true (by first | (with_reducible assumption) | assumption)
            obtain ⟨i048, hi048, _, hsz48, _⟩ := info_parts info71
            have hroom48 : t266.length ≤ co14 := (Kd.R_reads' HO_13.out).2.1
            have hC48 : Kd.C k71 _ Ao14 t266.length t266 := (Kd.R_reads' HO_13.out).2.2
            have hcut48 := cut_to (P := Try.prog) 58 71 .i64 Try.underlying58 hi048 Ao14 t266.length co14 t279 (of_decide_eq_true (by first | (with_reducible assumption) | assumption)) q48 hroom48
            have hr48 := Kd.C_take (m := (t279 : Int).toNat) hC48 (by omega)
            have hy48 : y285.length = (t279 : Int).toNat := (by rw [Ny285.out, List.length_take]; omega)
            rw [← Ny285.out] at hr48
            rw [← hy48] at hcut48
            have HR288 := Aside0.mk hr48
            have HC288 := Aside0.mk (show y285.length ≤ co14 from by omega)
            clear hr48 hC48 hroom48 hi048 hsz48
            have KY48 := Aside0.mk hy48
            clear hy48
            have KL48 := Aside0.mk (show (t279 : Int).toNat ≤ t266.length from by omega)
            replace q48 := eq_true q48
            have q49 : ((ji25) : Int) ≤ ((t266.length : Int) : Int) := of_decide_eq_true (by first | (with_reducible assumption) | assumption)
            obtain ⟨i049, hi049, _, hsz49, _⟩ := info_parts info71
            have hroom49 : t266.length ≤ co14 := (Kd.R_reads' HO_13.out).2.1
            have hC49 : Kd.C k71 _ Ao14 t266.length t266 := (Kd.R_reads' HO_13.out).2.2
            have q049 : (0 : Int) ≤ ((ji25) : Int) := of_decide_eq_true (by first | (with_reducible assumption) | assumption)
            have hcut49 := cut_from (P := Try.prog) 58 71 .i64 Try.underlying58 hi049 4 hsz49 Ao14 t266.length co14 (ji25) q049 q49
            have hr49 := Kd.C_drop (m := ((ji25) : Int).toNat) (c := co14) hC49 (by omega) hroom49
            obtain ⟨A49, hA49⟩ : ∃ A1, A1 = (if co14 = ((ji25) : Int).toNat then Ao14 else (Ao14 : Option Addr).map (·.add (((ji25) : Int).toNat * 4))) := ⟨_, rfl⟩
            obtain ⟨c49, hc49⟩ : ∃ c1, c1 = co14 - ((ji25) : Int).toNat := ⟨_, rfl⟩
            have hy49 : y292.length = t266.length - ((ji25) : Int).toNat := (by rw [Ny292.out, List.length_drop] <;> omega)
            rw [show (t266).drop ((ji25) : Int).toNat = y292 from Ny292.out.symm] at hr49
            replace hr49 : Kd.C k71 _ A49 y292.length y292 := (by rw [hA49]; exact hr49)
            rw [← hy49, ← hA49, ← hc49] at hcut49
            have HR295 := Aside0.mk hr49
            have HC295 := Aside0.mk (show y292.length ≤ c49 from by rw [hy49, hc49]; exact Nat.sub_le_sub_right hroom49 _)
            clear hr49 hC49 hroom49 hi049 hsz49 hc49
            have KY49 := Aside0.mk hy49
            have KA49 := Aside0.mk hA49
            clear hy49 hA49
            have KL49 := Aside0.mk (show ((ji25) : Int).toNat ≤ t266.length from by omega)
            replace q49 := eq_true q49
            refine start_ (n := 11) (S := fun w' => True) (ds := []) #[false, false, false, false, false, false, false, false, false, false, false] (by kernel_rfl) rfl rfl trivial (fun hHeld => ?_); refine with_tabW spec_DrawBlameOf.tab8 spec_DrawBlameOf.bits8 (fun HT_ HW_ => ?_)
            generalize w46.drew = w47 at HO_11 HO_13 HO_272000 HO_272003 BK271 HI260 HB HR288 HR295 hHeld ⊢
            refine pure_ (i := 1) (N := some 50) (v := ?_) (a' := ?_) #[false, true, false, false, false, false, false, false, false, false, false] rfl rfl (any_of HT_.out (by kernel_rfl)) (fun _ _ _ h => h) (Or.inl ⟨by rfl, ?_⟩) ?_ ?_
            rotate_left
            ·intro w'
             go_simp
             with_reducible rfl
            rotate_left
            ·simp only [Act.put, List.setIfInBounds_toArray, List.set_cons_zero, List.set_cons_succ, i64_w, i32_w]
             rfl
            refine pure_ (i := 2) (N := some 51) (v := ?_) (a' := ?_) #[false, true, true, false, false, false, false, false, false, false, false] rfl rfl (any_of HT_.out (by kernel_rfl)) (fun _ _ _ h => h) (Or.inl ⟨by rfl, ?_⟩) ?_ ?_
            rotate_left
            ·intro w'
             go_simp
             with_reducible rfl
            rotate_left
            ·simp only [Act.put, List.setIfInBounds_toArray, List.set_cons_zero, List.set_cons_succ, i64_w, i32_w]
             rfl
            refine pure_ (i := 3) (N := some 52) (v := ?_) (a' := ?_) #[false, true, true, true, false, false, false, false, false, false, false] rfl rfl (any_of HT_.out (by kernel_rfl)) (fun _ _ _ h => h) (Or.inl ⟨by rfl, ?_⟩) ?_ ?_
            rotate_left
            ·intro w'
             go_simp
             with_reducible rfl
            rotate_left
            ·simp only [Act.put, List.setIfInBounds_toArray, List.set_cons_zero, List.set_cons_succ, i64_w, i32_w]
             rfl
            refine pure_ (i := 5) (N := some 54) (v := ?_) (a' := ?_) #[false, true, true, true, false, true, false, false, false, false, false] rfl rfl (any_of HT_.out (by kernel_rfl)) (fun _ _ _ h => h) (Or.inl ⟨by rfl, ?_⟩) ?_ ?_
            rotate_left
            ·intro w'
             go_simp
             with_reducible rfl
            rotate_left
            ·simp only [Act.put, List.setIfInBounds_toArray, List.set_cons_zero, List.set_cons_succ, i64_w, i32_w]
             rfl
            refine pure_ (i := 6) (N := some 55) (v := ?_) (a' := ?_) #[false, true, true, true, false, true, true, false, false, false, false] rfl rfl (any_of HT_.out (by kernel_rfl)) (fun _ _ _ h => h) (Or.inl ⟨by rfl, ?_⟩) ?_ ?_
            rotate_left
            ·intro w'
             go_simp
             with_reducible rfl
            rotate_left
            ·simp only [Act.put, List.setIfInBounds_toArray, List.set_cons_zero, List.set_cons_succ, i64_w, i32_w]
             rfl
            refine pure_ (i := 7) (N := some 56) (v := ?_) (a' := ?_) #[false, true, true, true, false, true, true, true, false, false, false] rfl rfl (any_of HT_.out (by kernel_rfl)) (fun _ _ _ h => h) (Or.inl ⟨by rfl, ?_⟩) ?_ ?_
            rotate_left
            ·intro w'
             go_simp
             with_reducible rfl
            rotate_left
            ·simp only [Act.put, List.setIfInBounds_toArray, List.set_cons_zero, List.set_cons_succ, i64_w, i32_w]
             rfl
            refine pure_ (i := 8) (N := some 57) (v := ?_) (a' := ?_) #[false, true, true, true, false, true, true, true, true, false, false] rfl rfl (any_of HT_.out (by kernel_rfl)) (fun _ _ _ h => h) (Or.inl ⟨by rfl, ?_⟩) ?_ ?_
            rotate_left
            ·intro w'
             go_simp
             with_reducible rfl
            rotate_left
            ·simp only [Act.put, List.setIfInBounds_toArray, List.set_cons_zero, List.set_cons_succ, i64_w, i32_w]
             rfl
            refine one_ (i := 0) (N := some 49) #[true, true, true, true, false, true, true, true, true, false, false] rfl rfl (one_of HT_.out (by kernel_rfl)) (by decide) (fun K hK => ?_)
            refine Kd.R_lit_step k71 _ 71 ?hg (N := 49) ?hd (xs := ([] : List (S71))) (inner := []) (ok := fun _ => True) (okp := fun _ => True) ?hr ?hp (fun _ hk => hk) trivial (Below.refl _ _) (Nat.le_refl _) (by simp) ?_; (case hd => rfl); (case hg => rfl); (case hr => first | (go_simp; done) | (go_simp; rfl)); (case hp => exact (Reps.none _ _))
            intro v283 w50 ho51 hb hg_ hnew_
            clear hg_ hnew_
            (first | rw [← Ny282.out] at ho51 | (simp only [Int.reduceToNat] at ho51; rw [← Ny282.out] at ho51))
            have n0_ := Aside0.mk (Kd.R_below (by (with_reducible repeat (first | apply Kd.R_alloc | apply Kd.R_drewN | apply Kd.R_drew)); exact HO_11.out) hb)
            have n1_ := Aside0.mk (Kd.R_elder' (by (with_reducible repeat (first | apply Kd.R_alloc | apply Kd.R_drewN | apply Kd.R_drew)); exact HO_13.out) (Kd.R_base ho51) hb)
            have n2_ := Aside0.mk (Kd.R_below (by (with_reducible repeat (first | apply Kd.R_alloc | apply Kd.R_drewN | apply Kd.R_drew)); exact HO_272000.out) hb)
            have n3_ := Aside0.mk (Kd.R_elder' (by (with_reducible repeat (first | apply Kd.R_alloc | apply Kd.R_drewN | apply Kd.R_drew)); exact HO_272003.out) (Kd.R_base ho51) hb)
            have n4_ := Aside0.mk (Kd.R_lower (Kd.R_new' (Kd.R_new' ho51 (Kd.R_lt (by (with_reducible repeat (first | apply Kd.R_alloc | apply Kd.R_drewN | apply Kd.R_drew)); exact HO_13.out))) (Kd.R_lt (by (with_reducible repeat (first | apply Kd.R_alloc | apply Kd.R_drewN | apply Kd.R_drew)); exact HO_272003.out))) (below_size (by repeat (first | (with_reducible first | exact HB.out | apply below_alloc | apply pw_below_drewN | apply below_drew1 | refine below_set ?_ (IsS77.ge HI260.out) | refine below_set ?_ GE271.out) | exact HB.out))))
            have n5_ := Aside0.mk (blk_below (g := gb271) (o := .cells #[.slice Ao11 t261.length co11, .int .i64 t264, .int .i64 t265, .slice Ao14 t266.length co14, .int .i64 t269] 60 (0, 0)) (by (with_reducible repeat (first | refine blk_drewN ?_ _ | refine blk_drew ?_ | refine blk_alloc ?_ _)); exact BK271.out) hb)
            have n6_ := Aside0.mk (IsS77.below (by first | ((repeat (first | (with_reducible first | exact HI260.out | apply IsS77.alloc | apply IsS77.drewN | apply IsS77.drew | apply IsS77.set_1 | apply IsS77.set_2 | refine IsS77.far ?_ NB260_271.out _ | refine IsS77.far (p := ⟨gb271, _, _⟩) ?_ NB260_271.out _) | exact HI260.out)); done) | (simp only [Int.add_zero]; repeat (first | (with_reducible first | exact HI260.out | apply IsS77.alloc | apply IsS77.drewN | apply IsS77.drew | apply IsS77.set_1 | apply IsS77.set_2 | refine IsS77.far ?_ NB260_271.out _ | refine IsS77.far (p := ⟨gb271, _, _⟩) ?_ NB260_271.out _) | exact HI260.out))) hb)
            have n7_ := Aside0.mk (Kd.C_below (by repeat (first | (with_reducible exact HR288.out) | (with_reducible refine Kd.C_alloc ?_ _) | (with_reducible refine Kd.C_drewN ?_ _) | (with_reducible refine Kd.C_drew ?_) | exact HR288.out)) hb)
            have n8_ := Aside0.mk (Kd.C_below (by repeat (first | (with_reducible exact HR295.out) | (with_reducible refine Kd.C_alloc ?_ _) | (with_reducible refine Kd.C_drewN ?_ _) | (with_reducible refine Kd.C_drew ?_) | exact HR295.out)) hb)
            have n9_ := Aside0.mk (below_step (by repeat (first | (with_reducible first | exact HB.out | apply below_alloc | apply pw_below_drewN | apply below_drew1 | refine below_set ?_ (IsS77.ge HI260.out) | refine below_set ?_ GE271.out) | exact HB.out)) hb)
            clear HO_11
            clear HO_13
            clear HO_272000
            clear HO_272003
            clear BK271
            clear HI260
            clear HR288
            clear HR295
            clear HB
            have HO_11 := n0_
            have HO_13 := n1_
            have HO_272000 := n2_
            have HO_272003 := n3_
            have HO284 := n4_
            have BK271 := n5_
            have HI260 := n6_
            have HR288 := n7_
            have HR295 := n8_
            have HB := n9_
            clear n0_ n1_ n2_ n3_ n4_ n5_ n6_ n7_ n8_ n9_
            clear hb ho51
            refine hK.out _ _ trivial (fun hHeld => ?_)
            clear hK K
            refine norm_ (a' := ?_) ?_ ?_
            rotate_left
            ·show Act.put _ (some 49) _ = _
             simp only [Act.put, List.setIfInBounds_toArray, List.set_cons_zero, List.set_cons_succ, i64_w, i32_w]
             rfl
            refine one_ (i := 4) (N := some 53) #[true, true, true, true, true, true, true, true, true, false, false] rfl rfl (one_of HT_.out (by kernel_rfl)) (by decide) (fun K hK => ?_)
            refine Kd.R_append_rows_step k71 (w0 := w) w.heap.size (by rfl) (.tmp 49) (.tmp 52) 58 71 (.agg #[(.int .i64 0), (.int .i64 0), (.int .i64 0), (.int .i64 0)]) 32 rfl Try.underlying58 info71 rfl (by decide) (by omega) v283 y282 y285 _ _ _ (fun k_ => some k_ ≠ (.slice Ao14 t266.length co14 : Value).ownBlock ∧ some k_ ≠ (.slice Ao14 t266.length co14 : Value).ownBlock) (fun _ => False) rfl rfl ?aO ?aR (fun _ _ h => h) (fun _ h => h.elim) ?aF ?aB ?aS ?aL ?_
            (case aR => repeat (first | exact (by repeat (first | (with_reducible exact HR288.out) | (with_reducible refine Kd.C_alloc ?_ _) | (with_reducible refine Kd.C_drewN ?_ _) | (with_reducible refine Kd.C_drew ?_) | exact HR288.out)) | (with_reducible refine Kd.C_alloc ?_ _) | (with_reducible refine Kd.C_drewN ?_ _) | (with_reducible refine Kd.C_drew ?_)))
            (case aB => exact (by repeat (first | (with_reducible first | exact HB.out | apply below_alloc | apply pw_below_drewN | apply below_drew1 | refine below_set ?_ (IsS77.ge HI260.out) | refine below_set ?_ GE271.out) | exact HB.out)))
            (case aF => exact (fun k_ hk => ⟨Kd.fresh' (Kd.R_lt (by (with_reducible repeat (first | apply Kd.R_alloc | apply Kd.R_drewN | apply Kd.R_drew)); exact HO_13.out)) k_ hk, Kd.fresh' (Kd.R_lt (by (with_reducible repeat (first | apply Kd.R_alloc | apply Kd.R_drewN | apply Kd.R_drew)); exact HO_272003.out)) k_ hk⟩))
            (case aO => exact (by (with_reducible repeat (first | apply Kd.R_alloc | apply Kd.R_drewN | apply Kd.R_drew)); exact Kd.R_mono HO284.out (fun _ hk => ⟨hk.1.2, hk.2⟩)))
            (case aS => exact (below_size (by repeat (first | (with_reducible first | exact HB.out | apply below_alloc | apply pw_below_drewN | apply below_drew1 | refine below_set ?_ (IsS77.ge HI260.out) | refine below_set ?_ GE271.out) | exact HB.out))))
            (case aL => have := LMc24.out; omega)
            intro v290 w52 ho hb hg hat
            rw [← Ny289.out] at ho
            have n0_ := Aside0.mk (Kd.R_over' (by (with_reducible repeat (first | apply Kd.R_alloc | apply Kd.R_drewN | apply Kd.R_drew)); exact HO_11.out) (Kd.R_typed (by (with_reducible repeat (first | apply Kd.R_alloc | apply Kd.R_drewN | apply Kd.R_drew)); exact HO284.out)) (by decide) hg)
            have n1_ := Aside0.mk (Kd.R_after (ok := (fun _ => True)) (by (with_reducible repeat (first | apply Kd.R_alloc | apply Kd.R_drewN | apply Kd.R_drew)); exact HO_13.out) hg hat)
            have n2_ := Aside0.mk (Kd.R_over' (by (with_reducible repeat (first | apply Kd.R_alloc | apply Kd.R_drewN | apply Kd.R_drew)); exact HO_272000.out) (Kd.R_typed (by (with_reducible repeat (first | apply Kd.R_alloc | apply Kd.R_drewN | apply Kd.R_drew)); exact HO284.out)) (by decide) hg)
            have n3_ := Aside0.mk (Kd.R_after (ok := (fun _ => True)) (by (with_reducible repeat (first | apply Kd.R_alloc | apply Kd.R_drewN | apply Kd.R_drew)); exact HO_272003.out) hg hat)
            have n4_ := Aside0.mk (blk_grown (g := gb271) (o := .cells #[.slice Ao11 t261.length co11, .int .i64 t264, .int .i64 t265, .slice Ao14 t266.length co14, .int .i64 t269] 60 (0, 0)) (by (with_reducible repeat (first | refine blk_drewN ?_ _ | refine blk_drew ?_ | refine blk_alloc ?_ _)); exact BK271.out) hg (Kd.R_ne HO284.out BK271.out (by decide)))
            have n5_ := Aside0.mk ((show IsS77 w _ gb260 l0 t280 t281 from IsS77.grown (by first | ((repeat (first | (with_reducible first | exact HI260.out | apply IsS77.alloc | apply IsS77.drewN | apply IsS77.drew | apply IsS77.set_1 | apply IsS77.set_2 | refine IsS77.far ?_ NB260_271.out _ | refine IsS77.far (p := ⟨gb271, _, _⟩) ?_ NB260_271.out _) | exact HI260.out)); done) | (simp only [Int.add_zero]; repeat (first | (with_reducible first | exact HI260.out | apply IsS77.alloc | apply IsS77.drewN | apply IsS77.drew | apply IsS77.set_1 | apply IsS77.set_2 | refine IsS77.far ?_ NB260_271.out _ | refine IsS77.far (p := ⟨gb271, _, _⟩) ?_ NB260_271.out _) | exact HI260.out))) hg (IsS77.own_ne HI260.out HO284.out (by decide))))
            have n6_ := Aside0.mk (hb)
            have n7_ := Aside0.mk ((show Kd.C k71 w52 Ao14 y285.length y285 from by rw [Ny285.out]; exact Kd.C_take (m := (t279 : Int).toNat) ((Kd.R_reads' (Kd.R_after (ok := (fun _ => True)) (by (with_reducible repeat (first | apply Kd.R_alloc | apply Kd.R_drewN | apply Kd.R_drew)); exact HO_13.out) hg hat)).2.2) KL48.out))
            have n8_ := Aside0.mk ((show Kd.C k71 w52 A49 y292.length y292 from by rw [Ny292.out, KA49.out]; exact Kd.C_drop (m := ((ji25) : Int).toNat) (c := co14) ((Kd.R_reads' (Kd.R_after (ok := (fun _ => True)) (by (with_reducible repeat (first | apply Kd.R_alloc | apply Kd.R_drewN | apply Kd.R_drew)); exact HO_13.out) hg hat)).2.2) KL49.out ((Kd.R_reads' (Kd.R_after (ok := (fun _ => True)) (by (with_reducible repeat (first | apply Kd.R_alloc | apply Kd.R_drewN | apply Kd.R_drew)); exact HO_13.out) hg hat)).2.1)))
            have n9_ := Aside0.mk (ho)
            clear HO_11
            clear HO_13
            clear HO_272000
            clear HO_272003
            clear BK271
            clear HI260
            clear HB
            clear HR288
            clear HR295
            clear HO284
            have HO_11 := n0_
            have HO_13 := n1_
            have HO_272000 := n2_
            have HO_272003 := n3_
            have BK271 := n4_
            have HI260 := n5_
            have HB := n6_
            have HR288 := n7_
            have HR295 := n8_
            have HO291 := n9_
            clear n0_ n1_ n2_ n3_ n4_ n5_ n6_ n7_ n8_ n9_
            clear ho hb hg hat
            refine hK.out _ _ trivial (fun hHeld => ?_)
            clear hK K
            refine norm_ (a' := ?_) ?_ ?_
            rotate_left
            ·show Act.put _ (some 53) _ = _
             simp only [Act.put, List.setIfInBounds_toArray, List.set_cons_zero, List.set_cons_succ, i64_w, i32_w]
             rfl
            refine one_ (i := 9) (N := some 58) #[true, true, true, true, true, true, true, true, true, true, false] rfl rfl (one_of HT_.out (by kernel_rfl)) (by decide) (fun K hK => ?_)
            refine Kd.R_append_rows_step k71 (w0 := w) w.heap.size (by rfl) (.tmp 53) (.tmp 57) 58 71 (.agg #[(.int .i64 0), (.int .i64 0), (.int .i64 0), (.int .i64 0)]) 32 rfl Try.underlying58 info71 rfl (by decide) (by omega) v290 y289 y292 _ _ _ (fun k_ => some k_ ≠ (.slice Ao14 t266.length co14 : Value).ownBlock ∧ some k_ ≠ (.slice Ao14 t266.length co14 : Value).ownBlock) (fun _ => False) rfl rfl ?aO ?aR (fun _ _ h => h) (fun _ h => h.elim) ?aF ?aB ?aS ?aL ?_
            (case aR => repeat (first | exact (by repeat (first | (with_reducible exact HR295.out) | (with_reducible refine Kd.C_alloc ?_ _) | (with_reducible refine Kd.C_drewN ?_ _) | (with_reducible refine Kd.C_drew ?_) | exact HR295.out)) | (with_reducible refine Kd.C_alloc ?_ _) | (with_reducible refine Kd.C_drewN ?_ _) | (with_reducible refine Kd.C_drew ?_)))
            (case aB => exact (by repeat (first | (with_reducible first | exact HB.out | apply below_alloc | apply pw_below_drewN | apply below_drew1 | refine below_set ?_ (IsS77.ge HI260.out) | refine below_set ?_ GE271.out) | exact HB.out)))
            (case aF => exact (fun k_ hk => ⟨Kd.fresh' (Kd.R_lt (by (with_reducible repeat (first | apply Kd.R_alloc | apply Kd.R_drewN | apply Kd.R_drew)); exact HO_13.out)) k_ hk, Kd.fresh' (Kd.R_lt (by (with_reducible repeat (first | apply Kd.R_alloc | apply Kd.R_drewN | apply Kd.R_drew)); exact HO_272003.out)) k_ hk⟩))
            (case aO => exact (by (with_reducible repeat (first | apply Kd.R_alloc | apply Kd.R_drewN | apply Kd.R_drew)); exact HO291.out))
            (case aS => exact (below_size (by repeat (first | (with_reducible first | exact HB.out | apply below_alloc | apply pw_below_drewN | apply below_drew1 | refine below_set ?_ (IsS77.ge HI260.out) | refine below_set ?_ GE271.out) | exact HB.out))))
            (case aL => have := LMc28.out; omega)
            intro v297 w53 ho hb hg hat
            rw [← Ny296.out] at ho
            have n0_ := Aside0.mk (Kd.R_over' (by (with_reducible repeat (first | apply Kd.R_alloc | apply Kd.R_drewN | apply Kd.R_drew)); exact HO_11.out) (Kd.R_typed (by (with_reducible repeat (first | apply Kd.R_alloc | apply Kd.R_drewN | apply Kd.R_drew)); exact HO291.out)) (by decide) hg)
            have n1_ := Aside0.mk (Kd.R_after (ok := (fun _ => True)) (by (with_reducible repeat (first | apply Kd.R_alloc | apply Kd.R_drewN | apply Kd.R_drew)); exact HO_13.out) hg hat)
            have n2_ := Aside0.mk (Kd.R_over' (by (with_reducible repeat (first | apply Kd.R_alloc | apply Kd.R_drewN | apply Kd.R_drew)); exact HO_272000.out) (Kd.R_typed (by (with_reducible repeat (first | apply Kd.R_alloc | apply Kd.R_drewN | apply Kd.R_drew)); exact HO291.out)) (by decide) hg)
            have n3_ := Aside0.mk (Kd.R_after (ok := (fun _ => True)) (by (with_reducible repeat (first | apply Kd.R_alloc | apply Kd.R_drewN | apply Kd.R_drew)); exact HO_272003.out) hg hat)
            have n4_ := Aside0.mk (blk_grown (g := gb271) (o := .cells #[.slice Ao11 t261.length co11, .int .i64 t264, .int .i64 t265, .slice Ao14 t266.length co14, .int .i64 t269] 60 (0, 0)) (by (with_reducible repeat (first | refine blk_drewN ?_ _ | refine blk_drew ?_ | refine blk_alloc ?_ _)); exact BK271.out) hg (Kd.R_ne HO291.out BK271.out (by decide)))
            have n5_ := Aside0.mk ((show IsS77 w _ gb260 l0 t280 t281 from IsS77.grown (by first | ((repeat (first | (with_reducible first | exact HI260.out | apply IsS77.alloc | apply IsS77.drewN | apply IsS77.drew | apply IsS77.set_1 | apply IsS77.set_2 | refine IsS77.far ?_ NB260_271.out _ | refine IsS77.far (p := ⟨gb271, _, _⟩) ?_ NB260_271.out _) | exact HI260.out)); done) | (simp only [Int.add_zero]; repeat (first | (with_reducible first | exact HI260.out | apply IsS77.alloc | apply IsS77.drewN | apply IsS77.drew | apply IsS77.set_1 | apply IsS77.set_2 | refine IsS77.far ?_ NB260_271.out _ | refine IsS77.far (p := ⟨gb271, _, _⟩) ?_ NB260_271.out _) | exact HI260.out))) hg (IsS77.own_ne HI260.out HO291.out (by decide))))
            have n6_ := Aside0.mk (hb)
            have n7_ := Aside0.mk ((show Kd.C k71 w53 Ao14 y285.length y285 from by rw [Ny285.out]; exact Kd.C_take (m := (t279 : Int).toNat) ((Kd.R_reads' (Kd.R_after (ok := (fun _ => True)) (by (with_reducible repeat (first | apply Kd.R_alloc | apply Kd.R_drewN | apply Kd.R_drew)); exact HO_13.out) hg hat)).2.2) KL48.out))
            have n8_ := Aside0.mk ((show Kd.C k71 w53 A49 y292.length y292 from by rw [Ny292.out, KA49.out]; exact Kd.C_drop (m := ((ji25) : Int).toNat) (c := co14) ((Kd.R_reads' (Kd.R_after (ok := (fun _ => True)) (by (with_reducible repeat (first | apply Kd.R_alloc | apply Kd.R_drewN | apply Kd.R_drew)); exact HO_13.out) hg hat)).2.2) KL49.out ((Kd.R_reads' (Kd.R_after (ok := (fun _ => True)) (by (with_reducible repeat (first | apply Kd.R_alloc | apply Kd.R_drewN | apply Kd.R_drew)); exact HO_13.out) hg hat)).2.1)))
            have n9_ := Aside0.mk (ho)
            clear HO_11
            clear HO_13
            clear HO_272000
            clear HO_272003
            clear BK271
            clear HI260
            clear HB
            clear HR288
            clear HR295
            clear HO291
            have HO_11 := n0_
            have HO_13 := n1_
            have HO_272000 := n2_
            have HO_272003 := n3_
            have BK271 := n4_
            have HI260 := n5_
            have HB := n6_
            have HR288 := n7_
            have HR295 := n8_
            have HO298 := n9_
            clear n0_ n1_ n2_ n3_ n4_ n5_ n6_ n7_ n8_ n9_
            clear ho hb hg hat
            refine hK.out _ _ trivial (fun hHeld => ?_)
            clear hK K
            refine norm_ (a' := ?_) ?_ ?_
            rotate_left
            ·show Act.put _ (some 58) _ = _
             simp only [Act.put, List.setIfInBounds_toArray, List.set_cons_zero, List.set_cons_succ, i64_w, i32_w]
             rfl
            refine pure_ (i := 10) (N := some 13) (v := ?_) (a' := ?_) #[true, true, true, true, true, true, true, true, true, true, true] rfl rfl (any_of HT_.out (by kernel_rfl)) (fun _ _ _ h => h) (Or.inl ⟨by rfl, ?_⟩) ?_ ?_
            rotate_left
            ·intro w'
             go_simp
             with_reducible rfl
            rotate_left
            ·simp only [Act.put, List.setIfInBounds_toArray, List.set_cons_zero, List.set_cons_succ, i64_w, i32_w]
             rfl
            refine done_ (done_of HT_.out (by kernel_rfl)) ?_
            obtain ⟨Ao54, co54, eo54⟩ := Kd.R_slice HO298.out
            subst eo54
            try go_wp2_with (first | (go_at_call 62; (with_reducible refine (spec_l1Cur_one.calls gb260 l0 t280 t281 6 false t300 t301 w _ ?side1 ?side2 A30.out).mono ?_); (case side1 => first | ((repeat (first | (with_reducible first | exact HI260.out | apply IsS77.alloc | apply IsS77.drewN | apply IsS77.drew | apply IsS77.set_1 | apply IsS77.set_2 | refine IsS77.far ?_ NB260_271.out _ | refine IsS77.far (p := ⟨gb271, _, _⟩) ?_ NB260_271.out _) | exact HI260.out)); done) | (simp only [Int.add_zero]; repeat (first | (with_reducible first | exact HI260.out | apply IsS77.alloc | apply IsS77.drewN | apply IsS77.drew | apply IsS77.set_1 | apply IsS77.set_2 | refine IsS77.far ?_ NB260_271.out _ | refine IsS77.far (p := ⟨gb271, _, _⟩) ?_ NB260_271.out _) | exact HI260.out))); (case side2 => repeat (first | (with_reducible first | exact HB.out | apply below_alloc | apply pw_below_drewN | apply below_drew1 | refine below_set ?_ (IsS77.ge HI260.out) | refine below_set ?_ GE271.out) | exact HB.out)); rintro e w55 ⟨rfl, hi, hb, hk⟩; have n0_ := Aside0.mk (Kd.R_mono (Kd.R_keep (IsS77.apart (show IsS77 w _ gb260 l0 t280 t281 from by first | ((repeat (first | (with_reducible first | exact HI260.out | apply IsS77.alloc | apply IsS77.drewN | apply IsS77.drew | apply IsS77.set_1 | apply IsS77.set_2 | refine IsS77.far ?_ NB260_271.out _ | refine IsS77.far (p := ⟨gb271, _, _⟩) ?_ NB260_271.out _) | exact HI260.out)); done) | (simp only [Int.add_zero]; repeat (first | (with_reducible first | exact HI260.out | apply IsS77.alloc | apply IsS77.drewN | apply IsS77.drew | apply IsS77.set_1 | apply IsS77.set_2 | refine IsS77.far ?_ NB260_271.out _ | refine IsS77.far (p := ⟨gb271, _, _⟩) ?_ NB260_271.out _) | exact HI260.out))) (by (with_reducible repeat (first | apply Kd.R_alloc | apply Kd.R_drewN | apply Kd.R_drew)); exact HO_11.out) (by decide)) hk (fun _ h => h.2)) (fun _ h => h.1)); have n1_ := Aside0.mk (Kd.R_mono (Kd.R_keep (IsS77.apart (show IsS77 w _ gb260 l0 t280 t281 from by first | ((repeat (first | (with_reducible first | exact HI260.out | apply IsS77.alloc | apply IsS77.drewN | apply IsS77.drew | apply IsS77.set_1 | apply IsS77.set_2 | refine IsS77.far ?_ NB260_271.out _ | refine IsS77.far (p := ⟨gb271, _, _⟩) ?_ NB260_271.out _) | exact HI260.out)); done) | (simp only [Int.add_zero]; repeat (first | (with_reducible first | exact HI260.out | apply IsS77.alloc | apply IsS77.drewN | apply IsS77.drew | apply IsS77.set_1 | apply IsS77.set_2 | refine IsS77.far ?_ NB260_271.out _ | refine IsS77.far (p := ⟨gb271, _, _⟩) ?_ NB260_271.out _) | exact HI260.out))) (by (with_reducible repeat (first | apply Kd.R_alloc | apply Kd.R_drewN | apply Kd.R_drew)); exact HO_13.out) (by decide)) hk (fun _ h => h.2)) (fun _ h => h.1)); have n2_ := Aside0.mk (Kd.R_mono (Kd.R_keep (IsS77.apart (show IsS77 w _ gb260 l0 t280 t281 from by first | ((repeat (first | (with_reducible first | exact HI260.out | apply IsS77.alloc | apply IsS77.drewN | apply IsS77.drew | apply IsS77.set_1 | apply IsS77.set_2 | refine IsS77.far ?_ NB260_271.out _ | refine IsS77.far (p := ⟨gb271, _, _⟩) ?_ NB260_271.out _) | exact HI260.out)); done) | (simp only [Int.add_zero]; repeat (first | (with_reducible first | exact HI260.out | apply IsS77.alloc | apply IsS77.drewN | apply IsS77.drew | apply IsS77.set_1 | apply IsS77.set_2 | refine IsS77.far ?_ NB260_271.out _ | refine IsS77.far (p := ⟨gb271, _, _⟩) ?_ NB260_271.out _) | exact HI260.out))) (by (with_reducible repeat (first | apply Kd.R_alloc | apply Kd.R_drewN | apply Kd.R_drew)); exact HO_272000.out) (by decide)) hk (fun _ h => h.2)) (fun _ h => h.1)); have n3_ := Aside0.mk (Kd.R_mono (Kd.R_keep (IsS77.apart (show IsS77 w _ gb260 l0 t280 t281 from by first | ((repeat (first | (with_reducible first | exact HI260.out | apply IsS77.alloc | apply IsS77.drewN | apply IsS77.drew | apply IsS77.set_1 | apply IsS77.set_2 | refine IsS77.far ?_ NB260_271.out _ | refine IsS77.far (p := ⟨gb271, _, _⟩) ?_ NB260_271.out _) | exact HI260.out)); done) | (simp only [Int.add_zero]; repeat (first | (with_reducible first | exact HI260.out | apply IsS77.alloc | apply IsS77.drewN | apply IsS77.drew | apply IsS77.set_1 | apply IsS77.set_2 | refine IsS77.far ?_ NB260_271.out _ | refine IsS77.far (p := ⟨gb271, _, _⟩) ?_ NB260_271.out _) | exact HI260.out))) (by (with_reducible repeat (first | apply Kd.R_alloc | apply Kd.R_drewN | apply Kd.R_drew)); exact HO_272003.out) (by decide)) hk (fun _ h => h.2)) (fun _ h => h.1)); have n4_ := Aside0.mk (KeepBut.blk hk (g' := gb271) (o := .cells #[.slice Ao11 t261.length co11, .int .i64 t264, .int .i64 t265, .slice Ao14 t266.length co14, .int .i64 t269] 60 (0, 0)) (by (with_reducible repeat (first | refine blk_drewN ?_ _ | refine blk_drew ?_ | refine blk_alloc ?_ _)); exact BK271.out) NB271_260.out (by simp)); have n5_ := Aside0.mk (Kd.R_mono (Kd.R_keep (IsS77.apart (show IsS77 w _ gb260 l0 t280 t281 from by first | ((repeat (first | (with_reducible first | exact HI260.out | apply IsS77.alloc | apply IsS77.drewN | apply IsS77.drew | apply IsS77.set_1 | apply IsS77.set_2 | refine IsS77.far ?_ NB260_271.out _ | refine IsS77.far (p := ⟨gb271, _, _⟩) ?_ NB260_271.out _) | exact HI260.out)); done) | (simp only [Int.add_zero]; repeat (first | (with_reducible first | exact HI260.out | apply IsS77.alloc | apply IsS77.drewN | apply IsS77.drew | apply IsS77.set_1 | apply IsS77.set_2 | refine IsS77.far ?_ NB260_271.out _ | refine IsS77.far (p := ⟨gb271, _, _⟩) ?_ NB260_271.out _) | exact HI260.out))) (by (with_reducible repeat (first | apply Kd.R_alloc | apply Kd.R_drewN | apply Kd.R_drew)); exact HO298.out) (by decide)) hk (fun _ h => h.2)) (fun _ h => h.1)); have n6_ := Aside0.mk (hb); have n7_ := Aside0.mk (hi); clear HO_11; clear HO_13; clear HO_272000; clear HO_272003; clear BK271; clear HO298; clear HB; clear HI260; have HO_11 := n0_; have HO_13 := n1_; have HO_272000 := n2_; have HO_272003 := n3_; have BK271 := n4_; have HO298 := n5_; have HB := n6_; have HI260 := n7_; clear n0_ n1_ n2_ n3_ n4_ n5_ n6_ n7_; (try clear hb); (try clear hb2); (try clear hk); (try clear hi)))
            go_ret3
            exact ⟨_, _, by first | rfl | (simp [errW_none, errW_some] <;> rfl) | (simp only [← hji25]; first | rfl | (simp [errW_none, errW_some] <;> rfl)) | (simp [*, errW_none, errW_some] <;> rfl), by (with_reducible repeat (first | apply Kd.R_alloc | apply Kd.R_drewN | apply Kd.R_drew)); exact Kd.R_mono HO_11.out (fun _ hk => trivial), by (with_reducible repeat (first | apply Kd.R_alloc | apply Kd.R_drewN | apply Kd.R_drew)); exact Kd.R_mono HO298.out (fun _ hk => trivial), by repeat (first | (with_reducible first | exact HB.out | apply below_alloc | apply pw_below_drewN | apply below_drew1 | refine below_set ?_ (IsS77.ge HI260.out) | refine below_set ?_ GE271.out) | exact HB.out)⟩
          ·rw [if_neg c29] at H
           have c29b0 : decide (0 < (y296.length : Int)) = false := decide_eq_false c29
           have c29b1 : decide (0 < y296.length) = false := decide_eq_false (by omega)
           clear c29
           simp only [Option.some.injEq, Prod.mk.injEq] at H
           obtain ⟨rfl, rfl, rfl⟩ := H
           try go_wp2_with (first | ((with_reducible refine gate_callee (f := 61) rfl ?_); refine goesL_ (some 48) rfl rfl Try.func61 (by kernel_rfl) rfl #[.pointer (some ⟨gb260, 0, none⟩), .int .i64 (t266.length : Int)] rfl (by (try simp only [List.map_toArray, List.map_cons, List.map_nil]); first | done | rfl | (simp only [List.length_drop, List.length_take]; rfl)) ?_; (with_reducible refine (spec_l1Cur_pick.calls gb260 l0 x261001_4 x261002_4 (t266.length : Int) t279 t280 t281 w _ ?side1 ?side2 A21.out).mono ?_); (case side1 => first | ((repeat (first | (with_reducible first | exact HI260.out | apply IsS77.alloc | apply IsS77.drewN | apply IsS77.drew | apply IsS77.set_1 | apply IsS77.set_2 | refine IsS77.far ?_ NB260_271.out _ | refine IsS77.far (p := ⟨gb271, _, _⟩) ?_ NB260_271.out _) | exact HI260.out)); done) | (simp only [Int.add_zero]; repeat (first | (with_reducible first | exact HI260.out | apply IsS77.alloc | apply IsS77.drewN | apply IsS77.drew | apply IsS77.set_1 | apply IsS77.set_2 | refine IsS77.far ?_ NB260_271.out _ | refine IsS77.far (p := ⟨gb271, _, _⟩) ?_ NB260_271.out _) | exact HI260.out))); (case side2 => repeat (first | (with_reducible first | exact HB.out | apply below_alloc | apply pw_below_drewN | apply below_drew1 | refine below_set ?_ (IsS77.ge HI260.out) | refine below_set ?_ GE271.out) | exact HB.out)); rintro e w56 ⟨rfl, hi, hb, hk⟩; refine ⟨_, rfl, ?_⟩; have n0_ := Aside0.mk (Kd.R_mono (Kd.R_keep (IsS77.apart (show IsS77 w _ gb260 l0 x261001_4 x261002_4 from by first | ((repeat (first | (with_reducible first | exact HI260.out | apply IsS77.alloc | apply IsS77.drewN | apply IsS77.drew | apply IsS77.set_1 | apply IsS77.set_2 | refine IsS77.far ?_ NB260_271.out _ | refine IsS77.far (p := ⟨gb271, _, _⟩) ?_ NB260_271.out _) | exact HI260.out)); done) | (simp only [Int.add_zero]; repeat (first | (with_reducible first | exact HI260.out | apply IsS77.alloc | apply IsS77.drewN | apply IsS77.drew | apply IsS77.set_1 | apply IsS77.set_2 | refine IsS77.far ?_ NB260_271.out _ | refine IsS77.far (p := ⟨gb271, _, _⟩) ?_ NB260_271.out _) | exact HI260.out))) (by (with_reducible repeat (first | apply Kd.R_alloc | apply Kd.R_drewN | apply Kd.R_drew)); exact HO_11.out) (by decide)) hk (fun _ h => h.2)) (fun _ h => h.1)); have n1_ := Aside0.mk (Kd.R_mono (Kd.R_keep (IsS77.apart (show IsS77 w _ gb260 l0 x261001_4 x261002_4 from by first | ((repeat (first | (with_reducible first | exact HI260.out | apply IsS77.alloc | apply IsS77.drewN | apply IsS77.drew | apply IsS77.set_1 | apply IsS77.set_2 | refine IsS77.far ?_ NB260_271.out _ | refine IsS77.far (p := ⟨gb271, _, _⟩) ?_ NB260_271.out _) | exact HI260.out)); done) | (simp only [Int.add_zero]; repeat (first | (with_reducible first | exact HI260.out | apply IsS77.alloc | apply IsS77.drewN | apply IsS77.drew | apply IsS77.set_1 | apply IsS77.set_2 | refine IsS77.far ?_ NB260_271.out _ | refine IsS77.far (p := ⟨gb271, _, _⟩) ?_ NB260_271.out _) | exact HI260.out))) (by (with_reducible repeat (first | apply Kd.R_alloc | apply Kd.R_drewN | apply Kd.R_drew)); exact HO_13.out) (by decide)) hk (fun _ h => h.2)) (fun _ h => h.1)); have n2_ := Aside0.mk (Kd.R_mono (Kd.R_keep (IsS77.apart (show IsS77 w _ gb260 l0 x261001_4 x261002_4 from by first | ((repeat (first | (with_reducible first | exact HI260.out | apply IsS77.alloc | apply IsS77.drewN | apply IsS77.drew | apply IsS77.set_1 | apply IsS77.set_2 | refine IsS77.far ?_ NB260_271.out _ | refine IsS77.far (p := ⟨gb271, _, _⟩) ?_ NB260_271.out _) | exact HI260.out)); done) | (simp only [Int.add_zero]; repeat (first | (with_reducible first | exact HI260.out | apply IsS77.alloc | apply IsS77.drewN | apply IsS77.drew | apply IsS77.set_1 | apply IsS77.set_2 | refine IsS77.far ?_ NB260_271.out _ | refine IsS77.far (p := ⟨gb271, _, _⟩) ?_ NB260_271.out _) | exact HI260.out))) (by (with_reducible repeat (first | apply Kd.R_alloc | apply Kd.R_drewN | apply Kd.R_drew)); exact HO_272000.out) (by decide)) hk (fun _ h => h.2)) (fun _ h => h.1)); have n3_ := Aside0.mk (Kd.R_mono (Kd.R_keep (IsS77.apart (show IsS77 w _ gb260 l0 x261001_4 x261002_4 from by first | ((repeat (first | (with_reducible first | exact HI260.out | apply IsS77.alloc | apply IsS77.drewN | apply IsS77.drew | apply IsS77.set_1 | apply IsS77.set_2 | refine IsS77.far ?_ NB260_271.out _ | refine IsS77.far (p := ⟨gb271, _, _⟩) ?_ NB260_271.out _) | exact HI260.out)); done) | (simp only [Int.add_zero]; repeat (first | (with_reducible first | exact HI260.out | apply IsS77.alloc | apply IsS77.drewN | apply IsS77.drew | apply IsS77.set_1 | apply IsS77.set_2 | refine IsS77.far ?_ NB260_271.out _ | refine IsS77.far (p := ⟨gb271, _, _⟩) ?_ NB260_271.out _) | exact HI260.out))) (by (with_reducible repeat (first | apply Kd.R_alloc | apply Kd.R_drewN | apply Kd.R_drew)); exact HO_272003.out) (by decide)) hk (fun _ h => h.2)) (fun _ h => h.1)); have n4_ := Aside0.mk (KeepBut.blk hk (g' := gb271) (o := .cells #[.slice Ao11 t261.length co11, .int .i64 t264, .int .i64 t265, .slice Ao14 t266.length co14, .int .i64 t269] 60 (0, 0)) (by (with_reducible repeat (first | refine blk_drewN ?_ _ | refine blk_drew ?_ | refine blk_alloc ?_ _)); exact BK271.out) NB271_260.out (by simp)); have n5_ := Aside0.mk (hb); have n6_ := Aside0.mk (hi); clear HO_11; clear HO_13; clear HO_272000; clear HO_272003; clear BK271; clear HB; clear HI260; have HO_11 := n0_; have HO_13 := n1_; have HO_272000 := n2_; have HO_272003 := n3_; have BK271 := n4_; have HB := n5_; have HI260 := n6_; clear n0_ n1_ n2_ n3_ n4_ n5_ n6_; (try clear hb); (try clear hb2); (try clear hk); (try clear hi)))
           have n0_ := Aside0.mk (Kd.R_drew HO_11.out)
           have n1_ := Aside0.mk (Kd.R_drew HO_13.out)
           have n2_ := Aside0.mk (Kd.R_drew HO_272000.out)
           have n3_ := Aside0.mk (Kd.R_drew HO_272003.out)
           have n4_ := Aside0.mk (blk_drew BK271.out)
           have n5_ := Aside0.mk (IsS77.drew HI260.out)
           have n6_ := Aside0.mk (below_drew1 HB.out)
           clear HO_11
           clear HO_13
           clear HO_272000
           clear HO_272003
           clear BK271
           clear HI260
           clear HB
           have HO_11 := n0_
           have HO_13 := n1_
           have HO_272000 := n2_
           have HO_272003 := n3_
           have BK271 := n4_
           have HI260 := n5_
           have HB := n6_
           clear n0_ n1_ n2_ n3_ n4_ n5_ n6_
           have q58 : (t279 : Int) ≤ ((t266.length : Int) : Int) := of_decide_eq_true (by first | (with_reducible assumption) | assumption)
           obtain ⟨i058, hi058, _, hsz58, _⟩ := info_parts info71
           have hroom58 : t266.length ≤ co14 := (Kd.R_reads' HO_13.out).2.1
           have hC58 : Kd.C k71 _ Ao14 t266.length t266 := (Kd.R_reads' HO_13.out).2.2
           have hcut58 := cut_to (P := Try.prog) 58 71 .i64 Try.underlying58 hi058 Ao14 t266.length co14 t279 (of_decide_eq_true (by first | (with_reducible assumption) | assumption)) q58 hroom58
           have hr58 := Kd.C_take (m := (t279 : Int).toNat) hC58 (by omega)
           have hy58 : y285.length = (t279 : Int).toNat := (by rw [Ny285.out, List.length_take]; omega)
           rw [← Ny285.out] at hr58
           rw [← hy58] at hcut58
           have HR288 := Aside0.mk hr58
           have HC288 := Aside0.mk (show y285.length ≤ co14 from by omega)
           clear hr58 hC58 hroom58 hi058 hsz58
           have KY58 := Aside0.mk hy58
           clear hy58
           have KL58 := Aside0.mk (show (t279 : Int).toNat ≤ t266.length from by omega)
           replace q58 := eq_true q58
           have q59 : ((ji25) : Int) ≤ ((t266.length : Int) : Int) := of_decide_eq_true (by first | (with_reducible assumption) | assumption)
           obtain ⟨i059, hi059, _, hsz59, _⟩ := info_parts info71
           have hroom59 : t266.length ≤ co14 := (Kd.R_reads' HO_13.out).2.1
           have hC59 : Kd.C k71 _ Ao14 t266.length t266 := (Kd.R_reads' HO_13.out).2.2
           have q059 : (0 : Int) ≤ ((ji25) : Int) := of_decide_eq_true (by first | (with_reducible assumption) | assumption)
           have hcut59 := cut_from (P := Try.prog) 58 71 .i64 Try.underlying58 hi059 4 hsz59 Ao14 t266.length co14 (ji25) q059 q59
           have hr59 := Kd.C_drop (m := ((ji25) : Int).toNat) (c := co14) hC59 (by omega) hroom59
           obtain ⟨A59, hA59⟩ : ∃ A1, A1 = (if co14 = ((ji25) : Int).toNat then Ao14 else (Ao14 : Option Addr).map (·.add (((ji25) : Int).toNat * 4))) := ⟨_, rfl⟩
           obtain ⟨c59, hc59⟩ : ∃ c1, c1 = co14 - ((ji25) : Int).toNat := ⟨_, rfl⟩
           have hy59 : y292.length = t266.length - ((ji25) : Int).toNat := (by rw [Ny292.out, List.length_drop] <;> omega)
           rw [show (t266).drop ((ji25) : Int).toNat = y292 from Ny292.out.symm] at hr59
           replace hr59 : Kd.C k71 _ A59 y292.length y292 := (by rw [hA59]; exact hr59)
           rw [← hy59, ← hA59, ← hc59] at hcut59
           have HR295 := Aside0.mk hr59
           have HC295 := Aside0.mk (show y292.length ≤ c59 from by rw [hy59, hc59]; exact Nat.sub_le_sub_right hroom59 _)
           clear hr59 hC59 hroom59 hi059 hsz59 hc59
           have KY59 := Aside0.mk hy59
           have KA59 := Aside0.mk hA59
           clear hy59 hA59
           have KL59 := Aside0.mk (show ((ji25) : Int).toNat ≤ t266.length from by omega)
           replace q59 := eq_true q59
           refine start_ (n := 11) (S := fun w' => True) (ds := []) #[false, false, false, false, false, false, false, false, false, false, false] (by kernel_rfl) rfl rfl trivial (fun hHeld => ?_); refine with_tabW spec_DrawBlameOf.tab8 spec_DrawBlameOf.bits8 (fun HT_ HW_ => ?_)
           generalize w56.drew = w57 at HO_11 HO_13 HO_272000 HO_272003 BK271 HI260 HB HR288 HR295 hHeld ⊢
           refine pure_ (i := 1) (N := some 50) (v := ?_) (a' := ?_) #[false, true, false, false, false, false, false, false, false, false, false] rfl rfl (any_of HT_.out (by kernel_rfl)) (fun _ _ _ h => h) (Or.inl ⟨by rfl, ?_⟩) ?_ ?_
           rotate_left
           ·intro w'
            go_simp
            with_reducible rfl
           rotate_left
           ·simp only [Act.put, List.setIfInBounds_toArray, List.set_cons_zero, List.set_cons_succ, i64_w, i32_w]
            rfl
           refine pure_ (i := 2) (N := some 51) (v := ?_) (a' := ?_) #[false, true, true, false, false, false, false, false, false, false, false] rfl rfl (any_of HT_.out (by kernel_rfl)) (fun _ _ _ h => h) (Or.inl ⟨by rfl, ?_⟩) ?_ ?_
           rotate_left
           ·intro w'
            go_simp
            with_reducible rfl
           rotate_left
           ·simp only [Act.put, List.setIfInBounds_toArray, List.set_cons_zero, List.set_cons_succ, i64_w, i32_w]
            rfl
           refine pure_ (i := 3) (N := some 52) (v := ?_) (a' := ?_) #[false, true, true, true, false, false, false, false, false, false, false] rfl rfl (any_of HT_.out (by kernel_rfl)) (fun _ _ _ h => h) (Or.inl ⟨by rfl, ?_⟩) ?_ ?_
           rotate_left
           ·intro w'
            go_simp
            with_reducible rfl
           rotate_left
           ·simp only [Act.put, List.setIfInBounds_toArray, List.set_cons_zero, List.set_cons_succ, i64_w, i32_w]
            rfl
           refine pure_ (i := 5) (N := some 54) (v := ?_) (a' := ?_) #[false, true, true, true, false, true, false, false, false, false, false] rfl rfl (any_of HT_.out (by kernel_rfl)) (fun _ _ _ h => h) (Or.inl ⟨by rfl, ?_⟩) ?_ ?_
           rotate_left
           ·intro w'
            go_simp
            with_reducible rfl
           rotate_left
           ·simp only [Act.put, List.setIfInBounds_toArray, List.set_cons_zero, List.set_cons_succ, i64_w, i32_w]
            rfl
           refine pure_ (i := 6) (N := some 55) (v := ?_) (a' := ?_) #[false, true, true, true, false, true, true, false, false, false, false] rfl rfl (any_of HT_.out (by kernel_rfl)) (fun _ _ _ h => h) (Or.inl ⟨by rfl, ?_⟩) ?_ ?_
           rotate_left
           ·intro w'
            go_simp
            with_reducible rfl
           rotate_left
           ·simp only [Act.put, List.setIfInBounds_toArray, List.set_cons_zero, List.set_cons_succ, i64_w, i32_w]
            rfl
           refine pure_ (i := 7) (N := some 56) (v := ?_) (a' := ?_) #[false, true, true, true, false, true, true, true, false, false, false] rfl rfl (any_of HT_.out (by kernel_rfl)) (fun _ _ _ h => h) (Or.inl ⟨by rfl, ?_⟩) ?_ ?_
           rotate_left
           ·intro w'
            go_simp
            with_reducible rfl
           rotate_left
           ·simp only [Act.put, List.setIfInBounds_toArray, List.set_cons_zero, List.set_cons_succ, i64_w, i32_w]
            rfl
           refine pure_ (i := 8) (N := some 57) (v := ?_) (a' := ?_) #[false, true, true, true, false, true, true, true, true, false, false] rfl rfl (any_of HT_.out (by kernel_rfl)) (fun _ _ _ h => h) (Or.inl ⟨by rfl, ?_⟩) ?_ ?_
           rotate_left
           ·intro w'
            go_simp
            with_reducible rfl
           rotate_left
           ·simp only [Act.put, List.setIfInBounds_toArray, List.set_cons_zero, List.set_cons_succ, i64_w, i32_w]
            rfl
           refine one_ (i := 0) (N := some 49) #[true, true, true, true, false, true, true, true, true, false, false] rfl rfl (one_of HT_.out (by kernel_rfl)) (by decide) (fun K hK => ?_)
           refine Kd.R_lit_step k71 _ 71 ?hg (N := 49) ?hd (xs := ([] : List (S71))) (inner := []) (ok := fun _ => True) (okp := fun _ => True) ?hr ?hp (fun _ hk => hk) trivial (Below.refl _ _) (Nat.le_refl _) (by simp) ?_; (case hd => rfl); (case hg => rfl); (case hr => first | (go_simp; done) | (go_simp; rfl)); (case hp => exact (Reps.none _ _))
           intro v283 w60 ho61 hb hg_ hnew_
           clear hg_ hnew_
           (first | rw [← Ny282.out] at ho61 | (simp only [Int.reduceToNat] at ho61; rw [← Ny282.out] at ho61))
           have n0_ := Aside0.mk (Kd.R_below (by (with_reducible repeat (first | apply Kd.R_alloc | apply Kd.R_drewN | apply Kd.R_drew)); exact HO_11.out) hb)
           have n1_ := Aside0.mk (Kd.R_elder' (by (with_reducible repeat (first | apply Kd.R_alloc | apply Kd.R_drewN | apply Kd.R_drew)); exact HO_13.out) (Kd.R_base ho61) hb)
           have n2_ := Aside0.mk (Kd.R_below (by (with_reducible repeat (first | apply Kd.R_alloc | apply Kd.R_drewN | apply Kd.R_drew)); exact HO_272000.out) hb)
           have n3_ := Aside0.mk (Kd.R_elder' (by (with_reducible repeat (first | apply Kd.R_alloc | apply Kd.R_drewN | apply Kd.R_drew)); exact HO_272003.out) (Kd.R_base ho61) hb)
           have n4_ := Aside0.mk (Kd.R_lower (Kd.R_new' (Kd.R_new' ho61 (Kd.R_lt (by (with_reducible repeat (first | apply Kd.R_alloc | apply Kd.R_drewN | apply Kd.R_drew)); exact HO_13.out))) (Kd.R_lt (by (with_reducible repeat (first | apply Kd.R_alloc | apply Kd.R_drewN | apply Kd.R_drew)); exact HO_272003.out))) (below_size (by repeat (first | (with_reducible first | exact HB.out | apply below_alloc | apply pw_below_drewN | apply below_drew1 | refine below_set ?_ (IsS77.ge HI260.out) | refine below_set ?_ GE271.out) | exact HB.out))))
           have n5_ := Aside0.mk (blk_below (g := gb271) (o := .cells #[.slice Ao11 t261.length co11, .int .i64 t264, .int .i64 t265, .slice Ao14 t266.length co14, .int .i64 t269] 60 (0, 0)) (by (with_reducible repeat (first | refine blk_drewN ?_ _ | refine blk_drew ?_ | refine blk_alloc ?_ _)); exact BK271.out) hb)
           have n6_ := Aside0.mk (IsS77.below (by first | ((repeat (first | (with_reducible first | exact HI260.out | apply IsS77.alloc | apply IsS77.drewN | apply IsS77.drew | apply IsS77.set_1 | apply IsS77.set_2 | refine IsS77.far ?_ NB260_271.out _ | refine IsS77.far (p := ⟨gb271, _, _⟩) ?_ NB260_271.out _) | exact HI260.out)); done) | (simp only [Int.add_zero]; repeat (first | (with_reducible first | exact HI260.out | apply IsS77.alloc | apply IsS77.drewN | apply IsS77.drew | apply IsS77.set_1 | apply IsS77.set_2 | refine IsS77.far ?_ NB260_271.out _ | refine IsS77.far (p := ⟨gb271, _, _⟩) ?_ NB260_271.out _) | exact HI260.out))) hb)
           have n7_ := Aside0.mk (Kd.C_below (by repeat (first | (with_reducible exact HR288.out) | (with_reducible refine Kd.C_alloc ?_ _) | (with_reducible refine Kd.C_drewN ?_ _) | (with_reducible refine Kd.C_drew ?_) | exact HR288.out)) hb)
           have n8_ := Aside0.mk (Kd.C_below (by repeat (first | (with_reducible exact HR295.out) | (with_reducible refine Kd.C_alloc ?_ _) | (with_reducible refine Kd.C_drewN ?_ _) | (with_reducible refine Kd.C_drew ?_) | exact HR295.out)) hb)
           have n9_ := Aside0.mk (below_step (by repeat (first | (with_reducible first | exact HB.out | apply below_alloc | apply pw_below_drewN | apply below_drew1 | refine below_set ?_ (IsS77.ge HI260.out) | refine below_set ?_ GE271.out) | exact HB.out)) hb)
           clear HO_11
           clear HO_13
           clear HO_272000
           clear HO_272003
           clear BK271
           clear HI260
           clear HR288
           clear HR295
           clear HB
           have HO_11 := n0_
           have HO_13 := n1_
           have HO_272000 := n2_
           have HO_272003 := n3_
           have HO284 := n4_
           have BK271 := n5_
           have HI260 := n6_
           have HR288 := n7_
           have HR295 := n8_
           have HB := n9_
           clear n0_ n1_ n2_ n3_ n4_ n5_ n6_ n7_ n8_ n9_
           clear hb ho61
           refine hK.out _ _ trivial (fun hHeld => ?_)
           clear hK K
           refine norm_ (a' := ?_) ?_ ?_
           rotate_left
           ·show Act.put _ (some 49) _ = _
            simp only [Act.put, List.setIfInBounds_toArray, List.set_cons_zero, List.set_cons_succ, i64_w, i32_w]
            rfl
           refine one_ (i := 4) (N := some 53) #[true, true, true, true, true, true, true, true, true, false, false] rfl rfl (one_of HT_.out (by kernel_rfl)) (by decide) (fun K hK => ?_)
           refine Kd.R_append_rows_step k71 (w0 := w) w.heap.size (by rfl) (.tmp 49) (.tmp 52) 58 71 (.agg #[(.int .i64 0), (.int .i64 0), (.int .i64 0), (.int .i64 0)]) 32 rfl Try.underlying58 info71 rfl (by decide) (by omega) v283 y282 y285 _ _ _ (fun k_ => some k_ ≠ (.slice Ao14 t266.length co14 : Value).ownBlock ∧ some k_ ≠ (.slice Ao14 t266.length co14 : Value).ownBlock) (fun _ => False) rfl rfl ?aO ?aR (fun _ _ h => h) (fun _ h => h.elim) ?aF ?aB ?aS ?aL ?_
           (case aR => repeat (first | exact (by repeat (first | (with_reducible exact HR288.out) | (with_reducible refine Kd.C_alloc ?_ _) | (with_reducible refine Kd.C_drewN ?_ _) | (with_reducible refine Kd.C_drew ?_) | exact HR288.out)) | (with_reducible refine Kd.C_alloc ?_ _) | (with_reducible refine Kd.C_drewN ?_ _) | (with_reducible refine Kd.C_drew ?_)))
           (case aB => exact (by repeat (first | (with_reducible first | exact HB.out | apply below_alloc | apply pw_below_drewN | apply below_drew1 | refine below_set ?_ (IsS77.ge HI260.out) | refine below_set ?_ GE271.out) | exact HB.out)))
           (case aF => exact (fun k_ hk => ⟨Kd.fresh' (Kd.R_lt (by (with_reducible repeat (first | apply Kd.R_alloc | apply Kd.R_drewN | apply Kd.R_drew)); exact HO_13.out)) k_ hk, Kd.fresh' (Kd.R_lt (by (with_reducible repeat (first | apply Kd.R_alloc | apply Kd.R_drewN | apply Kd.R_drew)); exact HO_272003.out)) k_ hk⟩))
           (case aO => exact (by (with_reducible repeat (first | apply Kd.R_alloc | apply Kd.R_drewN | apply Kd.R_drew)); exact Kd.R_mono HO284.out (fun _ hk => ⟨hk.1.2, hk.2⟩)))
           (case aS => exact (below_size (by repeat (first | (with_reducible first | exact HB.out | apply below_alloc | apply pw_below_drewN | apply below_drew1 | refine below_set ?_ (IsS77.ge HI260.out) | refine below_set ?_ GE271.out) | exact HB.out))))
           (case aL => have := LMc24.out; omega)
           intro v290 w62 ho hb hg hat
           rw [← Ny289.out] at ho
           have n0_ := Aside0.mk (Kd.R_over' (by (with_reducible repeat (first | apply Kd.R_alloc | apply Kd.R_drewN | apply Kd.R_drew)); exact HO_11.out) (Kd.R_typed (by (with_reducible repeat (first | apply Kd.R_alloc | apply Kd.R_drewN | apply Kd.R_drew)); exact HO284.out)) (by decide) hg)
           have n1_ := Aside0.mk (Kd.R_after (ok := (fun _ => True)) (by (with_reducible repeat (first | apply Kd.R_alloc | apply Kd.R_drewN | apply Kd.R_drew)); exact HO_13.out) hg hat)
           have n2_ := Aside0.mk (Kd.R_over' (by (with_reducible repeat (first | apply Kd.R_alloc | apply Kd.R_drewN | apply Kd.R_drew)); exact HO_272000.out) (Kd.R_typed (by (with_reducible repeat (first | apply Kd.R_alloc | apply Kd.R_drewN | apply Kd.R_drew)); exact HO284.out)) (by decide) hg)
           have n3_ := Aside0.mk (Kd.R_after (ok := (fun _ => True)) (by (with_reducible repeat (first | apply Kd.R_alloc | apply Kd.R_drewN | apply Kd.R_drew)); exact HO_272003.out) hg hat)
           have n4_ := Aside0.mk (blk_grown (g := gb271) (o := .cells #[.slice Ao11 t261.length co11, .int .i64 t264, .int .i64 t265, .slice Ao14 t266.length co14, .int .i64 t269] 60 (0, 0)) (by (with_reducible repeat (first | refine blk_drewN ?_ _ | refine blk_drew ?_ | refine blk_alloc ?_ _)); exact BK271.out) hg (Kd.R_ne HO284.out BK271.out (by decide)))
           have n5_ := Aside0.mk ((show IsS77 w _ gb260 l0 t280 t281 from IsS77.grown (by first | ((repeat (first | (with_reducible first | exact HI260.out | apply IsS77.alloc | apply IsS77.drewN | apply IsS77.drew | apply IsS77.set_1 | apply IsS77.set_2 | refine IsS77.far ?_ NB260_271.out _ | refine IsS77.far (p := ⟨gb271, _, _⟩) ?_ NB260_271.out _) | exact HI260.out)); done) | (simp only [Int.add_zero]; repeat (first | (with_reducible first | exact HI260.out | apply IsS77.alloc | apply IsS77.drewN | apply IsS77.drew | apply IsS77.set_1 | apply IsS77.set_2 | refine IsS77.far ?_ NB260_271.out _ | refine IsS77.far (p := ⟨gb271, _, _⟩) ?_ NB260_271.out _) | exact HI260.out))) hg (IsS77.own_ne HI260.out HO284.out (by decide))))
           have n6_ := Aside0.mk (hb)
           have n7_ := Aside0.mk ((show Kd.C k71 w62 Ao14 y285.length y285 from by rw [Ny285.out]; exact Kd.C_take (m := (t279 : Int).toNat) ((Kd.R_reads' (Kd.R_after (ok := (fun _ => True)) (by (with_reducible repeat (first | apply Kd.R_alloc | apply Kd.R_drewN | apply Kd.R_drew)); exact HO_13.out) hg hat)).2.2) KL58.out))
           have n8_ := Aside0.mk ((show Kd.C k71 w62 A59 y292.length y292 from by rw [Ny292.out, KA59.out]; exact Kd.C_drop (m := ((ji25) : Int).toNat) (c := co14) ((Kd.R_reads' (Kd.R_after (ok := (fun _ => True)) (by (with_reducible repeat (first | apply Kd.R_alloc | apply Kd.R_drewN | apply Kd.R_drew)); exact HO_13.out) hg hat)).2.2) KL59.out ((Kd.R_reads' (Kd.R_after (ok := (fun _ => True)) (by (with_reducible repeat (first | apply Kd.R_alloc | apply Kd.R_drewN | apply Kd.R_drew)); exact HO_13.out) hg hat)).2.1)))
           have n9_ := Aside0.mk (ho)
           clear HO_11
           clear HO_13
           clear HO_272000
           clear HO_272003
           clear BK271
           clear HI260
           clear HB
           clear HR288
           clear HR295
           clear HO284
           have HO_11 := n0_
           have HO_13 := n1_
           have HO_272000 := n2_
           have HO_272003 := n3_
           have BK271 := n4_
           have HI260 := n5_
           have HB := n6_
           have HR288 := n7_
           have HR295 := n8_
           have HO291 := n9_
           clear n0_ n1_ n2_ n3_ n4_ n5_ n6_ n7_ n8_ n9_
           clear ho hb hg hat
           refine hK.out _ _ trivial (fun hHeld => ?_)
           clear hK K
           refine norm_ (a' := ?_) ?_ ?_
           rotate_left
           ·show Act.put _ (some 53) _ = _
            simp only [Act.put, List.setIfInBounds_toArray, List.set_cons_zero, List.set_cons_succ, i64_w, i32_w]
            rfl
           refine one_ (i := 9) (N := some 58) #[true, true, true, true, true, true, true, true, true, true, false] rfl rfl (one_of HT_.out (by kernel_rfl)) (by decide) (fun K hK => ?_)
           refine Kd.R_append_rows_step k71 (w0 := w) w.heap.size (by rfl) (.tmp 53) (.tmp 57) 58 71 (.agg #[(.int .i64 0), (.int .i64 0), (.int .i64 0), (.int .i64 0)]) 32 rfl Try.underlying58 info71 rfl (by decide) (by omega) v290 y289 y292 _ _ _ (fun k_ => some k_ ≠ (.slice Ao14 t266.length co14 : Value).ownBlock ∧ some k_ ≠ (.slice Ao14 t266.length co14 : Value).ownBlock) (fun _ => False) rfl rfl ?aO ?aR (fun _ _ h => h) (fun _ h => h.elim) ?aF ?aB ?aS ?aL ?_
           (case aR => repeat (first | exact (by repeat (first | (with_reducible exact HR295.out) | (with_reducible refine Kd.C_alloc ?_ _) | (with_reducible refine Kd.C_drewN ?_ _) | (with_reducible refine Kd.C_drew ?_) | exact HR295.out)) | (with_reducible refine Kd.C_alloc ?_ _) | (with_reducible refine Kd.C_drewN ?_ _) | (with_reducible refine Kd.C_drew ?_)))
           (case aB => exact (by repeat (first | (with_reducible first | exact HB.out | apply below_alloc | apply pw_below_drewN | apply below_drew1 | refine below_set ?_ (IsS77.ge HI260.out) | refine below_set ?_ GE271.out) | exact HB.out)))
           (case aF => exact (fun k_ hk => ⟨Kd.fresh' (Kd.R_lt (by (with_reducible repeat (first | apply Kd.R_alloc | apply Kd.R_drewN | apply Kd.R_drew)); exact HO_13.out)) k_ hk, Kd.fresh' (Kd.R_lt (by (with_reducible repeat (first | apply Kd.R_alloc | apply Kd.R_drewN | apply Kd.R_drew)); exact HO_272003.out)) k_ hk⟩))
           (case aO => exact (by (with_reducible repeat (first | apply Kd.R_alloc | apply Kd.R_drewN | apply Kd.R_drew)); exact HO291.out))
           (case aS => exact (below_size (by repeat (first | (with_reducible first | exact HB.out | apply below_alloc | apply pw_below_drewN | apply below_drew1 | refine below_set ?_ (IsS77.ge HI260.out) | refine below_set ?_ GE271.out) | exact HB.out))))
           (case aL => have := LMc28.out; omega)
           intro v297 w63 ho hb hg hat
           rw [← Ny296.out] at ho
           have n0_ := Aside0.mk (Kd.R_over' (by (with_reducible repeat (first | apply Kd.R_alloc | apply Kd.R_drewN | apply Kd.R_drew)); exact HO_11.out) (Kd.R_typed (by (with_reducible repeat (first | apply Kd.R_alloc | apply Kd.R_drewN | apply Kd.R_drew)); exact HO291.out)) (by decide) hg)
           have n1_ := Aside0.mk (Kd.R_after (ok := (fun _ => True)) (by (with_reducible repeat (first | apply Kd.R_alloc | apply Kd.R_drewN | apply Kd.R_drew)); exact HO_13.out) hg hat)
           have n2_ := Aside0.mk (Kd.R_over' (by (with_reducible repeat (first | apply Kd.R_alloc | apply Kd.R_drewN | apply Kd.R_drew)); exact HO_272000.out) (Kd.R_typed (by (with_reducible repeat (first | apply Kd.R_alloc | apply Kd.R_drewN | apply Kd.R_drew)); exact HO291.out)) (by decide) hg)
           have n3_ := Aside0.mk (Kd.R_after (ok := (fun _ => True)) (by (with_reducible repeat (first | apply Kd.R_alloc | apply Kd.R_drewN | apply Kd.R_drew)); exact HO_272003.out) hg hat)
           have n4_ := Aside0.mk (blk_grown (g := gb271) (o := .cells #[.slice Ao11 t261.length co11, .int .i64 t264, .int .i64 t265, .slice Ao14 t266.length co14, .int .i64 t269] 60 (0, 0)) (by (with_reducible repeat (first | refine blk_drewN ?_ _ | refine blk_drew ?_ | refine blk_alloc ?_ _)); exact BK271.out) hg (Kd.R_ne HO291.out BK271.out (by decide)))
           have n5_ := Aside0.mk ((show IsS77 w _ gb260 l0 t280 t281 from IsS77.grown (by first | ((repeat (first | (with_reducible first | exact HI260.out | apply IsS77.alloc | apply IsS77.drewN | apply IsS77.drew | apply IsS77.set_1 | apply IsS77.set_2 | refine IsS77.far ?_ NB260_271.out _ | refine IsS77.far (p := ⟨gb271, _, _⟩) ?_ NB260_271.out _) | exact HI260.out)); done) | (simp only [Int.add_zero]; repeat (first | (with_reducible first | exact HI260.out | apply IsS77.alloc | apply IsS77.drewN | apply IsS77.drew | apply IsS77.set_1 | apply IsS77.set_2 | refine IsS77.far ?_ NB260_271.out _ | refine IsS77.far (p := ⟨gb271, _, _⟩) ?_ NB260_271.out _) | exact HI260.out))) hg (IsS77.own_ne HI260.out HO291.out (by decide))))
           have n6_ := Aside0.mk (hb)
           have n7_ := Aside0.mk ((show Kd.C k71 w63 Ao14 y285.length y285 from by rw [Ny285.out]; exact Kd.C_take (m := (t279 : Int).toNat) ((Kd.R_reads' (Kd.R_after (ok := (fun _ => True)) (by (with_reducible repeat (first | apply Kd.R_alloc | apply Kd.R_drewN | apply Kd.R_drew)); exact HO_13.out) hg hat)).2.2) KL58.out))
           have n8_ := Aside0.mk ((show Kd.C k71 w63 A59 y292.length y292 from by rw [Ny292.out, KA59.out]; exact Kd.C_drop (m := ((ji25) : Int).toNat) (c := co14) ((Kd.R_reads' (Kd.R_after (ok := (fun _ => True)) (by (with_reducible repeat (first | apply Kd.R_alloc | apply Kd.R_drewN | apply Kd.R_drew)); exact HO_13.out) hg hat)).2.2) KL59.out ((Kd.R_reads' (Kd.R_after (ok := (fun _ => True)) (by (with_reducible repeat (first | apply Kd.R_alloc | apply Kd.R_drewN | apply Kd.R_drew)); exact HO_13.out) hg hat)).2.1)))
           have n9_ := Aside0.mk (ho)
           clear HO_11
           clear HO_13
           clear HO_272000
           clear HO_272003
           clear BK271
           clear HI260
           clear HB
           clear HR288
           clear HR295
           clear HO291
           have HO_11 := n0_
           have HO_13 := n1_
           have HO_272000 := n2_
           have HO_272003 := n3_
           have BK271 := n4_
           have HI260 := n5_
           have HB := n6_
           have HR288 := n7_
           have HR295 := n8_
           have HO298 := n9_
           clear n0_ n1_ n2_ n3_ n4_ n5_ n6_ n7_ n8_ n9_
           clear ho hb hg hat
           refine hK.out _ _ trivial (fun hHeld => ?_)
           clear hK K
           refine norm_ (a' := ?_) ?_ ?_
           rotate_left
           ·show Act.put _ (some 58) _ = _
            simp only [Act.put, List.setIfInBounds_toArray, List.set_cons_zero, List.set_cons_succ, i64_w, i32_w]
            rfl
           refine pure_ (i := 10) (N := some 13) (v := ?_) (a' := ?_) #[true, true, true, true, true, true, true, true, true, true, true] rfl rfl (any_of HT_.out (by kernel_rfl)) (fun _ _ _ h => h) (Or.inl ⟨by rfl, ?_⟩) ?_ ?_
           rotate_left
           ·intro w'
            go_simp
            with_reducible rfl
           rotate_left
           ·simp only [Act.put, List.setIfInBounds_toArray, List.set_cons_zero, List.set_cons_succ, i64_w, i32_w]
            rfl
           refine done_ (done_of HT_.out (by kernel_rfl)) ?_
           obtain ⟨Ao64, co64, eo64⟩ := Kd.R_slice HO298.out
           subst eo64
           try go_wp2
           go_ret3
           exact ⟨_, _, by first | rfl | (simp [errW_none, errW_some] <;> rfl) | (simp only [← hji25]; first | rfl | (simp [errW_none, errW_some] <;> rfl)) | (simp [*, errW_none, errW_some] <;> rfl), by (with_reducible repeat (first | apply Kd.R_alloc | apply Kd.R_drewN | apply Kd.R_drew)); exact Kd.R_mono HO_11.out (fun _ hk => trivial), by (with_reducible repeat (first | apply Kd.R_alloc | apply Kd.R_drewN | apply Kd.R_drew)); exact Kd.R_mono HO298.out (fun _ hk => trivial), by repeat (first | (with_reducible first | exact HB.out | apply below_alloc | apply pw_below_drewN | apply below_drew1 | refine below_set ?_ (IsS77.ge HI260.out) | refine below_set ?_ GE271.out) | exact HB.out)⟩
         ·rw [if_neg c28] at H
          exact absurd H (by simp)
        ·rw [if_neg c27] at H
         exact absurd H (by simp)
       ·rw [if_neg c26] at H
        exact absurd H (by simp)
      ·rw [if_neg c24] at H
       exact absurd H (by simp)
     ·rw [if_neg c23] at H
      exact absurd H (by simp)
    ·rw [if_neg c22] at H
     exact absurd H (by simp)
   ·replace c20 := Bool.eq_false_iff.mpr c20
    subst c20
    have H1 : (if (t266.length : Int) > 0 then ((spec_l1Cur_one.f l0 x261001_4 x261002_4 6).bind fun bt304 => (if bt304.1 = true then (if 0 < (t266.length : Int) then (some (t272, t256, (t266.set (0 : Int).toNat (⟨(rd_T71 t266 0).f0, (rd_T71 t266 0).f1, (rd_T71 t266 0).f2, Int.tmod (wrap64 (((rd_T71 t266 0).f3) + 1)) 1499⟩ : S71)))) else (none)) else (some (t272, t256, t266)))) else (some (t272, t256, t266))) = some (r1, r2, r3) := by rw [if_neg (show ¬ (false = true) by decide)] at H; exact H
    clear H
    have H := H1
    clear H1
    by_cases c65 : (t266.length : Int) > 0
    ·rw [if_pos c65] at H
     have c65b0 : decide (0 < (t266.length : Int)) = true := decide_eq_true c65
     have c65b1 : decide (0 < t266.length) = true := decide_eq_true (by omega)
     clear c65
     replace H := Option.bind_eq_some_iff.mp H
     obtain ⟨⟨t304, t305, t306⟩, A660, H⟩ := H
     replace H : (if t304 = true then (if 0 < (t266.length : Int) then (some (t272, t256, (t266.set (0 : Int).toNat (⟨(rd_T71 t266 0).f0, (rd_T71 t266 0).f1, (rd_T71 t266 0).f2, Int.tmod (wrap64 (((rd_T71 t266 0).f3) + 1)) 1499⟩ : S71)))) else (none)) else (some (t272, t256, t266))) = some (r1, r2, r3) := H
     have A66 := Aside0.mk A660
     clear A660
     by_cases c67 : t304 = true
     ·subst c67
      have H1 : (if 0 < (t266.length : Int) then (some (t272, t256, (t266.set (0 : Int).toNat (⟨(rd_T71 t266 0).f0, (rd_T71 t266 0).f1, (rd_T71 t266 0).f2, Int.tmod (wrap64 (((rd_T71 t266 0).f3) + 1)) 1499⟩ : S71)))) else (none)) = some (r1, r2, r3) := by rw [if_pos rfl] at H; exact H
      clear H
      have H := H1
      clear H1
      by_cases c68 : 0 < (t266.length : Int)
      ·rw [if_pos c68] at H
       have c68b0 : decide (0 < (t266.length : Int)) = true := decide_eq_true c68
       have c68b1 : decide (0 < t266.length) = true := decide_eq_true (by omega)
       clear c68
       obtain ⟨y308, hy308⟩ : ∃ y_ : List (S71), y_ = (t266.set (0 : Int).toNat (⟨(rd_T71 t266 0).f0, (rd_T71 t266 0).f1, (rd_T71 t266 0).f2, Int.tmod (wrap64 (((rd_T71 t266 0).f3) + 1)) 1499⟩ : S71)) := ⟨_, rfl⟩
       replace H : (some (t272, t256, y308)) = some (r1, r2, r3) := by first | (rw [hy308]; with_reducible exact H) | (have H2_ := (Option.bind_some _ _).symm.trans H; rw [hy308]; with_reducible exact H2_) | (have H2_ := (Option.bind_some _ _).symm.trans H; with_reducible exact H2_) | with_reducible exact H | (rw [hy308]; exact H) | exact H
       have Ny308 := Aside0.mk hy308
       clear hy308
       simp only [Option.some.injEq, Prod.mk.injEq] at H
       obtain ⟨rfl, rfl, rfl⟩ := H
       go_wp2_with (first | (go_at_call 62; (with_reducible refine (spec_l1Cur_one.calls gb260 l0 x261001_4 x261002_4 6 true t305 t306 w _ ?side1 ?side2 A66.out).mono ?_); (case side1 => first | ((repeat (first | (with_reducible first | exact HI260.out | apply IsS77.alloc | apply IsS77.drewN | apply IsS77.drew | apply IsS77.set_1 | apply IsS77.set_2 | refine IsS77.far ?_ NB260_271.out _ | refine IsS77.far (p := ⟨gb271, _, _⟩) ?_ NB260_271.out _) | exact HI260.out)); done) | (simp only [Int.add_zero]; repeat (first | (with_reducible first | exact HI260.out | apply IsS77.alloc | apply IsS77.drewN | apply IsS77.drew | apply IsS77.set_1 | apply IsS77.set_2 | refine IsS77.far ?_ NB260_271.out _ | refine IsS77.far (p := ⟨gb271, _, _⟩) ?_ NB260_271.out _) | exact HI260.out))); (case side2 => repeat (first | (with_reducible first | exact HB.out | apply below_alloc | apply pw_below_drewN | apply below_drew1 | refine below_set ?_ (IsS77.ge HI260.out) | refine below_set ?_ GE271.out) | exact HB.out)); rintro e w70 ⟨rfl, hi, hb, hk⟩; have n0_ := Aside0.mk (Kd.R_mono (Kd.R_keep (IsS77.apart (show IsS77 w _ gb260 l0 x261001_4 x261002_4 from by first | ((repeat (first | (with_reducible first | exact HI260.out | apply IsS77.alloc | apply IsS77.drewN | apply IsS77.drew | apply IsS77.set_1 | apply IsS77.set_2 | refine IsS77.far ?_ NB260_271.out _ | refine IsS77.far (p := ⟨gb271, _, _⟩) ?_ NB260_271.out _) | exact HI260.out)); done) | (simp only [Int.add_zero]; repeat (first | (with_reducible first | exact HI260.out | apply IsS77.alloc | apply IsS77.drewN | apply IsS77.drew | apply IsS77.set_1 | apply IsS77.set_2 | refine IsS77.far ?_ NB260_271.out _ | refine IsS77.far (p := ⟨gb271, _, _⟩) ?_ NB260_271.out _) | exact HI260.out))) (by (with_reducible repeat (first | apply Kd.R_alloc | apply Kd.R_drewN | apply Kd.R_drew)); exact HO_11.out) (by decide)) hk (fun _ h => h.2)) (fun _ h => h.1)); have n1_ := Aside0.mk (Kd.R_mono (Kd.R_keep (IsS77.apart (show IsS77 w _ gb260 l0 x261001_4 x261002_4 from by first | ((repeat (first | (with_reducible first | exact HI260.out | apply IsS77.alloc | apply IsS77.drewN | apply IsS77.drew | apply IsS77.set_1 | apply IsS77.set_2 | refine IsS77.far ?_ NB260_271.out _ | refine IsS77.far (p := ⟨gb271, _, _⟩) ?_ NB260_271.out _) | exact HI260.out)); done) | (simp only [Int.add_zero]; repeat (first | (with_reducible first | exact HI260.out | apply IsS77.alloc | apply IsS77.drewN | apply IsS77.drew | apply IsS77.set_1 | apply IsS77.set_2 | refine IsS77.far ?_ NB260_271.out _ | refine IsS77.far (p := ⟨gb271, _, _⟩) ?_ NB260_271.out _) | exact HI260.out))) (by (with_reducible repeat (first | apply Kd.R_alloc | apply Kd.R_drewN | apply Kd.R_drew)); exact HO_13.out) (by decide)) hk (fun _ h => h.2)) (fun _ h => h.1)); have n2_ := Aside0.mk (Kd.R_mono (Kd.R_keep (IsS77.apart (show IsS77 w _ gb260 l0 x261001_4 x261002_4 from by first | ((repeat (first | (with_reducible first | exact HI260.out | apply IsS77.alloc | apply IsS77.drewN | apply IsS77.drew | apply IsS77.set_1 | apply IsS77.set_2 | refine IsS77.far ?_ NB260_271.out _ | refine IsS77.far (p := ⟨gb271, _, _⟩) ?_ NB260_271.out _) | exact HI260.out)); done) | (simp only [Int.add_zero]; repeat (first | (with_reducible first | exact HI260.out | apply IsS77.alloc | apply IsS77.drewN | apply IsS77.drew | apply IsS77.set_1 | apply IsS77.set_2 | refine IsS77.far ?_ NB260_271.out _ | refine IsS77.far (p := ⟨gb271, _, _⟩) ?_ NB260_271.out _) | exact HI260.out))) (by (with_reducible repeat (first | apply Kd.R_alloc | apply Kd.R_drewN | apply Kd.R_drew)); exact HO_272000.out) (by decide)) hk (fun _ h => h.2)) (fun _ h => h.1)); have n3_ := Aside0.mk (Kd.R_mono (Kd.R_keep (IsS77.apart (show IsS77 w _ gb260 l0 x261001_4 x261002_4 from by first | ((repeat (first | (with_reducible first | exact HI260.out | apply IsS77.alloc | apply IsS77.drewN | apply IsS77.drew | apply IsS77.set_1 | apply IsS77.set_2 | refine IsS77.far ?_ NB260_271.out _ | refine IsS77.far (p := ⟨gb271, _, _⟩) ?_ NB260_271.out _) | exact HI260.out)); done) | (simp only [Int.add_zero]; repeat (first | (with_reducible first | exact HI260.out | apply IsS77.alloc | apply IsS77.drewN | apply IsS77.drew | apply IsS77.set_1 | apply IsS77.set_2 | refine IsS77.far ?_ NB260_271.out _ | refine IsS77.far (p := ⟨gb271, _, _⟩) ?_ NB260_271.out _) | exact HI260.out))) (by (with_reducible repeat (first | apply Kd.R_alloc | apply Kd.R_drewN | apply Kd.R_drew)); exact HO_272003.out) (by decide)) hk (fun _ h => h.2)) (fun _ h => h.1)); have n4_ := Aside0.mk (KeepBut.blk hk (g' := gb271) (o := .cells #[.slice Ao11 t261.length co11, .int .i64 t264, .int .i64 t265, .slice Ao14 t266.length co14, .int .i64 t269] 60 (0, 0)) (by (with_reducible repeat (first | refine blk_drewN ?_ _ | refine blk_drew ?_ | refine blk_alloc ?_ _)); exact BK271.out) NB271_260.out (by simp)); have n5_ := Aside0.mk (hb); have n6_ := Aside0.mk (hi); clear HO_11; clear HO_13; clear HO_272000; clear HO_272003; clear BK271; clear HB; clear HI260; have HO_11 := n0_; have HO_13 := n1_; have HO_272000 := n2_; have HO_272003 := n3_; have BK271 := n4_; have HB := n5_; have HI260 := n6_; clear n0_ n1_ n2_ n3_ n4_ n5_ n6_; (try clear hb); (try clear hb2); (try clear hk); (try clear hi); have p307 : 0 ≤ (0 : Int) := (by omega); have q307 : 0 < (t266.length : Int) := of_decide_eq_true (by first | (with_reducible assumption) | assumption); obtain ⟨ad307, e307, hx307_0, hx307_1, hx307_2, hx307_3⟩ := at_T71 (Kd.R_reads' HO_13.out).2.2 0 p307 q307; cases e307; have qi307 : (0 < t266.length) = True := eq_true (by omega); (try rw [show ((0 : Int)).toNat = 0 from rfl] at hx307_0); (try rw [show 0 * 4 = 0 from rfl] at hx307_0); (try rw [Addr.add_zero'] at hx307_0); (try rw [show ((0 : Int)).toNat = 0 from rfl] at hx307_1); (try rw [show 0 * 4 = 0 from rfl] at hx307_1); (try rw [Addr.add_zero'] at hx307_1); (try rw [show ((0 : Int)).toNat = 0 from rfl] at hx307_2); (try rw [show 0 * 4 = 0 from rfl] at hx307_2); (try rw [Addr.add_zero'] at hx307_2); (try rw [show ((0 : Int)).toNat = 0 from rfl] at hx307_3); (try rw [show 0 * 4 = 0 from rfl] at hx307_3); (try rw [Addr.add_zero'] at hx307_3); replace p307 := eq_true p307; replace q307 := eq_true q307; have p69 : 0 ≤ (0 : Int) := (by omega); have q69 : (0 : Int) < ((t266.length : Int) : Int) := of_decide_eq_true (by first | (with_reducible assumption) | assumption); have qi69 : (0 < t266.length) = True := eq_true (by omega); obtain ⟨go69, co69, eo69, gb69, gl69, cl69, HG69⟩ := Kd.R_form HO_13.out (by omega); (first | cases eo69 | (injection eo69 with ea_ en_ ec_; (first | subst ea_ | (injection ea_ with ea_; subst ea_)); subst ec_; clear en_)); have GB69 := Aside0.mk gb69; have GG69 := Aside0.mk HG69; clear gb69 gl69 HG69; (first | simp only [add_plain] at hx307_0 | skip); (first | simp only [add_plain] at hx307_1 | skip); (first | simp only [add_plain] at hx307_2 | skip); (first | simp only [add_plain] at hx307_3 | skip); obtain ⟨ce69, hcl69, hM69, hcc69, hfr69⟩ := Kd.R_elem HO_13.out z71 (0 : Int) p69 q69; obtain rfl := k71_openM hM69; have hx69_0 : w70.cell? ⟨go69, (0 : Int).toNat * 4, none⟩ = some (.int .i64 ((rd_T71 t266 0).f0)) := hcc69 0 _ rfl; have hx69_1 : w70.cell? ⟨go69, (0 : Int).toNat * 4 + 1, none⟩ = some (.int .i64 ((rd_T71 t266 0).f1)) := hcc69 1 _ rfl; have hx69_2 : w70.cell? ⟨go69, (0 : Int).toNat * 4 + 2, none⟩ = some (.int .i64 ((rd_T71 t266 0).f2)) := hcc69 2 _ rfl; have hx69_3 : w70.cell? ⟨go69, (0 : Int).toNat * 4 + 3, none⟩ = some (.int .i64 ((rd_T71 t266 0).f3)) := hcc69 3 _ rfl; have hf69_0 : w70.frozen? ⟨go69, (0 : Int).toNat * 4, none⟩ = false := hfr69 0; have hf69_1 : w70.frozen? ⟨go69, (0 : Int).toNat * 4 + 1, none⟩ = false := hfr69 1; have hf69_2 : w70.frozen? ⟨go69, (0 : Int).toNat * 4 + 2, none⟩ = false := hfr69 2; have hf69_3 : w70.frozen? ⟨go69, (0 : Int).toNat * 4 + 3, none⟩ = false := hfr69 3; (clear hcl69 hcc69 hfr69; (try clear hM69)); (try rw [show ((0 : Int)).toNat = 0 from rfl] at hx69_0); (try simp only [Nat.reduceMul, Nat.zero_mul, Nat.zero_add, Nat.add_zero, Nat.reduceAdd] at hx69_0); (try rw [show ((0 : Int)).toNat = 0 from rfl] at hf69_0); (try simp only [Nat.reduceMul, Nat.zero_mul, Nat.zero_add, Nat.add_zero, Nat.reduceAdd] at hf69_0); (try rw [show ((0 : Int)).toNat = 0 from rfl] at hx69_1); (try simp only [Nat.reduceMul, Nat.zero_mul, Nat.zero_add, Nat.add_zero, Nat.reduceAdd] at hx69_1); (try rw [show ((0 : Int)).toNat = 0 from rfl] at hf69_1); (try simp only [Nat.reduceMul, Nat.zero_mul, Nat.zero_add, Nat.add_zero, Nat.reduceAdd] at hf69_1); (try rw [show ((0 : Int)).toNat = 0 from rfl] at hx69_2); (try simp only [Nat.reduceMul, Nat.zero_mul, Nat.zero_add, Nat.add_zero, Nat.reduceAdd] at hx69_2); (try rw [show ((0 : Int)).toNat = 0 from rfl] at hf69_2); (try simp only [Nat.reduceMul, Nat.zero_mul, Nat.zero_add, Nat.add_zero, Nat.reduceAdd] at hf69_2); (try rw [show ((0 : Int)).toNat = 0 from rfl] at hx69_3); (try simp only [Nat.reduceMul, Nat.zero_mul, Nat.zero_add, Nat.add_zero, Nat.reduceAdd] at hx69_3); (try rw [show ((0 : Int)).toNat = 0 from rfl] at hf69_3); (try simp only [Nat.reduceMul, Nat.zero_mul, Nat.zero_add, Nat.add_zero, Nat.reduceAdd] at hf69_3); replace p69 := eq_true p69; replace q69 := eq_true q69; have HX71 := Aside0.mk (show Kd.R k71 71 w70 w.heap.size (fun _ => True) (.slice (some ⟨go69, 0, none⟩) t266.length co14) t266 from (by (with_reducible repeat (first | apply Kd.R_alloc | apply Kd.R_drewN | apply Kd.R_drew)); exact HO_13.out)); obtain ⟨ce71, hcl71, hM71, hcc71, hfr71⟩ := Kd.R_elem HX71.out z71 (0 : Int) (by omega) (by have h_ : (0 : Int) < ((t266.length : Int) : Int) := of_decide_eq_true (by first | (with_reducible assumption) | assumption); first | exact h_ | (have e_ := (Kd.R_reads' HO_13.out).1; omega) | simpa using h_); obtain rfl := k71_openM hM71; have HP71 := Kd.R_seg HX71.out (0 : Int) (by omega) (by have h_ : (0 : Int) < ((t266.length : Int) : Int) := of_decide_eq_true (by first | (with_reducible assumption) | assumption); first | exact h_ | (have e_ := (Kd.R_reads' HO_13.out).1; omega) | simpa using h_) (seg := [.int .i64 (Int.tmod (wrap64 (((rd_T71 t266 0).f3) + 1)) 1499)]) (j := 3) hcl71 hcc71 (show 4 ≤ 4 from by decide) (x' := (⟨(rd_T71 t266 0).f0, (rd_T71 t266 0).f1, (rd_T71 t266 0).f2, Int.tmod (wrap64 (((rd_T71 t266 0).f3) + 1)) 1499⟩ : S71)) (k71_mkM _ _ _ (⟨(rd_T71 t266 0).f0, (rd_T71 t266 0).f1, (rd_T71 t266 0).f2, Int.tmod (wrap64 (((rd_T71 t266 0).f3) + 1)) 1499⟩ : S71) ) (fun _ hk => hk); have hx71_3 := hcc71 3 _ rfl; (try simp only [show (k71).sz = 4 from rfl, Nat.mul_one, Nat.add_zero] at hx71_3); (try rw [show ((0 : Int)).toNat = 0 from rfl] at hx71_3); (try simp only [Nat.reduceMul, Nat.zero_mul, Nat.zero_add, Nat.add_zero, Nat.reduceAdd] at hx71_3); have hf71_3 := hfr71 3; (try simp only [show (k71).sz = 4 from rfl, Nat.mul_one, Nat.add_zero] at hf71_3); (try rw [show ((0 : Int)).toNat = 0 from rfl] at hf71_3); (try simp only [Nat.reduceMul, Nat.zero_mul, Nat.zero_add, Nat.add_zero, Nat.reduceAdd] at hf71_3); (clear hcl71 hcc71 hfr71; (try clear hM71))) | ((with_reducible refine gate_store (t := 3) (p := 74) rfl ?_); refine store_event (t := 3) (p := 74) (v := ?vo_w72) (w1 := (w70.setCell ⟨go69, 3, none⟩ (.int .i64 (Int.tmod (wrap64 (((rd_T71 t266 0).f3) + 1)) 1499)))) ?hg ?ho ?hn ?hr ?_; (case ho => rfl); (case hg => rfl); (case hn => rfl); (case hr => first | (go_simp; done) | (go_simp; rfl)); intro w72 hw; have hg : w70.grownBy w72 (some go69) := (by rw [hw]; exact HP71.2); have hp_ : Kd.R k71 71 w72 w.heap.size (fun _ => True) (.slice (some ⟨go69, 0, none⟩) t266.length co14) y308 := (by rw [hw, Ny308.out]; exact HP71.1); clear HP71; have n0_ := Aside0.mk (Kd.R_over' (v := (.slice (some ⟨go69, 0, none⟩) t266.length co14)) (by (with_reducible repeat (first | apply Kd.R_alloc | apply Kd.R_drewN | apply Kd.R_drew)); exact HO_11.out) (Kd.R_typed HO_13.out) (by decide) hg); have n1_ := Aside0.mk (hp_); have n2_ := Aside0.mk (Kd.R_over' (v := (.slice (some ⟨go69, 0, none⟩) t266.length co14)) (by (with_reducible repeat (first | apply Kd.R_alloc | apply Kd.R_drewN | apply Kd.R_drew)); exact HO_272000.out) (Kd.R_typed HO_13.out) (by decide) hg); have n3_ := Aside0.mk (blk_grown (g := gb271) (o := .cells #[.slice Ao11 t261.length co11, .int .i64 t264, .int .i64 t265, .slice (some ⟨go69, 0, none⟩) t266.length co14, .int .i64 t269] 60 (0, 0)) (by (with_reducible repeat (first | refine blk_drewN ?_ _ | refine blk_drew ?_ | refine blk_alloc ?_ _)); exact BK271.out) hg (Kd.R_ne HO_13.out BK271.out (by decide))); have n4_ := Aside0.mk ((show IsS77 w _ gb260 l0 t305 t306 from IsS77.grown (by first | ((repeat (first | (with_reducible first | exact HI260.out | apply IsS77.alloc | apply IsS77.drewN | apply IsS77.drew | apply IsS77.set_1 | apply IsS77.set_2 | refine IsS77.far ?_ NB260_271.out _ | refine IsS77.far (p := ⟨gb271, _, _⟩) ?_ NB260_271.out _) | exact HI260.out)); done) | (simp only [Int.add_zero]; repeat (first | (with_reducible first | exact HI260.out | apply IsS77.alloc | apply IsS77.drewN | apply IsS77.drew | apply IsS77.set_1 | apply IsS77.set_2 | refine IsS77.far ?_ NB260_271.out _ | refine IsS77.far (p := ⟨gb271, _, _⟩) ?_ NB260_271.out _) | exact HI260.out))) hg (IsS77.own_ne HI260.out HO_13.out (by decide)))); have n5_ := Aside0.mk ((by rw [hw]; exact below_set (HB.out) GB69.out : Below w.heap.size w w72)); clear HO_11; clear HO_13; clear HO_272000; clear BK271; clear HI260; clear HB; have HO_11 := n0_; have HO_13 := n1_; have HO_272000 := n2_; have BK271 := n3_; have HI260 := n4_; have HB := n5_; clear n0_ n1_ n2_ n3_ n4_ n5_; clear hg hw hp_))
       go_ret3
       exact ⟨_, _, by first | rfl | (simp [errW_none, errW_some] <;> rfl) | (simp [*, errW_none, errW_some] <;> rfl), by (with_reducible repeat (first | apply Kd.R_alloc | apply Kd.R_drewN | apply Kd.R_drew)); exact Kd.R_mono HO_11.out (fun _ hk => trivial), by (with_reducible repeat (first | apply Kd.R_alloc | apply Kd.R_drewN | apply Kd.R_drew)); exact HO_13.out, by repeat (first | (with_reducible first | exact HB.out | apply below_alloc | apply pw_below_drewN | apply below_drew1 | refine below_set ?_ (IsS77.ge HI260.out) | refine below_set ?_ GE271.out) | exact HB.out)⟩
      ·rw [if_neg c68] at H
       exact absurd H (by simp)
     ·replace c67 := Bool.eq_false_iff.mpr c67
      subst c67
      have H1 : (some (t272, t256, t266)) = some (r1, r2, r3) := by rw [if_neg (show ¬ (false = true) by decide)] at H; exact H
      clear H
      have H := H1
      clear H1
      simp only [Option.some.injEq, Prod.mk.injEq] at H
      obtain ⟨rfl, rfl, rfl⟩ := H
      go_wp2_with (first | (go_at_call 62; (with_reducible refine (spec_l1Cur_one.calls gb260 l0 x261001_4 x261002_4 6 false t305 t306 w _ ?side1 ?side2 A66.out).mono ?_); (case side1 => first | ((repeat (first | (with_reducible first | exact HI260.out | apply IsS77.alloc | apply IsS77.drewN | apply IsS77.drew | apply IsS77.set_1 | apply IsS77.set_2 | refine IsS77.far ?_ NB260_271.out _ | refine IsS77.far (p := ⟨gb271, _, _⟩) ?_ NB260_271.out _) | exact HI260.out)); done) | (simp only [Int.add_zero]; repeat (first | (with_reducible first | exact HI260.out | apply IsS77.alloc | apply IsS77.drewN | apply IsS77.drew | apply IsS77.set_1 | apply IsS77.set_2 | refine IsS77.far ?_ NB260_271.out _ | refine IsS77.far (p := ⟨gb271, _, _⟩) ?_ NB260_271.out _) | exact HI260.out))); (case side2 => repeat (first | (with_reducible first | exact HB.out | apply below_alloc | apply pw_below_drewN | apply below_drew1 | refine below_set ?_ (IsS77.ge HI260.out) | refine below_set ?_ GE271.out) | exact HB.out)); rintro e w73 ⟨rfl, hi, hb, hk⟩; have n0_ := Aside0.mk (Kd.R_mono (Kd.R_keep (IsS77.apart (show IsS77 w _ gb260 l0 x261001_4 x261002_4 from by first | ((repeat (first | (with_reducible first | exact HI260.out | apply IsS77.alloc | apply IsS77.drewN | apply IsS77.drew | apply IsS77.set_1 | apply IsS77.set_2 | refine IsS77.far ?_ NB260_271.out _ | refine IsS77.far (p := ⟨gb271, _, _⟩) ?_ NB260_271.out _) | exact HI260.out)); done) | (simp only [Int.add_zero]; repeat (first | (with_reducible first | exact HI260.out | apply IsS77.alloc | apply IsS77.drewN | apply IsS77.drew | apply IsS77.set_1 | apply IsS77.set_2 | refine IsS77.far ?_ NB260_271.out _ | refine IsS77.far (p := ⟨gb271, _, _⟩) ?_ NB260_271.out _) | exact HI260.out))) (by (with_reducible repeat (first | apply Kd.R_alloc | apply Kd.R_drewN | apply Kd.R_drew)); exact HO_11.out) (by decide)) hk (fun _ h => h.2)) (fun _ h => h.1)); have n1_ := Aside0.mk (Kd.R_mono (Kd.R_keep (IsS77.apart (show IsS77 w _ gb260 l0 x261001_4 x261002_4 from by first | ((repeat (first | (with_reducible first | exact HI260.out | apply IsS77.alloc | apply IsS77.drewN | apply IsS77.drew | apply IsS77.set_1 | apply IsS77.set_2 | refine IsS77.far ?_ NB260_271.out _ | refine IsS77.far (p := ⟨gb271, _, _⟩) ?_ NB260_271.out _) | exact HI260.out)); done) | (simp only [Int.add_zero]; repeat (first | (with_reducible first | exact HI260.out | apply IsS77.alloc | apply IsS77.drewN | apply IsS77.drew | apply IsS77.set_1 | apply IsS77.set_2 | refine IsS77.far ?_ NB260_271.out _ | refine IsS77.far (p := ⟨gb271, _, _⟩) ?_ NB260_271.out _) | exact HI260.out))) (by (with_reducible repeat (first | apply Kd.R_alloc | apply Kd.R_drewN | apply Kd.R_drew)); exact HO_13.out) (by decide)) hk (fun _ h => h.2)) (fun _ h => h.1)); have n2_ := Aside0.mk (Kd.R_mono (Kd.R_keep (IsS77.apart (show IsS77 w _ gb260 l0 x261001_4 x261002_4 from by first | ((repeat (first | (with_reducible first | exact HI260.out | apply IsS77.alloc | apply IsS77.drewN | apply IsS77.drew | apply IsS77.set_1 | apply IsS77.set_2 | refine IsS77.far ?_ NB260_271.out _ | refine IsS77.far (p := ⟨gb271, _, _⟩) ?_ NB260_271.out _) | exact HI260.out)); done) | (simp only [Int.add_zero]; repeat (first | (with_reducible first | exact HI260.out | apply IsS77.alloc | apply IsS77.drewN | apply IsS77.drew | apply IsS77.set_1 | apply IsS77.set_2 | refine IsS77.far ?_ NB260_271.out _ | refine IsS77.far (p := ⟨gb271, _, _⟩) ?_ NB260_271.out _) | exact HI260.out))) (by (with_reducible repeat (first | apply Kd.R_alloc | apply Kd.R_drewN | apply Kd.R_drew)); exact HO_272000.out) (by decide)) hk (fun _ h => h.2)) (fun _ h => h.1)); have n3_ := Aside0.mk (Kd.R_mono (Kd.R_keep (IsS77.apart (show IsS77 w _ gb260 l0 x261001_4 x261002_4 from by first | ((repeat (first | (with_reducible first | exact HI260.out | apply IsS77.alloc | apply IsS77.drewN | apply IsS77.drew | apply IsS77.set_1 | apply IsS77.set_2 | refine IsS77.far ?_ NB260_271.out _ | refine IsS77.far (p := ⟨gb271, _, _⟩) ?_ NB260_271.out _) | exact HI260.out)); done) | (simp only [Int.add_zero]; repeat (first | (with_reducible first | exact HI260.out | apply IsS77.alloc | apply IsS77.drewN | apply IsS77.drew | apply IsS77.set_1 | apply IsS77.set_2 | refine IsS77.far ?_ NB260_271.out _ | refine IsS77.far (p := ⟨gb271, _, _⟩) ?_ NB260_271.out _) | exact HI260.out))) (by (with_reducible repeat (first | apply Kd.R_alloc | apply Kd.R_drewN | apply Kd.R_drew)); exact HO_272003.out) (by decide)) hk (fun _ h => h.2)) (fun _ h => h.1)); have n4_ := Aside0.mk (KeepBut.blk hk (g' := gb271) (o := .cells #[.slice Ao11 t261.length co11, .int .i64 t264, .int .i64 t265, .slice Ao14 t266.length co14, .int .i64 t269] 60 (0, 0)) (by (with_reducible repeat (first | refine blk_drewN ?_ _ | refine blk_drew ?_ | refine blk_alloc ?_ _)); exact BK271.out) NB271_260.out (by simp)); have n5_ := Aside0.mk (hb); have n6_ := Aside0.mk (hi); clear HO_11; clear HO_13; clear HO_272000; clear HO_272003; clear BK271; clear HB; clear HI260; have HO_11 := n0_; have HO_13 := n1_; have HO_272000 := n2_; have HO_272003 := n3_; have BK271 := n4_; have HB := n5_; have HI260 := n6_; clear n0_ n1_ n2_ n3_ n4_ n5_ n6_; (try clear hb); (try clear hb2); (try clear hk); (try clear hi)))
      go_ret3
      exact ⟨_, _, by first | rfl | (simp [errW_none, errW_some] <;> rfl) | (simp [*, errW_none, errW_some] <;> rfl), by (with_reducible repeat (first | apply Kd.R_alloc | apply Kd.R_drewN | apply Kd.R_drew)); exact Kd.R_mono HO_11.out (fun _ hk => trivial), by (with_reducible repeat (first | apply Kd.R_alloc | apply Kd.R_drewN | apply Kd.R_drew)); exact HO_13.out, by repeat (first | (with_reducible first | exact HB.out | apply below_alloc | apply pw_below_drewN | apply below_drew1 | refine below_set ?_ (IsS77.ge HI260.out) | refine below_set ?_ GE271.out) | exact HB.out)⟩
    ·rw [if_neg c65] at H
     have c65b0 : decide (0 < (t266.length : Int)) = false := decide_eq_false c65
     have c65b1 : decide (0 < t266.length) = false := decide_eq_false (by omega)
     clear c65
     simp only [Option.some.injEq, Prod.mk.injEq] at H
     obtain ⟨rfl, rfl, rfl⟩ := H
     go_wp2
     go_ret3
     exact ⟨_, _, by first | rfl | (simp [errW_none, errW_some] <;> rfl) | (simp [*, errW_none, errW_some] <;> rfl), by (with_reducible repeat (first | apply Kd.R_alloc | apply Kd.R_drewN | apply Kd.R_drew)); exact Kd.R_mono HO_11.out (fun _ hk => trivial), by (with_reducible repeat (first | apply Kd.R_alloc | apply Kd.R_drewN | apply Kd.R_drew)); exact HO_13.out, by repeat (first | (with_reducible first | exact HB.out | apply below_alloc | apply pw_below_drewN | apply below_drew1 | refine below_set ?_ (IsS77.ge HI260.out) | refine below_set ?_ GE271.out) | exact HB.out)⟩
end Go.Proofs.Ytebpikejljgfgaa.PFnBlamed
