-- Written by a program of this session, after the kit's print (changed in some places; see NOTES.md). Lean checks it.
import Derived.Test.YtafcbeajnlfomaaPFnReceiptsx0
import Derived.Test.YtafcbeajnlfomaaPFnReceiptsx2
import Derived.Test.YtafcbeajnlfomaaPFnReceiptsx3
import Derived.Test.YtafcbeajnlfomaaPFnReceiptsx4
namespace Go.Proofs.Ytafcbeajnlfomaa.PFnReceipts
open Go.RowKit Go.Proofs.YtafcbeajnlfomaaW.PrintWords Go.Proofs.YtafcbeajnlfomaaW.PrintLast Go.Proofs.YtafcbeajnlfomaaW.PrintMore
attribute [local go_sem] max2_int min2_int max_two min_two max_three min_three max_four min_four   -- for this text's walks alone
set_option linter.unusedVariables false
set_option linter.unusedSimpArgs false

/-! ### spec_DrawCheckReceipt: function 48 -/
def spec_DrawCheckReceipt.j0 : Nat → Int → List Int → Int → Int → Int → Int → Int → Int → Option (Int × Int × Int × Int × Int)
  | 0, _, _, _, _, _, _, _, _ => none
  | k + 1, x6, x225000, x225001, x225002, x242000, x242001, x242002, x242003 => (spec_l1Cur_pick.f x225000 x225001 x225002 6).bind fun bt254 => (if bt254.1 = 0 then ((spec_l1Cur_among.f x225000 bt254.2.1 bt254.2.2 (([(-1), 0, 1498, 1499] : List Int))).bind fun bt260 => (some (x6, x242000, x242001, x242002, bt260.1))) else (if bt254.1 = 1 then (some (x6, x242000, x242001, wrap64 (x242002 + 1), x242003)) else (some (x6, x242000, x242001, x242002, x242003))))
def spec_DrawCheckReceipt.f (k : Nat) (l0 : List Int) : Option (Int × Int × Int × Int × Int) := (spec_l1Cur_secret.f l0 0 0).bind fun bt225 => ((spec_PublicFor.f k bt225.1).bind fun bt228 => ((spec_l1Cur_pick.f l0 bt225.2.1 bt225.2.2 4).bind fun bt230 => ((spec_l1Cur_pick.f l0 bt230.2.1 bt230.2.2 9).bind fun bt233 => ((spec_SignFor.f bt225.1 (wrap64 (bt230.1 - 1)) 0 bt233.1).bind fun bt236 => ((spec_l1Cur_pick.f l0 bt233.2.1 bt233.2.2 4).bind fun bt242 => ((spec_l1Cur_pick.f l0 bt242.2.1 bt242.2.2 9).bind fun bt245 => ((spec_SignFor.f bt225.1 (wrap64 (bt242.1 - 1)) (wrap64 ((wrap64 (bt242.1 - 1)) + 1)) bt245.1).bind fun bt248 => (if bt248.2.2.2.2 = true then (spec_DrawCheckReceipt.j0 k bt228.1 l0 bt245.2.1 bt245.2.2 bt248.1 bt248.2.1 bt248.2.2.1 bt248.2.2.2.1) else (spec_DrawCheckReceipt.j0 k bt228.1 l0 bt245.2.1 bt245.2.2 bt236.1 bt236.2.1 bt236.2.2.1 bt236.2.2.2.1)))))))))
theorem spec_DrawCheckReceipt.mono_l : ∀ k, (∀ y0 y1 y2 y3 y4 y5 y6 y7, LeO (spec_DrawCheckReceipt.j0 k y0 y1 y2 y3 y4 y5 y6 y7) (spec_DrawCheckReceipt.j0 (k + 1) y0 y1 y2 y3 y4 y5 y6 y7))
  | 0 => fun _ _ _ _ _ _ _ _ r h => by simp [spec_DrawCheckReceipt.j0] at h
  | k + 1 => by
    have ih0 := spec_DrawCheckReceipt.mono_l k
    · intro y0 y1 y2 y3 y4 y5 y6 y7
      unfold spec_DrawCheckReceipt.j0
      repeat' first
      | (with_reducible exact ih0 _ _ _ _ _ _ _ _)
      | (with_reducible exact spec_PublicFor.mono _ _)
      | (with_reducible exact LeO.refl _)
      | (with_reducible exact LeO.none _)
      | (with_reducible refine LeO.ite ?_ ?_)
      | (with_reducible refine LeO.bind ?_ (fun _ => ?_))
      | exact ih0 _ _ _ _ _ _ _ _
      | exact spec_PublicFor.mono _ _
      | exact LeO.none _
      | refine LeO.ite ?_ ?_
      | refine LeO.bind ?_ (fun _ => ?_)
theorem spec_DrawCheckReceipt.mono : ∀ a0 k, LeO (spec_DrawCheckReceipt.f k a0) (spec_DrawCheckReceipt.f (k + 1) a0) := by
  intro a0 k
  have ih0 := spec_DrawCheckReceipt.mono_l k
  unfold spec_DrawCheckReceipt.f
  repeat' first
      | (with_reducible exact ih0 _ _ _ _ _ _ _ _)
      | (with_reducible exact spec_PublicFor.mono _ _)
      | (with_reducible exact LeO.refl _)
      | (with_reducible exact LeO.none _)
      | (with_reducible refine LeO.ite ?_ ?_)
      | (with_reducible refine LeO.bind ?_ (fun _ => ?_))
      | exact ih0 _ _ _ _ _ _ _ _
      | exact spec_PublicFor.mono _ _
      | exact LeO.none _
      | refine LeO.ite ?_ ?_
      | refine LeO.bind ?_ (fun _ => ?_)
set_option maxHeartbeats 8000000 in
set_option maxRecDepth 100000 in
theorem spec_DrawCheckReceipt.calls (k : Nat) (A0 : Option Addr) (c0 : Nat) (l0 : List Int) (r1 : Int) (r2 : Int) (r3 : Int) (r4 : Int) (r5 : Int) (w : World) (hr0 : Kd.C (Kd.int .u8) w A0 l0.length l0) (hc0 : l0.length ≤ c0) (h : spec_DrawCheckReceipt.f k l0 = some (r1, r2, r3, r4, r5)) :
    Calls Try.prog 48 #[.slice A0 l0.length c0] w fun e w' => e = .returned (.tuple #[.int .i64 r1, .agg #[.int .i64 r2, .int .i64 r3, .int .i64 r4, .int .i64 r5]]) ∧ Below w.heap.size w w' := by
  have hu36 := Try.underlying36
  have hu101 := Try.underlying101
  have HR0 := Aside0.mk hr0
  have HC0 := Aside0.mk hc0
  clear hr0 hc0
  have HB := Aside0.mk (Below.refl w.heap.size w)
  have H : ((spec_l1Cur_secret.f l0 0 0).bind fun bt225 => ((spec_PublicFor.f k bt225.1).bind fun bt228 => ((spec_l1Cur_pick.f l0 bt225.2.1 bt225.2.2 4).bind fun bt230 => ((spec_l1Cur_pick.f l0 bt230.2.1 bt230.2.2 9).bind fun bt233 => ((spec_SignFor.f bt225.1 (wrap64 (bt230.1 - 1)) 0 bt233.1).bind fun bt236 => ((spec_l1Cur_pick.f l0 bt233.2.1 bt233.2.2 4).bind fun bt242 => ((spec_l1Cur_pick.f l0 bt242.2.1 bt242.2.2 9).bind fun bt245 => ((spec_SignFor.f bt225.1 (wrap64 (bt242.1 - 1)) (wrap64 ((wrap64 (bt242.1 - 1)) + 1)) bt245.1).bind fun bt248 => (if bt248.2.2.2.2 = true then (spec_DrawCheckReceipt.j0 k bt228.1 l0 bt245.2.1 bt245.2.2 bt248.1 bt248.2.1 bt248.2.2.1 bt248.2.2.2.1) else (spec_DrawCheckReceipt.j0 k bt228.1 l0 bt245.2.1 bt245.2.2 bt236.1 bt236.2.1 bt236.2.2.1 bt236.2.2.2.1)))))))))) = some (r1, r2, r3, r4, r5) := h
  clear h
  replace H := Option.bind_eq_some_iff.mp H
  obtain ⟨⟨t225, t226, t227⟩, A20, H⟩ := H
  replace H : ((spec_PublicFor.f k t225).bind fun bt228 => ((spec_l1Cur_pick.f l0 t226 t227 4).bind fun bt230 => ((spec_l1Cur_pick.f l0 bt230.2.1 bt230.2.2 9).bind fun bt233 => ((spec_SignFor.f t225 (wrap64 (bt230.1 - 1)) 0 bt233.1).bind fun bt236 => ((spec_l1Cur_pick.f l0 bt233.2.1 bt233.2.2 4).bind fun bt242 => ((spec_l1Cur_pick.f l0 bt242.2.1 bt242.2.2 9).bind fun bt245 => ((spec_SignFor.f t225 (wrap64 (bt242.1 - 1)) (wrap64 ((wrap64 (bt242.1 - 1)) + 1)) bt245.1).bind fun bt248 => (if bt248.2.2.2.2 = true then (spec_DrawCheckReceipt.j0 k bt228.1 l0 bt245.2.1 bt245.2.2 bt248.1 bt248.2.1 bt248.2.2.1 bt248.2.2.2.1) else (spec_DrawCheckReceipt.j0 k bt228.1 l0 bt245.2.1 bt245.2.2 bt236.1 bt236.2.1 bt236.2.2.1 bt236.2.2.2.1))))))))) = some (r1, r2, r3, r4, r5) := H
  have A2 := Aside0.mk A20
  clear A20
  replace H := Option.bind_eq_some_iff.mp H
  obtain ⟨⟨t228, t229⟩, A30, H⟩ := H
  replace H : ((spec_l1Cur_pick.f l0 t226 t227 4).bind fun bt230 => ((spec_l1Cur_pick.f l0 bt230.2.1 bt230.2.2 9).bind fun bt233 => ((spec_SignFor.f t225 (wrap64 (bt230.1 - 1)) 0 bt233.1).bind fun bt236 => ((spec_l1Cur_pick.f l0 bt233.2.1 bt233.2.2 4).bind fun bt242 => ((spec_l1Cur_pick.f l0 bt242.2.1 bt242.2.2 9).bind fun bt245 => ((spec_SignFor.f t225 (wrap64 (bt242.1 - 1)) (wrap64 ((wrap64 (bt242.1 - 1)) + 1)) bt245.1).bind fun bt248 => (if bt248.2.2.2.2 = true then (spec_DrawCheckReceipt.j0 k t228 l0 bt245.2.1 bt245.2.2 bt248.1 bt248.2.1 bt248.2.2.1 bt248.2.2.2.1) else (spec_DrawCheckReceipt.j0 k t228 l0 bt245.2.1 bt245.2.2 bt236.1 bt236.2.1 bt236.2.2.1 bt236.2.2.2.1)))))))) = some (r1, r2, r3, r4, r5) := H
  have A3 := Aside0.mk A30
  clear A30
  replace H := Option.bind_eq_some_iff.mp H
  obtain ⟨⟨t230, t231, t232⟩, A40, H⟩ := H
  replace H : ((spec_l1Cur_pick.f l0 t231 t232 9).bind fun bt233 => ((spec_SignFor.f t225 (wrap64 (t230 - 1)) 0 bt233.1).bind fun bt236 => ((spec_l1Cur_pick.f l0 bt233.2.1 bt233.2.2 4).bind fun bt242 => ((spec_l1Cur_pick.f l0 bt242.2.1 bt242.2.2 9).bind fun bt245 => ((spec_SignFor.f t225 (wrap64 (bt242.1 - 1)) (wrap64 ((wrap64 (bt242.1 - 1)) + 1)) bt245.1).bind fun bt248 => (if bt248.2.2.2.2 = true then (spec_DrawCheckReceipt.j0 k t228 l0 bt245.2.1 bt245.2.2 bt248.1 bt248.2.1 bt248.2.2.1 bt248.2.2.2.1) else (spec_DrawCheckReceipt.j0 k t228 l0 bt245.2.1 bt245.2.2 bt236.1 bt236.2.1 bt236.2.2.1 bt236.2.2.2.1))))))) = some (r1, r2, r3, r4, r5) := H
  have A4 := Aside0.mk A40
  clear A40
  replace H := Option.bind_eq_some_iff.mp H
  obtain ⟨⟨t233, t234, t235⟩, A50, H⟩ := H
  replace H : ((spec_SignFor.f t225 (wrap64 (t230 - 1)) 0 t233).bind fun bt236 => ((spec_l1Cur_pick.f l0 t234 t235 4).bind fun bt242 => ((spec_l1Cur_pick.f l0 bt242.2.1 bt242.2.2 9).bind fun bt245 => ((spec_SignFor.f t225 (wrap64 (bt242.1 - 1)) (wrap64 ((wrap64 (bt242.1 - 1)) + 1)) bt245.1).bind fun bt248 => (if bt248.2.2.2.2 = true then (spec_DrawCheckReceipt.j0 k t228 l0 bt245.2.1 bt245.2.2 bt248.1 bt248.2.1 bt248.2.2.1 bt248.2.2.2.1) else (spec_DrawCheckReceipt.j0 k t228 l0 bt245.2.1 bt245.2.2 bt236.1 bt236.2.1 bt236.2.2.1 bt236.2.2.2.1)))))) = some (r1, r2, r3, r4, r5) := H
  have A5 := Aside0.mk A50
  clear A50
  replace H := Option.bind_eq_some_iff.mp H
  obtain ⟨⟨t236, t237, t238, t239, t240⟩, A60, H⟩ := H
  replace H : ((spec_l1Cur_pick.f l0 t234 t235 4).bind fun bt242 => ((spec_l1Cur_pick.f l0 bt242.2.1 bt242.2.2 9).bind fun bt245 => ((spec_SignFor.f t225 (wrap64 (bt242.1 - 1)) (wrap64 ((wrap64 (bt242.1 - 1)) + 1)) bt245.1).bind fun bt248 => (if bt248.2.2.2.2 = true then (spec_DrawCheckReceipt.j0 k t228 l0 bt245.2.1 bt245.2.2 bt248.1 bt248.2.1 bt248.2.2.1 bt248.2.2.2.1) else (spec_DrawCheckReceipt.j0 k t228 l0 bt245.2.1 bt245.2.2 t236 t237 t238 t239))))) = some (r1, r2, r3, r4, r5) := H
  have A6 := Aside0.mk A60
  clear A60
  replace H := Option.bind_eq_some_iff.mp H
  obtain ⟨⟨t242, t243, t244⟩, A70, H⟩ := H
  replace H : ((spec_l1Cur_pick.f l0 t243 t244 9).bind fun bt245 => ((spec_SignFor.f t225 (wrap64 (t242 - 1)) (wrap64 ((wrap64 (t242 - 1)) + 1)) bt245.1).bind fun bt248 => (if bt248.2.2.2.2 = true then (spec_DrawCheckReceipt.j0 k t228 l0 bt245.2.1 bt245.2.2 bt248.1 bt248.2.1 bt248.2.2.1 bt248.2.2.2.1) else (spec_DrawCheckReceipt.j0 k t228 l0 bt245.2.1 bt245.2.2 t236 t237 t238 t239)))) = some (r1, r2, r3, r4, r5) := H
  have A7 := Aside0.mk A70
  clear A70
  replace H := Option.bind_eq_some_iff.mp H
  obtain ⟨⟨t245, t246, t247⟩, A80, H⟩ := H
  replace H : ((spec_SignFor.f t225 (wrap64 (t242 - 1)) (wrap64 ((wrap64 (t242 - 1)) + 1)) t245).bind fun bt248 => (if bt248.2.2.2.2 = true then (spec_DrawCheckReceipt.j0 k t228 l0 t246 t247 bt248.1 bt248.2.1 bt248.2.2.1 bt248.2.2.2.1) else (spec_DrawCheckReceipt.j0 k t228 l0 t246 t247 t236 t237 t238 t239))) = some (r1, r2, r3, r4, r5) := H
  have A8 := Aside0.mk A80
  clear A80
  replace H := Option.bind_eq_some_iff.mp H
  obtain ⟨⟨t248, t249, t250, t251, t252⟩, A90, H⟩ := H
  replace H : (if t252 = true then (spec_DrawCheckReceipt.j0 k t228 l0 t246 t247 t248 t249 t250 t251) else (spec_DrawCheckReceipt.j0 k t228 l0 t246 t247 t236 t237 t238 t239)) = some (r1, r2, r3, r4, r5) := H
  have A9 := Aside0.mk A90
  clear A90
  have HC10 := Aside0.mk H
  clear H
  go_enter Try.func48, Try.ntmps48
  go_upto_if 46 with (first | ((with_reducible refine gate_dst (N := 3) rfl ?_); refine box_event ?hg (N := 3) ?hd (cs := #[.int .i64 0, .int .i64 0, .int .i64 0, .int .i64 0]) (t := 36) ?hr ?_; (case hd => rfl); (case hg => rfl); (case hr => first | (go_simp; done) | (go_simp; rfl)); intro gb223 hg w11 hbox hb; have n0_ := Aside0.mk (below_step (by repeat (first | (with_reducible first | exact HB.out | apply below_alloc | apply pw_below_drewN | apply below_drew1) | exact HB.out)) hb); have n1_ := Aside0.mk (hbox); have n2_ := Aside0.mk ((by rw [hg]; exact (below_size (by repeat (first | (with_reducible first | exact HB.out | apply below_alloc | apply pw_below_drewN | apply below_drew1) | exact HB.out))) : w.heap.size ≤ gb223)); have n3_ := Aside0.mk ((by rw [hg]; exact (below_size (by repeat (first | (with_reducible first | exact HB.out | apply below_alloc | apply pw_below_drewN | apply below_drew1) | exact HB.out))) : w.heap.size ≤ gb223)); clear HB; have HB := n0_; have BK223 := n1_; have GW223 := n2_; have GE223 := n3_; clear n0_ n1_ n2_ n3_; clear hb hbox hg) | ((with_reducible refine gate_dst (N := 15) rfl ?_); refine box_event ?hg (N := 15) ?hd (cs := #[.slice A0 l0.length c0, .int .i64 0, .int .u64 0]) (t := 101) ?hr ?_; (case hd => rfl); (case hg => rfl); (case hr => first | (go_simp; done) | (go_simp; rfl)); intro gb224 hg w12 hbox hb; have n0_ := Aside0.mk (blk_below (g := gb223) (o := .cells #[.int .i64 0, .int .i64 0, .int .i64 0, .int .i64 0] 36 (0, 0)) (by (with_reducible repeat (first | refine blk_drewN ?_ _ | refine blk_drew ?_ | refine blk_alloc ?_ _)); exact BK223.out) hb); have n1_ := Aside0.mk (below_step (by repeat (first | (with_reducible first | exact HB.out | apply below_alloc | apply pw_below_drewN | apply below_drew1 | refine below_set ?_ GE223.out) | exact HB.out)) hb); have n2_ := Aside0.mk ((show IsS101 w w12 gb224 l0 0 0 from ⟨_, _, hbox, (by rw [hg]; exact (below_size (by repeat (first | (with_reducible first | exact HB.out | apply below_alloc | apply pw_below_drewN | apply below_drew1 | refine below_set ?_ GE223.out) | exact HB.out))) : w.heap.size ≤ gb224), HR0.out⟩)); have n3_ := Aside0.mk ((by rw [hg]; exact Nat.ne_of_lt (blk_lt (g := gb223) (o := .cells #[.int .i64 0, .int .i64 0, .int .i64 0, .int .i64 0] 36 (0, 0)) (by (with_reducible repeat (first | refine blk_drewN ?_ _ | refine blk_drew ?_ | refine blk_alloc ?_ _)); exact BK223.out)) : gb223 ≠ gb224)); have n4_ := Aside0.mk ((by rw [hg]; exact Nat.ne_of_gt (blk_lt (g := gb223) (o := .cells #[.int .i64 0, .int .i64 0, .int .i64 0, .int .i64 0] 36 (0, 0)) (by (with_reducible repeat (first | refine blk_drewN ?_ _ | refine blk_drew ?_ | refine blk_alloc ?_ _)); exact BK223.out)) : gb224 ≠ gb223)); clear BK223; clear HB; have BK223 := n0_; have HB := n1_; have HI224 := n2_; have NB223_224 := n3_; have NB224_223 := n4_; clear n0_ n1_ n2_ n3_ n4_; clear hb hbox hg) | ((with_reducible refine gate_callee (f := 82) rfl ?_); refine goesL_ (some 17) rfl rfl Try.func82 (by kernel_rfl) rfl #[.pointer (some ⟨gb224, 0, none⟩)] rfl (by (try simp only [List.map_toArray, List.map_cons, List.map_nil]); first | done | rfl | (simp only [List.length_drop, List.length_take]; rfl)) ?_; (with_reducible refine (spec_l1Cur_secret.calls gb224 l0 0 0 t225 t226 t227 w _ ?side1 ?side2 A2.out).mono ?_); (case side1 => first | ((repeat (first | (with_reducible first | exact HI224.out | apply IsS101.alloc | apply IsS101.drewN | apply IsS101.drew | apply IsS101.set_1 | apply IsS101.set_2 | refine IsS101.far ?_ NB224_223.out _) | exact HI224.out)); done) | (simp only [Int.add_zero]; repeat (first | (with_reducible first | exact HI224.out | apply IsS101.alloc | apply IsS101.drewN | apply IsS101.drew | apply IsS101.set_1 | apply IsS101.set_2 | refine IsS101.far ?_ NB224_223.out _) | exact HI224.out))); (case side2 => repeat (first | (with_reducible first | exact HB.out | apply below_alloc | apply pw_below_drewN | apply below_drew1 | refine below_set ?_ (IsS101.ge HI224.out) | refine below_set ?_ GE223.out) | exact HB.out)); rintro e w13 ⟨rfl, hi, hb, hk⟩; refine ⟨_, rfl, ?_⟩; have n0_ := Aside0.mk (KeepBut.blk hk (g' := gb223) (o := .cells #[.int .i64 0, .int .i64 0, .int .i64 0, .int .i64 0] 36 (0, 0)) (by (with_reducible repeat (first | refine blk_drewN ?_ _ | refine blk_drew ?_ | refine blk_alloc ?_ _)); exact BK223.out) NB223_224.out (by simp)); have n1_ := Aside0.mk (hb); have n2_ := Aside0.mk (hi); clear BK223; clear HB; clear HI224; have BK223 := n0_; have HB := n1_; have HI224 := n2_; clear n0_ n1_ n2_; (try clear hb); (try clear hb2); (try clear hk); (try clear hi)) | ((with_reducible refine gate_callee (f := 87) rfl ?_); refine goesL_ (some 20) rfl rfl Try.func87 (by kernel_rfl) rfl #[.int .i64 t225] rfl (by (try simp only [List.map_toArray, List.map_cons, List.map_nil]); first | done | rfl | (simp only [List.length_drop, List.length_take]; rfl)) ?_; (with_reducible refine (spec_PublicFor.calls k t225 t228 t229 _ A3.out).mono ?_); rintro e w' ⟨rfl, ⟨nd, rfl⟩⟩; refine ⟨_, rfl, ?_⟩; (try (rw [drewN_self w13]; generalize hq_ : World.drewN w13 _ = w13; have n0_ : Aside0 (w13.heap[gb223]? = some (.cells #[.int .i64 0, .int .i64 0, .int .i64 0, .int .i64 0] 36 (0, 0))) := ⟨by rw [← hq_]; exact (by (with_reducible repeat (first | refine blk_drewN ?_ _ | refine blk_drew ?_ | refine blk_alloc ?_ _)); exact BK223.out)⟩; have n1_ : Aside0 (IsS101 w w13 gb224 l0 t226 t227) := ⟨by rw [← hq_]; exact (by first | ((repeat (first | (with_reducible first | exact HI224.out | apply IsS101.alloc | apply IsS101.drewN | apply IsS101.drew | apply IsS101.set_1 | apply IsS101.set_2 | refine IsS101.far ?_ NB224_223.out _) | exact HI224.out)); done) | (simp only [Int.add_zero]; repeat (first | (with_reducible first | exact HI224.out | apply IsS101.alloc | apply IsS101.drewN | apply IsS101.drew | apply IsS101.set_1 | apply IsS101.set_2 | refine IsS101.far ?_ NB224_223.out _) | exact HI224.out)))⟩; have n2_ : Aside0 (Below w.heap.size w w13) := ⟨by rw [← hq_]; exact (by repeat (first | (with_reducible first | exact HB.out | apply below_alloc | apply pw_below_drewN | apply below_drew1 | refine below_set ?_ (IsS101.ge HI224.out) | refine below_set ?_ GE223.out) | exact HB.out))⟩; clear BK223 HI224 HB hq_; have BK223 := n0_; have HI224 := n1_; have HB := n2_; clear n0_ n1_ n2_))) | ((with_reducible refine gate_callee (f := 81) rfl ?_); refine goesL_ (some 26) rfl rfl Try.func81 (by kernel_rfl) rfl #[.pointer (some ⟨gb224, 0, none⟩), .int .i64 4] rfl (by (try simp only [List.map_toArray, List.map_cons, List.map_nil]); first | done | rfl | (simp only [List.length_drop, List.length_take]; rfl)) ?_; (with_reducible refine (spec_l1Cur_pick.calls gb224 l0 t226 t227 4 t230 t231 t232 w _ ?side1 ?side2 A4.out).mono ?_); (case side1 => first | ((repeat (first | (with_reducible first | exact HI224.out | apply IsS101.alloc | apply IsS101.drewN | apply IsS101.drew | apply IsS101.set_1 | apply IsS101.set_2 | refine IsS101.far ?_ NB224_223.out _) | exact HI224.out)); done) | (simp only [Int.add_zero]; repeat (first | (with_reducible first | exact HI224.out | apply IsS101.alloc | apply IsS101.drewN | apply IsS101.drew | apply IsS101.set_1 | apply IsS101.set_2 | refine IsS101.far ?_ NB224_223.out _) | exact HI224.out))); (case side2 => repeat (first | (with_reducible first | exact HB.out | apply below_alloc | apply pw_below_drewN | apply below_drew1 | refine below_set ?_ (IsS101.ge HI224.out) | refine below_set ?_ GE223.out) | exact HB.out)); rintro e w14 ⟨rfl, hi, hb, hk⟩; refine ⟨_, rfl, ?_⟩; have n0_ := Aside0.mk (KeepBut.blk hk (g' := gb223) (o := .cells #[.int .i64 0, .int .i64 0, .int .i64 0, .int .i64 0] 36 (0, 0)) (by (with_reducible repeat (first | refine blk_drewN ?_ _ | refine blk_drew ?_ | refine blk_alloc ?_ _)); exact BK223.out) NB223_224.out (by simp)); have n1_ := Aside0.mk (hb); have n2_ := Aside0.mk (hi); clear BK223; clear HB; clear HI224; have BK223 := n0_; have HB := n1_; have HI224 := n2_; clear n0_ n1_ n2_; (try clear hb); (try clear hb2); (try clear hk); (try clear hi)) | ((with_reducible refine gate_callee (f := 81) rfl ?_); refine goesL_ (some 29) rfl rfl Try.func81 (by kernel_rfl) rfl #[.pointer (some ⟨gb224, 0, none⟩), .int .i64 9] rfl (by (try simp only [List.map_toArray, List.map_cons, List.map_nil]); first | done | rfl | (simp only [List.length_drop, List.length_take]; rfl)) ?_; (with_reducible refine (spec_l1Cur_pick.calls gb224 l0 t231 t232 9 t233 t234 t235 w _ ?side1 ?side2 A5.out).mono ?_); (case side1 => first | ((repeat (first | (with_reducible first | exact HI224.out | apply IsS101.alloc | apply IsS101.drewN | apply IsS101.drew | apply IsS101.set_1 | apply IsS101.set_2 | refine IsS101.far ?_ NB224_223.out _) | exact HI224.out)); done) | (simp only [Int.add_zero]; repeat (first | (with_reducible first | exact HI224.out | apply IsS101.alloc | apply IsS101.drewN | apply IsS101.drew | apply IsS101.set_1 | apply IsS101.set_2 | refine IsS101.far ?_ NB224_223.out _) | exact HI224.out))); (case side2 => repeat (first | (with_reducible first | exact HB.out | apply below_alloc | apply pw_below_drewN | apply below_drew1 | refine below_set ?_ (IsS101.ge HI224.out) | refine below_set ?_ GE223.out) | exact HB.out)); rintro e w15 ⟨rfl, hi, hb, hk⟩; refine ⟨_, rfl, ?_⟩; have n0_ := Aside0.mk (KeepBut.blk hk (g' := gb223) (o := .cells #[.int .i64 0, .int .i64 0, .int .i64 0, .int .i64 0] 36 (0, 0)) (by (with_reducible repeat (first | refine blk_drewN ?_ _ | refine blk_drew ?_ | refine blk_alloc ?_ _)); exact BK223.out) NB223_224.out (by simp)); have n1_ := Aside0.mk (hb); have n2_ := Aside0.mk (hi); clear BK223; clear HB; clear HI224; have BK223 := n0_; have HB := n1_; have HI224 := n2_; clear n0_ n1_ n2_; (try clear hb); (try clear hb2); (try clear hk); (try clear hi)) | ((with_reducible refine gate_callee (f := 45) rfl ?_); refine goesL_ (some 30) rfl rfl Try.func45 (by kernel_rfl) rfl #[.int .i64 t225, .int .i64 (wrap64 (t230 - 1)), .int .i64 0, .int .i64 t233] rfl (by (try simp only [List.map_toArray, List.map_cons, List.map_nil]); first | done | rfl | (simp only [List.length_drop, List.length_take]; rfl)) ?_; (with_reducible refine (spec_SignFor.calls t225 (wrap64 (t230 - 1)) 0 t233 t236 t237 t238 t239 t240 _ A6.out).mono ?_); rintro e w16 ⟨rfl, hb⟩; refine ⟨_, rfl, ?_⟩; have n0_ := Aside0.mk (blk_below (g := gb223) (o := .cells #[.int .i64 0, .int .i64 0, .int .i64 0, .int .i64 0] 36 (0, 0)) (by (with_reducible repeat (first | refine blk_drewN ?_ _ | refine blk_drew ?_ | refine blk_alloc ?_ _)); exact BK223.out) hb); have n1_ := Aside0.mk (IsS101.below (by first | ((repeat (first | (with_reducible first | exact HI224.out | apply IsS101.alloc | apply IsS101.drewN | apply IsS101.drew | apply IsS101.set_1 | apply IsS101.set_2 | refine IsS101.far ?_ NB224_223.out _) | exact HI224.out)); done) | (simp only [Int.add_zero]; repeat (first | (with_reducible first | exact HI224.out | apply IsS101.alloc | apply IsS101.drewN | apply IsS101.drew | apply IsS101.set_1 | apply IsS101.set_2 | refine IsS101.far ?_ NB224_223.out _) | exact HI224.out))) hb); have n2_ := Aside0.mk (below_step (by repeat (first | (with_reducible first | exact HB.out | apply below_alloc | apply pw_below_drewN | apply below_drew1 | refine below_set ?_ (IsS101.ge HI224.out) | refine below_set ?_ GE223.out) | exact HB.out)) hb); clear BK223; clear HI224; clear HB; have BK223 := n0_; have HI224 := n1_; have HB := n2_; clear n0_ n1_ n2_; (try clear hb); (try clear hb2); (try clear hk); (try clear hi)) | ((with_reducible refine gate_dst (N := 8) rfl ?_); refine box_event ?hg (N := 8) ?hd (cs := #[.int .i64 0, .int .i64 0, .int .i64 0, .int .i64 0]) (t := 36) ?hr ?_; (case hd => rfl); (case hg => rfl); (case hr => first | (go_simp; done) | (go_simp; rfl)); intro gb241 hg w17 hbox hb; have n0_ := Aside0.mk (blk_below (g := gb223) (o := .cells #[.int .i64 0, .int .i64 0, .int .i64 0, .int .i64 0] 36 (0, 0)) (by (with_reducible repeat (first | refine blk_drewN ?_ _ | refine blk_drew ?_ | refine blk_alloc ?_ _)); exact BK223.out) hb); have n1_ := Aside0.mk (IsS101.below (by first | ((repeat (first | (with_reducible first | exact HI224.out | apply IsS101.alloc | apply IsS101.drewN | apply IsS101.drew | apply IsS101.set_1 | apply IsS101.set_2 | refine IsS101.far ?_ NB224_223.out _) | exact HI224.out)); done) | (simp only [Int.add_zero]; repeat (first | (with_reducible first | exact HI224.out | apply IsS101.alloc | apply IsS101.drewN | apply IsS101.drew | apply IsS101.set_1 | apply IsS101.set_2 | refine IsS101.far ?_ NB224_223.out _) | exact HI224.out))) hb); have n2_ := Aside0.mk (below_step (by repeat (first | (with_reducible first | exact HB.out | apply below_alloc | apply pw_below_drewN | apply below_drew1 | refine below_set ?_ (IsS101.ge HI224.out) | refine below_set ?_ GE223.out) | exact HB.out)) hb); have n3_ := Aside0.mk (hbox); have n4_ := Aside0.mk ((by rw [hg]; exact (below_size (by repeat (first | (with_reducible first | exact HB.out | apply below_alloc | apply pw_below_drewN | apply below_drew1 | refine below_set ?_ (IsS101.ge HI224.out) | refine below_set ?_ GE223.out) | exact HB.out))) : w.heap.size ≤ gb241)); have n5_ := Aside0.mk ((by rw [hg]; exact (below_size (by repeat (first | (with_reducible first | exact HB.out | apply below_alloc | apply pw_below_drewN | apply below_drew1 | refine below_set ?_ (IsS101.ge HI224.out) | refine below_set ?_ GE223.out) | exact HB.out))) : w.heap.size ≤ gb241)); have n6_ := Aside0.mk ((by rw [hg]; exact Nat.ne_of_lt (blk_lt (g := gb223) (o := .cells #[.int .i64 0, .int .i64 0, .int .i64 0, .int .i64 0] 36 (0, 0)) (by (with_reducible repeat (first | refine blk_drewN ?_ _ | refine blk_drew ?_ | refine blk_alloc ?_ _)); exact BK223.out)) : gb223 ≠ gb241)); have n7_ := Aside0.mk ((by rw [hg]; exact Nat.ne_of_gt (blk_lt (g := gb223) (o := .cells #[.int .i64 0, .int .i64 0, .int .i64 0, .int .i64 0] 36 (0, 0)) (by (with_reducible repeat (first | refine blk_drewN ?_ _ | refine blk_drew ?_ | refine blk_alloc ?_ _)); exact BK223.out)) : gb241 ≠ gb223)); have n8_ := Aside0.mk ((by rw [hg]; exact Nat.ne_of_lt (IsS101.lt (show IsS101 w _ gb224 l0 t234 t235 from by first | ((repeat (first | (with_reducible first | exact HI224.out | apply IsS101.alloc | apply IsS101.drewN | apply IsS101.drew | apply IsS101.set_1 | apply IsS101.set_2 | refine IsS101.far ?_ NB224_223.out _) | exact HI224.out)); done) | (simp only [Int.add_zero]; repeat (first | (with_reducible first | exact HI224.out | apply IsS101.alloc | apply IsS101.drewN | apply IsS101.drew | apply IsS101.set_1 | apply IsS101.set_2 | refine IsS101.far ?_ NB224_223.out _) | exact HI224.out)))) : gb224 ≠ gb241)); have n9_ := Aside0.mk ((by rw [hg]; exact Nat.ne_of_gt (IsS101.lt (show IsS101 w _ gb224 l0 t234 t235 from by first | ((repeat (first | (with_reducible first | exact HI224.out | apply IsS101.alloc | apply IsS101.drewN | apply IsS101.drew | apply IsS101.set_1 | apply IsS101.set_2 | refine IsS101.far ?_ NB224_223.out _) | exact HI224.out)); done) | (simp only [Int.add_zero]; repeat (first | (with_reducible first | exact HI224.out | apply IsS101.alloc | apply IsS101.drewN | apply IsS101.drew | apply IsS101.set_1 | apply IsS101.set_2 | refine IsS101.far ?_ NB224_223.out _) | exact HI224.out)))) : gb241 ≠ gb224)); clear BK223; clear HI224; clear HB; have BK223 := n0_; have HI224 := n1_; have HB := n2_; have BK241 := n3_; have GW241 := n4_; have GE241 := n5_; have NB223_241 := n6_; have NB241_223 := n7_; have NB224_241 := n8_; have NB241_224 := n9_; clear n0_ n1_ n2_ n3_ n4_ n5_ n6_ n7_ n8_ n9_; clear hb hbox hg; have hnb18 := NB241_223.out; have hnc18 := NB223_241.out; have hnb19 := NB241_224.out; have hnc19 := NB224_241.out; have hcz20_0 : w17.cell? ⟨gb241, 0, none⟩ = some (.int .i64 0) := (blk_cell BK241.out 0).trans rfl; have hcz20_1 : w17.cell? ⟨gb241, 1, none⟩ = some (.int .i64 0) := (blk_cell BK241.out 1).trans rfl; have hcz20_2 : w17.cell? ⟨gb241, 2, none⟩ = some (.int .i64 0) := (blk_cell BK241.out 2).trans rfl; have hcz20_3 : w17.cell? ⟨gb241, 3, none⟩ = some (.int .i64 0) := (blk_cell BK241.out 3).trans rfl; have hfz20_0 := blk_frozen BK241.out 0; have hfz20_1 := blk_frozen BK241.out 1; have hfz20_2 := blk_frozen BK241.out 2; have hfz20_3 := blk_frozen BK241.out 3) | ((with_reducible refine gate_callee (f := 81) rfl ?_); refine goesL_ (some 34) rfl rfl Try.func81 (by kernel_rfl) rfl #[.pointer (some ⟨gb224, 0, none⟩), .int .i64 4] rfl (by (try simp only [List.map_toArray, List.map_cons, List.map_nil]); first | done | rfl | (simp only [List.length_drop, List.length_take]; rfl)) ?_; (with_reducible refine (spec_l1Cur_pick.calls gb224 l0 t234 t235 4 t242 t243 t244 w _ ?side1 ?side2 A7.out).mono ?_); (case side1 => first | ((repeat (first | (with_reducible first | exact HI224.out | apply IsS101.alloc | apply IsS101.drewN | apply IsS101.drew | apply IsS101.set_1 | apply IsS101.set_2 | refine IsS101.far ?_ NB224_223.out _ | refine IsS101.far ?_ NB224_241.out _) | exact HI224.out)); done) | (simp only [Int.add_zero]; repeat (first | (with_reducible first | exact HI224.out | apply IsS101.alloc | apply IsS101.drewN | apply IsS101.drew | apply IsS101.set_1 | apply IsS101.set_2 | refine IsS101.far ?_ NB224_223.out _ | refine IsS101.far ?_ NB224_241.out _) | exact HI224.out))); (case side2 => repeat (first | (with_reducible first | exact HB.out | apply below_alloc | apply pw_below_drewN | apply below_drew1 | refine below_set ?_ (IsS101.ge HI224.out) | refine below_set ?_ GE223.out | refine below_set ?_ GE241.out) | exact HB.out)); rintro e w21 ⟨rfl, hi, hb, hk⟩; refine ⟨_, rfl, ?_⟩; have n0_ := Aside0.mk (KeepBut.blk hk (g' := gb223) (o := .cells #[.int .i64 0, .int .i64 0, .int .i64 0, .int .i64 0] 36 (0, 0)) (by (with_reducible repeat (first | refine blk_drewN ?_ _ | refine blk_drew ?_ | refine blk_alloc ?_ _)); refine blk_far ?_ NB223_241.out _; (with_reducible repeat (first | refine blk_drewN ?_ _ | refine blk_drew ?_ | refine blk_alloc ?_ _)); refine blk_far ?_ NB223_241.out _; (with_reducible repeat (first | refine blk_drewN ?_ _ | refine blk_drew ?_ | refine blk_alloc ?_ _)); refine blk_far ?_ NB223_241.out _; (with_reducible repeat (first | refine blk_drewN ?_ _ | refine blk_drew ?_ | refine blk_alloc ?_ _)); refine blk_far ?_ NB223_241.out _; (with_reducible repeat (first | refine blk_drewN ?_ _ | refine blk_drew ?_ | refine blk_alloc ?_ _)); exact BK223.out) NB223_224.out (by simp)); have n1_ := Aside0.mk (KeepBut.blk hk (g' := gb241) (o := .cells #[.int .i64 t236, .int .i64 t237, .int .i64 t238, .int .i64 t239] 36 (0, 0)) (by (with_reducible repeat (first | refine blk_drewN ?_ _ | refine blk_drew ?_ | refine blk_alloc ?_ _)); refine blk_put (cs := #[.int .i64 t236, .int .i64 t237, .int .i64 t238, .int .i64 0]) ?_ 3 _ rfl; (with_reducible repeat (first | refine blk_drewN ?_ _ | refine blk_drew ?_ | refine blk_alloc ?_ _)); refine blk_put (cs := #[.int .i64 t236, .int .i64 t237, .int .i64 0, .int .i64 0]) ?_ 2 _ rfl; (with_reducible repeat (first | refine blk_drewN ?_ _ | refine blk_drew ?_ | refine blk_alloc ?_ _)); refine blk_put (cs := #[.int .i64 t236, .int .i64 0, .int .i64 0, .int .i64 0]) ?_ 1 _ rfl; (with_reducible repeat (first | refine blk_drewN ?_ _ | refine blk_drew ?_ | refine blk_alloc ?_ _)); refine blk_put (cs := #[.int .i64 0, .int .i64 0, .int .i64 0, .int .i64 0]) ?_ 0 _ rfl; (with_reducible repeat (first | refine blk_drewN ?_ _ | refine blk_drew ?_ | refine blk_alloc ?_ _)); exact BK241.out) NB241_224.out (by simp)); have n2_ := Aside0.mk (hb); have n3_ := Aside0.mk (hi); clear BK223; clear BK241; clear HB; clear HI224; have BK223 := n0_; have BK241 := n1_; have HB := n2_; have HI224 := n3_; clear n0_ n1_ n2_ n3_; (try clear hb); (try clear hb2); (try clear hk); (try clear hi)) | ((with_reducible refine gate_callee (f := 81) rfl ?_); refine goesL_ (some 42) rfl rfl Try.func81 (by kernel_rfl) rfl #[.pointer (some ⟨gb224, 0, none⟩), .int .i64 9] rfl (by (try simp only [List.map_toArray, List.map_cons, List.map_nil]); first | done | rfl | (simp only [List.length_drop, List.length_take]; rfl)) ?_; (with_reducible refine (spec_l1Cur_pick.calls gb224 l0 t243 t244 9 t245 t246 t247 w _ ?side1 ?side2 A8.out).mono ?_); (case side1 => first | ((repeat (first | (with_reducible first | exact HI224.out | apply IsS101.alloc | apply IsS101.drewN | apply IsS101.drew | apply IsS101.set_1 | apply IsS101.set_2 | refine IsS101.far ?_ NB224_223.out _ | refine IsS101.far ?_ NB224_241.out _) | exact HI224.out)); done) | (simp only [Int.add_zero]; repeat (first | (with_reducible first | exact HI224.out | apply IsS101.alloc | apply IsS101.drewN | apply IsS101.drew | apply IsS101.set_1 | apply IsS101.set_2 | refine IsS101.far ?_ NB224_223.out _ | refine IsS101.far ?_ NB224_241.out _) | exact HI224.out))); (case side2 => repeat (first | (with_reducible first | exact HB.out | apply below_alloc | apply pw_below_drewN | apply below_drew1 | refine below_set ?_ (IsS101.ge HI224.out) | refine below_set ?_ GE223.out | refine below_set ?_ GE241.out) | exact HB.out)); rintro e w22 ⟨rfl, hi, hb, hk⟩; refine ⟨_, rfl, ?_⟩; have n0_ := Aside0.mk (KeepBut.blk hk (g' := gb223) (o := .cells #[.int .i64 0, .int .i64 0, .int .i64 0, .int .i64 0] 36 (0, 0)) (by (with_reducible repeat (first | refine blk_drewN ?_ _ | refine blk_drew ?_ | refine blk_alloc ?_ _)); exact BK223.out) NB223_224.out (by simp)); have n1_ := Aside0.mk (KeepBut.blk hk (g' := gb241) (o := .cells #[.int .i64 t236, .int .i64 t237, .int .i64 t238, .int .i64 t239] 36 (0, 0)) (by (with_reducible repeat (first | refine blk_drewN ?_ _ | refine blk_drew ?_ | refine blk_alloc ?_ _)); exact BK241.out) NB241_224.out (by simp)); have n2_ := Aside0.mk (hb); have n3_ := Aside0.mk (hi); clear BK223; clear BK241; clear HB; clear HI224; have BK223 := n0_; have BK241 := n1_; have HB := n2_; have HI224 := n3_; clear n0_ n1_ n2_ n3_; (try clear hb); (try clear hb2); (try clear hk); (try clear hi)) | ((with_reducible refine gate_callee (f := 45) rfl ?_); refine goesL_ (some 43) rfl rfl Try.func45 (by kernel_rfl) rfl #[.int .i64 t225, .int .i64 (wrap64 (t242 - 1)), .int .i64 (wrap64 ((wrap64 (t242 - 1)) + 1)), .int .i64 t245] rfl (by (try simp only [List.map_toArray, List.map_cons, List.map_nil]); first | done | rfl | (simp only [List.length_drop, List.length_take]; rfl)) ?_; (with_reducible refine (spec_SignFor.calls t225 (wrap64 (t242 - 1)) (wrap64 ((wrap64 (t242 - 1)) + 1)) t245 t248 t249 t250 t251 t252 _ A9.out).mono ?_); rintro e w23 ⟨rfl, hb⟩; refine ⟨_, rfl, ?_⟩; have n0_ := Aside0.mk (blk_below (g := gb223) (o := .cells #[.int .i64 0, .int .i64 0, .int .i64 0, .int .i64 0] 36 (0, 0)) (by (with_reducible repeat (first | refine blk_drewN ?_ _ | refine blk_drew ?_ | refine blk_alloc ?_ _)); exact BK223.out) hb); have n1_ := Aside0.mk (IsS101.below (by first | ((repeat (first | (with_reducible first | exact HI224.out | apply IsS101.alloc | apply IsS101.drewN | apply IsS101.drew | apply IsS101.set_1 | apply IsS101.set_2 | refine IsS101.far ?_ NB224_223.out _ | refine IsS101.far ?_ NB224_241.out _) | exact HI224.out)); done) | (simp only [Int.add_zero]; repeat (first | (with_reducible first | exact HI224.out | apply IsS101.alloc | apply IsS101.drewN | apply IsS101.drew | apply IsS101.set_1 | apply IsS101.set_2 | refine IsS101.far ?_ NB224_223.out _ | refine IsS101.far ?_ NB224_241.out _) | exact HI224.out))) hb); have n2_ := Aside0.mk (blk_below (g := gb241) (o := .cells #[.int .i64 t236, .int .i64 t237, .int .i64 t238, .int .i64 t239] 36 (0, 0)) (by (with_reducible repeat (first | refine blk_drewN ?_ _ | refine blk_drew ?_ | refine blk_alloc ?_ _)); exact BK241.out) hb); have n3_ := Aside0.mk (below_step (by repeat (first | (with_reducible first | exact HB.out | apply below_alloc | apply pw_below_drewN | apply below_drew1 | refine below_set ?_ (IsS101.ge HI224.out) | refine below_set ?_ GE223.out | refine below_set ?_ GE241.out) | exact HB.out)) hb); clear BK223; clear HI224; clear BK241; clear HB; have BK223 := n0_; have HI224 := n1_; have BK241 := n2_; have HB := n3_; clear n0_ n1_ n2_ n3_; (try clear hb); (try clear hb2); (try clear hk); (try clear hi)) | ((with_reducible refine gate_dst (N := 11) rfl ?_); refine box_event ?hg (N := 11) ?hd (cs := #[.int .i64 0, .int .i64 0, .int .i64 0, .int .i64 0]) (t := 36) ?hr ?_; (case hd => rfl); (case hg => rfl); (case hr => first | (go_simp; done) | (go_simp; rfl)); intro gb253 hg w24 hbox hb; have n0_ := Aside0.mk (blk_below (g := gb223) (o := .cells #[.int .i64 0, .int .i64 0, .int .i64 0, .int .i64 0] 36 (0, 0)) (by (with_reducible repeat (first | refine blk_drewN ?_ _ | refine blk_drew ?_ | refine blk_alloc ?_ _)); exact BK223.out) hb); have n1_ := Aside0.mk (IsS101.below (by first | ((repeat (first | (with_reducible first | exact HI224.out | apply IsS101.alloc | apply IsS101.drewN | apply IsS101.drew | apply IsS101.set_1 | apply IsS101.set_2 | refine IsS101.far ?_ NB224_223.out _ | refine IsS101.far ?_ NB224_241.out _) | exact HI224.out)); done) | (simp only [Int.add_zero]; repeat (first | (with_reducible first | exact HI224.out | apply IsS101.alloc | apply IsS101.drewN | apply IsS101.drew | apply IsS101.set_1 | apply IsS101.set_2 | refine IsS101.far ?_ NB224_223.out _ | refine IsS101.far ?_ NB224_241.out _) | exact HI224.out))) hb); have n2_ := Aside0.mk (blk_below (g := gb241) (o := .cells #[.int .i64 t236, .int .i64 t237, .int .i64 t238, .int .i64 t239] 36 (0, 0)) (by (with_reducible repeat (first | refine blk_drewN ?_ _ | refine blk_drew ?_ | refine blk_alloc ?_ _)); exact BK241.out) hb); have n3_ := Aside0.mk (below_step (by repeat (first | (with_reducible first | exact HB.out | apply below_alloc | apply pw_below_drewN | apply below_drew1 | refine below_set ?_ (IsS101.ge HI224.out) | refine below_set ?_ GE223.out | refine below_set ?_ GE241.out) | exact HB.out)) hb); have n4_ := Aside0.mk (hbox); have n5_ := Aside0.mk ((by rw [hg]; exact (below_size (by repeat (first | (with_reducible first | exact HB.out | apply below_alloc | apply pw_below_drewN | apply below_drew1 | refine below_set ?_ (IsS101.ge HI224.out) | refine below_set ?_ GE223.out | refine below_set ?_ GE241.out) | exact HB.out))) : w.heap.size ≤ gb253)); have n6_ := Aside0.mk ((by rw [hg]; exact (below_size (by repeat (first | (with_reducible first | exact HB.out | apply below_alloc | apply pw_below_drewN | apply below_drew1 | refine below_set ?_ (IsS101.ge HI224.out) | refine below_set ?_ GE223.out | refine below_set ?_ GE241.out) | exact HB.out))) : w.heap.size ≤ gb253)); have n7_ := Aside0.mk ((by rw [hg]; exact Nat.ne_of_lt (blk_lt (g := gb223) (o := .cells #[.int .i64 0, .int .i64 0, .int .i64 0, .int .i64 0] 36 (0, 0)) (by (with_reducible repeat (first | refine blk_drewN ?_ _ | refine blk_drew ?_ | refine blk_alloc ?_ _)); exact BK223.out)) : gb223 ≠ gb253)); have n8_ := Aside0.mk ((by rw [hg]; exact Nat.ne_of_gt (blk_lt (g := gb223) (o := .cells #[.int .i64 0, .int .i64 0, .int .i64 0, .int .i64 0] 36 (0, 0)) (by (with_reducible repeat (first | refine blk_drewN ?_ _ | refine blk_drew ?_ | refine blk_alloc ?_ _)); exact BK223.out)) : gb253 ≠ gb223)); have n9_ := Aside0.mk ((by rw [hg]; exact Nat.ne_of_lt (blk_lt (g := gb241) (o := .cells #[.int .i64 t236, .int .i64 t237, .int .i64 t238, .int .i64 t239] 36 (0, 0)) (by (with_reducible repeat (first | refine blk_drewN ?_ _ | refine blk_drew ?_ | refine blk_alloc ?_ _)); exact BK241.out)) : gb241 ≠ gb253)); have n10_ := Aside0.mk ((by rw [hg]; exact Nat.ne_of_gt (blk_lt (g := gb241) (o := .cells #[.int .i64 t236, .int .i64 t237, .int .i64 t238, .int .i64 t239] 36 (0, 0)) (by (with_reducible repeat (first | refine blk_drewN ?_ _ | refine blk_drew ?_ | refine blk_alloc ?_ _)); exact BK241.out)) : gb253 ≠ gb241)); have n11_ := Aside0.mk ((by rw [hg]; exact Nat.ne_of_lt (IsS101.lt (show IsS101 w _ gb224 l0 t246 t247 from by first | ((repeat (first | (with_reducible first | exact HI224.out | apply IsS101.alloc | apply IsS101.drewN | apply IsS101.drew | apply IsS101.set_1 | apply IsS101.set_2 | refine IsS101.far ?_ NB224_223.out _ | refine IsS101.far ?_ NB224_241.out _) | exact HI224.out)); done) | (simp only [Int.add_zero]; repeat (first | (with_reducible first | exact HI224.out | apply IsS101.alloc | apply IsS101.drewN | apply IsS101.drew | apply IsS101.set_1 | apply IsS101.set_2 | refine IsS101.far ?_ NB224_223.out _ | refine IsS101.far ?_ NB224_241.out _) | exact HI224.out)))) : gb224 ≠ gb253)); have n12_ := Aside0.mk ((by rw [hg]; exact Nat.ne_of_gt (IsS101.lt (show IsS101 w _ gb224 l0 t246 t247 from by first | ((repeat (first | (with_reducible first | exact HI224.out | apply IsS101.alloc | apply IsS101.drewN | apply IsS101.drew | apply IsS101.set_1 | apply IsS101.set_2 | refine IsS101.far ?_ NB224_223.out _ | refine IsS101.far ?_ NB224_241.out _) | exact HI224.out)); done) | (simp only [Int.add_zero]; repeat (first | (with_reducible first | exact HI224.out | apply IsS101.alloc | apply IsS101.drewN | apply IsS101.drew | apply IsS101.set_1 | apply IsS101.set_2 | refine IsS101.far ?_ NB224_223.out _ | refine IsS101.far ?_ NB224_241.out _) | exact HI224.out)))) : gb253 ≠ gb224)); clear BK223; clear HI224; clear BK241; clear HB; have BK223 := n0_; have HI224 := n1_; have BK241 := n2_; have HB := n3_; have BK253 := n4_; have GW253 := n5_; have GE253 := n6_; have NB223_253 := n7_; have NB253_223 := n8_; have NB241_253 := n9_; have NB253_241 := n10_; have NB224_253 := n11_; have NB253_224 := n12_; clear n0_ n1_ n2_ n3_ n4_ n5_ n6_ n7_ n8_ n9_ n10_ n11_ n12_; clear hb hbox hg; have hnb25 := NB253_223.out; have hnc25 := NB223_253.out; have hnb26 := NB253_241.out; have hnc26 := NB241_253.out; have hnb27 := NB253_224.out; have hnc27 := NB224_253.out; have hcz28_0 : w24.cell? ⟨gb253, 0, none⟩ = some (.int .i64 0) := (blk_cell BK253.out 0).trans rfl; have hcz28_1 : w24.cell? ⟨gb253, 1, none⟩ = some (.int .i64 0) := (blk_cell BK253.out 1).trans rfl; have hcz28_2 : w24.cell? ⟨gb253, 2, none⟩ = some (.int .i64 0) := (blk_cell BK253.out 2).trans rfl; have hcz28_3 : w24.cell? ⟨gb253, 3, none⟩ = some (.int .i64 0) := (blk_cell BK253.out 3).trans rfl; have hfz28_0 := blk_frozen BK253.out 0; have hfz28_1 := blk_frozen BK253.out 1; have hfz28_2 := blk_frozen BK253.out 2; have hfz28_3 := blk_frozen BK253.out 3))
  (try simp only [Act.put, List.setIfInBounds_toArray, List.set_cons_zero, List.set_cons_succ])
  go_cut [] (fun wc => ∃ (kq : Nat) (x242000_9 : Int) (x242001_9 : Int) (x242002_9 : Int) (x242003_9 : Int), Aside0 (spec_DrawCheckReceipt.j0 kq t228 l0 t246 t247 x242000_9 x242001_9 x242002_9 x242003_9 = some (r1, r2, r3, r4, r5)) ∧ Aside0 (kq ≤ k) ∧ Aside0 (wc.heap[gb223]? = some (.cells #[.int .i64 0, .int .i64 0, .int .i64 0, .int .i64 0] 36 (0, 0))) ∧ Aside0 (wc.heap[gb241]? = some (.cells #[.int .i64 x242000_9, .int .i64 x242001_9, .int .i64 x242002_9, .int .i64 x242003_9] 36 (0, 0))) ∧ Aside0 (wc.heap[gb253]? = some (.cells #[.int .i64 t248, .int .i64 t249, .int .i64 t250, .int .i64 t251] 36 (0, 0))) ∧ Aside0 (IsS101 w wc gb224 l0 t246 t247) ∧ Aside0 (Below w.heap.size w wc))
  case first =>
    have H := HC10.out
    clear HC10
    by_cases c29 : t252 = true
    · subst c29
      have H1 : (spec_DrawCheckReceipt.j0 k t228 l0 t246 t247 t248 t249 t250 t251) = some (r1, r2, r3, r4, r5) := by rw [if_pos rfl] at H; exact H
      clear H
      have H := H1
      clear H1
      have H' := Aside0.mk H
      clear H
      have hnb30 := NB253_223.out
      have hnc30 := NB223_253.out
      have hnb31 := NB253_241.out
      have hnc31 := NB241_253.out
      have hnb32 := NB253_224.out
      have hnc32 := NB224_253.out
      have hcz33_0 : w24.cell? ⟨gb253, 0, none⟩ = some (.int .i64 0) := (blk_cell BK253.out 0).trans rfl
      have hcz33_1 : w24.cell? ⟨gb253, 1, none⟩ = some (.int .i64 0) := (blk_cell BK253.out 1).trans rfl
      have hcz33_2 : w24.cell? ⟨gb253, 2, none⟩ = some (.int .i64 0) := (blk_cell BK253.out 2).trans rfl
      have hcz33_3 : w24.cell? ⟨gb253, 3, none⟩ = some (.int .i64 0) := (blk_cell BK253.out 3).trans rfl
      have hfz33_0 := blk_frozen BK253.out 0
      have hfz33_1 := blk_frozen BK253.out 1
      have hfz33_2 := blk_frozen BK253.out 2
      have hfz33_3 := blk_frozen BK253.out 3
      have hnb34 := NB241_223.out
      have hnc34 := NB223_241.out
      have hnb35 := NB241_224.out
      have hnc35 := NB224_241.out
      have hcz36_0 : w24.cell? ⟨gb241, 0, none⟩ = some (.int .i64 t236) := (blk_cell BK241.out 0).trans rfl
      have hcz36_1 : w24.cell? ⟨gb241, 1, none⟩ = some (.int .i64 t237) := (blk_cell BK241.out 1).trans rfl
      have hcz36_2 : w24.cell? ⟨gb241, 2, none⟩ = some (.int .i64 t238) := (blk_cell BK241.out 2).trans rfl
      have hcz36_3 : w24.cell? ⟨gb241, 3, none⟩ = some (.int .i64 t239) := (blk_cell BK241.out 3).trans rfl
      have hfz36_0 := blk_frozen BK241.out 0
      have hfz36_1 := blk_frozen BK241.out 1
      have hfz36_2 := blk_frozen BK241.out 2
      have hfz36_3 := blk_frozen BK241.out 3
      go_wp2
      go_meet
      case rel => exact ⟨_, (t248), (t249), (t250), (t251), H', ⟨by first | omega | exact Nat.le_refl _⟩, ⟨by (with_reducible repeat (first | refine blk_drewN ?_ _ | refine blk_drew ?_ | refine blk_alloc ?_ _)); refine blk_far ?_ NB223_241.out _; (with_reducible repeat (first | refine blk_drewN ?_ _ | refine blk_drew ?_ | refine blk_alloc ?_ _)); refine blk_far ?_ NB223_241.out _; (with_reducible repeat (first | refine blk_drewN ?_ _ | refine blk_drew ?_ | refine blk_alloc ?_ _)); refine blk_far ?_ NB223_241.out _; (with_reducible repeat (first | refine blk_drewN ?_ _ | refine blk_drew ?_ | refine blk_alloc ?_ _)); refine blk_far ?_ NB223_241.out _; (with_reducible repeat (first | refine blk_drewN ?_ _ | refine blk_drew ?_ | refine blk_alloc ?_ _)); refine blk_far ?_ NB223_253.out _; (with_reducible repeat (first | refine blk_drewN ?_ _ | refine blk_drew ?_ | refine blk_alloc ?_ _)); refine blk_far ?_ NB223_253.out _; (with_reducible repeat (first | refine blk_drewN ?_ _ | refine blk_drew ?_ | refine blk_alloc ?_ _)); refine blk_far ?_ NB223_253.out _; (with_reducible repeat (first | refine blk_drewN ?_ _ | refine blk_drew ?_ | refine blk_alloc ?_ _)); refine blk_far ?_ NB223_253.out _; (with_reducible repeat (first | refine blk_drewN ?_ _ | refine blk_drew ?_ | refine blk_alloc ?_ _)); exact BK223.out⟩, ⟨by (with_reducible repeat (first | refine blk_drewN ?_ _ | refine blk_drew ?_ | refine blk_alloc ?_ _)); refine blk_put (cs := #[.int .i64 t248, .int .i64 t249, .int .i64 t250, .int .i64 t239]) ?_ 3 _ rfl; (with_reducible repeat (first | refine blk_drewN ?_ _ | refine blk_drew ?_ | refine blk_alloc ?_ _)); refine blk_put (cs := #[.int .i64 t248, .int .i64 t249, .int .i64 t238, .int .i64 t239]) ?_ 2 _ rfl; (with_reducible repeat (first | refine blk_drewN ?_ _ | refine blk_drew ?_ | refine blk_alloc ?_ _)); refine blk_put (cs := #[.int .i64 t248, .int .i64 t237, .int .i64 t238, .int .i64 t239]) ?_ 1 _ rfl; (with_reducible repeat (first | refine blk_drewN ?_ _ | refine blk_drew ?_ | refine blk_alloc ?_ _)); refine blk_put (cs := #[.int .i64 t236, .int .i64 t237, .int .i64 t238, .int .i64 t239]) ?_ 0 _ rfl; (with_reducible repeat (first | refine blk_drewN ?_ _ | refine blk_drew ?_ | refine blk_alloc ?_ _)); refine blk_far ?_ NB241_253.out _; (with_reducible repeat (first | refine blk_drewN ?_ _ | refine blk_drew ?_ | refine blk_alloc ?_ _)); refine blk_far ?_ NB241_253.out _; (with_reducible repeat (first | refine blk_drewN ?_ _ | refine blk_drew ?_ | refine blk_alloc ?_ _)); refine blk_far ?_ NB241_253.out _; (with_reducible repeat (first | refine blk_drewN ?_ _ | refine blk_drew ?_ | refine blk_alloc ?_ _)); refine blk_far ?_ NB241_253.out _; (with_reducible repeat (first | refine blk_drewN ?_ _ | refine blk_drew ?_ | refine blk_alloc ?_ _)); exact BK241.out⟩, ⟨by (with_reducible repeat (first | refine blk_drewN ?_ _ | refine blk_drew ?_ | refine blk_alloc ?_ _)); refine blk_far ?_ NB253_241.out _; (with_reducible repeat (first | refine blk_drewN ?_ _ | refine blk_drew ?_ | refine blk_alloc ?_ _)); refine blk_far ?_ NB253_241.out _; (with_reducible repeat (first | refine blk_drewN ?_ _ | refine blk_drew ?_ | refine blk_alloc ?_ _)); refine blk_far ?_ NB253_241.out _; (with_reducible repeat (first | refine blk_drewN ?_ _ | refine blk_drew ?_ | refine blk_alloc ?_ _)); refine blk_far ?_ NB253_241.out _; (with_reducible repeat (first | refine blk_drewN ?_ _ | refine blk_drew ?_ | refine blk_alloc ?_ _)); refine blk_put (cs := #[.int .i64 t248, .int .i64 t249, .int .i64 t250, .int .i64 0]) ?_ 3 _ rfl; (with_reducible repeat (first | refine blk_drewN ?_ _ | refine blk_drew ?_ | refine blk_alloc ?_ _)); refine blk_put (cs := #[.int .i64 t248, .int .i64 t249, .int .i64 0, .int .i64 0]) ?_ 2 _ rfl; (with_reducible repeat (first | refine blk_drewN ?_ _ | refine blk_drew ?_ | refine blk_alloc ?_ _)); refine blk_put (cs := #[.int .i64 t248, .int .i64 0, .int .i64 0, .int .i64 0]) ?_ 1 _ rfl; (with_reducible repeat (first | refine blk_drewN ?_ _ | refine blk_drew ?_ | refine blk_alloc ?_ _)); refine blk_put (cs := #[.int .i64 0, .int .i64 0, .int .i64 0, .int .i64 0]) ?_ 0 _ rfl; (with_reducible repeat (first | refine blk_drewN ?_ _ | refine blk_drew ?_ | refine blk_alloc ?_ _)); exact BK253.out⟩, ⟨by first | ((repeat (first | (with_reducible first | exact HI224.out | apply IsS101.alloc | apply IsS101.drewN | apply IsS101.drew | apply IsS101.set_1 | apply IsS101.set_2 | refine IsS101.far ?_ NB224_223.out _ | refine IsS101.far ?_ NB224_241.out _ | refine IsS101.far ?_ NB224_253.out _) | exact HI224.out)); done) | (simp only [Int.add_zero]; repeat (first | (with_reducible first | exact HI224.out | apply IsS101.alloc | apply IsS101.drewN | apply IsS101.drew | apply IsS101.set_1 | apply IsS101.set_2 | refine IsS101.far ?_ NB224_223.out _ | refine IsS101.far ?_ NB224_241.out _ | refine IsS101.far ?_ NB224_253.out _) | exact HI224.out))⟩, ⟨by repeat (first | (with_reducible first | exact HB.out | apply below_alloc | apply pw_below_drewN | apply below_drew1 | refine below_set ?_ (IsS101.ge HI224.out) | refine below_set ?_ GE223.out | refine below_set ?_ GE241.out | refine below_set ?_ GE253.out) | exact HB.out)⟩⟩
    · replace c29 := Bool.eq_false_iff.mpr c29
      subst c29
      have H1 : (spec_DrawCheckReceipt.j0 k t228 l0 t246 t247 t236 t237 t238 t239) = some (r1, r2, r3, r4, r5) := by rw [if_neg (show ¬ (false = true) by decide)] at H; exact H
      clear H
      have H := H1
      clear H1
      have H' := Aside0.mk H
      clear H
      go_wp2
      go_meet
      case rel => exact ⟨_, (t236), (t237), (t238), (t239), H', ⟨by first | omega | exact Nat.le_refl _⟩, ⟨by (with_reducible repeat (first | refine blk_drewN ?_ _ | refine blk_drew ?_ | refine blk_alloc ?_ _)); refine blk_far ?_ NB223_253.out _; (with_reducible repeat (first | refine blk_drewN ?_ _ | refine blk_drew ?_ | refine blk_alloc ?_ _)); refine blk_far ?_ NB223_253.out _; (with_reducible repeat (first | refine blk_drewN ?_ _ | refine blk_drew ?_ | refine blk_alloc ?_ _)); refine blk_far ?_ NB223_253.out _; (with_reducible repeat (first | refine blk_drewN ?_ _ | refine blk_drew ?_ | refine blk_alloc ?_ _)); refine blk_far ?_ NB223_253.out _; (with_reducible repeat (first | refine blk_drewN ?_ _ | refine blk_drew ?_ | refine blk_alloc ?_ _)); exact BK223.out⟩, ⟨by (with_reducible repeat (first | refine blk_drewN ?_ _ | refine blk_drew ?_ | refine blk_alloc ?_ _)); refine blk_far ?_ NB241_253.out _; (with_reducible repeat (first | refine blk_drewN ?_ _ | refine blk_drew ?_ | refine blk_alloc ?_ _)); refine blk_far ?_ NB241_253.out _; (with_reducible repeat (first | refine blk_drewN ?_ _ | refine blk_drew ?_ | refine blk_alloc ?_ _)); refine blk_far ?_ NB241_253.out _; (with_reducible repeat (first | refine blk_drewN ?_ _ | refine blk_drew ?_ | refine blk_alloc ?_ _)); refine blk_far ?_ NB241_253.out _; (with_reducible repeat (first | refine blk_drewN ?_ _ | refine blk_drew ?_ | refine blk_alloc ?_ _)); exact BK241.out⟩, ⟨by (with_reducible repeat (first | refine blk_drewN ?_ _ | refine blk_drew ?_ | refine blk_alloc ?_ _)); refine blk_put (cs := #[.int .i64 t248, .int .i64 t249, .int .i64 t250, .int .i64 0]) ?_ 3 _ rfl; (with_reducible repeat (first | refine blk_drewN ?_ _ | refine blk_drew ?_ | refine blk_alloc ?_ _)); refine blk_put (cs := #[.int .i64 t248, .int .i64 t249, .int .i64 0, .int .i64 0]) ?_ 2 _ rfl; (with_reducible repeat (first | refine blk_drewN ?_ _ | refine blk_drew ?_ | refine blk_alloc ?_ _)); refine blk_put (cs := #[.int .i64 t248, .int .i64 0, .int .i64 0, .int .i64 0]) ?_ 1 _ rfl; (with_reducible repeat (first | refine blk_drewN ?_ _ | refine blk_drew ?_ | refine blk_alloc ?_ _)); refine blk_put (cs := #[.int .i64 0, .int .i64 0, .int .i64 0, .int .i64 0]) ?_ 0 _ rfl; (with_reducible repeat (first | refine blk_drewN ?_ _ | refine blk_drew ?_ | refine blk_alloc ?_ _)); exact BK253.out⟩, ⟨by first | ((repeat (first | (with_reducible first | exact HI224.out | apply IsS101.alloc | apply IsS101.drewN | apply IsS101.drew | apply IsS101.set_1 | apply IsS101.set_2 | refine IsS101.far ?_ NB224_223.out _ | refine IsS101.far ?_ NB224_241.out _ | refine IsS101.far ?_ NB224_253.out _) | exact HI224.out)); done) | (simp only [Int.add_zero]; repeat (first | (with_reducible first | exact HI224.out | apply IsS101.alloc | apply IsS101.drewN | apply IsS101.drew | apply IsS101.set_1 | apply IsS101.set_2 | refine IsS101.far ?_ NB224_223.out _ | refine IsS101.far ?_ NB224_241.out _ | refine IsS101.far ?_ NB224_253.out _) | exact HI224.out))⟩, ⟨by repeat (first | (with_reducible first | exact HB.out | apply below_alloc | apply pw_below_drewN | apply below_drew1 | refine below_set ?_ (IsS101.ge HI224.out) | refine below_set ?_ GE223.out | refine below_set ?_ GE241.out | refine below_set ?_ GE253.out) | exact HB.out)⟩⟩
  case rest =>
    clear HC10
    try clear c1
    try clear c2
    try clear p2
    try clear c3
    try clear c4
    try clear p6
    try clear c8
    try clear c18
    try clear c19
    try clear c25
    try clear c26
    try clear c27
    try clear c29
    try clear c30
    try clear c31
    try clear c32
    try clear c34
    try clear c35
    try clear hcz20_0
    try clear hcz20_1
    try clear hcz20_2
    try clear hcz20_3
    try clear hcz28_0
    try clear hcz28_1
    try clear hcz28_2
    try clear hcz28_3
    try clear hcz33_0
    try clear hcz33_1
    try clear hcz33_2
    try clear hcz33_3
    try clear hcz36_0
    try clear hcz36_1
    try clear hcz36_2
    try clear hcz36_3
    try clear hfz20_0
    try clear hfz20_1
    try clear hfz20_2
    try clear hfz20_3
    try clear hfz28_0
    try clear hfz28_1
    try clear hfz28_2
    try clear hfz28_3
    try clear hfz33_0
    try clear hfz33_1
    try clear hfz33_2
    try clear hfz33_3
    try clear hfz36_0
    try clear hfz36_1
    try clear hfz36_2
    try clear hfz36_3
    obtain ⟨kq, x242000_9, x242001_9, x242002_9, x242003_9, HA, HJ9, BK223, BK241, BK253, HI224, HB⟩ := hcut
    cases kq with
    | zero => exact absurd HA.out (by simp [spec_DrawCheckReceipt.j0])
    | succ kj9 =>
      have H := HA.out
      clear HA
      simp only [spec_DrawCheckReceipt.j0] at H
      replace H := Option.bind_eq_some_iff.mp H
      obtain ⟨⟨t254, t255, t256⟩, A370, H⟩ := H
      replace H : (if t254 = 0 then ((spec_l1Cur_among.f l0 t255 t256 (([(-1), 0, 1498, 1499] : List Int))).bind fun bt260 => (some (t228, x242000_9, x242001_9, x242002_9, bt260.1))) else (if t254 = 1 then (some (t228, x242000_9, x242001_9, wrap64 (x242002_9 + 1), x242003_9)) else (some (t228, x242000_9, x242001_9, x242002_9, x242003_9)))) = some (r1, r2, r3, r4, r5) := H
      have A37 := Aside0.mk A370
      clear A370
      by_cases c38 : t254 = 0
      · rw [if_pos c38] at H
        have c38b0 : (t254 == 0) = true := beq_iff_eq.mpr c38
        have c38b1 : (t254 != 0) = false := bne_eq_false_iff_eq.mpr c38
        clear c38
        obtain ⟨y257, hy257⟩ : ∃ y_ : List Int, y_ = (([(-1), 0, 1498, 1499] : List Int)) := ⟨_, rfl⟩
        replace H : ((spec_l1Cur_among.f l0 t255 t256 y257).bind fun bt260 => (some (t228, x242000_9, x242001_9, x242002_9, bt260.1))) = some (r1, r2, r3, r4, r5) := by first | (rw [hy257]; with_reducible exact H) | (have H2_ := (Option.bind_some _ _).symm.trans H; rw [hy257]; with_reducible exact H2_) | (have H2_ := (Option.bind_some _ _).symm.trans H; with_reducible exact H2_) | with_reducible exact H | (rw [hy257]; exact H) | exact H
        have Ny257 := Aside0.mk hy257
        clear hy257
        replace H := Option.bind_eq_some_iff.mp H
        obtain ⟨⟨t260, t261, t262⟩, A390, H⟩ := H
        replace H : (some (t228, x242000_9, x242001_9, x242002_9, t260)) = some (r1, r2, r3, r4, r5) := H
        have A39 := Aside0.mk A390
        clear A390
        simp only [Option.some.injEq, Prod.mk.injEq] at H
        obtain ⟨rfl, rfl, rfl, rfl, rfl⟩ := H
        try go_wp2_with (first | ((with_reducible refine gate_callee (f := 81) rfl ?_); refine goesL_ (some 49) rfl rfl Try.func81 (by kernel_rfl) rfl #[.pointer (some ⟨gb224, 0, none⟩), .int .i64 6] rfl (by (try simp only [List.map_toArray, List.map_cons, List.map_nil]); first | done | rfl | (simp only [List.length_drop, List.length_take]; rfl)) ?_; (with_reducible refine (spec_l1Cur_pick.calls gb224 l0 t246 t247 6 t254 t255 t256 w _ ?side1 ?side2 A37.out).mono ?_); (case side1 => first | ((repeat (first | (with_reducible first | exact HI224.out | apply IsS101.alloc | apply IsS101.drewN | apply IsS101.drew | apply IsS101.set_1 | apply IsS101.set_2 | refine IsS101.far ?_ NB224_223.out _ | refine IsS101.far ?_ NB224_241.out _ | refine IsS101.far ?_ NB224_253.out _) | exact HI224.out)); done) | (simp only [Int.add_zero]; repeat (first | (with_reducible first | exact HI224.out | apply IsS101.alloc | apply IsS101.drewN | apply IsS101.drew | apply IsS101.set_1 | apply IsS101.set_2 | refine IsS101.far ?_ NB224_223.out _ | refine IsS101.far ?_ NB224_241.out _ | refine IsS101.far ?_ NB224_253.out _) | exact HI224.out))); (case side2 => repeat (first | (with_reducible first | exact HB.out | apply below_alloc | apply pw_below_drewN | apply below_drew1 | refine below_set ?_ (IsS101.ge HI224.out) | refine below_set ?_ GE223.out | refine below_set ?_ GE241.out | refine below_set ?_ GE253.out) | exact HB.out)); rintro e w40 ⟨rfl, hi, hb, hk⟩; refine ⟨_, rfl, ?_⟩; have n0_ := Aside0.mk (KeepBut.blk hk (g' := gb223) (o := .cells #[.int .i64 0, .int .i64 0, .int .i64 0, .int .i64 0] 36 (0, 0)) (by (with_reducible repeat (first | refine blk_drewN ?_ _ | refine blk_drew ?_ | refine blk_alloc ?_ _)); exact BK223.out) NB223_224.out (by simp)); have n1_ := Aside0.mk (KeepBut.blk hk (g' := gb241) (o := .cells #[.int .i64 x242000_9, .int .i64 x242001_9, .int .i64 x242002_9, .int .i64 x242003_9] 36 (0, 0)) (by (with_reducible repeat (first | refine blk_drewN ?_ _ | refine blk_drew ?_ | refine blk_alloc ?_ _)); exact BK241.out) NB241_224.out (by simp)); have n2_ := Aside0.mk (KeepBut.blk hk (g' := gb253) (o := .cells #[.int .i64 t248, .int .i64 t249, .int .i64 t250, .int .i64 t251] 36 (0, 0)) (by (with_reducible repeat (first | refine blk_drewN ?_ _ | refine blk_drew ?_ | refine blk_alloc ?_ _)); exact BK253.out) NB253_224.out (by simp)); have n3_ := Aside0.mk (hb); have n4_ := Aside0.mk (hi); clear BK223; clear BK241; clear BK253; clear HB; clear HI224; have BK223 := n0_; have BK241 := n1_; have BK253 := n2_; have HB := n3_; have HI224 := n4_; clear n0_ n1_ n2_ n3_ n4_; (try clear hb); (try clear hb2); (try clear hk); (try clear hi)) | ((with_reducible refine gate_dst (N := 53) rfl ?_); refine Kd.R_lit (Kd.int .i64) _ 3 ?hg (N := 53) ?hd (xs := ([(-1), 0, 1498, 1499] : List Int)) (inner := [.int .i64 (-1), .int .i64 0, .int .i64 1498, .int .i64 1499]) (ok := fun _ => True) (okp := fun _ => True) ?hr ?hp (fun _ hk => hk) trivial (Below.refl _ _) (Nat.le_refl _) (by simp) ?_; (case hd => rfl); (case hg => rfl); (case hr => first | (go_simp; done) | (go_simp; rfl)); (case hp => exact (Reps.one (show Kd.M (Kd.int .i64) _ _ _ (-1) [.int .i64 (-1)] from rfl) (Reps.one (show Kd.M (Kd.int .i64) _ _ _ 0 [.int .i64 0] from rfl) (Reps.one (show Kd.M (Kd.int .i64) _ _ _ 1498 [.int .i64 1498] from rfl) (Reps.one (show Kd.M (Kd.int .i64) _ _ _ 1499 [.int .i64 1499] from rfl) (Reps.none _ _)))))); intro v258 w41 ho42 hb hg_ hnew_; clear hg_ hnew_; (first | rw [← Ny257.out] at ho42 | (simp only [Int.reduceToNat] at ho42; rw [← Ny257.out] at ho42)); have n0_ := Aside0.mk (Kd.R_lower ho42 (below_size (by repeat (first | (with_reducible first | exact HB.out | apply below_alloc | apply pw_below_drewN | apply below_drew1 | refine below_set ?_ (IsS101.ge HI224.out) | refine below_set ?_ GE223.out | refine below_set ?_ GE241.out | refine below_set ?_ GE253.out) | exact HB.out)))); have n1_ := Aside0.mk (blk_below (g := gb223) (o := .cells #[.int .i64 0, .int .i64 0, .int .i64 0, .int .i64 0] 36 (0, 0)) (by (with_reducible repeat (first | refine blk_drewN ?_ _ | refine blk_drew ?_ | refine blk_alloc ?_ _)); exact BK223.out) hb); have n2_ := Aside0.mk (blk_below (g := gb241) (o := .cells #[.int .i64 x242000_9, .int .i64 x242001_9, .int .i64 x242002_9, .int .i64 x242003_9] 36 (0, 0)) (by (with_reducible repeat (first | refine blk_drewN ?_ _ | refine blk_drew ?_ | refine blk_alloc ?_ _)); exact BK241.out) hb); have n3_ := Aside0.mk (blk_below (g := gb253) (o := .cells #[.int .i64 t248, .int .i64 t249, .int .i64 t250, .int .i64 t251] 36 (0, 0)) (by (with_reducible repeat (first | refine blk_drewN ?_ _ | refine blk_drew ?_ | refine blk_alloc ?_ _)); exact BK253.out) hb); have n4_ := Aside0.mk (IsS101.below (by first | ((repeat (first | (with_reducible first | exact HI224.out | apply IsS101.alloc | apply IsS101.drewN | apply IsS101.drew | apply IsS101.set_1 | apply IsS101.set_2 | refine IsS101.far ?_ NB224_223.out _ | refine IsS101.far ?_ NB224_241.out _ | refine IsS101.far ?_ NB224_253.out _) | exact HI224.out)); done) | (simp only [Int.add_zero]; repeat (first | (with_reducible first | exact HI224.out | apply IsS101.alloc | apply IsS101.drewN | apply IsS101.drew | apply IsS101.set_1 | apply IsS101.set_2 | refine IsS101.far ?_ NB224_223.out _ | refine IsS101.far ?_ NB224_241.out _ | refine IsS101.far ?_ NB224_253.out _) | exact HI224.out))) hb); have n5_ := Aside0.mk (below_step (by repeat (first | (with_reducible first | exact HB.out | apply below_alloc | apply pw_below_drewN | apply below_drew1 | refine below_set ?_ (IsS101.ge HI224.out) | refine below_set ?_ GE223.out | refine below_set ?_ GE241.out | refine below_set ?_ GE253.out) | exact HB.out)) hb); clear BK223; clear BK241; clear BK253; clear HI224; clear HB; have HO259 := n0_; have BK223 := n1_; have BK241 := n2_; have BK253 := n3_; have HI224 := n4_; have HB := n5_; clear n0_ n1_ n2_ n3_ n4_ n5_; clear hb ho42; obtain ⟨Ao43, co43, eo43⟩ := Kd.R_slice HO259.out; subst eo43) | ((with_reducible refine gate_callee (f := 83) rfl ?_); refine goesL_ (some 54) rfl rfl Try.func83 (by kernel_rfl) rfl #[.pointer (some ⟨gb224, 0, none⟩), .slice Ao43 y257.length co43] rfl (by (try simp only [List.map_toArray, List.map_cons, List.map_nil]); first | done | rfl | (simp only [List.length_drop, List.length_take]; rfl)) ?_; (with_reducible refine (spec_l1Cur_among.calls gb224 l0 t255 t256 _ _ y257 t260 t261 t262 w _ ?side1 ?side2 ?side3 ?side4 ?side5 A39.out).mono ?_); (case side1 => first | ((repeat (first | (with_reducible first | exact HI224.out | apply IsS101.alloc | apply IsS101.drewN | apply IsS101.drew | apply IsS101.set_1 | apply IsS101.set_2 | refine IsS101.far ?_ NB224_223.out _ | refine IsS101.far ?_ NB224_241.out _ | refine IsS101.far ?_ NB224_253.out _) | exact HI224.out)); done) | (simp only [Int.add_zero]; repeat (first | (with_reducible first | exact HI224.out | apply IsS101.alloc | apply IsS101.drewN | apply IsS101.drew | apply IsS101.set_1 | apply IsS101.set_2 | refine IsS101.far ?_ NB224_223.out _ | refine IsS101.far ?_ NB224_241.out _ | refine IsS101.far ?_ NB224_253.out _) | exact HI224.out))); (case side2 => repeat (first | (with_reducible first | exact HB.out | apply below_alloc | apply pw_below_drewN | apply below_drew1 | refine below_set ?_ (IsS101.ge HI224.out) | refine below_set ?_ GE223.out | refine below_set ?_ GE241.out | refine below_set ?_ GE253.out) | exact HB.out)); (case side3 => repeat (first | exact (Kd.R_reads' HO259.out).2.2 | (with_reducible refine Kd.C_alloc ?_ _) | (with_reducible refine Kd.C_drewN ?_ _) | (with_reducible refine Kd.C_drew ?_))); (case side4 => exact (Kd.R_reads' HO259.out).2.1); (case side5 => exact far_slice (IsS101.own_ne HI224.out HO259.out (by decide))); rintro e w44 ⟨rfl, hi, hb, hk⟩; refine ⟨_, rfl, ?_⟩; have n0_ := Aside0.mk (KeepBut.blk hk (g' := gb223) (o := .cells #[.int .i64 0, .int .i64 0, .int .i64 0, .int .i64 0] 36 (0, 0)) (by (with_reducible repeat (first | refine blk_drewN ?_ _ | refine blk_drew ?_ | refine blk_alloc ?_ _)); exact BK223.out) NB223_224.out (by simp)); have n1_ := Aside0.mk (KeepBut.blk hk (g' := gb241) (o := .cells #[.int .i64 x242000_9, .int .i64 x242001_9, .int .i64 x242002_9, .int .i64 x242003_9] 36 (0, 0)) (by (with_reducible repeat (first | refine blk_drewN ?_ _ | refine blk_drew ?_ | refine blk_alloc ?_ _)); exact BK241.out) NB241_224.out (by simp)); have n2_ := Aside0.mk (KeepBut.blk hk (g' := gb253) (o := .cells #[.int .i64 t248, .int .i64 t249, .int .i64 t250, .int .i64 t251] 36 (0, 0)) (by (with_reducible repeat (first | refine blk_drewN ?_ _ | refine blk_drew ?_ | refine blk_alloc ?_ _)); exact BK253.out) NB253_224.out (by simp)); have n3_ := Aside0.mk (Kd.R_mono (Kd.R_keep (IsS101.apart (show IsS101 w _ gb224 l0 t255 t256 from by first | ((repeat (first | (with_reducible first | exact HI224.out | apply IsS101.alloc | apply IsS101.drewN | apply IsS101.drew | apply IsS101.set_1 | apply IsS101.set_2 | refine IsS101.far ?_ NB224_223.out _ | refine IsS101.far ?_ NB224_241.out _ | refine IsS101.far ?_ NB224_253.out _) | exact HI224.out)); done) | (simp only [Int.add_zero]; repeat (first | (with_reducible first | exact HI224.out | apply IsS101.alloc | apply IsS101.drewN | apply IsS101.drew | apply IsS101.set_1 | apply IsS101.set_2 | refine IsS101.far ?_ NB224_223.out _ | refine IsS101.far ?_ NB224_241.out _ | refine IsS101.far ?_ NB224_253.out _) | exact HI224.out))) (by (with_reducible repeat (first | apply Kd.R_alloc | apply Kd.R_drewN | apply Kd.R_drew)); exact HO259.out) (by decide)) hk (fun _ h => h.2)) (fun _ h => h.1)); have n4_ := Aside0.mk (hb); have n5_ := Aside0.mk (hi); clear BK223; clear BK241; clear BK253; clear HO259; clear HB; clear HI224; have BK223 := n0_; have BK241 := n1_; have BK253 := n2_; have HO259 := n3_; have HB := n4_; have HI224 := n5_; clear n0_ n1_ n2_ n3_ n4_ n5_; (try clear hb); (try clear hb2); (try clear hk); (try clear hi); have hnb45 := NB241_223.out; have hnc45 := NB223_241.out; have hnb46 := NB241_253.out; have hnc46 := NB253_241.out; have hnb47 := NB241_224.out; have hnc47 := NB224_241.out; have hcz48_0 : w44.cell? ⟨gb241, 0, none⟩ = some (.int .i64 x242000_9) := (blk_cell BK241.out 0).trans rfl; have hcz48_1 : w44.cell? ⟨gb241, 1, none⟩ = some (.int .i64 x242001_9) := (blk_cell BK241.out 1).trans rfl; have hcz48_2 : w44.cell? ⟨gb241, 2, none⟩ = some (.int .i64 x242002_9) := (blk_cell BK241.out 2).trans rfl; have hcz48_3 : w44.cell? ⟨gb241, 3, none⟩ = some (.int .i64 x242003_9) := (blk_cell BK241.out 3).trans rfl; have hfz48_0 := blk_frozen BK241.out 0; have hfz48_1 := blk_frozen BK241.out 1; have hfz48_2 := blk_frozen BK241.out 2; have hfz48_3 := blk_frozen BK241.out 3))
        have n0_ : Aside0 (Kd.R (Kd.int .i64) 3 (w44.setCell ⟨gb241, 3, none⟩ (.int .i64 t260)) w.heap.size (fun _ => True) (.slice Ao43 y257.length co43) y257) := ⟨by (with_reducible repeat (first | apply Kd.R_alloc | apply Kd.R_drewN | apply Kd.R_drew)); exact Kd.R_mono (Kd.R_far (p := ⟨gb241, 3, none⟩) (Kd.R_types HO259.out BK241.out (by decide)) (fun _ hk => hk.2) (.int .i64 t260)) (fun _ hk => trivial)⟩
        have n1_ : Aside0 ((w44.setCell ⟨gb241, 3, none⟩ (.int .i64 t260)).heap[gb223]? = some (.cells #[.int .i64 0, .int .i64 0, .int .i64 0, .int .i64 0] 36 (0, 0))) := ⟨by (with_reducible repeat (first | refine blk_drewN ?_ _ | refine blk_drew ?_ | refine blk_alloc ?_ _)); refine blk_far ?_ NB223_241.out _; (with_reducible repeat (first | refine blk_drewN ?_ _ | refine blk_drew ?_ | refine blk_alloc ?_ _)); exact BK223.out⟩
        have n2_ : Aside0 ((w44.setCell ⟨gb241, 3, none⟩ (.int .i64 t260)).heap[gb241]? = some (.cells #[.int .i64 x242000_9, .int .i64 x242001_9, .int .i64 x242002_9, .int .i64 t260] 36 (0, 0))) := ⟨by (with_reducible repeat (first | refine blk_drewN ?_ _ | refine blk_drew ?_ | refine blk_alloc ?_ _)); refine blk_put (cs := #[.int .i64 x242000_9, .int .i64 x242001_9, .int .i64 x242002_9, .int .i64 x242003_9]) ?_ 3 _ rfl; (with_reducible repeat (first | refine blk_drewN ?_ _ | refine blk_drew ?_ | refine blk_alloc ?_ _)); exact BK241.out⟩
        have n3_ : Aside0 ((w44.setCell ⟨gb241, 3, none⟩ (.int .i64 t260)).heap[gb253]? = some (.cells #[.int .i64 t248, .int .i64 t249, .int .i64 t250, .int .i64 t251] 36 (0, 0))) := ⟨by (with_reducible repeat (first | refine blk_drewN ?_ _ | refine blk_drew ?_ | refine blk_alloc ?_ _)); refine blk_far ?_ NB253_241.out _; (with_reducible repeat (first | refine blk_drewN ?_ _ | refine blk_drew ?_ | refine blk_alloc ?_ _)); exact BK253.out⟩
        have n4_ : Aside0 (IsS101 w (w44.setCell ⟨gb241, 3, none⟩ (.int .i64 t260)) gb224 l0 t261 t262) := ⟨by first | ((repeat (first | (with_reducible first | exact HI224.out | apply IsS101.alloc | apply IsS101.drewN | apply IsS101.drew | apply IsS101.set_1 | apply IsS101.set_2 | refine IsS101.far ?_ NB224_223.out _ | refine IsS101.far ?_ NB224_241.out _ | refine IsS101.far ?_ NB224_253.out _) | exact HI224.out)); done) | (simp only [Int.add_zero]; repeat (first | (with_reducible first | exact HI224.out | apply IsS101.alloc | apply IsS101.drewN | apply IsS101.drew | apply IsS101.set_1 | apply IsS101.set_2 | refine IsS101.far ?_ NB224_223.out _ | refine IsS101.far ?_ NB224_241.out _ | refine IsS101.far ?_ NB224_253.out _) | exact HI224.out))⟩
        have n5_ : Aside0 (Below w.heap.size w (w44.setCell ⟨gb241, 3, none⟩ (.int .i64 t260))) := ⟨by repeat (first | (with_reducible first | exact HB.out | apply below_alloc | apply pw_below_drewN | apply below_drew1 | refine below_set ?_ (IsS101.ge HI224.out) | refine below_set ?_ GE223.out | refine below_set ?_ GE241.out | refine below_set ?_ GE253.out) | exact HB.out)⟩
        (try clear HO259)
        (try clear BK223)
        (try clear BK241)
        (try clear BK253)
        (try clear HI224)
        (try clear HB)
        generalize (w44.setCell ⟨gb241, 3, none⟩ (.int .i64 t260)) = w49 at n0_ n1_ n2_ n3_ n4_ n5_ ⊢
        have HO259 := n0_
        have BK223 := n1_
        have BK241 := n2_
        have BK253 := n3_
        have HI224 := n4_
        have HB := n5_
        clear n0_ n1_ n2_ n3_ n4_ n5_
        have n0_ := Aside0.mk (Kd.R_drew HO259.out)
        have n1_ := Aside0.mk (blk_drew BK223.out)
        have n2_ := Aside0.mk (blk_drew BK241.out)
        have n3_ := Aside0.mk (blk_drew BK253.out)
        have n4_ := Aside0.mk (IsS101.drew HI224.out)
        have n5_ := Aside0.mk (below_drew1 HB.out)
        clear HO259
        clear BK223
        clear BK241
        clear BK253
        clear HI224
        clear HB
        have HO259 := n0_
        have BK223 := n1_
        have BK241 := n2_
        have BK253 := n3_
        have HI224 := n4_
        have HB := n5_
        clear n0_ n1_ n2_ n3_ n4_ n5_
        refine start_ (n := 4) (S := fun w' => w'.cell? ⟨gb241, 0, none⟩ = some (.int .i64 x242000_9) ∧ w'.cell? ⟨gb241, 1, none⟩ = some (.int .i64 x242001_9) ∧ w'.cell? ⟨gb241, 2, none⟩ = some (.int .i64 x242002_9) ∧ w'.cell? ⟨gb241, 3, none⟩ = some (.int .i64 t260)) (ds := []) #[false, false, false, false] (by kernel_rfl) rfl rfl ⟨(blk_cell BK241.out 0).trans rfl, (blk_cell BK241.out 1).trans rfl, (blk_cell BK241.out 2).trans rfl, (blk_cell BK241.out 3).trans rfl⟩ (fun hHeld => ?_)
        generalize w49.drew = w50 at HO259 BK223 BK241 BK253 HI224 HB hHeld ⊢
        refine pure_ (i := 0) (N := some 62) (v := ?_) (a' := ?_) #[true, false, false, false] rfl rfl (by kernel_rfl) (fun _ _ _ h => h) (Or.inl ⟨by rfl, ?_⟩) ?_ ?_
        rotate_left
        · intro w'
          go_simp
          with_reducible rfl
        rotate_left
        · simp only [Act.put, List.setIfInBounds_toArray, List.set_cons_zero, List.set_cons_succ, i64_w, i32_w]
          rfl
        refine pure_ (i := 2) (N := some 2) (v := ?_) (a' := ?_) #[true, false, true, false] rfl rfl (by kernel_rfl) (fun _ _ _ h => h) (Or.inl ⟨by rfl, ?_⟩) ?_ ?_
        rotate_left
        · intro w'
          go_simp
          with_reducible rfl
        rotate_left
        · simp only [Act.put, List.setIfInBounds_toArray, List.set_cons_zero, List.set_cons_succ, i64_w, i32_w]
          rfl
        refine take_ (i := 1) (N := some 63) (v := ?_) (a' := ?_) #[true, true, true, false] rfl rfl (by kernel_rfl) (fun _ _ _ h => h) (Or.inl ⟨by rfl, ?_⟩) hHeld ?_ ?_
        rotate_left
        · rintro w' ⟨s0, s1, s2, s3⟩
          go_simp
          with_reducible rfl
        rotate_left
        · simp only [Act.put, List.setIfInBounds_toArray, List.set_cons_zero, List.set_cons_succ, i64_w, i32_w]
          rfl
        refine one_ (i := 3) (N := none) #[true, true, true, true] rfl rfl (by kernel_rfl) (by decide) (fun K hK => ?_)
        have hs51 : w50.cell? ⟨gb223, 0, none⟩ = some (.int .i64 0) := (blk_cell BK223.out 0).trans rfl
        have hfs51 := blk_frozen BK223.out 0
        have hns51_1 := NB241_223.out
        have hns51_2 := NB253_223.out
        have hms51_1 := NB223_241.out
        have hms51_2 := NB223_253.out
        have hs52 : w50.cell? ⟨gb223, 1, none⟩ = some (.int .i64 0) := (blk_cell BK223.out 1).trans rfl
        have hfs52 := blk_frozen BK223.out 1
        have hns52_1 := NB241_223.out
        have hns52_2 := NB253_223.out
        have hms52_1 := NB223_241.out
        have hms52_2 := NB223_253.out
        have hs53 : w50.cell? ⟨gb223, 2, none⟩ = some (.int .i64 0) := (blk_cell BK223.out 2).trans rfl
        have hfs53 := blk_frozen BK223.out 2
        have hns53_1 := NB241_223.out
        have hns53_2 := NB253_223.out
        have hms53_1 := NB223_241.out
        have hms53_2 := NB223_253.out
        have hs54 : w50.cell? ⟨gb223, 3, none⟩ = some (.int .i64 0) := (blk_cell BK223.out 3).trans rfl
        have hfs54 := blk_frozen BK223.out 3
        have hns54_1 := NB241_223.out
        have hns54_2 := NB253_223.out
        have hms54_1 := NB223_241.out
        have hms54_2 := NB223_253.out
        refine skip_ (w1 := ?_) (by rfl) rfl ?_ ?_
        rotate_left
        · go_simp
          rfl
        refine hK.out _ _ ⟨((cell_far (p := ⟨gb223, _, none⟩) NB241_223.out _).trans (((cell_far (p := ⟨gb223, _, none⟩) NB241_223.out _).trans (((cell_far (p := ⟨gb223, _, none⟩) NB241_223.out _).trans (((cell_far (p := ⟨gb223, _, none⟩) NB241_223.out _).trans (hHeld.1)))))))), ((cell_far (p := ⟨gb223, _, none⟩) NB241_223.out _).trans (((cell_far (p := ⟨gb223, _, none⟩) NB241_223.out _).trans (((cell_far (p := ⟨gb223, _, none⟩) NB241_223.out _).trans (((cell_far (p := ⟨gb223, _, none⟩) NB241_223.out _).trans (hHeld.2.1)))))))), ((cell_far (p := ⟨gb223, _, none⟩) NB241_223.out _).trans (((cell_far (p := ⟨gb223, _, none⟩) NB241_223.out _).trans (((cell_far (p := ⟨gb223, _, none⟩) NB241_223.out _).trans (((cell_far (p := ⟨gb223, _, none⟩) NB241_223.out _).trans (hHeld.2.2.1)))))))), ((cell_far (p := ⟨gb223, _, none⟩) NB241_223.out _).trans (((cell_far (p := ⟨gb223, _, none⟩) NB241_223.out _).trans (((cell_far (p := ⟨gb223, _, none⟩) NB241_223.out _).trans (((cell_far (p := ⟨gb223, _, none⟩) NB241_223.out _).trans (hHeld.2.2.2))))))))⟩ (fun hHeld => ?_)
        clear hK K
        refine done_ (by kernel_rfl) ?_
        try go_wp2
        refine bodyPost_ret (results_tc rfl _ _ gb223 36 #[.int .i64 x242000_9, .int .i64 x242001_9, .int .i64 x242002_9, .int .i64 t260] (0, 0) _ rfl (by (with_reducible repeat (first | refine blk_drewN ?_ _ | refine blk_drew ?_ | refine blk_alloc ?_ _)); refine blk_put (cs := #[.int .i64 x242000_9, .int .i64 x242001_9, .int .i64 x242002_9, .int .i64 0]) ?_ 3 _ rfl; (with_reducible repeat (first | refine blk_drewN ?_ _ | refine blk_drew ?_ | refine blk_alloc ?_ _)); refine blk_put (cs := #[.int .i64 x242000_9, .int .i64 x242001_9, .int .i64 0, .int .i64 0]) ?_ 2 _ rfl; (with_reducible repeat (first | refine blk_drewN ?_ _ | refine blk_drew ?_ | refine blk_alloc ?_ _)); refine blk_put (cs := #[.int .i64 x242000_9, .int .i64 0, .int .i64 0, .int .i64 0]) ?_ 1 _ rfl; (with_reducible repeat (first | refine blk_drewN ?_ _ | refine blk_drew ?_ | refine blk_alloc ?_ _)); refine blk_put (cs := #[.int .i64 0, .int .i64 0, .int .i64 0, .int .i64 0]) ?_ 0 _ rfl; (with_reducible repeat (first | refine blk_drewN ?_ _ | refine blk_drew ?_ | refine blk_alloc ?_ _)); exact BK223.out) Try.underlying36 rfl (by kernel_rfl)) rfl ?_
        exact ⟨by first | rfl | (simp [errW_none, errW_some] <;> rfl) | (simp [*, errW_none, errW_some] <;> rfl), by repeat (first | (with_reducible first | exact HB.out | apply below_alloc | apply pw_below_drewN | apply below_drew1 | refine below_set ?_ (IsS101.ge HI224.out) | refine below_set ?_ GE223.out | refine below_set ?_ GE241.out | refine below_set ?_ GE253.out) | exact HB.out)⟩
      · rw [if_neg c38] at H
        have c38b0 : (t254 == 0) = false := beq_eq_false_iff_ne.mpr c38
        have c38b1 : (t254 != 0) = true := bne_iff_ne.mpr c38
        by_cases c55 : t254 = 1
        · rw [if_pos c55] at H
          have c55b0 : (t254 == 1) = true := beq_iff_eq.mpr c55
          have c55b1 : (t254 != 1) = false := bne_eq_false_iff_eq.mpr c55
          clear c55
          simp only [Option.some.injEq, Prod.mk.injEq] at H
          obtain ⟨rfl, rfl, rfl, rfl, rfl⟩ := H
          try go_wp2_with (first | ((with_reducible refine gate_callee (f := 81) rfl ?_); refine goesL_ (some 49) rfl rfl Try.func81 (by kernel_rfl) rfl #[.pointer (some ⟨gb224, 0, none⟩), .int .i64 6] rfl (by (try simp only [List.map_toArray, List.map_cons, List.map_nil]); first | done | rfl | (simp only [List.length_drop, List.length_take]; rfl)) ?_; (with_reducible refine (spec_l1Cur_pick.calls gb224 l0 t246 t247 6 t254 t255 t256 w _ ?side1 ?side2 A37.out).mono ?_); (case side1 => first | ((repeat (first | (with_reducible first | exact HI224.out | apply IsS101.alloc | apply IsS101.drewN | apply IsS101.drew | apply IsS101.set_1 | apply IsS101.set_2 | refine IsS101.far ?_ NB224_223.out _ | refine IsS101.far ?_ NB224_241.out _ | refine IsS101.far ?_ NB224_253.out _) | exact HI224.out)); done) | (simp only [Int.add_zero]; repeat (first | (with_reducible first | exact HI224.out | apply IsS101.alloc | apply IsS101.drewN | apply IsS101.drew | apply IsS101.set_1 | apply IsS101.set_2 | refine IsS101.far ?_ NB224_223.out _ | refine IsS101.far ?_ NB224_241.out _ | refine IsS101.far ?_ NB224_253.out _) | exact HI224.out))); (case side2 => repeat (first | (with_reducible first | exact HB.out | apply below_alloc | apply pw_below_drewN | apply below_drew1 | refine below_set ?_ (IsS101.ge HI224.out) | refine below_set ?_ GE223.out | refine below_set ?_ GE241.out | refine below_set ?_ GE253.out) | exact HB.out)); rintro e w56 ⟨rfl, hi, hb, hk⟩; refine ⟨_, rfl, ?_⟩; have n0_ := Aside0.mk (KeepBut.blk hk (g' := gb223) (o := .cells #[.int .i64 0, .int .i64 0, .int .i64 0, .int .i64 0] 36 (0, 0)) (by (with_reducible repeat (first | refine blk_drewN ?_ _ | refine blk_drew ?_ | refine blk_alloc ?_ _)); exact BK223.out) NB223_224.out (by simp)); have n1_ := Aside0.mk (KeepBut.blk hk (g' := gb241) (o := .cells #[.int .i64 x242000_9, .int .i64 x242001_9, .int .i64 x242002_9, .int .i64 x242003_9] 36 (0, 0)) (by (with_reducible repeat (first | refine blk_drewN ?_ _ | refine blk_drew ?_ | refine blk_alloc ?_ _)); exact BK241.out) NB241_224.out (by simp)); have n2_ := Aside0.mk (KeepBut.blk hk (g' := gb253) (o := .cells #[.int .i64 t248, .int .i64 t249, .int .i64 t250, .int .i64 t251] 36 (0, 0)) (by (with_reducible repeat (first | refine blk_drewN ?_ _ | refine blk_drew ?_ | refine blk_alloc ?_ _)); exact BK253.out) NB253_224.out (by simp)); have n3_ := Aside0.mk (hb); have n4_ := Aside0.mk (hi); clear BK223; clear BK241; clear BK253; clear HB; clear HI224; have BK223 := n0_; have BK241 := n1_; have BK253 := n2_; have HB := n3_; have HI224 := n4_; clear n0_ n1_ n2_ n3_ n4_; (try clear hb); (try clear hb2); (try clear hk); (try clear hi); have hnb57 := NB241_223.out; have hnc57 := NB223_241.out; have hnb58 := NB241_253.out; have hnc58 := NB253_241.out; have hnb59 := NB241_224.out; have hnc59 := NB224_241.out; have hcz60_0 : w56.cell? ⟨gb241, 0, none⟩ = some (.int .i64 x242000_9) := (blk_cell BK241.out 0).trans rfl; have hcz60_1 : w56.cell? ⟨gb241, 1, none⟩ = some (.int .i64 x242001_9) := (blk_cell BK241.out 1).trans rfl; have hcz60_2 : w56.cell? ⟨gb241, 2, none⟩ = some (.int .i64 x242002_9) := (blk_cell BK241.out 2).trans rfl; have hcz60_3 : w56.cell? ⟨gb241, 3, none⟩ = some (.int .i64 x242003_9) := (blk_cell BK241.out 3).trans rfl; have hfz60_0 := blk_frozen BK241.out 0; have hfz60_1 := blk_frozen BK241.out 1; have hfz60_2 := blk_frozen BK241.out 2; have hfz60_3 := blk_frozen BK241.out 3))
          have n0_ : Aside0 ((w56.setCell ⟨gb241, 2, none⟩ (.int .i64 (wrap64 (x242002_9 + 1)))).heap[gb223]? = some (.cells #[.int .i64 0, .int .i64 0, .int .i64 0, .int .i64 0] 36 (0, 0))) := ⟨by (with_reducible repeat (first | refine blk_drewN ?_ _ | refine blk_drew ?_ | refine blk_alloc ?_ _)); refine blk_far ?_ NB223_241.out _; (with_reducible repeat (first | refine blk_drewN ?_ _ | refine blk_drew ?_ | refine blk_alloc ?_ _)); exact BK223.out⟩
          have n1_ : Aside0 ((w56.setCell ⟨gb241, 2, none⟩ (.int .i64 (wrap64 (x242002_9 + 1)))).heap[gb241]? = some (.cells #[.int .i64 x242000_9, .int .i64 x242001_9, .int .i64 (wrap64 (x242002_9 + 1)), .int .i64 x242003_9] 36 (0, 0))) := ⟨by (with_reducible repeat (first | refine blk_drewN ?_ _ | refine blk_drew ?_ | refine blk_alloc ?_ _)); refine blk_put (cs := #[.int .i64 x242000_9, .int .i64 x242001_9, .int .i64 x242002_9, .int .i64 x242003_9]) ?_ 2 _ rfl; (with_reducible repeat (first | refine blk_drewN ?_ _ | refine blk_drew ?_ | refine blk_alloc ?_ _)); exact BK241.out⟩
          have n2_ : Aside0 ((w56.setCell ⟨gb241, 2, none⟩ (.int .i64 (wrap64 (x242002_9 + 1)))).heap[gb253]? = some (.cells #[.int .i64 t248, .int .i64 t249, .int .i64 t250, .int .i64 t251] 36 (0, 0))) := ⟨by (with_reducible repeat (first | refine blk_drewN ?_ _ | refine blk_drew ?_ | refine blk_alloc ?_ _)); refine blk_far ?_ NB253_241.out _; (with_reducible repeat (first | refine blk_drewN ?_ _ | refine blk_drew ?_ | refine blk_alloc ?_ _)); exact BK253.out⟩
          have n3_ : Aside0 (IsS101 w (w56.setCell ⟨gb241, 2, none⟩ (.int .i64 (wrap64 (x242002_9 + 1)))) gb224 l0 t255 t256) := ⟨by first | ((repeat (first | (with_reducible first | exact HI224.out | apply IsS101.alloc | apply IsS101.drewN | apply IsS101.drew | apply IsS101.set_1 | apply IsS101.set_2 | refine IsS101.far ?_ NB224_223.out _ | refine IsS101.far ?_ NB224_241.out _ | refine IsS101.far ?_ NB224_253.out _) | exact HI224.out)); done) | (simp only [Int.add_zero]; repeat (first | (with_reducible first | exact HI224.out | apply IsS101.alloc | apply IsS101.drewN | apply IsS101.drew | apply IsS101.set_1 | apply IsS101.set_2 | refine IsS101.far ?_ NB224_223.out _ | refine IsS101.far ?_ NB224_241.out _ | refine IsS101.far ?_ NB224_253.out _) | exact HI224.out))⟩
          have n4_ : Aside0 (Below w.heap.size w (w56.setCell ⟨gb241, 2, none⟩ (.int .i64 (wrap64 (x242002_9 + 1))))) := ⟨by repeat (first | (with_reducible first | exact HB.out | apply below_alloc | apply pw_below_drewN | apply below_drew1 | refine below_set ?_ (IsS101.ge HI224.out) | refine below_set ?_ GE223.out | refine below_set ?_ GE241.out | refine below_set ?_ GE253.out) | exact HB.out)⟩
          (try clear BK223)
          (try clear BK241)
          (try clear BK253)
          (try clear HI224)
          (try clear HB)
          generalize (w56.setCell ⟨gb241, 2, none⟩ (.int .i64 (wrap64 (x242002_9 + 1)))) = w61 at n0_ n1_ n2_ n3_ n4_ ⊢
          have BK223 := n0_
          have BK241 := n1_
          have BK253 := n2_
          have HI224 := n3_
          have HB := n4_
          clear n0_ n1_ n2_ n3_ n4_
          have n0_ := Aside0.mk (blk_drew BK223.out)
          have n1_ := Aside0.mk (blk_drew BK241.out)
          have n2_ := Aside0.mk (blk_drew BK253.out)
          have n3_ := Aside0.mk (IsS101.drew HI224.out)
          have n4_ := Aside0.mk (below_drew1 HB.out)
          clear BK223
          clear BK241
          clear BK253
          clear HI224
          clear HB
          have BK223 := n0_
          have BK241 := n1_
          have BK253 := n2_
          have HI224 := n3_
          have HB := n4_
          clear n0_ n1_ n2_ n3_ n4_
          refine start_ (n := 4) (S := fun w' => w'.cell? ⟨gb241, 0, none⟩ = some (.int .i64 x242000_9) ∧ w'.cell? ⟨gb241, 1, none⟩ = some (.int .i64 x242001_9) ∧ w'.cell? ⟨gb241, 2, none⟩ = some (.int .i64 (wrap64 (x242002_9 + 1))) ∧ w'.cell? ⟨gb241, 3, none⟩ = some (.int .i64 x242003_9)) (ds := []) #[false, false, false, false] (by kernel_rfl) rfl rfl ⟨(blk_cell BK241.out 0).trans rfl, (blk_cell BK241.out 1).trans rfl, (blk_cell BK241.out 2).trans rfl, (blk_cell BK241.out 3).trans rfl⟩ (fun hHeld => ?_)
          generalize w61.drew = w62 at BK223 BK241 BK253 HI224 HB hHeld ⊢
          refine pure_ (i := 0) (N := some 62) (v := ?_) (a' := ?_) #[true, false, false, false] rfl rfl (by kernel_rfl) (fun _ _ _ h => h) (Or.inl ⟨by rfl, ?_⟩) ?_ ?_
          rotate_left
          · intro w'
            go_simp
            with_reducible rfl
          rotate_left
          · simp only [Act.put, List.setIfInBounds_toArray, List.set_cons_zero, List.set_cons_succ, i64_w, i32_w]
            rfl
          refine pure_ (i := 2) (N := some 2) (v := ?_) (a' := ?_) #[true, false, true, false] rfl rfl (by kernel_rfl) (fun _ _ _ h => h) (Or.inl ⟨by rfl, ?_⟩) ?_ ?_
          rotate_left
          · intro w'
            go_simp
            with_reducible rfl
          rotate_left
          · simp only [Act.put, List.setIfInBounds_toArray, List.set_cons_zero, List.set_cons_succ, i64_w, i32_w]
            rfl
          refine take_ (i := 1) (N := some 63) (v := ?_) (a' := ?_) #[true, true, true, false] rfl rfl (by kernel_rfl) (fun _ _ _ h => h) (Or.inl ⟨by rfl, ?_⟩) hHeld ?_ ?_
          rotate_left
          · rintro w' ⟨s0, s1, s2, s3⟩
            go_simp
            with_reducible rfl
          rotate_left
          · simp only [Act.put, List.setIfInBounds_toArray, List.set_cons_zero, List.set_cons_succ, i64_w, i32_w]
            rfl
          refine one_ (i := 3) (N := none) #[true, true, true, true] rfl rfl (by kernel_rfl) (by decide) (fun K hK => ?_)
          have hs63 : w62.cell? ⟨gb223, 0, none⟩ = some (.int .i64 0) := (blk_cell BK223.out 0).trans rfl
          have hfs63 := blk_frozen BK223.out 0
          have hns63_1 := NB241_223.out
          have hns63_2 := NB253_223.out
          have hms63_1 := NB223_241.out
          have hms63_2 := NB223_253.out
          have hs64 : w62.cell? ⟨gb223, 1, none⟩ = some (.int .i64 0) := (blk_cell BK223.out 1).trans rfl
          have hfs64 := blk_frozen BK223.out 1
          have hns64_1 := NB241_223.out
          have hns64_2 := NB253_223.out
          have hms64_1 := NB223_241.out
          have hms64_2 := NB223_253.out
          have hs65 : w62.cell? ⟨gb223, 2, none⟩ = some (.int .i64 0) := (blk_cell BK223.out 2).trans rfl
          have hfs65 := blk_frozen BK223.out 2
          have hns65_1 := NB241_223.out
          have hns65_2 := NB253_223.out
          have hms65_1 := NB223_241.out
          have hms65_2 := NB223_253.out
          have hs66 : w62.cell? ⟨gb223, 3, none⟩ = some (.int .i64 0) := (blk_cell BK223.out 3).trans rfl
          have hfs66 := blk_frozen BK223.out 3
          have hns66_1 := NB241_223.out
          have hns66_2 := NB253_223.out
          have hms66_1 := NB223_241.out
          have hms66_2 := NB223_253.out
          refine skip_ (w1 := ?_) (by rfl) rfl ?_ ?_
          rotate_left
          · go_simp
            rfl
          refine hK.out _ _ ⟨((cell_far (p := ⟨gb223, _, none⟩) NB241_223.out _).trans (((cell_far (p := ⟨gb223, _, none⟩) NB241_223.out _).trans (((cell_far (p := ⟨gb223, _, none⟩) NB241_223.out _).trans (((cell_far (p := ⟨gb223, _, none⟩) NB241_223.out _).trans (hHeld.1)))))))), ((cell_far (p := ⟨gb223, _, none⟩) NB241_223.out _).trans (((cell_far (p := ⟨gb223, _, none⟩) NB241_223.out _).trans (((cell_far (p := ⟨gb223, _, none⟩) NB241_223.out _).trans (((cell_far (p := ⟨gb223, _, none⟩) NB241_223.out _).trans (hHeld.2.1)))))))), ((cell_far (p := ⟨gb223, _, none⟩) NB241_223.out _).trans (((cell_far (p := ⟨gb223, _, none⟩) NB241_223.out _).trans (((cell_far (p := ⟨gb223, _, none⟩) NB241_223.out _).trans (((cell_far (p := ⟨gb223, _, none⟩) NB241_223.out _).trans (hHeld.2.2.1)))))))), ((cell_far (p := ⟨gb223, _, none⟩) NB241_223.out _).trans (((cell_far (p := ⟨gb223, _, none⟩) NB241_223.out _).trans (((cell_far (p := ⟨gb223, _, none⟩) NB241_223.out _).trans (((cell_far (p := ⟨gb223, _, none⟩) NB241_223.out _).trans (hHeld.2.2.2))))))))⟩ (fun hHeld => ?_)
          clear hK K
          refine done_ (by kernel_rfl) ?_
          try go_wp2
          refine bodyPost_ret (results_tc rfl _ _ gb223 36 #[.int .i64 x242000_9, .int .i64 x242001_9, .int .i64 (wrap64 (x242002_9 + 1)), .int .i64 x242003_9] (0, 0) _ rfl (by (with_reducible repeat (first | refine blk_drewN ?_ _ | refine blk_drew ?_ | refine blk_alloc ?_ _)); refine blk_put (cs := #[.int .i64 x242000_9, .int .i64 x242001_9, .int .i64 (wrap64 (x242002_9 + 1)), .int .i64 0]) ?_ 3 _ rfl; (with_reducible repeat (first | refine blk_drewN ?_ _ | refine blk_drew ?_ | refine blk_alloc ?_ _)); refine blk_put (cs := #[.int .i64 x242000_9, .int .i64 x242001_9, .int .i64 0, .int .i64 0]) ?_ 2 _ rfl; (with_reducible repeat (first | refine blk_drewN ?_ _ | refine blk_drew ?_ | refine blk_alloc ?_ _)); refine blk_put (cs := #[.int .i64 x242000_9, .int .i64 0, .int .i64 0, .int .i64 0]) ?_ 1 _ rfl; (with_reducible repeat (first | refine blk_drewN ?_ _ | refine blk_drew ?_ | refine blk_alloc ?_ _)); refine blk_put (cs := #[.int .i64 0, .int .i64 0, .int .i64 0, .int .i64 0]) ?_ 0 _ rfl; (with_reducible repeat (first | refine blk_drewN ?_ _ | refine blk_drew ?_ | refine blk_alloc ?_ _)); exact BK223.out) Try.underlying36 rfl (by kernel_rfl)) rfl ?_
          exact ⟨by first | rfl | (simp [errW_none, errW_some] <;> rfl) | (simp [*, errW_none, errW_some] <;> rfl), by repeat (first | (with_reducible first | exact HB.out | apply below_alloc | apply pw_below_drewN | apply below_drew1 | refine below_set ?_ (IsS101.ge HI224.out) | refine below_set ?_ GE223.out | refine below_set ?_ GE241.out | refine below_set ?_ GE253.out) | exact HB.out)⟩
        · rw [if_neg c55] at H
          have c55b0 : (t254 == 1) = false := beq_eq_false_iff_ne.mpr c55
          have c55b1 : (t254 != 1) = true := bne_iff_ne.mpr c55
          simp only [Option.some.injEq, Prod.mk.injEq] at H
          obtain ⟨rfl, rfl, rfl, rfl, rfl⟩ := H
          try go_wp2_with (first | ((with_reducible refine gate_callee (f := 81) rfl ?_); refine goesL_ (some 49) rfl rfl Try.func81 (by kernel_rfl) rfl #[.pointer (some ⟨gb224, 0, none⟩), .int .i64 6] rfl (by (try simp only [List.map_toArray, List.map_cons, List.map_nil]); first | done | rfl | (simp only [List.length_drop, List.length_take]; rfl)) ?_; (with_reducible refine (spec_l1Cur_pick.calls gb224 l0 t246 t247 6 t254 t255 t256 w _ ?side1 ?side2 A37.out).mono ?_); (case side1 => first | ((repeat (first | (with_reducible first | exact HI224.out | apply IsS101.alloc | apply IsS101.drewN | apply IsS101.drew | apply IsS101.set_1 | apply IsS101.set_2 | refine IsS101.far ?_ NB224_223.out _ | refine IsS101.far ?_ NB224_241.out _ | refine IsS101.far ?_ NB224_253.out _) | exact HI224.out)); done) | (simp only [Int.add_zero]; repeat (first | (with_reducible first | exact HI224.out | apply IsS101.alloc | apply IsS101.drewN | apply IsS101.drew | apply IsS101.set_1 | apply IsS101.set_2 | refine IsS101.far ?_ NB224_223.out _ | refine IsS101.far ?_ NB224_241.out _ | refine IsS101.far ?_ NB224_253.out _) | exact HI224.out))); (case side2 => repeat (first | (with_reducible first | exact HB.out | apply below_alloc | apply pw_below_drewN | apply below_drew1 | refine below_set ?_ (IsS101.ge HI224.out) | refine below_set ?_ GE223.out | refine below_set ?_ GE241.out | refine below_set ?_ GE253.out) | exact HB.out)); rintro e w67 ⟨rfl, hi, hb, hk⟩; refine ⟨_, rfl, ?_⟩; have n0_ := Aside0.mk (KeepBut.blk hk (g' := gb223) (o := .cells #[.int .i64 0, .int .i64 0, .int .i64 0, .int .i64 0] 36 (0, 0)) (by (with_reducible repeat (first | refine blk_drewN ?_ _ | refine blk_drew ?_ | refine blk_alloc ?_ _)); exact BK223.out) NB223_224.out (by simp)); have n1_ := Aside0.mk (KeepBut.blk hk (g' := gb241) (o := .cells #[.int .i64 x242000_9, .int .i64 x242001_9, .int .i64 x242002_9, .int .i64 x242003_9] 36 (0, 0)) (by (with_reducible repeat (first | refine blk_drewN ?_ _ | refine blk_drew ?_ | refine blk_alloc ?_ _)); exact BK241.out) NB241_224.out (by simp)); have n2_ := Aside0.mk (KeepBut.blk hk (g' := gb253) (o := .cells #[.int .i64 t248, .int .i64 t249, .int .i64 t250, .int .i64 t251] 36 (0, 0)) (by (with_reducible repeat (first | refine blk_drewN ?_ _ | refine blk_drew ?_ | refine blk_alloc ?_ _)); exact BK253.out) NB253_224.out (by simp)); have n3_ := Aside0.mk (hb); have n4_ := Aside0.mk (hi); clear BK223; clear BK241; clear BK253; clear HB; clear HI224; have BK223 := n0_; have BK241 := n1_; have BK253 := n2_; have HB := n3_; have HI224 := n4_; clear n0_ n1_ n2_ n3_ n4_; (try clear hb); (try clear hb2); (try clear hk); (try clear hi)))
          have n0_ := Aside0.mk (blk_drew BK223.out)
          have n1_ := Aside0.mk (blk_drew BK241.out)
          have n2_ := Aside0.mk (blk_drew BK253.out)
          have n3_ := Aside0.mk (IsS101.drew HI224.out)
          have n4_ := Aside0.mk (below_drew1 HB.out)
          clear BK223
          clear BK241
          clear BK253
          clear HI224
          clear HB
          have BK223 := n0_
          have BK241 := n1_
          have BK253 := n2_
          have HI224 := n3_
          have HB := n4_
          clear n0_ n1_ n2_ n3_ n4_
          refine start_ (n := 4) (S := fun w' => w'.cell? ⟨gb241, 0, none⟩ = some (.int .i64 x242000_9) ∧ w'.cell? ⟨gb241, 1, none⟩ = some (.int .i64 x242001_9) ∧ w'.cell? ⟨gb241, 2, none⟩ = some (.int .i64 x242002_9) ∧ w'.cell? ⟨gb241, 3, none⟩ = some (.int .i64 x242003_9)) (ds := []) #[false, false, false, false] (by kernel_rfl) rfl rfl ⟨(blk_cell BK241.out 0).trans rfl, (blk_cell BK241.out 1).trans rfl, (blk_cell BK241.out 2).trans rfl, (blk_cell BK241.out 3).trans rfl⟩ (fun hHeld => ?_)
          generalize w67.drew = w68 at BK223 BK241 BK253 HI224 HB hHeld ⊢
          refine pure_ (i := 0) (N := some 62) (v := ?_) (a' := ?_) #[true, false, false, false] rfl rfl (by kernel_rfl) (fun _ _ _ h => h) (Or.inl ⟨by rfl, ?_⟩) ?_ ?_
          rotate_left
          · intro w'
            go_simp
            with_reducible rfl
          rotate_left
          · simp only [Act.put, List.setIfInBounds_toArray, List.set_cons_zero, List.set_cons_succ, i64_w, i32_w]
            rfl
          refine pure_ (i := 2) (N := some 2) (v := ?_) (a' := ?_) #[true, false, true, false] rfl rfl (by kernel_rfl) (fun _ _ _ h => h) (Or.inl ⟨by rfl, ?_⟩) ?_ ?_
          rotate_left
          · intro w'
            go_simp
            with_reducible rfl
          rotate_left
          · simp only [Act.put, List.setIfInBounds_toArray, List.set_cons_zero, List.set_cons_succ, i64_w, i32_w]
            rfl
          refine take_ (i := 1) (N := some 63) (v := ?_) (a' := ?_) #[true, true, true, false] rfl rfl (by kernel_rfl) (fun _ _ _ h => h) (Or.inl ⟨by rfl, ?_⟩) hHeld ?_ ?_
          rotate_left
          · rintro w' ⟨s0, s1, s2, s3⟩
            go_simp
            with_reducible rfl
          rotate_left
          · simp only [Act.put, List.setIfInBounds_toArray, List.set_cons_zero, List.set_cons_succ, i64_w, i32_w]
            rfl
          refine one_ (i := 3) (N := none) #[true, true, true, true] rfl rfl (by kernel_rfl) (by decide) (fun K hK => ?_)
          have hs69 : w68.cell? ⟨gb223, 0, none⟩ = some (.int .i64 0) := (blk_cell BK223.out 0).trans rfl
          have hfs69 := blk_frozen BK223.out 0
          have hns69_1 := NB241_223.out
          have hns69_2 := NB253_223.out
          have hms69_1 := NB223_241.out
          have hms69_2 := NB223_253.out
          have hs70 : w68.cell? ⟨gb223, 1, none⟩ = some (.int .i64 0) := (blk_cell BK223.out 1).trans rfl
          have hfs70 := blk_frozen BK223.out 1
          have hns70_1 := NB241_223.out
          have hns70_2 := NB253_223.out
          have hms70_1 := NB223_241.out
          have hms70_2 := NB223_253.out
          have hs71 : w68.cell? ⟨gb223, 2, none⟩ = some (.int .i64 0) := (blk_cell BK223.out 2).trans rfl
          have hfs71 := blk_frozen BK223.out 2
          have hns71_1 := NB241_223.out
          have hns71_2 := NB253_223.out
          have hms71_1 := NB223_241.out
          have hms71_2 := NB223_253.out
          have hs72 : w68.cell? ⟨gb223, 3, none⟩ = some (.int .i64 0) := (blk_cell BK223.out 3).trans rfl
          have hfs72 := blk_frozen BK223.out 3
          have hns72_1 := NB241_223.out
          have hns72_2 := NB253_223.out
          have hms72_1 := NB223_241.out
          have hms72_2 := NB223_253.out
          refine skip_ (w1 := ?_) (by rfl) rfl ?_ ?_
          rotate_left
          · go_simp
            rfl
          refine hK.out _ _ ⟨((cell_far (p := ⟨gb223, _, none⟩) NB241_223.out _).trans (((cell_far (p := ⟨gb223, _, none⟩) NB241_223.out _).trans (((cell_far (p := ⟨gb223, _, none⟩) NB241_223.out _).trans (((cell_far (p := ⟨gb223, _, none⟩) NB241_223.out _).trans (hHeld.1)))))))), ((cell_far (p := ⟨gb223, _, none⟩) NB241_223.out _).trans (((cell_far (p := ⟨gb223, _, none⟩) NB241_223.out _).trans (((cell_far (p := ⟨gb223, _, none⟩) NB241_223.out _).trans (((cell_far (p := ⟨gb223, _, none⟩) NB241_223.out _).trans (hHeld.2.1)))))))), ((cell_far (p := ⟨gb223, _, none⟩) NB241_223.out _).trans (((cell_far (p := ⟨gb223, _, none⟩) NB241_223.out _).trans (((cell_far (p := ⟨gb223, _, none⟩) NB241_223.out _).trans (((cell_far (p := ⟨gb223, _, none⟩) NB241_223.out _).trans (hHeld.2.2.1)))))))), ((cell_far (p := ⟨gb223, _, none⟩) NB241_223.out _).trans (((cell_far (p := ⟨gb223, _, none⟩) NB241_223.out _).trans (((cell_far (p := ⟨gb223, _, none⟩) NB241_223.out _).trans (((cell_far (p := ⟨gb223, _, none⟩) NB241_223.out _).trans (hHeld.2.2.2))))))))⟩ (fun hHeld => ?_)
          clear hK K
          refine done_ (by kernel_rfl) ?_
          try go_wp2
          refine bodyPost_ret (results_tc rfl _ _ gb223 36 #[.int .i64 x242000_9, .int .i64 x242001_9, .int .i64 x242002_9, .int .i64 x242003_9] (0, 0) _ rfl (by (with_reducible repeat (first | refine blk_drewN ?_ _ | refine blk_drew ?_ | refine blk_alloc ?_ _)); refine blk_put (cs := #[.int .i64 x242000_9, .int .i64 x242001_9, .int .i64 x242002_9, .int .i64 0]) ?_ 3 _ rfl; (with_reducible repeat (first | refine blk_drewN ?_ _ | refine blk_drew ?_ | refine blk_alloc ?_ _)); refine blk_put (cs := #[.int .i64 x242000_9, .int .i64 x242001_9, .int .i64 0, .int .i64 0]) ?_ 2 _ rfl; (with_reducible repeat (first | refine blk_drewN ?_ _ | refine blk_drew ?_ | refine blk_alloc ?_ _)); refine blk_put (cs := #[.int .i64 x242000_9, .int .i64 0, .int .i64 0, .int .i64 0]) ?_ 1 _ rfl; (with_reducible repeat (first | refine blk_drewN ?_ _ | refine blk_drew ?_ | refine blk_alloc ?_ _)); refine blk_put (cs := #[.int .i64 0, .int .i64 0, .int .i64 0, .int .i64 0]) ?_ 0 _ rfl; (with_reducible repeat (first | refine blk_drewN ?_ _ | refine blk_drew ?_ | refine blk_alloc ?_ _)); exact BK223.out) Try.underlying36 rfl (by kernel_rfl)) rfl ?_
          exact ⟨by first | rfl | (simp [errW_none, errW_some] <;> rfl) | (simp [*, errW_none, errW_some] <;> rfl), by repeat (first | (with_reducible first | exact HB.out | apply below_alloc | apply pw_below_drewN | apply below_drew1 | refine below_set ?_ (IsS101.ge HI224.out) | refine below_set ?_ GE223.out | refine below_set ?_ GE241.out | refine below_set ?_ GE253.out) | exact HB.out)⟩

/-! ### spec_l1All: function 96 -/
def spec_l1All.l0 : Nat → Int → Int → List Int → Int → Int → Option (Bool)
  | 0, _, _, _, _, _ => none
  | k + 1, x1, x2, x9, x10, x11 => if x11 < x10 then (if 0 ≤ x11 then (if x11 < (x9.length : Int) then ((spec_l1In.f (rd x9 x11) x1 x2).bind fun t264 => (if t264 = true then (spec_l1All.l0 k x1 x2 x9 x10 (wrap64 (x11 + 1))) else (some false))) else (none)) else (none)) else (some true)
def spec_l1All.f (k : Nat) (l0 : List Int) (a1 : Int) (a2 : Int) : Option (Bool) := spec_l1All.l0 k a1 a2 l0 (l0.length : Int) 0
theorem spec_l1All.mono_l : ∀ k, (∀ y0 y1 y2 y3 y4, LeO (spec_l1All.l0 k y0 y1 y2 y3 y4) (spec_l1All.l0 (k + 1) y0 y1 y2 y3 y4))
  | 0 => fun _ _ _ _ _ r h => by simp [spec_l1All.l0] at h
  | k + 1 => by
    have ih0 := spec_l1All.mono_l k
    · intro y0 y1 y2 y3 y4
      unfold spec_l1All.l0
      repeat' first
      | (with_reducible exact ih0 _ _ _ _ _)
      | (with_reducible exact LeO.refl _)
      | (with_reducible exact LeO.none _)
      | (with_reducible refine LeO.ite ?_ ?_)
      | (with_reducible refine LeO.bind ?_ (fun _ => ?_))
      | exact ih0 _ _ _ _ _
      | exact LeO.none _
      | refine LeO.ite ?_ ?_
      | refine LeO.bind ?_ (fun _ => ?_)
theorem spec_l1All.mono : ∀ a0 a1 a2 k, LeO (spec_l1All.f k a0 a1 a2) (spec_l1All.f (k + 1) a0 a1 a2) := by
  intro a0 a1 a2 k
  have ih0 := spec_l1All.mono_l k
  unfold spec_l1All.f
  repeat' first
      | (with_reducible exact ih0 _ _ _ _ _)
      | (with_reducible exact LeO.refl _)
      | (with_reducible exact LeO.none _)
      | (with_reducible refine LeO.ite ?_ ?_)
      | (with_reducible refine LeO.bind ?_ (fun _ => ?_))
      | exact ih0 _ _ _ _ _
      | exact LeO.none _
      | refine LeO.ite ?_ ?_
      | refine LeO.bind ?_ (fun _ => ?_)
set_option maxHeartbeats 8000000 in
set_option maxRecDepth 100000 in
theorem spec_l1All.calls (k : Nat) (A0 : Option Addr) (c0 : Nat) (l0 : List Int) (a1 : Int) (a2 : Int) (r : Bool) (w : World) (hr0 : Kd.C (Kd.int .i64) w A0 l0.length l0) (hc0 : l0.length ≤ c0) (h : spec_l1All.f k l0 a1 a2 = some r) :
    Calls Try.prog 96 #[.slice A0 l0.length c0, .int .i64 a1, .int .i64 a2] w fun e w' => e = .returned (.bool r) ∧ Drawn0 w w' := by
  have HR0 := Aside0.mk hr0
  have HC0 := Aside0.mk hc0
  clear hr0 hc0
  have H : (spec_l1All.l0 k a1 a2 l0 (l0.length : Int) 0) = some r := h
  clear h
  have H' := Aside0.mk H
  clear H
  go_enter Try.func96, Try.ntmps96
  go_wp2
  go_loopg [11] k (fun kq v11 w' => ∃ (x11_1 : Int), v11 = .int .i64 x11_1 ∧ Aside0 (spec_l1All.l0 kq a1 a2 l0 (l0.length : Int) x11_1 = some r) ∧ Aside0 (kq ≤ k) ∧ Drawn0 w w')
  case atStart => exact ⟨(0), (by first | rfl | (simp; done) | (simp [*]; done)), H', ⟨Nat.le_refl _⟩, by repeat (first | exact Drawn0.refl _ | apply Drawn0.step)⟩
  case round =>
    clear H'
    try clear p2
    obtain ⟨x11_1, rfl, HA, HK1, ⟨m1, rfl⟩⟩ := hrel
    cases gk with
    | zero => exact absurd HA.out (by simp [spec_l1All.l0])
    | succ k1 =>
      have H := HA.out
      clear HA
      simp only [spec_l1All.l0] at H
      by_cases c4 : x11_1 < (l0.length : Int)
      · rw [if_pos c4] at H
        have c4b0 : decide (x11_1 < (l0.length : Int)) = true := decide_eq_true c4
        clear c4
        by_cases c5 : 0 ≤ x11_1
        · rw [if_pos c5] at H
          have c5b0 : decide (0 ≤ x11_1) = true := decide_eq_true c5
          clear c5
          by_cases c6 : x11_1 < (l0.length : Int)
          · rw [if_pos c6] at H
            have c6b0 : decide (x11_1 < (l0.length : Int)) = true := decide_eq_true c6
            clear c6
            replace H := Option.bind_eq_some_iff.mp H
            obtain ⟨t264, A70, H⟩ := H
            replace H : (if t264 = true then (spec_l1All.l0 k1 a1 a2 l0 (l0.length : Int) (wrap64 (x11_1 + 1))) else (some false)) = some r := H
            have A7 := Aside0.mk A70
            clear A70
            by_cases c8 : t264 = true
            · subst c8
              have H1 : (spec_l1All.l0 k1 a1 a2 l0 (l0.length : Int) (wrap64 (x11_1 + 1))) = some r := by rw [if_pos rfl] at H; exact H
              clear H
              have H := H1
              clear H1
              have H' := Aside0.mk H
              clear H
              have p263 : 0 ≤ (x11_1 : Int) := of_decide_eq_true (by first | (with_reducible assumption) | assumption)
              have q263 : x11_1 < (l0.length : Int) := of_decide_eq_true (by first | (with_reducible assumption) | assumption)
              obtain ⟨ad263, e263, hx263_0⟩ := Kd.at_int HR0.out x11_1 p263 q263
              cases e263
              replace p263 := eq_true p263
              replace q263 := eq_true q263
              go_wp2_with (first | ((with_reducible refine gate_callee (f := 74) rfl ?_); refine goesL_ (some 18) rfl rfl Try.func74 (by kernel_rfl) rfl #[.int .i64 (rd l0 x11_1), .int .i64 a1, .int .i64 a2] rfl (by (try simp only [List.map_toArray, List.map_cons, List.map_nil]); first | done | rfl | (simp only [List.length_drop, List.length_take]; rfl)) ?_; (with_reducible refine (spec_l1In.calls (rd l0 x11_1) a1 a2 true _ A7.out).mono ?_); rintro e w' ⟨rfl, ⟨nd, rfl⟩⟩; refine ⟨_, rfl, ?_⟩))
              go_roundg k1
              case measure => have := HK1.out; omega
              case rel => exact ⟨(wrap64 (x11_1 + 1)), (by first | rfl | (simp; done) | (simp [*]; done)), H', ⟨by have := HK1.out; omega⟩, by repeat (first | exact Drawn0.refl _ | apply Drawn0.step)⟩
            · replace c8 := Bool.eq_false_iff.mpr c8
              subst c8
              have H1 : (some false) = some r := by rw [if_neg (show ¬ (false = true) by decide)] at H; exact H
              clear H
              have H := H1
              clear H1
              obtain rfl := Option.some.inj H
              simp only [Option.some.injEq, Prod.mk.injEq] at H
              obtain ⟨rfl⟩ := H
              have p263 : 0 ≤ (x11_1 : Int) := of_decide_eq_true (by first | (with_reducible assumption) | assumption)
              have q263 : x11_1 < (l0.length : Int) := of_decide_eq_true (by first | (with_reducible assumption) | assumption)
              obtain ⟨ad263, e263, hx263_0⟩ := Kd.at_int HR0.out x11_1 p263 q263
              cases e263
              replace p263 := eq_true p263
              replace q263 := eq_true q263
              go_wp2_with (first | ((with_reducible refine gate_callee (f := 74) rfl ?_); refine goesL_ (some 18) rfl rfl Try.func74 (by kernel_rfl) rfl #[.int .i64 (rd l0 x11_1), .int .i64 a1, .int .i64 a2] rfl (by (try simp only [List.map_toArray, List.map_cons, List.map_nil]); first | done | rfl | (simp only [List.length_drop, List.length_take]; rfl)) ?_; (with_reducible refine (spec_l1In.calls (rd l0 x11_1) a1 a2 false _ A7.out).mono ?_); rintro e w' ⟨rfl, ⟨nd, rfl⟩⟩; refine ⟨_, rfl, ?_⟩))
              go_ret
              exact ⟨by first | rfl | (simp; done) | (simp [*]; done), by repeat (first | exact Drawn0.refl _ | apply Drawn0.step)⟩
          · rw [if_neg c6] at H
            exact absurd H (by simp)
        · rw [if_neg c5] at H
          exact absurd H (by simp)
      · rw [if_neg c4] at H
        have c4b0 : decide (x11_1 < (l0.length : Int)) = false := decide_eq_false c4
        clear c4
        obtain rfl := Option.some.inj H
        simp only [Option.some.injEq, Prod.mk.injEq] at H
        obtain ⟨rfl⟩ := H
        go_wp2
        go_ret
        exact ⟨by first | rfl | (simp; done) | (simp [*]; done), by repeat (first | exact Drawn0.refl _ | apply Drawn0.step)⟩

/-! ### spec_l11Secrets: function 64 -/
def spec_l11Secrets.f (k : Nat) (l0 : List Int) : Option (Bool) := (spec_l1In.f (l0.length : Int) 1 6).bind fun t265 => (if t265 = true then ((spec_l1All.f k l0 1 1498).bind fun t266 => (some t266)) else (some false))
theorem spec_l11Secrets.mono : ∀ a0 k, LeO (spec_l11Secrets.f k a0) (spec_l11Secrets.f (k + 1) a0) := by
  intro a0 k
  unfold spec_l11Secrets.f
  repeat' first
      | (with_reducible exact spec_l1All.mono _ _ _ _)
      | (with_reducible exact LeO.refl _)
      | (with_reducible exact LeO.none _)
      | (with_reducible refine LeO.ite ?_ ?_)
      | (with_reducible refine LeO.bind ?_ (fun _ => ?_))
      | exact spec_l1All.mono _ _ _ _
      | exact LeO.none _
      | refine LeO.ite ?_ ?_
      | refine LeO.bind ?_ (fun _ => ?_)
set_option maxHeartbeats 8000000 in
set_option maxRecDepth 100000 in
theorem spec_l11Secrets.calls (k : Nat) (A0 : Option Addr) (c0 : Nat) (l0 : List Int) (r : Bool) (w : World) (hr0 : Kd.C (Kd.int .i64) w A0 l0.length l0) (hc0 : l0.length ≤ c0) (h : spec_l11Secrets.f k l0 = some r) :
    Calls Try.prog 64 #[.slice A0 l0.length c0] w fun e w' => e = .returned (.bool r) ∧ Drawn0 w w' := by
  have HR0 := Aside0.mk hr0
  have HC0 := Aside0.mk hc0
  clear hr0 hc0
  have H : ((spec_l1In.f (l0.length : Int) 1 6).bind fun t265 => (if t265 = true then ((spec_l1All.f k l0 1 1498).bind fun t266 => (some t266)) else (some false))) = some r := h
  clear h
  replace H := Option.bind_eq_some_iff.mp H
  obtain ⟨t265, A20, H⟩ := H
  replace H : (if t265 = true then ((spec_l1All.f k l0 1 1498).bind fun t266 => (some t266)) else (some false)) = some r := H
  have A2 := Aside0.mk A20
  clear A20
  by_cases c3 : t265 = true
  · subst c3
    have H1 : ((spec_l1All.f k l0 1 1498).bind fun t266 => (some t266)) = some r := by rw [if_pos rfl] at H; exact H
    clear H
    have H := H1
    clear H1
    replace H := Option.bind_eq_some_iff.mp H
    obtain ⟨t266, A40, H⟩ := H
    replace H : (some t266) = some r := H
    have A4 := Aside0.mk A40
    clear A40
    obtain rfl := Option.some.inj H
    simp only [Option.some.injEq, Prod.mk.injEq] at H
    obtain ⟨rfl⟩ := H
    go_enter Try.func64, Try.ntmps64
    go_wp2_with (first | ((with_reducible refine gate_callee (f := 74) rfl ?_); refine goesL_ (some 5) rfl rfl Try.func74 (by kernel_rfl) rfl #[.int .i64 (l0.length : Int), .int .i64 1, .int .i64 6] rfl (by (try simp only [List.map_toArray, List.map_cons, List.map_nil]); first | done | rfl | (simp only [List.length_drop, List.length_take]; rfl)) ?_; (with_reducible refine (spec_l1In.calls (l0.length : Int) 1 6 true _ A2.out).mono ?_); rintro e w' ⟨rfl, ⟨nd, rfl⟩⟩; refine ⟨_, rfl, ?_⟩) | (go_at_call 96; (with_reducible refine (spec_l1All.calls k _ _ l0 1 1498 t266 _ ?side1 ?side2 A4.out).mono ?_); (case side1 => repeat (first | exact HR0.out | (with_reducible refine Kd.C_alloc ?_ _) | (with_reducible refine Kd.C_drewN ?_ _) | (with_reducible refine Kd.C_drew ?_))); (case side2 => exact HC0.out); rintro e w' ⟨rfl, ⟨nd, rfl⟩⟩))
    go_ret
    exact ⟨by first | rfl | (simp; done) | (simp [*]; done), by repeat (first | exact Drawn0.refl _ | apply Drawn0.step)⟩
  · replace c3 := Bool.eq_false_iff.mpr c3
    subst c3
    have H1 : (some false) = some r := by rw [if_neg (show ¬ (false = true) by decide)] at H; exact H
    clear H
    have H := H1
    clear H1
    obtain rfl := Option.some.inj H
    simp only [Option.some.injEq, Prod.mk.injEq] at H
    obtain ⟨rfl⟩ := H
    go_enter Try.func64, Try.ntmps64
    go_wp2_with (first | ((with_reducible refine gate_callee (f := 74) rfl ?_); refine goesL_ (some 5) rfl rfl Try.func74 (by kernel_rfl) rfl #[.int .i64 (l0.length : Int), .int .i64 1, .int .i64 6] rfl (by (try simp only [List.map_toArray, List.map_cons, List.map_nil]); first | done | rfl | (simp only [List.length_drop, List.length_take]; rfl)) ?_; (with_reducible refine (spec_l1In.calls (l0.length : Int) 1 6 false _ A2.out).mono ?_); rintro e w' ⟨rfl, ⟨nd, rfl⟩⟩; refine ⟨_, rfl, ?_⟩))
    go_ret
    exact ⟨by first | rfl | (simp; done) | (simp [*]; done), by repeat (first | exact Drawn0.refl _ | apply Drawn0.step)⟩

end Go.Proofs.Ytafcbeajnlfomaa.PFnReceipts
