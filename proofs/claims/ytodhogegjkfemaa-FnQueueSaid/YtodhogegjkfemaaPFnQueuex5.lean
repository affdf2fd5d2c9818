-- Written by a program of this session, after the kit's print (changed in some places; see NOTES.md). Lean checks it.
import Derived.Test.YtodhogegjkfemaaAbb
import Derived.Test.YtodhogegjkfemaaZed
import Derived.Test.YtodhogegjkfemaaPFnQueuex0
import Derived.Test.YtodhogegjkfemaaPFnQueuex2
import Derived.Test.YtodhogegjkfemaaPFnQueuex3
import Derived.Test.YtodhogegjkfemaaPFnQueuex4
namespace Go.Proofs.Ytodhogegjkfemaa.PFnQueue
open Go.Proofs.Ytodhogegjkfemaa.Abb Go.Proofs.Ytodhogegjkfemaa.Zed Go.RowKit Go.Proofs.YtodhogegjkfemaaW.PrintWords Go.Proofs.YtodhogegjkfemaaW.PrintLast Go.Proofs.YtodhogegjkfemaaW.PrintMore
attribute [local go_sem] max2_int min2_int max_two min_two max_three min_three max_four min_four   -- for this text's walks alone
set_option linter.unusedVariables false
set_option linter.unusedSimpArgs false
def spec_StepClient.f (k : Nat) (l0_0 : List ByteArray) (a0_1 : Int) (a0_2 : Int) (a1_0 : Int) (a1_1 : ByteArray) : Option (List ByteArray × Int × Int × Int × Int × Int × ByteArray × Bool) := (spec_GoodClient.f k l0_0 a0_1 a0_2).bind fun t153 => (if t153 = true then ((spec_l10Own.f l0_0 a0_1 a0_2).bind fun bt156 => ((spec_l10Step.f k bt156.1 bt156.2.1 bt156.2.2 a1_0 a1_1).bind fun bt161 => (if bt161.2.2.2.2.2.2.2 = true then ((spec_l10Own.f bt161.1 bt161.2.1 bt161.2.2.1).bind fun bt171 => (some (bt171.1, bt171.2.1, bt171.2.2, bt161.2.2.2.1, bt161.2.2.2.2.1, bt161.2.2.2.2.2.1, bt161.2.2.2.2.2.2.1, true))) else (some (([] : List ByteArray), 0, 0, 0, 0, 0, (⟨#[]⟩ : ByteArray), false))))) else (some (([] : List ByteArray), 0, 0, 0, 0, 0, (⟨#[]⟩ : ByteArray), false)))
theorem spec_StepClient.mono : ∀ a0 a1 a2 a3 a4 k, LeO (spec_StepClient.f k a0 a1 a2 a3 a4) (spec_StepClient.f (k + 1) a0 a1 a2 a3 a4) := by
 intro a0 a1 a2 a3 a4 k
 unfold spec_StepClient.f
 repeat' first
   | (with_reducible exact spec_GoodClient.mono _ _ _ _)
   | (with_reducible exact spec_l10Step.mono _ _ _ _ _ _)
   | (with_reducible exact LeO.refl _)
   | (with_reducible exact LeO.none _)
   | (with_reducible refine LeO.ite ?_ ?_)
   | (with_reducible refine LeO.bind ?_ (fun _ => ?_))
   | exact spec_GoodClient.mono _ _ _ _
   | exact spec_l10Step.mono _ _ _ _ _ _
   | exact LeO.none _
   | refine LeO.ite ?_ ?_
   | refine LeO.bind ?_ (fun _ => ?_)
def spec_StepClient.T3 : Bool × List (List Nat × List Nat) := (true, [([], []), ([0], [0]), ([], []), ([1, 2, 1], [1, 2]), ([3], [3]), ([4], [4]), ([4], [4]), ([4], [4]), ([4], [4]), ([], []), ([], []), ([9, 5, 3, 0, 1, 2, 3, 4, 5, 9, 10], [5, 9]), ([10, 6, 11, 0, 1, 2, 3, 4, 5, 6, 9, 10, 11], [6, 10]), ([7, 12, 0, 1, 2, 3, 4, 5, 6, 7, 9, 10, 11, 12], [7]), ([8, 13, 0, 1, 2, 3, 4, 5, 6, 7, 8, 9, 10, 11, 12, 13], [8])])
def spec_StepClient.B3 : List Nat := [0, 1, 0, 7, 15, 31, 31, 31, 31, 0, 0, 1599, 3711, 7935, 16383]
theorem spec_StepClient.tab3 : rtab .any (opsOf Try.f7 3) = spec_StepClient.T3 := by kernel_rfl
theorem spec_StepClient.bits3 : waitsOk spec_StepClient.T3.2 spec_StepClient.B3 = true := by kernel_rfl
def spec_StepClient.T6 : Bool × List (List Nat × List Nat) := (true, [([], []), ([0], [0]), ([], []), ([], []), ([1, 1, 0, 1], [1]), ([2, 4, 0, 1, 2, 4], [2]), ([3, 5, 0, 1, 2, 3, 4, 5], [3]), ([6, 0, 1, 2, 3, 4, 5, 6], [])])
def spec_StepClient.B6 : List Nat := [0, 1, 0, 0, 3, 23, 63, 127]
theorem spec_StepClient.tab6 : rtab .any (opsOf Try.f7 6) = spec_StepClient.T6 := by kernel_rfl
theorem spec_StepClient.bits6 : waitsOk spec_StepClient.T6.2 spec_StepClient.B6 = true := by kernel_rfl
set_option maxHeartbeats 8000000 in
set_option maxRecDepth 100000 in
theorem spec_StepClient.calls (k : Nat) (A0_0 : Option Addr) (c0_0 : Nat) (l0_0 : List ByteArray) (a0_1 : Int) (a0_2 : Int) (a1_0 : Int) (a1_1 : ByteArray) (r1 : List ByteArray) (r2 : Int) (r3 : Int) (r4 : Int) (r5 : Int) (r6 : Int) (r7 : ByteArray) (r8 : Bool) (w : World) (hr0_0 : Kd.C Kd.string w A0_0 l0_0.length l0_0) (hc0_0 : l0_0.length ≤ c0_0) (h : spec_StepClient.f k l0_0 a0_1 a0_2 a1_0 a1_1 = some (r1, r2, r3, r4, r5, r6, r7, r8)) :
  Calls Try.prog 7 #[.agg #[.slice A0_0 l0_0.length c0_0, .int .i64 a0_1, .int .i64 a0_2], .agg #[.int .i64 a1_0, .string a1_1]] w fun e w' => ∃ v0_ : Value, e = .returned (.tuple #[.agg #[v0_, .int .i64 r2, .int .i64 r3], .agg #[.int .i64 r4, .int .i64 r5, .int .i64 r6], .string r7, .bool r8]) ∧ Kd.R Kd.string 9 w' w.heap.size (fun _ => True) v0_ r1 ∧ Below w.heap.size w w' := by
 have hu29 := Try.underlying29
 have hu35 := Try.underlying35
 have hu31 := Try.underlying31
 have HR0_0 := Aside0.mk hr0_0
 have HC0_0 := Aside0.mk hc0_0
 clear hr0_0 hc0_0
 have HB := Aside0.mk (Below.refl w.heap.size w)
 have H : ((spec_GoodClient.f k l0_0 a0_1 a0_2).bind fun t153 => (if t153 = true then ((spec_l10Own.f l0_0 a0_1 a0_2).bind fun bt156 => ((spec_l10Step.f k bt156.1 bt156.2.1 bt156.2.2 a1_0 a1_1).bind fun bt161 => (if bt161.2.2.2.2.2.2.2 = true then ((spec_l10Own.f bt161.1 bt161.2.1 bt161.2.2.1).bind fun bt171 => (some (bt171.1, bt171.2.1, bt171.2.2, bt161.2.2.2.1, bt161.2.2.2.2.1, bt161.2.2.2.2.2.1, bt161.2.2.2.2.2.2.1, true))) else (some (([] : List ByteArray), 0, 0, 0, 0, 0, (⟨#[]⟩ : ByteArray), false))))) else (some (([] : List ByteArray), 0, 0, 0, 0, 0, (⟨#[]⟩ : ByteArray), false)))) = some (r1, r2, r3, r4, r5, r6, r7, r8) := h
 clear h
 replace H := oB H
 obtain ⟨t153, A30, H⟩ := H
 replace H : (if t153 = true then ((spec_l10Own.f l0_0 a0_1 a0_2).bind fun bt156 => ((spec_l10Step.f k bt156.1 bt156.2.1 bt156.2.2 a1_0 a1_1).bind fun bt161 => (if bt161.2.2.2.2.2.2.2 = true then ((spec_l10Own.f bt161.1 bt161.2.1 bt161.2.2.1).bind fun bt171 => (some (bt171.1, bt171.2.1, bt171.2.2, bt161.2.2.2.1, bt161.2.2.2.2.1, bt161.2.2.2.2.2.1, bt161.2.2.2.2.2.2.1, true))) else (some (([] : List ByteArray), 0, 0, 0, 0, 0, (⟨#[]⟩ : ByteArray), false))))) else (some (([] : List ByteArray), 0, 0, 0, 0, 0, (⟨#[]⟩ : ByteArray), false))) = some (r1, r2, r3, r4, r5, r6, r7, r8) := H
 have A3 := Aside0.mk A30
 clear A30
 by_cases c4 : t153 = true
 ·subst c4
  have H1 : ((spec_l10Own.f l0_0 a0_1 a0_2).bind fun bt156 => ((spec_l10Step.f k bt156.1 bt156.2.1 bt156.2.2 a1_0 a1_1).bind fun bt161 => (if bt161.2.2.2.2.2.2.2 = true then ((spec_l10Own.f bt161.1 bt161.2.1 bt161.2.2.1).bind fun bt171 => (some (bt171.1, bt171.2.1, bt171.2.2, bt161.2.2.2.1, bt161.2.2.2.2.1, bt161.2.2.2.2.2.1, bt161.2.2.2.2.2.2.1, true))) else (some (([] : List ByteArray), 0, 0, 0, 0, 0, (⟨#[]⟩ : ByteArray), false))))) = some (r1, r2, r3, r4, r5, r6, r7, r8) := by rw [if_pos rfl] at H; exact H
  clear H
  have H := H1
  clear H1
  replace H := oB H
  obtain ⟨⟨t156, t159, t160⟩, A50, H⟩ := H
  replace H : ((spec_l10Step.f k t156 t159 t160 a1_0 a1_1).bind fun bt161 => (if bt161.2.2.2.2.2.2.2 = true then ((spec_l10Own.f bt161.1 bt161.2.1 bt161.2.2.1).bind fun bt171 => (some (bt171.1, bt171.2.1, bt171.2.2, bt161.2.2.2.1, bt161.2.2.2.2.1, bt161.2.2.2.2.2.1, bt161.2.2.2.2.2.2.1, true))) else (some (([] : List ByteArray), 0, 0, 0, 0, 0, (⟨#[]⟩ : ByteArray), false)))) = some (r1, r2, r3, r4, r5, r6, r7, r8) := H
  have A5 := Aside0.mk A50
  clear A50
  replace H := oB H
  obtain ⟨⟨t161, t164, t165, t166, t167, t168, t169, t170⟩, A60, H⟩ := H
  replace H : (if t170 = true then ((spec_l10Own.f t161 t164 t165).bind fun bt171 => (some (bt171.1, bt171.2.1, bt171.2.2, t166, t167, t168, t169, true))) else (some (([] : List ByteArray), 0, 0, 0, 0, 0, (⟨#[]⟩ : ByteArray), false))) = some (r1, r2, r3, r4, r5, r6, r7, r8) := H
  have A6 := Aside0.mk A60
  clear A60
  by_cases c7 : t170 = true
  ·subst c7
   have H1 : ((spec_l10Own.f t161 t164 t165).bind fun bt171 => (some (bt171.1, bt171.2.1, bt171.2.2, t166, t167, t168, t169, true))) = some (r1, r2, r3, r4, r5, r6, r7, r8) := by rw [if_pos rfl] at H; exact H
   clear H
   have H := H1
   clear H1
   replace H := oB H
   obtain ⟨⟨t171, t174, t175⟩, A80, H⟩ := H
   replace H : (some (t171, t174, t175, t166, t167, t168, t169, true)) = some (r1, r2, r3, r4, r5, r6, r7, r8) := H
   have A8 := Aside0.mk A80
   clear A80
   simp only [Option.some.injEq, Prod.mk.injEq] at H
   obtain ⟨rfl, rfl, rfl, rfl, rfl, rfl, rfl, rfl⟩ := H
   go_enter Try.func7, Try.ntmps7
   try go_wp2_with (first | ((with_reducible refine gate_dst (N := 2) rfl ?_); refine box_event ?hg (N := 2) ?hd (cs := #[.slice A0_0 l0_0.length c0_0, .int .i64 a0_1, .int .i64 a0_2]) (t := 29) ?hr ?_; (case hd => rfl); (case hg => rfl); (case hr => first | (go_simp; done) | (go_simp; rfl)); intro gb149 hg w9 hbox hb; have n0_ := Aside0.mk (zS HB.out hb); have n1_ := Aside0.mk (hbox); have n2_ := Aside0.mk (zW hg HB.out); have n3_ := n2_; clear HB; have HB := n0_; have BK149 := n1_; have GW149 := n2_; have GE149 := n3_; clear n0_ n1_ n2_ n3_; clear hb hbox hg) | ((with_reducible refine gate_dst (N := 3) rfl ?_); refine box_event ?hg (N := 3) ?hd (cs := #[.int .i64 a1_0, .string a1_1]) (t := 35) ?hr ?_; (case hd => rfl); (case hg => rfl); (case hr => first | (go_simp; done) | (go_simp; rfl)); intro gb150 hg w10 hbox hb; have n0_ := Aside0.mk (zB BK149.out hb); have n1_ := Aside0.mk (zS HB.out hb); have n2_ := Aside0.mk (hbox); have n3_ := Aside0.mk (zW hg HB.out); have n4_ := n3_; have n5_ := Aside0.mk (zL hg BK149.out); have n6_ := Aside0.mk (zG hg BK149.out); clear BK149; clear HB; have BK149 := n0_; have HB := n1_; have BK150 := n2_; have GW150 := n3_; have GE150 := n4_; have NB149_150 := n5_; have NB150_149 := n6_; clear n0_ n1_ n2_ n3_ n4_ n5_ n6_; clear hb hbox hg) | ((with_reducible refine gate_dst (N := 4) rfl ?_); refine box_event ?hg (N := 4) ?hd (cs := #[.slice none 0 0, .int .i64 0, .int .i64 0]) (t := 29) ?hr ?_; (case hd => rfl); (case hg => rfl); (case hr => first | (go_simp; done) | (go_simp; rfl)); intro gb151 hg w11 hbox hb; have n0_ := Aside0.mk (zB BK149.out hb); have n1_ := Aside0.mk (zB BK150.out hb); have n2_ := Aside0.mk (zS HB.out hb); have n3_ := Aside0.mk (hbox); have n4_ := Aside0.mk (zW hg HB.out); have n5_ := n4_; have n6_ := Aside0.mk (zL hg BK149.out); have n7_ := Aside0.mk (zG hg BK149.out); have n8_ := Aside0.mk (zL hg BK150.out); have n9_ := Aside0.mk (zG hg BK150.out); clear BK149; clear BK150; clear HB; have BK149 := n0_; have BK150 := n1_; have HB := n2_; have BK151 := n3_; have GW151 := n4_; have GE151 := n5_; have NB149_151 := n6_; have NB151_149 := n7_; have NB150_151 := n8_; have NB151_150 := n9_; clear n0_ n1_ n2_ n3_ n4_ n5_ n6_ n7_ n8_ n9_; clear hb hbox hg) | ((with_reducible refine gate_dst (N := 5) rfl ?_); refine box_event ?hg (N := 5) ?hd (cs := #[.int .i64 0, .int .i64 0, .int .i64 0]) (t := 31) ?hr ?_; (case hd => rfl); (case hg => rfl); (case hr => first | (go_simp; done) | (go_simp; rfl)); intro gb152 hg w12 hbox hb; have n0_ := Aside0.mk (zB BK149.out hb); have n1_ := Aside0.mk (zB BK150.out hb); have n2_ := Aside0.mk (zB BK151.out hb); have n3_ := Aside0.mk (zS HB.out hb); have n4_ := Aside0.mk (hbox); have n5_ := Aside0.mk (zW hg HB.out); have n6_ := n5_; have n7_ := Aside0.mk (zL hg BK149.out); have n8_ := Aside0.mk (zG hg BK149.out); have n9_ := Aside0.mk (zL hg BK150.out); have n10_ := Aside0.mk (zG hg BK150.out); have n11_ := Aside0.mk (zL hg BK151.out); have n12_ := Aside0.mk (zG hg BK151.out); clear BK149; clear BK150; clear BK151; clear HB; have BK149 := n0_; have BK150 := n1_; have BK151 := n2_; have HB := n3_; have BK152 := n4_; have GW152 := n5_; have GE152 := n6_; have NB149_152 := n7_; have NB152_149 := n8_; have NB150_152 := n9_; have NB152_150 := n10_; have NB151_152 := n11_; have NB152_151 := n12_; clear n0_ n1_ n2_ n3_ n4_ n5_ n6_ n7_ n8_ n9_ n10_ n11_ n12_; clear hb hbox hg; have hnb13 := NB149_150.out; have hnc13 := NB150_149.out; have hnb14 := NB149_151.out; have hnc14 := NB151_149.out; have hnb15 := NB149_152.out; have hnc15 := NB152_149.out; have hcz16_0 : w12.cell? ⟨gb149, 0, none⟩ = some (.slice A0_0 l0_0.length c0_0) := (lC BK149.out 0).trans rfl; have hcz16_1 : w12.cell? ⟨gb149, 1, none⟩ = some (.int .i64 a0_1) := (lC BK149.out 1).trans rfl; have hcz16_2 : w12.cell? ⟨gb149, 2, none⟩ = some (.int .i64 a0_2) := (lC BK149.out 2).trans rfl; have hfz16_0 := lF BK149.out 0; have hfz16_1 := lF BK149.out 1; have hfz16_2 := lF BK149.out 2) | ((with_reducible refine gate_callee (f := 19) rfl ?_); refine goesL_ (some 13) rfl rfl Try.func19 (by kernel_rfl) rfl #[.agg #[.slice A0_0 l0_0.length c0_0, .int .i64 a0_1, .int .i64 a0_2]] rfl (by (try simp only [List.map_toArray, List.map_cons, List.map_nil]); first | done | rfl | (simp only [List.length_drop, List.length_take]; rfl)) ?_; (with_reducible refine (spec_GoodClient.calls k _ _ l0_0 a0_1 a0_2 true _ ?side1 ?side2 A3.out).mono ?_); (case side1 => repeat (first | exact (Kd.C_below HR0_0.out HB.out) | (with_reducible first | refine cA ?_ _ | refine cN ?_ _ | refine cD ?_))); (case side2 => exact HC0_0.out); rintro e w17 ⟨rfl, hb⟩; refine ⟨_, rfl, ?_⟩; have n0_ := Aside0.mk (zB BK149.out hb); have n1_ := Aside0.mk (zB BK150.out hb); have n2_ := Aside0.mk (zB BK151.out hb); have n3_ := Aside0.mk (zB BK152.out hb); have n4_ := Aside0.mk (zS HB.out hb); clear BK149; clear BK150; clear BK151; clear BK152; clear HB; have BK149 := n0_; have BK150 := n1_; have BK151 := n2_; have BK152 := n3_; have HB := n4_; clear n0_ n1_ n2_ n3_ n4_; (try clear hb); (try clear hb2); (try clear hk); (try clear hi)))
   have n0_ := Aside0.mk (lD BK149.out)
   have n1_ := Aside0.mk (lD BK150.out)
   have n2_ := Aside0.mk (lD BK151.out)
   have n3_ := Aside0.mk (lD BK152.out)
   have n6_ := Aside0.mk (bD HB.out)
   clear BK149
   clear BK150
   clear BK151
   clear BK152
   clear HB
   have BK149 := n0_
   have BK150 := n1_
   have BK151 := n2_
   have BK152 := n3_
   have HB := n6_
   clear n0_ n1_ n2_ n3_ n6_
   refine start_ (n := 15) (S := fun w' => w'.cell? ⟨gb149, 0, none⟩ = some (.slice A0_0 l0_0.length c0_0) ∧ w'.cell? ⟨gb149, 1, none⟩ = some (.int .i64 a0_1) ∧ w'.cell? ⟨gb149, 2, none⟩ = some (.int .i64 a0_2) ∧ w'.cell? ⟨gb150, 0, none⟩ = some (.int .i64 a1_0) ∧ w'.cell? ⟨gb150, 1, none⟩ = some (.string a1_1)) (ds := []) #[false, false, false, false, false, false, false, false, false, false, false, false, false, false, false] (by kernel_rfl) rfl rfl ⟨(lC BK149.out 0).trans rfl, (lC BK149.out 1).trans rfl, (lC BK149.out 2).trans rfl, (lC BK150.out 0).trans rfl, (lC BK150.out 1).trans rfl⟩ (fun hHeld => ?_); refine with_tabW spec_StepClient.tab3 spec_StepClient.bits3 (fun HT_ HW_ => ?_)
   generalize World.drew _ = w20 at BK149 BK150 BK151 BK152 HB hHeld ⊢
   refine take_ (i := 0) (N := some 18) (v := ?_) (a' := ?_) #[true, false, false, false, false, false, false, false, false, false, false, false, false, false, false] rfl rfl (take_ofW HT_.out HW_.out (by kernel_rfl)) (fun _ _ _ h => h) (Or.inl ⟨by rfl, ?_⟩) hHeld ?_ ?_
   rotate_left
   ·rintro w' ⟨s0, s1, s2, s3, s4⟩
    go_simp
    with_reducible rfl
   rotate_left
   ·simp only [Act.put, List.setIfInBounds_toArray, List.set_cons_zero, List.set_cons_succ, i64_w, i32_w]
    rfl
   refine take_ (i := 2) (N := some 20) (v := ?_) (a' := ?_) #[true, false, true, false, false, false, false, false, false, false, false, false, false, false, false] rfl rfl (take_ofW HT_.out HW_.out (by kernel_rfl)) (fun _ _ _ h => h) (Or.inl ⟨by rfl, ?_⟩) hHeld ?_ ?_
   rotate_left
   ·rintro w' ⟨s0, s1, s2, s3, s4⟩
    go_simp
    with_reducible rfl
   rotate_left
   ·simp only [Act.put, List.setIfInBounds_toArray, List.set_cons_zero, List.set_cons_succ, i64_w, i32_w]
    rfl
   have hlo_ := Aside0.mk (below_size HB.out)
   have hlt149_ := Aside0.mk (blk_lt BK149.out)
   have hlt150_ := Aside0.mk (blk_lt BK150.out)
   have hlt151_ := Aside0.mk (blk_lt BK151.out)
   have hlt152_ := Aside0.mk (blk_lt BK152.out)
   refine Go.Proofs.Ytodhogegjkfemaa.Bx.boxes_ (i := 9) (j := 10) (N1 := 8) (N2 := 9) (cs1 := #[.slice none 0 0, .int .i64 0, .int .i64 0]) (cs2 := #[.int .i64 0, .int .i64 0, .int .i64 0]) (t1 := 29) (t2 := 31) 4 #[true, true, true, true, true, true, true, true, true, true, true, false, false, false, false] #[true, false, true, false, false, false, false, false, false, true, true, false, false, false, false] [.call 1, .call 3, .pure 4, .pure 5, .pure 6, .pure 7, .pure 8] rfl rfl rfl rfl rfl rfl (by kernel_rfl) (by simp only [Go.Proofs.Ytodhogegjkfemaa.Bx.ba, Act.put, List.setIfInBounds_toArray, List.set_cons_zero, List.set_cons_succ]) ?_ ?_ ?_ (fun _ _ _ _ _ => Iff.rfl) hHeld ?_
   ·intro a_ w_
    first | (go_simp; done) | (go_simp; rfl)
   ·intro a_ w_
    first | (go_simp; done) | (go_simp; rfl)
   ·rintro w_ w2_ hb_ ⟨s0, s1, s2, s3, s4⟩
    exact ⟨pw_cell_below hb_ s0, pw_cell_below hb_ s1, pw_cell_below hb_ s2, pw_cell_below hb_ s3, pw_cell_below hb_ s4⟩
   refine Go.Proofs.Ytodhogegjkfemaa.Bx.env_call (i := 1) (N := some 19) rfl rfl (fun w20 hE_ hHeld K hK => ?_)
   have n0_ := Aside0.mk (blk_below BK149.out hE_)
   have n1_ := Aside0.mk (blk_below BK150.out hE_)
   have n2_ := Aside0.mk (blk_below BK151.out hE_)
   have n3_ := Aside0.mk (blk_below BK152.out hE_)
   have n4_ := Aside0.mk (below_step HB.out hE_)
   clear hE_ BK149 BK150 BK151 BK152 HB
   have BK149 := n0_
   have BK150 := n1_
   have BK151 := n2_
   have BK152 := n3_
   have HB := n4_
   clear n0_ n1_ n2_ n3_ n4_
   refine goes_ Try.func27 (by kernel_rfl) rfl #[.agg #[.slice A0_0 l0_0.length c0_0, .int .i64 a0_1, .int .i64 a0_2]] (by rfl) rfl rfl (by (try simp only [List.map_toArray, List.map_cons, List.map_nil]); first | done | rfl | (simp only [List.length_drop, List.length_take]; rfl)) ?_
   with_reducible refine (spec_l10Own.calls _ _ l0_0 a0_1 a0_2 t156 t159 t160 _ ?side1 ?side2 A5.out).mono ?_
   (case side1 => repeat (first | exact (Kd.C_below HR0_0.out HB.out) | (with_reducible first | refine cA ?_ _ | refine cN ?_ _ | refine cD ?_)))
   (case side2 => exact HC0_0.out)
   rintro e w21 ⟨v157, rfl, ho0, hb⟩
   refine ⟨_, rfl, ?_⟩
   have hkb_ := Aside0.mk (Go.Proofs.Ytodhogegjkfemaa.Bx.keep_b (t1 := 29) (t2 := 31) hb)
   have hsz_ := Aside0.mk hb.size
   have n0_ := Aside0.mk (Kd.R_lower ho0 (below_size (by repeat (first | (with_reducible first | exact HB.out | apply bA | apply bN | apply bD | refine bS ?_ GE149.out | refine bS ?_ GE150.out | refine bS ?_ GE151.out | refine bS ?_ GE152.out) | exact HB.out))))
   have n1_ := Aside0.mk (zB BK149.out hb)
   have n2_ := Aside0.mk (zB BK150.out hb)
   have n3_ := Aside0.mk (zB BK151.out hb)
   have n4_ := Aside0.mk (zB BK152.out hb)
   have n7_ := Aside0.mk (below_step (by repeat (first | (with_reducible first | exact HB.out | apply bA | apply bN | apply bD | refine bS ?_ GE149.out | refine bS ?_ GE150.out | refine bS ?_ GE151.out | refine bS ?_ GE152.out) | exact HB.out)) hb)
   clear BK149
   clear BK150
   clear BK151
   clear BK152
   clear HB
   have HO158 := n0_
   have BK149 := n1_
   have BK150 := n2_
   have BK151 := n3_
   have BK152 := n4_
   have HB := n7_
   clear n0_ n1_ n2_ n3_ n4_ n7_
   (try clear hb)
   (try clear hb2)
   (try clear hk)
   (try clear hi)
   (try clear ho0)
   obtain ⟨Ao22, co22, eo22⟩ := rS HO158.out
   (first | subst eo22 | (injection eo22 with f1_ f2_ f3_; have f4_ := f1_.symm; have f5_ := f3_.symm; clear f1_ f2_ f3_; subst f4_; subst f5_))
   refine hK.out _ _ ⟨(lC BK149.out 0).trans rfl, (lC BK149.out 1).trans rfl, (lC BK149.out 2).trans rfl, (lC BK150.out 0).trans rfl, (lC BK150.out 1).trans rfl⟩ hkb_.out hsz_.out (fun hHeld => ?_)
   clear hK K hkb_ hsz_
   refine Go.Proofs.Ytodhogegjkfemaa.Bx.env_norm (a' := ?_) ?_ ?_
   rotate_left
   ·show Act.put _ (some 19) _ = _
    simp only [Act.put, List.setIfInBounds_toArray, List.set_cons_zero, List.set_cons_succ, i64_w, i32_w]
    rfl
   refine Go.Proofs.Ytodhogegjkfemaa.Bx.env_call (i := 3) (N := some 21) rfl rfl (fun w21 hE_ hHeld K hK => ?_)
   have n0_ := Aside0.mk (blk_below BK149.out hE_)
   have n1_ := Aside0.mk (blk_below BK150.out hE_)
   have n2_ := Aside0.mk (blk_below BK151.out hE_)
   have n3_ := Aside0.mk (blk_below BK152.out hE_)
   have n4_ := Aside0.mk (below_step HB.out hE_)
   have n5_ := Aside0.mk (rB HO158.out hE_)
   clear hE_ BK149 BK150 BK151 BK152 HB HO158
   have BK149 := n0_
   have BK150 := n1_
   have BK151 := n2_
   have BK152 := n3_
   have HB := n4_
   have HO158 := n5_
   clear n0_ n1_ n2_ n3_ n4_ n5_
   refine goes_ Try.func26 (by kernel_rfl) rfl #[.agg #[.slice Ao22 t156.length co22, .int .i64 t159, .int .i64 t160], .agg #[.int .i64 a1_0, .string a1_1]] (by rfl) rfl rfl (by (try simp only [List.map_toArray, List.map_cons, List.map_nil]); first | done | rfl | (simp only [List.length_drop, List.length_take]; rfl)) ?_
   with_reducible refine (spec_l10Step.calls k (fun k_ => some k_ = (.slice Ao22 t156.length co22 : Value).ownBlock) (.slice Ao22 t156.length co22) t156 t159 t160 a1_0 a1_1 t161 t164 t165 t166 t167 t168 t169 true w _ ?side1 ?side2 A6.out).mono ?_
   (case side1 => repeat (first | (with_reducible first | exact HB.out | apply bA | apply bN | apply bD | refine bS ?_ GE149.out | refine bS ?_ GE150.out | refine bS ?_ GE151.out | refine bS ?_ GE152.out) | exact HB.out))
   (case side2 => exact Kd.R_tight rfl HO158.out)
   rintro e w23 ⟨v162, rfl, ho0, hb, hkp⟩
   refine ⟨_, rfl, ?_⟩
   have hkb_ := Aside0.mk (Go.Proofs.Ytodhogegjkfemaa.Bx.keep_k (t1 := 29) (t2 := 31) hkp (fun k_ hk_ => by
    obtain ⟨cs_, h_⟩ := Kd.R_typed HO158.out k_ hk_.symm
    exact ⟨cs_, _, by decide, by decide, h_⟩))
   have hsz_ := Aside0.mk hkp.1
   have n0_ := Aside0.mk (blk_kept (by (with_reducible repeat (first | refine lN ?_ _ | refine lD ?_ | refine lA ?_ _)); exact BK149.out) hkp (fun hs_ => (fun e_ => (Kd.R_ne HO158.out BK149.out (by decide)) e_) hs_))
   have n1_ := Aside0.mk (blk_kept (by (with_reducible repeat (first | refine lN ?_ _ | refine lD ?_ | refine lA ?_ _)); exact BK150.out) hkp (fun hs_ => (fun e_ => (Kd.R_ne HO158.out BK150.out (by decide)) e_) hs_))
   have n2_ := Aside0.mk (blk_kept (by (with_reducible repeat (first | refine lN ?_ _ | refine lD ?_ | refine lA ?_ _)); exact BK151.out) hkp (fun hs_ => (fun e_ => (Kd.R_ne HO158.out BK151.out (by decide)) e_) hs_))
   have n3_ := Aside0.mk (blk_kept (by (with_reducible repeat (first | refine lN ?_ _ | refine lD ?_ | refine lA ?_ _)); exact BK152.out) hkp (fun hs_ => (fun e_ => (Kd.R_ne HO158.out BK152.out (by decide)) e_) hs_))
   have n6_ := Aside0.mk (rM (ok' := fun k_ => True) ho0 (fun k_ hk_ => trivial))
   have n7_ := Aside0.mk (hb)
   clear BK149
   clear BK150
   clear BK151
   clear BK152
   clear HB
   clear HO158
   have BK149 := n0_
   have BK150 := n1_
   have BK151 := n2_
   have BK152 := n3_
   have HO163 := n6_
   have HB := n7_
   clear n0_ n1_ n2_ n3_ n6_ n7_
   (try clear hb)
   (try clear hkp)
   (try clear ho0)
   obtain ⟨Ao24, co24, eo24⟩ := rS HO163.out
   (first | subst eo24 | (injection eo24 with f1_ f2_ f3_; have f4_ := f1_.symm; have f5_ := f3_.symm; clear f1_ f2_ f3_; subst f4_; subst f5_))
   refine hK.out _ _ ⟨(lC BK149.out 0).trans rfl, (lC BK149.out 1).trans rfl, (lC BK149.out 2).trans rfl, (lC BK150.out 0).trans rfl, (lC BK150.out 1).trans rfl⟩ hkb_.out hsz_.out (fun hHeld => ?_)
   clear hK K hkb_ hsz_
   refine Go.Proofs.Ytodhogegjkfemaa.Bx.env_norm (a' := ?_) ?_ ?_
   rotate_left
   ·show Act.put _ (some 21) _ = _
    simp only [Act.put, List.setIfInBounds_toArray, List.set_cons_zero, List.set_cons_succ, i64_w, i32_w]
    rfl
   refine Go.Proofs.Ytodhogegjkfemaa.Bx.env_pure (i := 4) (N := some 17) (v := ?_) (a' := ?_) rfl rfl (Or.inl ⟨by rfl, ?_⟩) ?_ ?_
   rotate_left
   ·intro w'
    go_simp
    with_reducible rfl
   rotate_left
   ·simp only [Act.put, List.setIfInBounds_toArray, List.set_cons_zero, List.set_cons_succ, i64_w, i32_w]
    rfl
   refine Go.Proofs.Ytodhogegjkfemaa.Bx.env_pure (i := 5) (N := some 22) (v := ?_) (a' := ?_) rfl rfl (Or.inl ⟨by rfl, ?_⟩) ?_ ?_
   rotate_left
   ·intro w'
    go_simp
    with_reducible rfl
   rotate_left
   ·simp only [Act.put, List.setIfInBounds_toArray, List.set_cons_zero, List.set_cons_succ, i64_w, i32_w]
    rfl
   refine Go.Proofs.Ytodhogegjkfemaa.Bx.env_pure (i := 6) (N := some 23) (v := ?_) (a' := ?_) rfl rfl (Or.inl ⟨by rfl, ?_⟩) ?_ ?_
   rotate_left
   ·intro w'
    go_simp
    with_reducible rfl
   rotate_left
   ·simp only [Act.put, List.setIfInBounds_toArray, List.set_cons_zero, List.set_cons_succ, i64_w, i32_w]
    rfl
   refine Go.Proofs.Ytodhogegjkfemaa.Bx.env_pure (i := 7) (N := some 24) (v := ?_) (a' := ?_) rfl rfl (Or.inl ⟨by rfl, ?_⟩) ?_ ?_
   rotate_left
   ·intro w'
    go_simp
    with_reducible rfl
   rotate_left
   ·simp only [Act.put, List.setIfInBounds_toArray, List.set_cons_zero, List.set_cons_succ, i64_w, i32_w]
    rfl
   refine Go.Proofs.Ytodhogegjkfemaa.Bx.env_pure (i := 8) (N := some 25) (v := ?_) (a' := ?_) rfl rfl (Or.inl ⟨by rfl, ?_⟩) ?_ ?_
   rotate_left
   ·intro w'
    go_simp
    with_reducible rfl
   rotate_left
   ·simp only [Act.put, List.setIfInBounds_toArray, List.set_cons_zero, List.set_cons_succ, i64_w, i32_w]
    rfl
   intro w23 hE_ hHeld gb154 gb155 BKa_ BKb_ GEa_ GEb_ NBab_
   have n0_ := Aside0.mk (blk_below BK149.out hE_)
   have n1_ := Aside0.mk (blk_below BK150.out hE_)
   have n2_ := Aside0.mk (blk_below BK151.out hE_)
   have n3_ := Aside0.mk (blk_below BK152.out hE_)
   have n4_ := Aside0.mk (rB HO163.out hE_)
   have n5_ := Aside0.mk (below_step HB.out hE_)
   clear hE_ BK149 BK150 BK151 BK152 HO163 HB
   have BK149 := n0_
   have BK150 := n1_
   have BK151 := n2_
   have BK152 := n3_
   have HO163 := n4_
   have HB := n5_
   clear n0_ n1_ n2_ n3_ n4_ n5_
   have BK154 := Aside0.mk BKa_
   have BK155 := Aside0.mk BKb_
   have GW154 := Aside0.mk (Nat.le_trans hlo_.out GEa_)
   have GW155 := Aside0.mk (Nat.le_trans hlo_.out GEb_)
   have GE154 := Aside0.mk (Nat.le_trans hlo_.out GEa_)
   have GE155 := Aside0.mk (Nat.le_trans hlo_.out GEb_)
   have NB149_154 := Aside0.mk (Nat.ne_of_lt (Nat.lt_of_lt_of_le hlt149_.out GEa_))
   have NB154_149 := Aside0.mk (Nat.ne_of_gt (Nat.lt_of_lt_of_le hlt149_.out GEa_))
   have NB149_155 := Aside0.mk (Nat.ne_of_lt (Nat.lt_of_lt_of_le hlt149_.out GEb_))
   have NB155_149 := Aside0.mk (Nat.ne_of_gt (Nat.lt_of_lt_of_le hlt149_.out GEb_))
   have NB150_154 := Aside0.mk (Nat.ne_of_lt (Nat.lt_of_lt_of_le hlt150_.out GEa_))
   have NB154_150 := Aside0.mk (Nat.ne_of_gt (Nat.lt_of_lt_of_le hlt150_.out GEa_))
   have NB150_155 := Aside0.mk (Nat.ne_of_lt (Nat.lt_of_lt_of_le hlt150_.out GEb_))
   have NB155_150 := Aside0.mk (Nat.ne_of_gt (Nat.lt_of_lt_of_le hlt150_.out GEb_))
   have NB151_154 := Aside0.mk (Nat.ne_of_lt (Nat.lt_of_lt_of_le hlt151_.out GEa_))
   have NB154_151 := Aside0.mk (Nat.ne_of_gt (Nat.lt_of_lt_of_le hlt151_.out GEa_))
   have NB151_155 := Aside0.mk (Nat.ne_of_lt (Nat.lt_of_lt_of_le hlt151_.out GEb_))
   have NB155_151 := Aside0.mk (Nat.ne_of_gt (Nat.lt_of_lt_of_le hlt151_.out GEb_))
   have NB152_154 := Aside0.mk (Nat.ne_of_lt (Nat.lt_of_lt_of_le hlt152_.out GEa_))
   have NB154_152 := Aside0.mk (Nat.ne_of_gt (Nat.lt_of_lt_of_le hlt152_.out GEa_))
   have NB152_155 := Aside0.mk (Nat.ne_of_lt (Nat.lt_of_lt_of_le hlt152_.out GEb_))
   have NB155_152 := Aside0.mk (Nat.ne_of_gt (Nat.lt_of_lt_of_le hlt152_.out GEb_))
   have NB154_155 := Aside0.mk NBab_
   have NB155_154 := Aside0.mk (Ne.symm NBab_)
   clear hlo_ BKa_ BKb_ GEa_ GEb_ NBab_ hlt149_ hlt150_ hlt151_ hlt152_
   refine norm_ (a' := ?_) ?_ ?_
   rotate_left
   ·simp only [Go.Proofs.Ytodhogegjkfemaa.Bx.ba, Act.put, List.setIfInBounds_toArray, List.set_cons_zero, List.set_cons_succ]
    rfl
   refine one_ (i := 11) (N := none) #[true, true, true, true, true, true, true, true, true, true, true, true, false, false, false] rfl rfl (one_of HT_.out (by kernel_rfl)) (by decide) (fun K hK => ?_)
   have hs25 : w23.cell? ⟨gb154, 0, none⟩ = some (.slice none 0 0) := (lC BK154.out 0).trans rfl
   have hfs25 := lF BK154.out 0
   have hns25_0 := NB149_154.out
   have hns25_1 := NB150_154.out
   have hns25_2 := NB151_154.out
   have hns25_3 := NB152_154.out
   have hns25_5 := NB155_154.out
   have hms25_0 := NB154_149.out
   have hms25_1 := NB154_150.out
   have hms25_2 := NB154_151.out
   have hms25_3 := NB154_152.out
   have hms25_5 := NB154_155.out
   have hs26 : w23.cell? ⟨gb154, 1, none⟩ = some (.int .i64 0) := (lC BK154.out 1).trans rfl
   have hfs26 := lF BK154.out 1
   have hns26_0 := NB149_154.out
   have hns26_1 := NB150_154.out
   have hns26_2 := NB151_154.out
   have hns26_3 := NB152_154.out
   have hns26_5 := NB155_154.out
   have hms26_0 := NB154_149.out
   have hms26_1 := NB154_150.out
   have hms26_2 := NB154_151.out
   have hms26_3 := NB154_152.out
   have hms26_5 := NB154_155.out
   have hs27 : w23.cell? ⟨gb154, 2, none⟩ = some (.int .i64 0) := (lC BK154.out 2).trans rfl
   have hfs27 := lF BK154.out 2
   have hns27_0 := NB149_154.out
   have hns27_1 := NB150_154.out
   have hns27_2 := NB151_154.out
   have hns27_3 := NB152_154.out
   have hns27_5 := NB155_154.out
   have hms27_0 := NB154_149.out
   have hms27_1 := NB154_150.out
   have hms27_2 := NB154_151.out
   have hms27_3 := NB154_152.out
   have hms27_5 := NB154_155.out
   refine skip_ (w1 := ?_) (by rfl) rfl ?_ ?_
   rotate_left
   ·go_simp
    rfl
   refine hK.out _ _ ⟨((cell_far (p := ⟨gb154, _, none⟩) NB149_154.out _).trans (((cell_far (p := ⟨gb154, _, none⟩) NB149_154.out _).trans (((cell_far (p := ⟨gb154, _, none⟩) NB149_154.out _).trans (hHeld.1)))))), ((cell_far (p := ⟨gb154, _, none⟩) NB149_154.out _).trans (((cell_far (p := ⟨gb154, _, none⟩) NB149_154.out _).trans (((cell_far (p := ⟨gb154, _, none⟩) NB149_154.out _).trans (hHeld.2.1)))))), ((cell_far (p := ⟨gb154, _, none⟩) NB149_154.out _).trans (((cell_far (p := ⟨gb154, _, none⟩) NB149_154.out _).trans (((cell_far (p := ⟨gb154, _, none⟩) NB149_154.out _).trans (hHeld.2.2.1)))))), ((cell_far (p := ⟨gb154, _, none⟩) NB150_154.out _).trans (((cell_far (p := ⟨gb154, _, none⟩) NB150_154.out _).trans (((cell_far (p := ⟨gb154, _, none⟩) NB150_154.out _).trans (hHeld.2.2.2.1)))))), ((cell_far (p := ⟨gb154, _, none⟩) NB150_154.out _).trans (((cell_far (p := ⟨gb154, _, none⟩) NB150_154.out _).trans (((cell_far (p := ⟨gb154, _, none⟩) NB150_154.out _).trans (hHeld.2.2.2.2))))))⟩ (fun hHeld => ?_)
   clear hK K
   refine one_ (i := 12) (N := none) #[true, true, true, true, true, true, true, true, true, true, true, true, true, false, false] rfl rfl (one_of HT_.out (by kernel_rfl)) (by decide) (fun K hK => ?_)
   have hs28 : w23.cell? ⟨gb155, 0, none⟩ = some (.int .i64 0) := (lC BK155.out 0).trans rfl
   have hfs28 := lF BK155.out 0
   have hns28_0 := NB149_155.out
   have hns28_1 := NB150_155.out
   have hns28_2 := NB151_155.out
   have hns28_3 := NB152_155.out
   have hns28_4 := NB154_155.out
   have hms28_0 := NB155_149.out
   have hms28_1 := NB155_150.out
   have hms28_2 := NB155_151.out
   have hms28_3 := NB155_152.out
   have hms28_4 := NB155_154.out
   have hs29 : w23.cell? ⟨gb155, 1, none⟩ = some (.int .i64 0) := (lC BK155.out 1).trans rfl
   have hfs29 := lF BK155.out 1
   have hns29_0 := NB149_155.out
   have hns29_1 := NB150_155.out
   have hns29_2 := NB151_155.out
   have hns29_3 := NB152_155.out
   have hns29_4 := NB154_155.out
   have hms29_0 := NB155_149.out
   have hms29_1 := NB155_150.out
   have hms29_2 := NB155_151.out
   have hms29_3 := NB155_152.out
   have hms29_4 := NB155_154.out
   have hs30 : w23.cell? ⟨gb155, 2, none⟩ = some (.int .i64 0) := (lC BK155.out 2).trans rfl
   have hfs30 := lF BK155.out 2
   have hns30_0 := NB149_155.out
   have hns30_1 := NB150_155.out
   have hns30_2 := NB151_155.out
   have hns30_3 := NB152_155.out
   have hns30_4 := NB154_155.out
   have hms30_0 := NB155_149.out
   have hms30_1 := NB155_150.out
   have hms30_2 := NB155_151.out
   have hms30_3 := NB155_152.out
   have hms30_4 := NB155_154.out
   refine skip_ (w1 := ?_) (by rfl) rfl ?_ ?_
   rotate_left
   ·go_simp
    rfl
   refine hK.out _ _ ⟨((cell_far (p := ⟨gb155, _, none⟩) NB149_155.out _).trans (((cell_far (p := ⟨gb155, _, none⟩) NB149_155.out _).trans (((cell_far (p := ⟨gb155, _, none⟩) NB149_155.out _).trans (hHeld.1)))))), ((cell_far (p := ⟨gb155, _, none⟩) NB149_155.out _).trans (((cell_far (p := ⟨gb155, _, none⟩) NB149_155.out _).trans (((cell_far (p := ⟨gb155, _, none⟩) NB149_155.out _).trans (hHeld.2.1)))))), ((cell_far (p := ⟨gb155, _, none⟩) NB149_155.out _).trans (((cell_far (p := ⟨gb155, _, none⟩) NB149_155.out _).trans (((cell_far (p := ⟨gb155, _, none⟩) NB149_155.out _).trans (hHeld.2.2.1)))))), ((cell_far (p := ⟨gb155, _, none⟩) NB150_155.out _).trans (((cell_far (p := ⟨gb155, _, none⟩) NB150_155.out _).trans (((cell_far (p := ⟨gb155, _, none⟩) NB150_155.out _).trans (hHeld.2.2.2.1)))))), ((cell_far (p := ⟨gb155, _, none⟩) NB150_155.out _).trans (((cell_far (p := ⟨gb155, _, none⟩) NB150_155.out _).trans (((cell_far (p := ⟨gb155, _, none⟩) NB150_155.out _).trans (hHeld.2.2.2.2))))))⟩ (fun hHeld => ?_)
   clear hK K
   refine pure_ (i := 13) (N := some 10) (v := ?_) (a' := ?_) #[true, true, true, true, true, true, true, true, true, true, true, true, true, true, false] rfl rfl (any_of HT_.out (by kernel_rfl)) (fun _ _ _ h => h) (Or.inl ⟨by rfl, ?_⟩) ?_ ?_
   rotate_left
   ·intro w'
    go_simp
    with_reducible rfl
   rotate_left
   ·simp only [Act.put, List.setIfInBounds_toArray, List.set_cons_zero, List.set_cons_succ, i64_w, i32_w]
    rfl
   refine pure_ (i := 14) (N := some 11) (v := ?_) (a' := ?_) #[true, true, true, true, true, true, true, true, true, true, true, true, true, true, true] rfl rfl (any_of HT_.out (by kernel_rfl)) (fun _ _ _ h => h) (Or.inl ⟨by rfl, ?_⟩) ?_ ?_
   rotate_left
   ·intro w'
    go_simp
    with_reducible rfl
   rotate_left
   ·simp only [Act.put, List.setIfInBounds_toArray, List.set_cons_zero, List.set_cons_succ, i64_w, i32_w]
    rfl
   refine done_ (done_of HT_.out (by kernel_rfl)) ?_
   try go_wp2
   have n0_ : Aside0 (Kd.R Kd.string 9 ((((((w23.setCell ⟨gb154, 0, none⟩ (.slice Ao24 t161.length co24)).setCell ⟨gb154, 1, none⟩ (.int .i64 t164)).setCell ⟨gb154, 2, none⟩ (.int .i64 t165)).setCell ⟨gb155, 0, none⟩ (.int .i64 t166)).setCell ⟨gb155, 1, none⟩ (.int .i64 t167)).setCell ⟨gb155, 2, none⟩ (.int .i64 t168)) w.heap.size (fun _ => True) (.slice Ao24 t161.length co24) t161) := ⟨by (with_reducible repeat (first | apply rA | apply rN | apply rD)); exact rM (Kd.R_far (p := ⟨gb155, 2, none⟩) (Kd.R_far (p := ⟨gb155, 1, none⟩) (Kd.R_far (p := ⟨gb155, 0, none⟩) (Kd.R_far (p := ⟨gb154, 2, none⟩) (Kd.R_far (p := ⟨gb154, 1, none⟩) (Kd.R_far (p := ⟨gb154, 0, none⟩) (Kd.R_types (Kd.R_types HO163.out BK154.out (by decide)) BK155.out (by decide)) (fun _ hk => hk.1.2) (.slice Ao24 t161.length co24)) (fun _ hk => hk.1.2) (.int .i64 t164)) (fun _ hk => hk.1.2) (.int .i64 t165)) (fun _ hk => hk.2) (.int .i64 t166)) (fun _ hk => hk.2) (.int .i64 t167)) (fun _ hk => hk.2) (.int .i64 t168)) (fun _ hk => trivial)⟩
   have n1_ : Aside0 (((((((w23.setCell ⟨gb154, 0, none⟩ (.slice Ao24 t161.length co24)).setCell ⟨gb154, 1, none⟩ (.int .i64 t164)).setCell ⟨gb154, 2, none⟩ (.int .i64 t165)).setCell ⟨gb155, 0, none⟩ (.int .i64 t166)).setCell ⟨gb155, 1, none⟩ (.int .i64 t167)).setCell ⟨gb155, 2, none⟩ (.int .i64 t168)).heap[gb149]? = some (.cells #[.slice A0_0 l0_0.length c0_0, .int .i64 a0_1, .int .i64 a0_2] 29 (0, 0))) := ⟨by (with_reducible repeat (first | refine lN ?_ _ | refine lD ?_ | refine lA ?_ _)); refine lX ?_ NB149_155.out _; (with_reducible repeat (first | refine lN ?_ _ | refine lD ?_ | refine lA ?_ _)); refine lX ?_ NB149_155.out _; (with_reducible repeat (first | refine lN ?_ _ | refine lD ?_ | refine lA ?_ _)); refine lX ?_ NB149_155.out _; (with_reducible repeat (first | refine lN ?_ _ | refine lD ?_ | refine lA ?_ _)); refine lX ?_ NB149_154.out _; (with_reducible repeat (first | refine lN ?_ _ | refine lD ?_ | refine lA ?_ _)); refine lX ?_ NB149_154.out _; (with_reducible repeat (first | refine lN ?_ _ | refine lD ?_ | refine lA ?_ _)); refine lX ?_ NB149_154.out _; (with_reducible repeat (first | refine lN ?_ _ | refine lD ?_ | refine lA ?_ _)); exact BK149.out⟩
   have n2_ : Aside0 (((((((w23.setCell ⟨gb154, 0, none⟩ (.slice Ao24 t161.length co24)).setCell ⟨gb154, 1, none⟩ (.int .i64 t164)).setCell ⟨gb154, 2, none⟩ (.int .i64 t165)).setCell ⟨gb155, 0, none⟩ (.int .i64 t166)).setCell ⟨gb155, 1, none⟩ (.int .i64 t167)).setCell ⟨gb155, 2, none⟩ (.int .i64 t168)).heap[gb150]? = some (.cells #[.int .i64 a1_0, .string a1_1] 35 (0, 0))) := ⟨by (with_reducible repeat (first | refine lN ?_ _ | refine lD ?_ | refine lA ?_ _)); refine lX ?_ NB150_155.out _; (with_reducible repeat (first | refine lN ?_ _ | refine lD ?_ | refine lA ?_ _)); refine lX ?_ NB150_155.out _; (with_reducible repeat (first | refine lN ?_ _ | refine lD ?_ | refine lA ?_ _)); refine lX ?_ NB150_155.out _; (with_reducible repeat (first | refine lN ?_ _ | refine lD ?_ | refine lA ?_ _)); refine lX ?_ NB150_154.out _; (with_reducible repeat (first | refine lN ?_ _ | refine lD ?_ | refine lA ?_ _)); refine lX ?_ NB150_154.out _; (with_reducible repeat (first | refine lN ?_ _ | refine lD ?_ | refine lA ?_ _)); refine lX ?_ NB150_154.out _; (with_reducible repeat (first | refine lN ?_ _ | refine lD ?_ | refine lA ?_ _)); exact BK150.out⟩
   have n3_ : Aside0 (((((((w23.setCell ⟨gb154, 0, none⟩ (.slice Ao24 t161.length co24)).setCell ⟨gb154, 1, none⟩ (.int .i64 t164)).setCell ⟨gb154, 2, none⟩ (.int .i64 t165)).setCell ⟨gb155, 0, none⟩ (.int .i64 t166)).setCell ⟨gb155, 1, none⟩ (.int .i64 t167)).setCell ⟨gb155, 2, none⟩ (.int .i64 t168)).heap[gb151]? = some (.cells #[.slice none 0 0, .int .i64 0, .int .i64 0] 29 (0, 0))) := ⟨by (with_reducible repeat (first | refine lN ?_ _ | refine lD ?_ | refine lA ?_ _)); refine lX ?_ NB151_155.out _; (with_reducible repeat (first | refine lN ?_ _ | refine lD ?_ | refine lA ?_ _)); refine lX ?_ NB151_155.out _; (with_reducible repeat (first | refine lN ?_ _ | refine lD ?_ | refine lA ?_ _)); refine lX ?_ NB151_155.out _; (with_reducible repeat (first | refine lN ?_ _ | refine lD ?_ | refine lA ?_ _)); refine lX ?_ NB151_154.out _; (with_reducible repeat (first | refine lN ?_ _ | refine lD ?_ | refine lA ?_ _)); refine lX ?_ NB151_154.out _; (with_reducible repeat (first | refine lN ?_ _ | refine lD ?_ | refine lA ?_ _)); refine lX ?_ NB151_154.out _; (with_reducible repeat (first | refine lN ?_ _ | refine lD ?_ | refine lA ?_ _)); exact BK151.out⟩
   have n4_ : Aside0 (((((((w23.setCell ⟨gb154, 0, none⟩ (.slice Ao24 t161.length co24)).setCell ⟨gb154, 1, none⟩ (.int .i64 t164)).setCell ⟨gb154, 2, none⟩ (.int .i64 t165)).setCell ⟨gb155, 0, none⟩ (.int .i64 t166)).setCell ⟨gb155, 1, none⟩ (.int .i64 t167)).setCell ⟨gb155, 2, none⟩ (.int .i64 t168)).heap[gb152]? = some (.cells #[.int .i64 0, .int .i64 0, .int .i64 0] 31 (0, 0))) := ⟨by (with_reducible repeat (first | refine lN ?_ _ | refine lD ?_ | refine lA ?_ _)); refine lX ?_ NB152_155.out _; (with_reducible repeat (first | refine lN ?_ _ | refine lD ?_ | refine lA ?_ _)); refine lX ?_ NB152_155.out _; (with_reducible repeat (first | refine lN ?_ _ | refine lD ?_ | refine lA ?_ _)); refine lX ?_ NB152_155.out _; (with_reducible repeat (first | refine lN ?_ _ | refine lD ?_ | refine lA ?_ _)); refine lX ?_ NB152_154.out _; (with_reducible repeat (first | refine lN ?_ _ | refine lD ?_ | refine lA ?_ _)); refine lX ?_ NB152_154.out _; (with_reducible repeat (first | refine lN ?_ _ | refine lD ?_ | refine lA ?_ _)); refine lX ?_ NB152_154.out _; (with_reducible repeat (first | refine lN ?_ _ | refine lD ?_ | refine lA ?_ _)); exact BK152.out⟩
   have n5_ : Aside0 (((((((w23.setCell ⟨gb154, 0, none⟩ (.slice Ao24 t161.length co24)).setCell ⟨gb154, 1, none⟩ (.int .i64 t164)).setCell ⟨gb154, 2, none⟩ (.int .i64 t165)).setCell ⟨gb155, 0, none⟩ (.int .i64 t166)).setCell ⟨gb155, 1, none⟩ (.int .i64 t167)).setCell ⟨gb155, 2, none⟩ (.int .i64 t168)).heap[gb154]? = some (.cells #[.slice Ao24 t161.length co24, .int .i64 t164, .int .i64 t165] 29 (0, 0))) := ⟨by (with_reducible repeat (first | refine lN ?_ _ | refine lD ?_ | refine lA ?_ _)); refine lX ?_ NB154_155.out _; (with_reducible repeat (first | refine lN ?_ _ | refine lD ?_ | refine lA ?_ _)); refine lX ?_ NB154_155.out _; (with_reducible repeat (first | refine lN ?_ _ | refine lD ?_ | refine lA ?_ _)); refine lX ?_ NB154_155.out _; (with_reducible repeat (first | refine lN ?_ _ | refine lD ?_ | refine lA ?_ _)); refine lP (cs := #[.slice Ao24 t161.length co24, .int .i64 t164, .int .i64 0]) ?_ 2 _ rfl; (with_reducible repeat (first | refine lN ?_ _ | refine lD ?_ | refine lA ?_ _)); refine lP (cs := #[.slice Ao24 t161.length co24, .int .i64 0, .int .i64 0]) ?_ 1 _ rfl; (with_reducible repeat (first | refine lN ?_ _ | refine lD ?_ | refine lA ?_ _)); refine lP (cs := #[.slice none 0 0, .int .i64 0, .int .i64 0]) ?_ 0 _ rfl; (with_reducible repeat (first | refine lN ?_ _ | refine lD ?_ | refine lA ?_ _)); exact BK154.out⟩
   have n6_ : Aside0 (((((((w23.setCell ⟨gb154, 0, none⟩ (.slice Ao24 t161.length co24)).setCell ⟨gb154, 1, none⟩ (.int .i64 t164)).setCell ⟨gb154, 2, none⟩ (.int .i64 t165)).setCell ⟨gb155, 0, none⟩ (.int .i64 t166)).setCell ⟨gb155, 1, none⟩ (.int .i64 t167)).setCell ⟨gb155, 2, none⟩ (.int .i64 t168)).heap[gb155]? = some (.cells #[.int .i64 t166, .int .i64 t167, .int .i64 t168] 31 (0, 0))) := ⟨by (with_reducible repeat (first | refine lN ?_ _ | refine lD ?_ | refine lA ?_ _)); refine lP (cs := #[.int .i64 t166, .int .i64 t167, .int .i64 0]) ?_ 2 _ rfl; (with_reducible repeat (first | refine lN ?_ _ | refine lD ?_ | refine lA ?_ _)); refine lP (cs := #[.int .i64 t166, .int .i64 0, .int .i64 0]) ?_ 1 _ rfl; (with_reducible repeat (first | refine lN ?_ _ | refine lD ?_ | refine lA ?_ _)); refine lP (cs := #[.int .i64 0, .int .i64 0, .int .i64 0]) ?_ 0 _ rfl; (with_reducible repeat (first | refine lN ?_ _ | refine lD ?_ | refine lA ?_ _)); refine lX ?_ NB155_154.out _; (with_reducible repeat (first | refine lN ?_ _ | refine lD ?_ | refine lA ?_ _)); refine lX ?_ NB155_154.out _; (with_reducible repeat (first | refine lN ?_ _ | refine lD ?_ | refine lA ?_ _)); refine lX ?_ NB155_154.out _; (with_reducible repeat (first | refine lN ?_ _ | refine lD ?_ | refine lA ?_ _)); exact BK155.out⟩
   have n7_ : Aside0 (Below w.heap.size w ((((((w23.setCell ⟨gb154, 0, none⟩ (.slice Ao24 t161.length co24)).setCell ⟨gb154, 1, none⟩ (.int .i64 t164)).setCell ⟨gb154, 2, none⟩ (.int .i64 t165)).setCell ⟨gb155, 0, none⟩ (.int .i64 t166)).setCell ⟨gb155, 1, none⟩ (.int .i64 t167)).setCell ⟨gb155, 2, none⟩ (.int .i64 t168))) := ⟨by repeat (first | (with_reducible first | exact HB.out | apply bA | apply bN | apply bD | refine bS ?_ GE149.out | refine bS ?_ GE150.out | refine bS ?_ GE151.out | refine bS ?_ GE152.out | refine bS ?_ GE154.out | refine bS ?_ GE155.out) | exact HB.out)⟩
   (try clear HO163)
   (try clear BK149)
   (try clear BK150)
   (try clear BK151)
   (try clear BK152)
   (try clear BK154)
   (try clear BK155)
   (try clear HB)
   have sd_ : ∀ (w_ : World) (n_ : Nat) (a_ : Addr) (v_ : Value), (w_.drewN n_).setCell a_ v_ = (w_.setCell a_ v_).drewN n_ := fun _ _ _ _ => rfl
   (repeat rw [sd_])
   clear sd_
   generalize ((((((w23.setCell ⟨gb154, 0, none⟩ (.slice Ao24 t161.length co24)).setCell ⟨gb154, 1, none⟩ (.int .i64 t164)).setCell ⟨gb154, 2, none⟩ (.int .i64 t165)).setCell ⟨gb155, 0, none⟩ (.int .i64 t166)).setCell ⟨gb155, 1, none⟩ (.int .i64 t167)).setCell ⟨gb155, 2, none⟩ (.int .i64 t168)) = w31 at n0_ n1_ n2_ n3_ n4_ n5_ n6_ n7_ ⊢
   have HO163 := n0_
   have BK149 := n1_
   have BK150 := n2_
   have BK151 := n3_
   have BK152 := n4_
   have BK154 := n5_
   have BK155 := n6_
   have HB := n7_
   clear n0_ n1_ n2_ n3_ n4_ n5_ n6_ n7_
   have n0_ := Aside0.mk (rD HO163.out)
   have n1_ := Aside0.mk (lD BK149.out)
   have n2_ := Aside0.mk (lD BK150.out)
   have n3_ := Aside0.mk (lD BK151.out)
   have n4_ := Aside0.mk (lD BK152.out)
   have n5_ := Aside0.mk (lD BK154.out)
   have n6_ := Aside0.mk (lD BK155.out)
   have n7_ := Aside0.mk (bD HB.out)
   clear HO163
   clear BK149
   clear BK150
   clear BK151
   clear BK152
   clear BK154
   clear BK155
   clear HB
   have HO163 := n0_
   have BK149 := n1_
   have BK150 := n2_
   have BK151 := n3_
   have BK152 := n4_
   have BK154 := n5_
   have BK155 := n6_
   have HB := n7_
   clear n0_ n1_ n2_ n3_ n4_ n5_ n6_ n7_
   refine start_ (n := 8) (S := fun w' => w'.cell? ⟨gb154, 0, none⟩ = some (.slice Ao24 t161.length co24) ∧ w'.cell? ⟨gb154, 1, none⟩ = some (.int .i64 t164) ∧ w'.cell? ⟨gb154, 2, none⟩ = some (.int .i64 t165) ∧ w'.cell? ⟨gb155, 0, none⟩ = some (.int .i64 t166) ∧ w'.cell? ⟨gb155, 1, none⟩ = some (.int .i64 t167) ∧ w'.cell? ⟨gb155, 2, none⟩ = some (.int .i64 t168)) (ds := []) #[false, false, false, false, false, false, false, false] (by kernel_rfl) rfl rfl ⟨(lC BK154.out 0).trans rfl, (lC BK154.out 1).trans rfl, (lC BK154.out 2).trans rfl, (lC BK155.out 0).trans rfl, (lC BK155.out 1).trans rfl, (lC BK155.out 2).trans rfl⟩ (fun hHeld => ?_); refine with_tabW spec_StepClient.tab6 spec_StepClient.bits6 (fun HT_ HW_ => ?_)
   generalize w31.drew = w32 at HO163 BK149 BK150 BK151 BK152 BK154 BK155 HB hHeld ⊢
   refine pure_ (i := 3) (N := some 33) (v := ?_) (a' := ?_) #[false, false, false, true, false, false, false, false] rfl rfl (any_of HT_.out (by kernel_rfl)) (fun _ _ _ h => h) (Or.inl ⟨by rfl, ?_⟩) ?_ ?_
   rotate_left
   ·intro w'
    go_simp
    with_reducible rfl
   rotate_left
   ·simp only [Act.put, List.setIfInBounds_toArray, List.set_cons_zero, List.set_cons_succ, i64_w, i32_w]
    rfl
   refine take_ (i := 0) (N := some 30) (v := ?_) (a' := ?_) #[true, false, false, true, false, false, false, false] rfl rfl (take_ofW HT_.out HW_.out (by kernel_rfl)) (fun _ _ _ h => h) (Or.inl ⟨by rfl, ?_⟩) hHeld ?_ ?_
   rotate_left
   ·rintro w' ⟨s0, s1, s2, s3, s4, s5⟩
    go_simp
    with_reducible rfl
   rotate_left
   ·simp only [Act.put, List.setIfInBounds_toArray, List.set_cons_zero, List.set_cons_succ, i64_w, i32_w]
    rfl
   refine take_ (i := 2) (N := some 32) (v := ?_) (a' := ?_) #[true, false, true, true, false, false, false, false] rfl rfl (take_ofW HT_.out HW_.out (by kernel_rfl)) (fun _ _ _ h => h) (Or.inl ⟨by rfl, ?_⟩) hHeld ?_ ?_
   rotate_left
   ·rintro w' ⟨s0, s1, s2, s3, s4, s5⟩
    go_simp
    with_reducible rfl
   rotate_left
   ·simp only [Act.put, List.setIfInBounds_toArray, List.set_cons_zero, List.set_cons_succ, i64_w, i32_w]
    rfl
   refine one_ (i := 1) (N := some 31) #[true, true, true, true, false, false, false, false] rfl rfl (one_of HT_.out (by kernel_rfl)) (by decide) (fun K hK => ?_)
   refine goes_ Try.func27 (by kernel_rfl) rfl #[.agg #[.slice Ao24 t161.length co24, .int .i64 t164, .int .i64 t165]] (by rfl) rfl rfl (by (try simp only [List.map_toArray, List.map_cons, List.map_nil]); first | done | rfl | (simp only [List.length_drop, List.length_take]; rfl)) ?_
   with_reducible refine (spec_l10Own.calls _ _ t161 t164 t165 t171 t174 t175 _ ?side1 ?side2 A8.out).mono ?_
   (case side1 => repeat (first | exact (rR HO163.out).2.2 | (with_reducible first | refine cA ?_ _ | refine cN ?_ _ | refine cD ?_)))
   (case side2 => exact (rR HO163.out).2.1)
   rintro e w33 ⟨v172, rfl, ho0, hb⟩
   refine ⟨_, rfl, ?_⟩
   have n0_ := Aside0.mk (rF (by (with_reducible repeat (first | apply rA | apply rN | apply rD)); exact HO163.out) (rE ho0) hb)
   have n1_ := Aside0.mk (Kd.R_lower (Kd.R_new' ho0 (Kd.R_lt (by (with_reducible repeat (first | apply rA | apply rN | apply rD)); exact HO163.out))) (below_size (by repeat (first | (with_reducible first | exact HB.out | apply bA | apply bN | apply bD | refine bS ?_ GE149.out | refine bS ?_ GE150.out | refine bS ?_ GE151.out | refine bS ?_ GE152.out | refine bS ?_ GE154.out | refine bS ?_ GE155.out) | exact HB.out))))
   have n2_ := Aside0.mk (zB BK149.out hb)
   have n3_ := Aside0.mk (zB BK150.out hb)
   have n4_ := Aside0.mk (zB BK151.out hb)
   have n5_ := Aside0.mk (zB BK152.out hb)
   have n6_ := Aside0.mk (zB BK154.out hb)
   have n7_ := Aside0.mk (zB BK155.out hb)
   have n8_ := Aside0.mk (below_step (by repeat (first | (with_reducible first | exact HB.out | apply bA | apply bN | apply bD | refine bS ?_ GE149.out | refine bS ?_ GE150.out | refine bS ?_ GE151.out | refine bS ?_ GE152.out | refine bS ?_ GE154.out | refine bS ?_ GE155.out) | exact HB.out)) hb)
   clear HO163
   clear BK149
   clear BK150
   clear BK151
   clear BK152
   clear BK154
   clear BK155
   clear HB
   have HO163 := n0_
   have HO173 := n1_
   have BK149 := n2_
   have BK150 := n3_
   have BK151 := n4_
   have BK152 := n5_
   have BK154 := n6_
   have BK155 := n7_
   have HB := n8_
   clear n0_ n1_ n2_ n3_ n4_ n5_ n6_ n7_ n8_
   (try clear hb)
   (try clear hb2)
   (try clear hk)
   (try clear hi)
   (try clear ho0)
   obtain ⟨Ao34, co34, eo34⟩ := rS HO173.out
   (first | subst eo34 | (injection eo34 with f1_ f2_ f3_; have f4_ := f1_.symm; have f5_ := f3_.symm; clear f1_ f2_ f3_; subst f4_; subst f5_))
   refine hK.out _ _ ⟨(lC BK154.out 0).trans rfl, (lC BK154.out 1).trans rfl, (lC BK154.out 2).trans rfl, (lC BK155.out 0).trans rfl, (lC BK155.out 1).trans rfl, (lC BK155.out 2).trans rfl⟩ (fun hHeld => ?_)
   clear hK K
   refine norm_ (a' := ?_) ?_ ?_
   rotate_left
   ·show Act.put _ (some 31) _ = _
    simp only [Act.put, List.setIfInBounds_toArray, List.set_cons_zero, List.set_cons_succ, i64_w, i32_w]
    rfl
   refine one_ (i := 4) (N := none) #[true, true, true, true, true, false, false, false] rfl rfl (one_of HT_.out (by kernel_rfl)) (by decide) (fun K hK => ?_)
   have hs35 : w33.cell? ⟨gb151, 0, none⟩ = some (.slice none 0 0) := (lC BK151.out 0).trans rfl
   have hfs35 := lF BK151.out 0
   have hns35_0 := NB149_151.out
   have hns35_1 := NB150_151.out
   have hns35_3 := NB152_151.out
   have hns35_4 := NB154_151.out
   have hns35_5 := NB155_151.out
   have hms35_0 := NB151_149.out
   have hms35_1 := NB151_150.out
   have hms35_3 := NB151_152.out
   have hms35_4 := NB151_154.out
   have hms35_5 := NB151_155.out
   have hs36 : w33.cell? ⟨gb151, 1, none⟩ = some (.int .i64 0) := (lC BK151.out 1).trans rfl
   have hfs36 := lF BK151.out 1
   have hns36_0 := NB149_151.out
   have hns36_1 := NB150_151.out
   have hns36_3 := NB152_151.out
   have hns36_4 := NB154_151.out
   have hns36_5 := NB155_151.out
   have hms36_0 := NB151_149.out
   have hms36_1 := NB151_150.out
   have hms36_3 := NB151_152.out
   have hms36_4 := NB151_154.out
   have hms36_5 := NB151_155.out
   have hs37 : w33.cell? ⟨gb151, 2, none⟩ = some (.int .i64 0) := (lC BK151.out 2).trans rfl
   have hfs37 := lF BK151.out 2
   have hns37_0 := NB149_151.out
   have hns37_1 := NB150_151.out
   have hns37_3 := NB152_151.out
   have hns37_4 := NB154_151.out
   have hns37_5 := NB155_151.out
   have hms37_0 := NB151_149.out
   have hms37_1 := NB151_150.out
   have hms37_3 := NB151_152.out
   have hms37_4 := NB151_154.out
   have hms37_5 := NB151_155.out
   refine skip_ (w1 := ?_) (by rfl) rfl ?_ ?_
   rotate_left
   ·go_simp
    rfl
   refine hK.out _ _ ⟨((cell_far (p := ⟨gb151, _, none⟩) NB154_151.out _).trans (((cell_far (p := ⟨gb151, _, none⟩) NB154_151.out _).trans (((cell_far (p := ⟨gb151, _, none⟩) NB154_151.out _).trans (hHeld.1)))))), ((cell_far (p := ⟨gb151, _, none⟩) NB154_151.out _).trans (((cell_far (p := ⟨gb151, _, none⟩) NB154_151.out _).trans (((cell_far (p := ⟨gb151, _, none⟩) NB154_151.out _).trans (hHeld.2.1)))))), ((cell_far (p := ⟨gb151, _, none⟩) NB154_151.out _).trans (((cell_far (p := ⟨gb151, _, none⟩) NB154_151.out _).trans (((cell_far (p := ⟨gb151, _, none⟩) NB154_151.out _).trans (hHeld.2.2.1)))))), ((cell_far (p := ⟨gb151, _, none⟩) NB155_151.out _).trans (((cell_far (p := ⟨gb151, _, none⟩) NB155_151.out _).trans (((cell_far (p := ⟨gb151, _, none⟩) NB155_151.out _).trans (hHeld.2.2.2.1)))))), ((cell_far (p := ⟨gb151, _, none⟩) NB155_151.out _).trans (((cell_far (p := ⟨gb151, _, none⟩) NB155_151.out _).trans (((cell_far (p := ⟨gb151, _, none⟩) NB155_151.out _).trans (hHeld.2.2.2.2.1)))))), ((cell_far (p := ⟨gb151, _, none⟩) NB155_151.out _).trans (((cell_far (p := ⟨gb151, _, none⟩) NB155_151.out _).trans (((cell_far (p := ⟨gb151, _, none⟩) NB155_151.out _).trans (hHeld.2.2.2.2.2))))))⟩ (fun hHeld => ?_)
   clear hK K
   refine one_ (i := 5) (N := none) #[true, true, true, true, true, true, false, false] rfl rfl (one_of HT_.out (by kernel_rfl)) (by decide) (fun K hK => ?_)
   have hs38 : w33.cell? ⟨gb152, 0, none⟩ = some (.int .i64 0) := (lC BK152.out 0).trans rfl
   have hfs38 := lF BK152.out 0
   have hns38_0 := NB149_152.out
   have hns38_1 := NB150_152.out
   have hns38_2 := NB151_152.out
   have hns38_4 := NB154_152.out
   have hns38_5 := NB155_152.out
   have hms38_0 := NB152_149.out
   have hms38_1 := NB152_150.out
   have hms38_2 := NB152_151.out
   have hms38_4 := NB152_154.out
   have hms38_5 := NB152_155.out
   have hs39 : w33.cell? ⟨gb152, 1, none⟩ = some (.int .i64 0) := (lC BK152.out 1).trans rfl
   have hfs39 := lF BK152.out 1
   have hns39_0 := NB149_152.out
   have hns39_1 := NB150_152.out
   have hns39_2 := NB151_152.out
   have hns39_4 := NB154_152.out
   have hns39_5 := NB155_152.out
   have hms39_0 := NB152_149.out
   have hms39_1 := NB152_150.out
   have hms39_2 := NB152_151.out
   have hms39_4 := NB152_154.out
   have hms39_5 := NB152_155.out
   have hs40 : w33.cell? ⟨gb152, 2, none⟩ = some (.int .i64 0) := (lC BK152.out 2).trans rfl
   have hfs40 := lF BK152.out 2
   have hns40_0 := NB149_152.out
   have hns40_1 := NB150_152.out
   have hns40_2 := NB151_152.out
   have hns40_4 := NB154_152.out
   have hns40_5 := NB155_152.out
   have hms40_0 := NB152_149.out
   have hms40_1 := NB152_150.out
   have hms40_2 := NB152_151.out
   have hms40_4 := NB152_154.out
   have hms40_5 := NB152_155.out
   refine skip_ (w1 := ?_) (by rfl) rfl ?_ ?_
   rotate_left
   ·go_simp
    rfl
   refine hK.out _ _ ⟨((cell_far (p := ⟨gb152, _, none⟩) NB154_152.out _).trans (((cell_far (p := ⟨gb152, _, none⟩) NB154_152.out _).trans (((cell_far (p := ⟨gb152, _, none⟩) NB154_152.out _).trans (hHeld.1)))))), ((cell_far (p := ⟨gb152, _, none⟩) NB154_152.out _).trans (((cell_far (p := ⟨gb152, _, none⟩) NB154_152.out _).trans (((cell_far (p := ⟨gb152, _, none⟩) NB154_152.out _).trans (hHeld.2.1)))))), ((cell_far (p := ⟨gb152, _, none⟩) NB154_152.out _).trans (((cell_far (p := ⟨gb152, _, none⟩) NB154_152.out _).trans (((cell_far (p := ⟨gb152, _, none⟩) NB154_152.out _).trans (hHeld.2.2.1)))))), ((cell_far (p := ⟨gb152, _, none⟩) NB155_152.out _).trans (((cell_far (p := ⟨gb152, _, none⟩) NB155_152.out _).trans (((cell_far (p := ⟨gb152, _, none⟩) NB155_152.out _).trans (hHeld.2.2.2.1)))))), ((cell_far (p := ⟨gb152, _, none⟩) NB155_152.out _).trans (((cell_far (p := ⟨gb152, _, none⟩) NB155_152.out _).trans (((cell_far (p := ⟨gb152, _, none⟩) NB155_152.out _).trans (hHeld.2.2.2.2.1)))))), ((cell_far (p := ⟨gb152, _, none⟩) NB155_152.out _).trans (((cell_far (p := ⟨gb152, _, none⟩) NB155_152.out _).trans (((cell_far (p := ⟨gb152, _, none⟩) NB155_152.out _).trans (hHeld.2.2.2.2.2))))))⟩ (fun hHeld => ?_)
   clear hK K
   refine pure_ (i := 6) (N := some 6) (v := ?_) (a' := ?_) #[true, true, true, true, true, true, true, false] rfl rfl (any_of HT_.out (by kernel_rfl)) (fun _ _ _ h => h) (Or.inl ⟨by rfl, ?_⟩) ?_ ?_
   rotate_left
   ·intro w'
    go_simp
    with_reducible rfl
   rotate_left
   ·simp only [Act.put, List.setIfInBounds_toArray, List.set_cons_zero, List.set_cons_succ, i64_w, i32_w]
    rfl
   refine pure_ (i := 7) (N := some 7) (v := ?_) (a' := ?_) #[true, true, true, true, true, true, true, true] rfl rfl (any_of HT_.out (by kernel_rfl)) (fun _ _ _ h => h) (Or.inl ⟨by rfl, ?_⟩) ?_ ?_
   rotate_left
   ·intro w'
    go_simp
    with_reducible rfl
   rotate_left
   ·simp only [Act.put, List.setIfInBounds_toArray, List.set_cons_zero, List.set_cons_succ, i64_w, i32_w]
    rfl
   refine done_ (done_of HT_.out (by kernel_rfl)) ?_
   try go_wp2
   refine bodyPost_ret (results_list (rs := [.cell 4 29, .cell 5 31, .tmp 6, .tmp 7]) rfl (by simp) (.cell gb151 29 #[.slice Ao34 t171.length co34, .int .i64 t174, .int .i64 t175] (0, 0) _ rfl (by (with_reducible repeat (first | refine lN ?_ _ | refine lD ?_ | refine lA ?_ _)); refine lX ?_ NB151_152.out _; (with_reducible repeat (first | refine lN ?_ _ | refine lD ?_ | refine lA ?_ _)); refine lX ?_ NB151_152.out _; (with_reducible repeat (first | refine lN ?_ _ | refine lD ?_ | refine lA ?_ _)); refine lX ?_ NB151_152.out _; (with_reducible repeat (first | refine lN ?_ _ | refine lD ?_ | refine lA ?_ _)); refine lP (cs := #[.slice Ao34 t171.length co34, .int .i64 t174, .int .i64 0]) ?_ 2 _ rfl; (with_reducible repeat (first | refine lN ?_ _ | refine lD ?_ | refine lA ?_ _)); refine lP (cs := #[.slice Ao34 t171.length co34, .int .i64 0, .int .i64 0]) ?_ 1 _ rfl; (with_reducible repeat (first | refine lN ?_ _ | refine lD ?_ | refine lA ?_ _)); refine lP (cs := #[.slice none 0 0, .int .i64 0, .int .i64 0]) ?_ 0 _ rfl; (with_reducible repeat (first | refine lN ?_ _ | refine lD ?_ | refine lA ?_ _)); exact BK151.out) Try.underlying29 rfl (by kernel_rfl) (.cell gb152 31 #[.int .i64 t166, .int .i64 t167, .int .i64 t168] (0, 0) _ rfl (by (with_reducible repeat (first | refine lN ?_ _ | refine lD ?_ | refine lA ?_ _)); refine lP (cs := #[.int .i64 t166, .int .i64 t167, .int .i64 0]) ?_ 2 _ rfl; (with_reducible repeat (first | refine lN ?_ _ | refine lD ?_ | refine lA ?_ _)); refine lP (cs := #[.int .i64 t166, .int .i64 0, .int .i64 0]) ?_ 1 _ rfl; (with_reducible repeat (first | refine lN ?_ _ | refine lD ?_ | refine lA ?_ _)); refine lP (cs := #[.int .i64 0, .int .i64 0, .int .i64 0]) ?_ 0 _ rfl; (with_reducible repeat (first | refine lN ?_ _ | refine lD ?_ | refine lA ?_ _)); refine lX ?_ NB152_151.out _; (with_reducible repeat (first | refine lN ?_ _ | refine lD ?_ | refine lA ?_ _)); refine lX ?_ NB152_151.out _; (with_reducible repeat (first | refine lN ?_ _ | refine lD ?_ | refine lA ?_ _)); refine lX ?_ NB152_151.out _; (with_reducible repeat (first | refine lN ?_ _ | refine lD ?_ | refine lA ?_ _)); exact BK152.out) Try.underlying31 rfl (by kernel_rfl) (.tmp (.tmp .nil))))) rfl ?_
   exact ⟨_, by first | rfl | (simp [errW_none, errW_some] <;> rfl) | (simp [*, errW_none, errW_some] <;> rfl), by (with_reducible repeat (first | apply rA | apply rN | apply rD)); exact rM (Kd.R_far (p := ⟨gb152, 2, none⟩) (Kd.R_far (p := ⟨gb152, 1, none⟩) (Kd.R_far (p := ⟨gb152, 0, none⟩) (Kd.R_far (p := ⟨gb151, 2, none⟩) (Kd.R_far (p := ⟨gb151, 1, none⟩) (Kd.R_far (p := ⟨gb151, 0, none⟩) (Kd.R_types (Kd.R_types HO173.out BK151.out (by decide)) BK152.out (by decide)) (fun _ hk => hk.1.2) (.slice Ao34 t171.length co34)) (fun _ hk => hk.1.2) (.int .i64 t174)) (fun _ hk => hk.1.2) (.int .i64 t175)) (fun _ hk => hk.2) (.int .i64 t166)) (fun _ hk => hk.2) (.int .i64 t167)) (fun _ hk => hk.2) (.int .i64 t168)) (fun _ hk => trivial), by repeat (first | (with_reducible first | exact HB.out | apply bA | apply bN | apply bD | refine bS ?_ GE149.out | refine bS ?_ GE150.out | refine bS ?_ GE151.out | refine bS ?_ GE152.out | refine bS ?_ GE154.out | refine bS ?_ GE155.out) | exact HB.out)⟩
  ·replace c7 := fB c7
   subst c7
   have H1 : (some (([] : List ByteArray), 0, 0, 0, 0, 0, (⟨#[]⟩ : ByteArray), false)) = some (r1, r2, r3, r4, r5, r6, r7, r8) := by rw [if_neg (show ¬ (false = true) by decide)] at H; exact H
   clear H
   have H := H1
   clear H1
   simp only [Option.some.injEq, Prod.mk.injEq] at H
   obtain ⟨rfl, rfl, rfl, rfl, rfl, rfl, rfl, rfl⟩ := H
   go_enter Try.func7, Try.ntmps7
   try go_wp2_with (first | ((with_reducible refine gate_dst (N := 2) rfl ?_); refine box_event ?hg (N := 2) ?hd (cs := #[.slice A0_0 l0_0.length c0_0, .int .i64 a0_1, .int .i64 a0_2]) (t := 29) ?hr ?_; (case hd => rfl); (case hg => rfl); (case hr => first | (go_simp; done) | (go_simp; rfl)); intro gb149 hg w41 hbox hb; have n0_ := Aside0.mk (zS HB.out hb); have n1_ := Aside0.mk (hbox); have n2_ := Aside0.mk (zW hg HB.out); have n3_ := n2_; clear HB; have HB := n0_; have BK149 := n1_; have GW149 := n2_; have GE149 := n3_; clear n0_ n1_ n2_ n3_; clear hb hbox hg) | ((with_reducible refine gate_dst (N := 3) rfl ?_); refine box_event ?hg (N := 3) ?hd (cs := #[.int .i64 a1_0, .string a1_1]) (t := 35) ?hr ?_; (case hd => rfl); (case hg => rfl); (case hr => first | (go_simp; done) | (go_simp; rfl)); intro gb150 hg w42 hbox hb; have n0_ := Aside0.mk (zB BK149.out hb); have n1_ := Aside0.mk (zS HB.out hb); have n2_ := Aside0.mk (hbox); have n3_ := Aside0.mk (zW hg HB.out); have n4_ := n3_; have n5_ := Aside0.mk (zL hg BK149.out); have n6_ := Aside0.mk (zG hg BK149.out); clear BK149; clear HB; have BK149 := n0_; have HB := n1_; have BK150 := n2_; have GW150 := n3_; have GE150 := n4_; have NB149_150 := n5_; have NB150_149 := n6_; clear n0_ n1_ n2_ n3_ n4_ n5_ n6_; clear hb hbox hg) | ((with_reducible refine gate_dst (N := 4) rfl ?_); refine box_event ?hg (N := 4) ?hd (cs := #[.slice none 0 0, .int .i64 0, .int .i64 0]) (t := 29) ?hr ?_; (case hd => rfl); (case hg => rfl); (case hr => first | (go_simp; done) | (go_simp; rfl)); intro gb151 hg w43 hbox hb; have n0_ := Aside0.mk (zB BK149.out hb); have n1_ := Aside0.mk (zB BK150.out hb); have n2_ := Aside0.mk (zS HB.out hb); have n3_ := Aside0.mk (hbox); have n4_ := Aside0.mk (zW hg HB.out); have n5_ := n4_; have n6_ := Aside0.mk (zL hg BK149.out); have n7_ := Aside0.mk (zG hg BK149.out); have n8_ := Aside0.mk (zL hg BK150.out); have n9_ := Aside0.mk (zG hg BK150.out); clear BK149; clear BK150; clear HB; have BK149 := n0_; have BK150 := n1_; have HB := n2_; have BK151 := n3_; have GW151 := n4_; have GE151 := n5_; have NB149_151 := n6_; have NB151_149 := n7_; have NB150_151 := n8_; have NB151_150 := n9_; clear n0_ n1_ n2_ n3_ n4_ n5_ n6_ n7_ n8_ n9_; clear hb hbox hg) | ((with_reducible refine gate_dst (N := 5) rfl ?_); refine box_event ?hg (N := 5) ?hd (cs := #[.int .i64 0, .int .i64 0, .int .i64 0]) (t := 31) ?hr ?_; (case hd => rfl); (case hg => rfl); (case hr => first | (go_simp; done) | (go_simp; rfl)); intro gb152 hg w44 hbox hb; have n0_ := Aside0.mk (zB BK149.out hb); have n1_ := Aside0.mk (zB BK150.out hb); have n2_ := Aside0.mk (zB BK151.out hb); have n3_ := Aside0.mk (zS HB.out hb); have n4_ := Aside0.mk (hbox); have n5_ := Aside0.mk (zW hg HB.out); have n6_ := n5_; have n7_ := Aside0.mk (zL hg BK149.out); have n8_ := Aside0.mk (zG hg BK149.out); have n9_ := Aside0.mk (zL hg BK150.out); have n10_ := Aside0.mk (zG hg BK150.out); have n11_ := Aside0.mk (zL hg BK151.out); have n12_ := Aside0.mk (zG hg BK151.out); clear BK149; clear BK150; clear BK151; clear HB; have BK149 := n0_; have BK150 := n1_; have BK151 := n2_; have HB := n3_; have BK152 := n4_; have GW152 := n5_; have GE152 := n6_; have NB149_152 := n7_; have NB152_149 := n8_; have NB150_152 := n9_; have NB152_150 := n10_; have NB151_152 := n11_; have NB152_151 := n12_; clear n0_ n1_ n2_ n3_ n4_ n5_ n6_ n7_ n8_ n9_ n10_ n11_ n12_; clear hb hbox hg; have hnb45 := NB149_150.out; have hnc45 := NB150_149.out; have hnb46 := NB149_151.out; have hnc46 := NB151_149.out; have hnb47 := NB149_152.out; have hnc47 := NB152_149.out; have hcz48_0 : w44.cell? ⟨gb149, 0, none⟩ = some (.slice A0_0 l0_0.length c0_0) := (lC BK149.out 0).trans rfl; have hcz48_1 : w44.cell? ⟨gb149, 1, none⟩ = some (.int .i64 a0_1) := (lC BK149.out 1).trans rfl; have hcz48_2 : w44.cell? ⟨gb149, 2, none⟩ = some (.int .i64 a0_2) := (lC BK149.out 2).trans rfl; have hfz48_0 := lF BK149.out 0; have hfz48_1 := lF BK149.out 1; have hfz48_2 := lF BK149.out 2) | ((with_reducible refine gate_callee (f := 19) rfl ?_); refine goesL_ (some 13) rfl rfl Try.func19 (by kernel_rfl) rfl #[.agg #[.slice A0_0 l0_0.length c0_0, .int .i64 a0_1, .int .i64 a0_2]] rfl (by (try simp only [List.map_toArray, List.map_cons, List.map_nil]); first | done | rfl | (simp only [List.length_drop, List.length_take]; rfl)) ?_; (with_reducible refine (spec_GoodClient.calls k _ _ l0_0 a0_1 a0_2 true _ ?side1 ?side2 A3.out).mono ?_); (case side1 => repeat (first | exact (Kd.C_below HR0_0.out HB.out) | (with_reducible first | refine cA ?_ _ | refine cN ?_ _ | refine cD ?_))); (case side2 => exact HC0_0.out); rintro e w49 ⟨rfl, hb⟩; refine ⟨_, rfl, ?_⟩; have n0_ := Aside0.mk (zB BK149.out hb); have n1_ := Aside0.mk (zB BK150.out hb); have n2_ := Aside0.mk (zB BK151.out hb); have n3_ := Aside0.mk (zB BK152.out hb); have n4_ := Aside0.mk (zS HB.out hb); clear BK149; clear BK150; clear BK151; clear BK152; clear HB; have BK149 := n0_; have BK150 := n1_; have BK151 := n2_; have BK152 := n3_; have HB := n4_; clear n0_ n1_ n2_ n3_ n4_; (try clear hb); (try clear hb2); (try clear hk); (try clear hi)))
   have n0_ := Aside0.mk (lD BK149.out)
   have n1_ := Aside0.mk (lD BK150.out)
   have n2_ := Aside0.mk (lD BK151.out)
   have n3_ := Aside0.mk (lD BK152.out)
   have n6_ := Aside0.mk (bD HB.out)
   clear BK149
   clear BK150
   clear BK151
   clear BK152
   clear HB
   have BK149 := n0_
   have BK150 := n1_
   have BK151 := n2_
   have BK152 := n3_
   have HB := n6_
   clear n0_ n1_ n2_ n3_ n6_
   refine start_ (n := 15) (S := fun w' => w'.cell? ⟨gb149, 0, none⟩ = some (.slice A0_0 l0_0.length c0_0) ∧ w'.cell? ⟨gb149, 1, none⟩ = some (.int .i64 a0_1) ∧ w'.cell? ⟨gb149, 2, none⟩ = some (.int .i64 a0_2) ∧ w'.cell? ⟨gb150, 0, none⟩ = some (.int .i64 a1_0) ∧ w'.cell? ⟨gb150, 1, none⟩ = some (.string a1_1)) (ds := []) #[false, false, false, false, false, false, false, false, false, false, false, false, false, false, false] (by kernel_rfl) rfl rfl ⟨(lC BK149.out 0).trans rfl, (lC BK149.out 1).trans rfl, (lC BK149.out 2).trans rfl, (lC BK150.out 0).trans rfl, (lC BK150.out 1).trans rfl⟩ (fun hHeld => ?_); refine with_tabW spec_StepClient.tab3 spec_StepClient.bits3 (fun HT_ HW_ => ?_)
   generalize World.drew _ = w52 at BK149 BK150 BK151 BK152 HB hHeld ⊢
   refine take_ (i := 0) (N := some 18) (v := ?_) (a' := ?_) #[true, false, false, false, false, false, false, false, false, false, false, false, false, false, false] rfl rfl (take_ofW HT_.out HW_.out (by kernel_rfl)) (fun _ _ _ h => h) (Or.inl ⟨by rfl, ?_⟩) hHeld ?_ ?_
   rotate_left
   ·rintro w' ⟨s0, s1, s2, s3, s4⟩
    go_simp
    with_reducible rfl
   rotate_left
   ·simp only [Act.put, List.setIfInBounds_toArray, List.set_cons_zero, List.set_cons_succ, i64_w, i32_w]
    rfl
   refine take_ (i := 2) (N := some 20) (v := ?_) (a' := ?_) #[true, false, true, false, false, false, false, false, false, false, false, false, false, false, false] rfl rfl (take_ofW HT_.out HW_.out (by kernel_rfl)) (fun _ _ _ h => h) (Or.inl ⟨by rfl, ?_⟩) hHeld ?_ ?_
   rotate_left
   ·rintro w' ⟨s0, s1, s2, s3, s4⟩
    go_simp
    with_reducible rfl
   rotate_left
   ·simp only [Act.put, List.setIfInBounds_toArray, List.set_cons_zero, List.set_cons_succ, i64_w, i32_w]
    rfl
   have hlo_ := Aside0.mk (below_size HB.out)
   have hlt149_ := Aside0.mk (blk_lt BK149.out)
   have hlt150_ := Aside0.mk (blk_lt BK150.out)
   have hlt151_ := Aside0.mk (blk_lt BK151.out)
   have hlt152_ := Aside0.mk (blk_lt BK152.out)
   refine Go.Proofs.Ytodhogegjkfemaa.Bx.boxes_ (i := 9) (j := 10) (N1 := 8) (N2 := 9) (cs1 := #[.slice none 0 0, .int .i64 0, .int .i64 0]) (cs2 := #[.int .i64 0, .int .i64 0, .int .i64 0]) (t1 := 29) (t2 := 31) 4 #[true, true, true, true, true, true, true, true, true, true, true, false, false, false, false] #[true, false, true, false, false, false, false, false, false, true, true, false, false, false, false] [.call 1, .call 3, .pure 4, .pure 5, .pure 6, .pure 7, .pure 8] rfl rfl rfl rfl rfl rfl (by kernel_rfl) (by simp only [Go.Proofs.Ytodhogegjkfemaa.Bx.ba, Act.put, List.setIfInBounds_toArray, List.set_cons_zero, List.set_cons_succ]) ?_ ?_ ?_ (fun _ _ _ _ _ => Iff.rfl) hHeld ?_
   ·intro a_ w_
    first | (go_simp; done) | (go_simp; rfl)
   ·intro a_ w_
    first | (go_simp; done) | (go_simp; rfl)
   ·rintro w_ w2_ hb_ ⟨s0, s1, s2, s3, s4⟩
    exact ⟨pw_cell_below hb_ s0, pw_cell_below hb_ s1, pw_cell_below hb_ s2, pw_cell_below hb_ s3, pw_cell_below hb_ s4⟩
   refine Go.Proofs.Ytodhogegjkfemaa.Bx.env_call (i := 1) (N := some 19) rfl rfl (fun w52 hE_ hHeld K hK => ?_)
   have n0_ := Aside0.mk (blk_below BK149.out hE_)
   have n1_ := Aside0.mk (blk_below BK150.out hE_)
   have n2_ := Aside0.mk (blk_below BK151.out hE_)
   have n3_ := Aside0.mk (blk_below BK152.out hE_)
   have n4_ := Aside0.mk (below_step HB.out hE_)
   clear hE_ BK149 BK150 BK151 BK152 HB
   have BK149 := n0_
   have BK150 := n1_
   have BK151 := n2_
   have BK152 := n3_
   have HB := n4_
   clear n0_ n1_ n2_ n3_ n4_
   refine goes_ Try.func27 (by kernel_rfl) rfl #[.agg #[.slice A0_0 l0_0.length c0_0, .int .i64 a0_1, .int .i64 a0_2]] (by rfl) rfl rfl (by (try simp only [List.map_toArray, List.map_cons, List.map_nil]); first | done | rfl | (simp only [List.length_drop, List.length_take]; rfl)) ?_
   with_reducible refine (spec_l10Own.calls _ _ l0_0 a0_1 a0_2 t156 t159 t160 _ ?side1 ?side2 A5.out).mono ?_
   (case side1 => repeat (first | exact (Kd.C_below HR0_0.out HB.out) | (with_reducible first | refine cA ?_ _ | refine cN ?_ _ | refine cD ?_)))
   (case side2 => exact HC0_0.out)
   rintro e w53 ⟨v157, rfl, ho0, hb⟩
   refine ⟨_, rfl, ?_⟩
   have hkb_ := Aside0.mk (Go.Proofs.Ytodhogegjkfemaa.Bx.keep_b (t1 := 29) (t2 := 31) hb)
   have hsz_ := Aside0.mk hb.size
   have n0_ := Aside0.mk (Kd.R_lower ho0 (below_size (by repeat (first | (with_reducible first | exact HB.out | apply bA | apply bN | apply bD | refine bS ?_ GE149.out | refine bS ?_ GE150.out | refine bS ?_ GE151.out | refine bS ?_ GE152.out) | exact HB.out))))
   have n1_ := Aside0.mk (zB BK149.out hb)
   have n2_ := Aside0.mk (zB BK150.out hb)
   have n3_ := Aside0.mk (zB BK151.out hb)
   have n4_ := Aside0.mk (zB BK152.out hb)
   have n7_ := Aside0.mk (below_step (by repeat (first | (with_reducible first | exact HB.out | apply bA | apply bN | apply bD | refine bS ?_ GE149.out | refine bS ?_ GE150.out | refine bS ?_ GE151.out | refine bS ?_ GE152.out) | exact HB.out)) hb)
   clear BK149
   clear BK150
   clear BK151
   clear BK152
   clear HB
   have HO158 := n0_
   have BK149 := n1_
   have BK150 := n2_
   have BK151 := n3_
   have BK152 := n4_
   have HB := n7_
   clear n0_ n1_ n2_ n3_ n4_ n7_
   (try clear hb)
   (try clear hb2)
   (try clear hk)
   (try clear hi)
   (try clear ho0)
   obtain ⟨Ao54, co54, eo54⟩ := rS HO158.out
   (first | subst eo54 | (injection eo54 with f1_ f2_ f3_; have f4_ := f1_.symm; have f5_ := f3_.symm; clear f1_ f2_ f3_; subst f4_; subst f5_))
   refine hK.out _ _ ⟨(lC BK149.out 0).trans rfl, (lC BK149.out 1).trans rfl, (lC BK149.out 2).trans rfl, (lC BK150.out 0).trans rfl, (lC BK150.out 1).trans rfl⟩ hkb_.out hsz_.out (fun hHeld => ?_)
   clear hK K hkb_ hsz_
   refine Go.Proofs.Ytodhogegjkfemaa.Bx.env_norm (a' := ?_) ?_ ?_
   rotate_left
   ·show Act.put _ (some 19) _ = _
    simp only [Act.put, List.setIfInBounds_toArray, List.set_cons_zero, List.set_cons_succ, i64_w, i32_w]
    rfl
   refine Go.Proofs.Ytodhogegjkfemaa.Bx.env_call (i := 3) (N := some 21) rfl rfl (fun w53 hE_ hHeld K hK => ?_)
   have n0_ := Aside0.mk (blk_below BK149.out hE_)
   have n1_ := Aside0.mk (blk_below BK150.out hE_)
   have n2_ := Aside0.mk (blk_below BK151.out hE_)
   have n3_ := Aside0.mk (blk_below BK152.out hE_)
   have n4_ := Aside0.mk (below_step HB.out hE_)
   have n5_ := Aside0.mk (rB HO158.out hE_)
   clear hE_ BK149 BK150 BK151 BK152 HB HO158
   have BK149 := n0_
   have BK150 := n1_
   have BK151 := n2_
   have BK152 := n3_
   have HB := n4_
   have HO158 := n5_
   clear n0_ n1_ n2_ n3_ n4_ n5_
   refine goes_ Try.func26 (by kernel_rfl) rfl #[.agg #[.slice Ao54 t156.length co54, .int .i64 t159, .int .i64 t160], .agg #[.int .i64 a1_0, .string a1_1]] (by rfl) rfl rfl (by (try simp only [List.map_toArray, List.map_cons, List.map_nil]); first | done | rfl | (simp only [List.length_drop, List.length_take]; rfl)) ?_
   with_reducible refine (spec_l10Step.calls k (fun k_ => some k_ = (.slice Ao54 t156.length co54 : Value).ownBlock) (.slice Ao54 t156.length co54) t156 t159 t160 a1_0 a1_1 t161 t164 t165 t166 t167 t168 t169 false w _ ?side1 ?side2 A6.out).mono ?_
   (case side1 => repeat (first | (with_reducible first | exact HB.out | apply bA | apply bN | apply bD | refine bS ?_ GE149.out | refine bS ?_ GE150.out | refine bS ?_ GE151.out | refine bS ?_ GE152.out) | exact HB.out))
   (case side2 => exact Kd.R_tight rfl HO158.out)
   rintro e w55 ⟨v162, rfl, ho0, hb, hkp⟩
   refine ⟨_, rfl, ?_⟩
   have hkb_ := Aside0.mk (Go.Proofs.Ytodhogegjkfemaa.Bx.keep_k (t1 := 29) (t2 := 31) hkp (fun k_ hk_ => by
    obtain ⟨cs_, h_⟩ := Kd.R_typed HO158.out k_ hk_.symm
    exact ⟨cs_, _, by decide, by decide, h_⟩))
   have hsz_ := Aside0.mk hkp.1
   have n0_ := Aside0.mk (blk_kept (by (with_reducible repeat (first | refine lN ?_ _ | refine lD ?_ | refine lA ?_ _)); exact BK149.out) hkp (fun hs_ => (fun e_ => (Kd.R_ne HO158.out BK149.out (by decide)) e_) hs_))
   have n1_ := Aside0.mk (blk_kept (by (with_reducible repeat (first | refine lN ?_ _ | refine lD ?_ | refine lA ?_ _)); exact BK150.out) hkp (fun hs_ => (fun e_ => (Kd.R_ne HO158.out BK150.out (by decide)) e_) hs_))
   have n2_ := Aside0.mk (blk_kept (by (with_reducible repeat (first | refine lN ?_ _ | refine lD ?_ | refine lA ?_ _)); exact BK151.out) hkp (fun hs_ => (fun e_ => (Kd.R_ne HO158.out BK151.out (by decide)) e_) hs_))
   have n3_ := Aside0.mk (blk_kept (by (with_reducible repeat (first | refine lN ?_ _ | refine lD ?_ | refine lA ?_ _)); exact BK152.out) hkp (fun hs_ => (fun e_ => (Kd.R_ne HO158.out BK152.out (by decide)) e_) hs_))
   have n6_ := Aside0.mk (rM (ok' := fun k_ => True) ho0 (fun k_ hk_ => trivial))
   have n7_ := Aside0.mk (hb)
   clear BK149
   clear BK150
   clear BK151
   clear BK152
   clear HB
   clear HO158
   have BK149 := n0_
   have BK150 := n1_
   have BK151 := n2_
   have BK152 := n3_
   have HO163 := n6_
   have HB := n7_
   clear n0_ n1_ n2_ n3_ n6_ n7_
   (try clear hb)
   (try clear hkp)
   (try clear ho0)
   obtain ⟨Ao56, co56, eo56⟩ := rS HO163.out
   (first | subst eo56 | (injection eo56 with f1_ f2_ f3_; have f4_ := f1_.symm; have f5_ := f3_.symm; clear f1_ f2_ f3_; subst f4_; subst f5_))
   refine hK.out _ _ ⟨(lC BK149.out 0).trans rfl, (lC BK149.out 1).trans rfl, (lC BK149.out 2).trans rfl, (lC BK150.out 0).trans rfl, (lC BK150.out 1).trans rfl⟩ hkb_.out hsz_.out (fun hHeld => ?_)
   clear hK K hkb_ hsz_
   refine Go.Proofs.Ytodhogegjkfemaa.Bx.env_norm (a' := ?_) ?_ ?_
   rotate_left
   ·show Act.put _ (some 21) _ = _
    simp only [Act.put, List.setIfInBounds_toArray, List.set_cons_zero, List.set_cons_succ, i64_w, i32_w]
    rfl
   refine Go.Proofs.Ytodhogegjkfemaa.Bx.env_pure (i := 4) (N := some 17) (v := ?_) (a' := ?_) rfl rfl (Or.inl ⟨by rfl, ?_⟩) ?_ ?_
   rotate_left
   ·intro w'
    go_simp
    with_reducible rfl
   rotate_left
   ·simp only [Act.put, List.setIfInBounds_toArray, List.set_cons_zero, List.set_cons_succ, i64_w, i32_w]
    rfl
   refine Go.Proofs.Ytodhogegjkfemaa.Bx.env_pure (i := 5) (N := some 22) (v := ?_) (a' := ?_) rfl rfl (Or.inl ⟨by rfl, ?_⟩) ?_ ?_
   rotate_left
   ·intro w'
    go_simp
    with_reducible rfl
   rotate_left
   ·simp only [Act.put, List.setIfInBounds_toArray, List.set_cons_zero, List.set_cons_succ, i64_w, i32_w]
    rfl
   refine Go.Proofs.Ytodhogegjkfemaa.Bx.env_pure (i := 6) (N := some 23) (v := ?_) (a' := ?_) rfl rfl (Or.inl ⟨by rfl, ?_⟩) ?_ ?_
   rotate_left
   ·intro w'
    go_simp
    with_reducible rfl
   rotate_left
   ·simp only [Act.put, List.setIfInBounds_toArray, List.set_cons_zero, List.set_cons_succ, i64_w, i32_w]
    rfl
   refine Go.Proofs.Ytodhogegjkfemaa.Bx.env_pure (i := 7) (N := some 24) (v := ?_) (a' := ?_) rfl rfl (Or.inl ⟨by rfl, ?_⟩) ?_ ?_
   rotate_left
   ·intro w'
    go_simp
    with_reducible rfl
   rotate_left
   ·simp only [Act.put, List.setIfInBounds_toArray, List.set_cons_zero, List.set_cons_succ, i64_w, i32_w]
    rfl
   refine Go.Proofs.Ytodhogegjkfemaa.Bx.env_pure (i := 8) (N := some 25) (v := ?_) (a' := ?_) rfl rfl (Or.inl ⟨by rfl, ?_⟩) ?_ ?_
   rotate_left
   ·intro w'
    go_simp
    with_reducible rfl
   rotate_left
   ·simp only [Act.put, List.setIfInBounds_toArray, List.set_cons_zero, List.set_cons_succ, i64_w, i32_w]
    rfl
   intro w55 hE_ hHeld gb154 gb155 BKa_ BKb_ GEa_ GEb_ NBab_
   have n0_ := Aside0.mk (blk_below BK149.out hE_)
   have n1_ := Aside0.mk (blk_below BK150.out hE_)
   have n2_ := Aside0.mk (blk_below BK151.out hE_)
   have n3_ := Aside0.mk (blk_below BK152.out hE_)
   have n4_ := Aside0.mk (rB HO163.out hE_)
   have n5_ := Aside0.mk (below_step HB.out hE_)
   clear hE_ BK149 BK150 BK151 BK152 HO163 HB
   have BK149 := n0_
   have BK150 := n1_
   have BK151 := n2_
   have BK152 := n3_
   have HO163 := n4_
   have HB := n5_
   clear n0_ n1_ n2_ n3_ n4_ n5_
   have BK154 := Aside0.mk BKa_
   have BK155 := Aside0.mk BKb_
   have GW154 := Aside0.mk (Nat.le_trans hlo_.out GEa_)
   have GW155 := Aside0.mk (Nat.le_trans hlo_.out GEb_)
   have GE154 := Aside0.mk (Nat.le_trans hlo_.out GEa_)
   have GE155 := Aside0.mk (Nat.le_trans hlo_.out GEb_)
   have NB149_154 := Aside0.mk (Nat.ne_of_lt (Nat.lt_of_lt_of_le hlt149_.out GEa_))
   have NB154_149 := Aside0.mk (Nat.ne_of_gt (Nat.lt_of_lt_of_le hlt149_.out GEa_))
   have NB149_155 := Aside0.mk (Nat.ne_of_lt (Nat.lt_of_lt_of_le hlt149_.out GEb_))
   have NB155_149 := Aside0.mk (Nat.ne_of_gt (Nat.lt_of_lt_of_le hlt149_.out GEb_))
   have NB150_154 := Aside0.mk (Nat.ne_of_lt (Nat.lt_of_lt_of_le hlt150_.out GEa_))
   have NB154_150 := Aside0.mk (Nat.ne_of_gt (Nat.lt_of_lt_of_le hlt150_.out GEa_))
   have NB150_155 := Aside0.mk (Nat.ne_of_lt (Nat.lt_of_lt_of_le hlt150_.out GEb_))
   have NB155_150 := Aside0.mk (Nat.ne_of_gt (Nat.lt_of_lt_of_le hlt150_.out GEb_))
   have NB151_154 := Aside0.mk (Nat.ne_of_lt (Nat.lt_of_lt_of_le hlt151_.out GEa_))
   have NB154_151 := Aside0.mk (Nat.ne_of_gt (Nat.lt_of_lt_of_le hlt151_.out GEa_))
   have NB151_155 := Aside0.mk (Nat.ne_of_lt (Nat.lt_of_lt_of_le hlt151_.out GEb_))
   have NB155_151 := Aside0.mk (Nat.ne_of_gt (Nat.lt_of_lt_of_le hlt151_.out GEb_))
   have NB152_154 := Aside0.mk (Nat.ne_of_lt (Nat.lt_of_lt_of_le hlt152_.out GEa_))
   have NB154_152 := Aside0.mk (Nat.ne_of_gt (Nat.lt_of_lt_of_le hlt152_.out GEa_))
   have NB152_155 := Aside0.mk (Nat.ne_of_lt (Nat.lt_of_lt_of_le hlt152_.out GEb_))
   have NB155_152 := Aside0.mk (Nat.ne_of_gt (Nat.lt_of_lt_of_le hlt152_.out GEb_))
   have NB154_155 := Aside0.mk NBab_
   have NB155_154 := Aside0.mk (Ne.symm NBab_)
   clear hlo_ BKa_ BKb_ GEa_ GEb_ NBab_ hlt149_ hlt150_ hlt151_ hlt152_
   refine norm_ (a' := ?_) ?_ ?_
   rotate_left
   ·simp only [Go.Proofs.Ytodhogegjkfemaa.Bx.ba, Act.put, List.setIfInBounds_toArray, List.set_cons_zero, List.set_cons_succ]
    rfl
   refine one_ (i := 11) (N := none) #[true, true, true, true, true, true, true, true, true, true, true, true, false, false, false] rfl rfl (one_of HT_.out (by kernel_rfl)) (by decide) (fun K hK => ?_)
   have hs57 : w55.cell? ⟨gb154, 0, none⟩ = some (.slice none 0 0) := (lC BK154.out 0).trans rfl
   have hfs57 := lF BK154.out 0
   have hns57_0 := NB149_154.out
   have hns57_1 := NB150_154.out
   have hns57_2 := NB151_154.out
   have hns57_3 := NB152_154.out
   have hns57_5 := NB155_154.out
   have hms57_0 := NB154_149.out
   have hms57_1 := NB154_150.out
   have hms57_2 := NB154_151.out
   have hms57_3 := NB154_152.out
   have hms57_5 := NB154_155.out
   have hs58 : w55.cell? ⟨gb154, 1, none⟩ = some (.int .i64 0) := (lC BK154.out 1).trans rfl
   have hfs58 := lF BK154.out 1
   have hns58_0 := NB149_154.out
   have hns58_1 := NB150_154.out
   have hns58_2 := NB151_154.out
   have hns58_3 := NB152_154.out
   have hns58_5 := NB155_154.out
   have hms58_0 := NB154_149.out
   have hms58_1 := NB154_150.out
   have hms58_2 := NB154_151.out
   have hms58_3 := NB154_152.out
   have hms58_5 := NB154_155.out
   have hs59 : w55.cell? ⟨gb154, 2, none⟩ = some (.int .i64 0) := (lC BK154.out 2).trans rfl
   have hfs59 := lF BK154.out 2
   have hns59_0 := NB149_154.out
   have hns59_1 := NB150_154.out
   have hns59_2 := NB151_154.out
   have hns59_3 := NB152_154.out
   have hns59_5 := NB155_154.out
   have hms59_0 := NB154_149.out
   have hms59_1 := NB154_150.out
   have hms59_2 := NB154_151.out
   have hms59_3 := NB154_152.out
   have hms59_5 := NB154_155.out
   refine skip_ (w1 := ?_) (by rfl) rfl ?_ ?_
   rotate_left
   ·go_simp
    rfl
   refine hK.out _ _ ⟨((cell_far (p := ⟨gb154, _, none⟩) NB149_154.out _).trans (((cell_far (p := ⟨gb154, _, none⟩) NB149_154.out _).trans (((cell_far (p := ⟨gb154, _, none⟩) NB149_154.out _).trans (hHeld.1)))))), ((cell_far (p := ⟨gb154, _, none⟩) NB149_154.out _).trans (((cell_far (p := ⟨gb154, _, none⟩) NB149_154.out _).trans (((cell_far (p := ⟨gb154, _, none⟩) NB149_154.out _).trans (hHeld.2.1)))))), ((cell_far (p := ⟨gb154, _, none⟩) NB149_154.out _).trans (((cell_far (p := ⟨gb154, _, none⟩) NB149_154.out _).trans (((cell_far (p := ⟨gb154, _, none⟩) NB149_154.out _).trans (hHeld.2.2.1)))))), ((cell_far (p := ⟨gb154, _, none⟩) NB150_154.out _).trans (((cell_far (p := ⟨gb154, _, none⟩) NB150_154.out _).trans (((cell_far (p := ⟨gb154, _, none⟩) NB150_154.out _).trans (hHeld.2.2.2.1)))))), ((cell_far (p := ⟨gb154, _, none⟩) NB150_154.out _).trans (((cell_far (p := ⟨gb154, _, none⟩) NB150_154.out _).trans (((cell_far (p := ⟨gb154, _, none⟩) NB150_154.out _).trans (hHeld.2.2.2.2))))))⟩ (fun hHeld => ?_)
   clear hK K
   refine one_ (i := 12) (N := none) #[true, true, true, true, true, true, true, true, true, true, true, true, true, false, false] rfl rfl (one_of HT_.out (by kernel_rfl)) (by decide) (fun K hK => ?_)
   have hs60 : w55.cell? ⟨gb155, 0, none⟩ = some (.int .i64 0) := (lC BK155.out 0).trans rfl
   have hfs60 := lF BK155.out 0
   have hns60_0 := NB149_155.out
   have hns60_1 := NB150_155.out
   have hns60_2 := NB151_155.out
   have hns60_3 := NB152_155.out
   have hns60_4 := NB154_155.out
   have hms60_0 := NB155_149.out
   have hms60_1 := NB155_150.out
   have hms60_2 := NB155_151.out
   have hms60_3 := NB155_152.out
   have hms60_4 := NB155_154.out
   have hs61 : w55.cell? ⟨gb155, 1, none⟩ = some (.int .i64 0) := (lC BK155.out 1).trans rfl
   have hfs61 := lF BK155.out 1
   have hns61_0 := NB149_155.out
   have hns61_1 := NB150_155.out
   have hns61_2 := NB151_155.out
   have hns61_3 := NB152_155.out
   have hns61_4 := NB154_155.out
   have hms61_0 := NB155_149.out
   have hms61_1 := NB155_150.out
   have hms61_2 := NB155_151.out
   have hms61_3 := NB155_152.out
   have hms61_4 := NB155_154.out
   have hs62 : w55.cell? ⟨gb155, 2, none⟩ = some (.int .i64 0) := (lC BK155.out 2).trans rfl
   have hfs62 := lF BK155.out 2
   have hns62_0 := NB149_155.out
   have hns62_1 := NB150_155.out
   have hns62_2 := NB151_155.out
   have hns62_3 := NB152_155.out
   have hns62_4 := NB154_155.out
   have hms62_0 := NB155_149.out
   have hms62_1 := NB155_150.out
   have hms62_2 := NB155_151.out
   have hms62_3 := NB155_152.out
   have hms62_4 := NB155_154.out
   refine skip_ (w1 := ?_) (by rfl) rfl ?_ ?_
   rotate_left
   ·go_simp
    rfl
   refine hK.out _ _ ⟨((cell_far (p := ⟨gb155, _, none⟩) NB149_155.out _).trans (((cell_far (p := ⟨gb155, _, none⟩) NB149_155.out _).trans (((cell_far (p := ⟨gb155, _, none⟩) NB149_155.out _).trans (hHeld.1)))))), ((cell_far (p := ⟨gb155, _, none⟩) NB149_155.out _).trans (((cell_far (p := ⟨gb155, _, none⟩) NB149_155.out _).trans (((cell_far (p := ⟨gb155, _, none⟩) NB149_155.out _).trans (hHeld.2.1)))))), ((cell_far (p := ⟨gb155, _, none⟩) NB149_155.out _).trans (((cell_far (p := ⟨gb155, _, none⟩) NB149_155.out _).trans (((cell_far (p := ⟨gb155, _, none⟩) NB149_155.out _).trans (hHeld.2.2.1)))))), ((cell_far (p := ⟨gb155, _, none⟩) NB150_155.out _).trans (((cell_far (p := ⟨gb155, _, none⟩) NB150_155.out _).trans (((cell_far (p := ⟨gb155, _, none⟩) NB150_155.out _).trans (hHeld.2.2.2.1)))))), ((cell_far (p := ⟨gb155, _, none⟩) NB150_155.out _).trans (((cell_far (p := ⟨gb155, _, none⟩) NB150_155.out _).trans (((cell_far (p := ⟨gb155, _, none⟩) NB150_155.out _).trans (hHeld.2.2.2.2))))))⟩ (fun hHeld => ?_)
   clear hK K
   refine pure_ (i := 13) (N := some 10) (v := ?_) (a' := ?_) #[true, true, true, true, true, true, true, true, true, true, true, true, true, true, false] rfl rfl (any_of HT_.out (by kernel_rfl)) (fun _ _ _ h => h) (Or.inl ⟨by rfl, ?_⟩) ?_ ?_
   rotate_left
   ·intro w'
    go_simp
    with_reducible rfl
   rotate_left
   ·simp only [Act.put, List.setIfInBounds_toArray, List.set_cons_zero, List.set_cons_succ, i64_w, i32_w]
    rfl
   refine pure_ (i := 14) (N := some 11) (v := ?_) (a' := ?_) #[true, true, true, true, true, true, true, true, true, true, true, true, true, true, true] rfl rfl (any_of HT_.out (by kernel_rfl)) (fun _ _ _ h => h) (Or.inl ⟨by rfl, ?_⟩) ?_ ?_
   rotate_left
   ·intro w'
    go_simp
    with_reducible rfl
   rotate_left
   ·simp only [Act.put, List.setIfInBounds_toArray, List.set_cons_zero, List.set_cons_succ, i64_w, i32_w]
    rfl
   refine done_ (done_of HT_.out (by kernel_rfl)) ?_
   have hnb63 := NB151_150.out
   have hnc63 := NB150_151.out
   have hnb64 := NB151_152.out
   have hnc64 := NB152_151.out
   have hnb65 := NB151_154.out
   have hnc65 := NB154_151.out
   have hnb66 := NB151_155.out
   have hnc66 := NB155_151.out
   have hcz67_0 : w55.cell? ⟨gb151, 0, none⟩ = some (.slice none 0 0) := (lC BK151.out 0).trans rfl
   have hcz67_1 : w55.cell? ⟨gb151, 1, none⟩ = some (.int .i64 0) := (lC BK151.out 1).trans rfl
   have hcz67_2 : w55.cell? ⟨gb151, 2, none⟩ = some (.int .i64 0) := (lC BK151.out 2).trans rfl
   have hfz67_0 := lF BK151.out 0
   have hfz67_1 := lF BK151.out 1
   have hfz67_2 := lF BK151.out 2
   have hnb68 := NB152_150.out
   have hnc68 := NB150_152.out
   have hnb69 := NB152_154.out
   have hnc69 := NB154_152.out
   have hnb70 := NB152_155.out
   have hnc70 := NB155_152.out
   have hcz71_0 : w55.cell? ⟨gb152, 0, none⟩ = some (.int .i64 0) := (lC BK152.out 0).trans rfl
   have hcz71_1 : w55.cell? ⟨gb152, 1, none⟩ = some (.int .i64 0) := (lC BK152.out 1).trans rfl
   have hcz71_2 : w55.cell? ⟨gb152, 2, none⟩ = some (.int .i64 0) := (lC BK152.out 2).trans rfl
   have hfz71_0 := lF BK152.out 0
   have hfz71_1 := lF BK152.out 1
   have hfz71_2 := lF BK152.out 2
   try go_wp2
   refine bodyPost_ret (results_list (rs := [.cell 4 29, .cell 5 31, .tmp 6, .tmp 7]) rfl (by simp) (.cell gb151 29 #[.slice none 0 0, .int .i64 0, .int .i64 0] (0, 0) _ rfl (by (with_reducible repeat (first | refine lN ?_ _ | refine lD ?_ | refine lA ?_ _)); refine lX ?_ NB151_152.out _; (with_reducible repeat (first | refine lN ?_ _ | refine lD ?_ | refine lA ?_ _)); refine lX ?_ NB151_152.out _; (with_reducible repeat (first | refine lN ?_ _ | refine lD ?_ | refine lA ?_ _)); refine lX ?_ NB151_152.out _; (with_reducible repeat (first | refine lN ?_ _ | refine lD ?_ | refine lA ?_ _)); refine lP (cs := #[.slice none 0 0, .int .i64 0, .int .i64 0]) ?_ 2 _ rfl; (with_reducible repeat (first | refine lN ?_ _ | refine lD ?_ | refine lA ?_ _)); refine lP (cs := #[.slice none 0 0, .int .i64 0, .int .i64 0]) ?_ 1 _ rfl; (with_reducible repeat (first | refine lN ?_ _ | refine lD ?_ | refine lA ?_ _)); refine lP (cs := #[.slice none 0 0, .int .i64 0, .int .i64 0]) ?_ 0 _ rfl; (with_reducible repeat (first | refine lN ?_ _ | refine lD ?_ | refine lA ?_ _)); refine lX ?_ NB151_155.out _; (with_reducible repeat (first | refine lN ?_ _ | refine lD ?_ | refine lA ?_ _)); refine lX ?_ NB151_155.out _; (with_reducible repeat (first | refine lN ?_ _ | refine lD ?_ | refine lA ?_ _)); refine lX ?_ NB151_155.out _; (with_reducible repeat (first | refine lN ?_ _ | refine lD ?_ | refine lA ?_ _)); refine lX ?_ NB151_154.out _; (with_reducible repeat (first | refine lN ?_ _ | refine lD ?_ | refine lA ?_ _)); refine lX ?_ NB151_154.out _; (with_reducible repeat (first | refine lN ?_ _ | refine lD ?_ | refine lA ?_ _)); refine lX ?_ NB151_154.out _; (with_reducible repeat (first | refine lN ?_ _ | refine lD ?_ | refine lA ?_ _)); exact BK151.out) Try.underlying29 rfl (by kernel_rfl) (.cell gb152 31 #[.int .i64 0, .int .i64 0, .int .i64 0] (0, 0) _ rfl (by (with_reducible repeat (first | refine lN ?_ _ | refine lD ?_ | refine lA ?_ _)); refine lP (cs := #[.int .i64 0, .int .i64 0, .int .i64 0]) ?_ 2 _ rfl; (with_reducible repeat (first | refine lN ?_ _ | refine lD ?_ | refine lA ?_ _)); refine lP (cs := #[.int .i64 0, .int .i64 0, .int .i64 0]) ?_ 1 _ rfl; (with_reducible repeat (first | refine lN ?_ _ | refine lD ?_ | refine lA ?_ _)); refine lP (cs := #[.int .i64 0, .int .i64 0, .int .i64 0]) ?_ 0 _ rfl; (with_reducible repeat (first | refine lN ?_ _ | refine lD ?_ | refine lA ?_ _)); refine lX ?_ NB152_151.out _; (with_reducible repeat (first | refine lN ?_ _ | refine lD ?_ | refine lA ?_ _)); refine lX ?_ NB152_151.out _; (with_reducible repeat (first | refine lN ?_ _ | refine lD ?_ | refine lA ?_ _)); refine lX ?_ NB152_151.out _; (with_reducible repeat (first | refine lN ?_ _ | refine lD ?_ | refine lA ?_ _)); refine lX ?_ NB152_155.out _; (with_reducible repeat (first | refine lN ?_ _ | refine lD ?_ | refine lA ?_ _)); refine lX ?_ NB152_155.out _; (with_reducible repeat (first | refine lN ?_ _ | refine lD ?_ | refine lA ?_ _)); refine lX ?_ NB152_155.out _; (with_reducible repeat (first | refine lN ?_ _ | refine lD ?_ | refine lA ?_ _)); refine lX ?_ NB152_154.out _; (with_reducible repeat (first | refine lN ?_ _ | refine lD ?_ | refine lA ?_ _)); refine lX ?_ NB152_154.out _; (with_reducible repeat (first | refine lN ?_ _ | refine lD ?_ | refine lA ?_ _)); refine lX ?_ NB152_154.out _; (with_reducible repeat (first | refine lN ?_ _ | refine lD ?_ | refine lA ?_ _)); exact BK152.out) Try.underlying31 rfl (by kernel_rfl) (.tmp (.tmp .nil))))) rfl ?_
   exact ⟨_, by first | rfl | (simp [errW_none, errW_some] <;> rfl) | (simp [*, errW_none, errW_some] <;> rfl), by first | exact Kd.R_nil _ _ _ _ _ | exact Kd.N_nil _ _ _ _ _ | exact Kd.V_nil _ _ _ _ _ | exact Kd.Q_nil _ _ _ _ _ | exact Kd.S_nil _ _ _ _ _, by repeat (first | (with_reducible first | exact HB.out | apply bA | apply bN | apply bD | refine bS ?_ GE149.out | refine bS ?_ GE150.out | refine bS ?_ GE151.out | refine bS ?_ GE152.out | refine bS ?_ GE154.out | refine bS ?_ GE155.out) | exact HB.out)⟩
 ·replace c4 := fB c4
  subst c4
  have H1 : (some (([] : List ByteArray), 0, 0, 0, 0, 0, (⟨#[]⟩ : ByteArray), false)) = some (r1, r2, r3, r4, r5, r6, r7, r8) := by rw [if_neg (show ¬ (false = true) by decide)] at H; exact H
  clear H
  have H := H1
  clear H1
  simp only [Option.some.injEq, Prod.mk.injEq] at H
  obtain ⟨rfl, rfl, rfl, rfl, rfl, rfl, rfl, rfl⟩ := H
  go_enter Try.func7, Try.ntmps7
  go_wp2_with (first | ((with_reducible refine gate_dst (N := 2) rfl ?_); refine box_event ?hg (N := 2) ?hd (cs := #[.slice A0_0 l0_0.length c0_0, .int .i64 a0_1, .int .i64 a0_2]) (t := 29) ?hr ?_; (case hd => rfl); (case hg => rfl); (case hr => first | (go_simp; done) | (go_simp; rfl)); intro gb149 hg w72 hbox hb; have n0_ := Aside0.mk (zS HB.out hb); have n1_ := Aside0.mk (hbox); have n2_ := Aside0.mk (zW hg HB.out); have n3_ := n2_; clear HB; have HB := n0_; have BK149 := n1_; have GW149 := n2_; have GE149 := n3_; clear n0_ n1_ n2_ n3_; clear hb hbox hg) | ((with_reducible refine gate_dst (N := 3) rfl ?_); refine box_event ?hg (N := 3) ?hd (cs := #[.int .i64 a1_0, .string a1_1]) (t := 35) ?hr ?_; (case hd => rfl); (case hg => rfl); (case hr => first | (go_simp; done) | (go_simp; rfl)); intro gb150 hg w73 hbox hb; have n0_ := Aside0.mk (zB BK149.out hb); have n1_ := Aside0.mk (zS HB.out hb); have n2_ := Aside0.mk (hbox); have n3_ := Aside0.mk (zW hg HB.out); have n4_ := n3_; have n5_ := Aside0.mk (zL hg BK149.out); have n6_ := Aside0.mk (zG hg BK149.out); clear BK149; clear HB; have BK149 := n0_; have HB := n1_; have BK150 := n2_; have GW150 := n3_; have GE150 := n4_; have NB149_150 := n5_; have NB150_149 := n6_; clear n0_ n1_ n2_ n3_ n4_ n5_ n6_; clear hb hbox hg) | ((with_reducible refine gate_dst (N := 4) rfl ?_); refine box_event ?hg (N := 4) ?hd (cs := #[.slice none 0 0, .int .i64 0, .int .i64 0]) (t := 29) ?hr ?_; (case hd => rfl); (case hg => rfl); (case hr => first | (go_simp; done) | (go_simp; rfl)); intro gb151 hg w74 hbox hb; have n0_ := Aside0.mk (zB BK149.out hb); have n1_ := Aside0.mk (zB BK150.out hb); have n2_ := Aside0.mk (zS HB.out hb); have n3_ := Aside0.mk (hbox); have n4_ := Aside0.mk (zW hg HB.out); have n5_ := n4_; have n6_ := Aside0.mk (zL hg BK149.out); have n7_ := Aside0.mk (zG hg BK149.out); have n8_ := Aside0.mk (zL hg BK150.out); have n9_ := Aside0.mk (zG hg BK150.out); clear BK149; clear BK150; clear HB; have BK149 := n0_; have BK150 := n1_; have HB := n2_; have BK151 := n3_; have GW151 := n4_; have GE151 := n5_; have NB149_151 := n6_; have NB151_149 := n7_; have NB150_151 := n8_; have NB151_150 := n9_; clear n0_ n1_ n2_ n3_ n4_ n5_ n6_ n7_ n8_ n9_; clear hb hbox hg) | ((with_reducible refine gate_dst (N := 5) rfl ?_); refine box_event ?hg (N := 5) ?hd (cs := #[.int .i64 0, .int .i64 0, .int .i64 0]) (t := 31) ?hr ?_; (case hd => rfl); (case hg => rfl); (case hr => first | (go_simp; done) | (go_simp; rfl)); intro gb152 hg w75 hbox hb; have n0_ := Aside0.mk (zB BK149.out hb); have n1_ := Aside0.mk (zB BK150.out hb); have n2_ := Aside0.mk (zB BK151.out hb); have n3_ := Aside0.mk (zS HB.out hb); have n4_ := Aside0.mk (hbox); have n5_ := Aside0.mk (zW hg HB.out); have n6_ := n5_; have n7_ := Aside0.mk (zL hg BK149.out); have n8_ := Aside0.mk (zG hg BK149.out); have n9_ := Aside0.mk (zL hg BK150.out); have n10_ := Aside0.mk (zG hg BK150.out); have n11_ := Aside0.mk (zL hg BK151.out); have n12_ := Aside0.mk (zG hg BK151.out); clear BK149; clear BK150; clear BK151; clear HB; have BK149 := n0_; have BK150 := n1_; have BK151 := n2_; have HB := n3_; have BK152 := n4_; have GW152 := n5_; have GE152 := n6_; have NB149_152 := n7_; have NB152_149 := n8_; have NB150_152 := n9_; have NB152_150 := n10_; have NB151_152 := n11_; have NB152_151 := n12_; clear n0_ n1_ n2_ n3_ n4_ n5_ n6_ n7_ n8_ n9_ n10_ n11_ n12_; clear hb hbox hg; have hnb76 := NB149_150.out; have hnc76 := NB150_149.out; have hnb77 := NB149_151.out; have hnc77 := NB151_149.out; have hnb78 := NB149_152.out; have hnc78 := NB152_149.out; have hcz79_0 : w75.cell? ⟨gb149, 0, none⟩ = some (.slice A0_0 l0_0.length c0_0) := (lC BK149.out 0).trans rfl; have hcz79_1 : w75.cell? ⟨gb149, 1, none⟩ = some (.int .i64 a0_1) := (lC BK149.out 1).trans rfl; have hcz79_2 : w75.cell? ⟨gb149, 2, none⟩ = some (.int .i64 a0_2) := (lC BK149.out 2).trans rfl; have hfz79_0 := lF BK149.out 0; have hfz79_1 := lF BK149.out 1; have hfz79_2 := lF BK149.out 2) | ((with_reducible refine gate_callee (f := 19) rfl ?_); refine goesL_ (some 13) rfl rfl Try.func19 (by kernel_rfl) rfl #[.agg #[.slice A0_0 l0_0.length c0_0, .int .i64 a0_1, .int .i64 a0_2]] rfl (by (try simp only [List.map_toArray, List.map_cons, List.map_nil]); first | done | rfl | (simp only [List.length_drop, List.length_take]; rfl)) ?_; (with_reducible refine (spec_GoodClient.calls k _ _ l0_0 a0_1 a0_2 false _ ?side1 ?side2 A3.out).mono ?_); (case side1 => repeat (first | exact (Kd.C_below HR0_0.out HB.out) | (with_reducible first | refine cA ?_ _ | refine cN ?_ _ | refine cD ?_))); (case side2 => exact HC0_0.out); rintro e w80 ⟨rfl, hb⟩; refine ⟨_, rfl, ?_⟩; have n0_ := Aside0.mk (zB BK149.out hb); have n1_ := Aside0.mk (zB BK150.out hb); have n2_ := Aside0.mk (zB BK151.out hb); have n3_ := Aside0.mk (zB BK152.out hb); have n4_ := Aside0.mk (zS HB.out hb); clear BK149; clear BK150; clear BK151; clear BK152; clear HB; have BK149 := n0_; have BK150 := n1_; have BK151 := n2_; have BK152 := n3_; have HB := n4_; clear n0_ n1_ n2_ n3_ n4_; (try clear hb); (try clear hb2); (try clear hk); (try clear hi); have hnb81 := NB151_150.out; have hnc81 := NB150_151.out; have hnb82 := NB151_152.out; have hnc82 := NB152_151.out; have hcz83_0 : w80.cell? ⟨gb151, 0, none⟩ = some (.slice none 0 0) := (lC BK151.out 0).trans rfl; have hcz83_1 : w80.cell? ⟨gb151, 1, none⟩ = some (.int .i64 0) := (lC BK151.out 1).trans rfl; have hcz83_2 : w80.cell? ⟨gb151, 2, none⟩ = some (.int .i64 0) := (lC BK151.out 2).trans rfl; have hfz83_0 := lF BK151.out 0; have hfz83_1 := lF BK151.out 1; have hfz83_2 := lF BK151.out 2; have hnb84 := NB152_150.out; have hnc84 := NB150_152.out; have hcz85_0 : w80.cell? ⟨gb152, 0, none⟩ = some (.int .i64 0) := (lC BK152.out 0).trans rfl; have hcz85_1 : w80.cell? ⟨gb152, 1, none⟩ = some (.int .i64 0) := (lC BK152.out 1).trans rfl; have hcz85_2 : w80.cell? ⟨gb152, 2, none⟩ = some (.int .i64 0) := (lC BK152.out 2).trans rfl; have hfz85_0 := lF BK152.out 0; have hfz85_1 := lF BK152.out 1; have hfz85_2 := lF BK152.out 2))
  refine bodyPost_ret (results_list (rs := [.cell 4 29, .cell 5 31, .tmp 6, .tmp 7]) rfl (by simp) (.cell gb151 29 #[.slice none 0 0, .int .i64 0, .int .i64 0] (0, 0) _ rfl (by (with_reducible repeat (first | refine lN ?_ _ | refine lD ?_ | refine lA ?_ _)); refine lX ?_ NB151_152.out _; (with_reducible repeat (first | refine lN ?_ _ | refine lD ?_ | refine lA ?_ _)); refine lX ?_ NB151_152.out _; (with_reducible repeat (first | refine lN ?_ _ | refine lD ?_ | refine lA ?_ _)); refine lX ?_ NB151_152.out _; (with_reducible repeat (first | refine lN ?_ _ | refine lD ?_ | refine lA ?_ _)); refine lP (cs := #[.slice none 0 0, .int .i64 0, .int .i64 0]) ?_ 2 _ rfl; (with_reducible repeat (first | refine lN ?_ _ | refine lD ?_ | refine lA ?_ _)); refine lP (cs := #[.slice none 0 0, .int .i64 0, .int .i64 0]) ?_ 1 _ rfl; (with_reducible repeat (first | refine lN ?_ _ | refine lD ?_ | refine lA ?_ _)); refine lP (cs := #[.slice none 0 0, .int .i64 0, .int .i64 0]) ?_ 0 _ rfl; (with_reducible repeat (first | refine lN ?_ _ | refine lD ?_ | refine lA ?_ _)); exact BK151.out) Try.underlying29 rfl (by kernel_rfl) (.cell gb152 31 #[.int .i64 0, .int .i64 0, .int .i64 0] (0, 0) _ rfl (by (with_reducible repeat (first | refine lN ?_ _ | refine lD ?_ | refine lA ?_ _)); refine lP (cs := #[.int .i64 0, .int .i64 0, .int .i64 0]) ?_ 2 _ rfl; (with_reducible repeat (first | refine lN ?_ _ | refine lD ?_ | refine lA ?_ _)); refine lP (cs := #[.int .i64 0, .int .i64 0, .int .i64 0]) ?_ 1 _ rfl; (with_reducible repeat (first | refine lN ?_ _ | refine lD ?_ | refine lA ?_ _)); refine lP (cs := #[.int .i64 0, .int .i64 0, .int .i64 0]) ?_ 0 _ rfl; (with_reducible repeat (first | refine lN ?_ _ | refine lD ?_ | refine lA ?_ _)); refine lX ?_ NB152_151.out _; (with_reducible repeat (first | refine lN ?_ _ | refine lD ?_ | refine lA ?_ _)); refine lX ?_ NB152_151.out _; (with_reducible repeat (first | refine lN ?_ _ | refine lD ?_ | refine lA ?_ _)); refine lX ?_ NB152_151.out _; (with_reducible repeat (first | refine lN ?_ _ | refine lD ?_ | refine lA ?_ _)); exact BK152.out) Try.underlying31 rfl (by kernel_rfl) (.tmp (.tmp .nil))))) rfl ?_
  exact ⟨_, by first | rfl | (simp [errW_none, errW_some] <;> rfl) | (simp [*, errW_none, errW_some] <;> rfl), by first | exact Kd.R_nil _ _ _ _ _ | exact Kd.N_nil _ _ _ _ _ | exact Kd.V_nil _ _ _ _ _ | exact Kd.Q_nil _ _ _ _ _ | exact Kd.S_nil _ _ _ _ _, by repeat (first | (with_reducible first | exact HB.out | apply bA | apply bN | apply bD | refine bS ?_ GE149.out | refine bS ?_ GE150.out | refine bS ?_ GE151.out | refine bS ?_ GE152.out) | exact HB.out)⟩
end Go.Proofs.Ytodhogegjkfemaa.PFnQueue
