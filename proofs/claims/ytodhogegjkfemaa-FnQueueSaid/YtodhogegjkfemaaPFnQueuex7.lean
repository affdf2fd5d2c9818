-- Written by a program of this session, after the kit's print (changed in some places; see NOTES.md). Lean checks it.
import Derived.Test.YtodhogegjkfemaaAbb
import Derived.Test.YtodhogegjkfemaaPFnQueuex0
import Derived.Test.YtodhogegjkfemaaPFnQueuex6
namespace Go.Proofs.Ytodhogegjkfemaa.PFnQueue
open Go.Proofs.Ytodhogegjkfemaa.Abb Go.RowKit Go.Proofs.YtodhogegjkfemaaW.PrintWords Go.Proofs.YtodhogegjkfemaaW.PrintLast Go.Proofs.YtodhogegjkfemaaW.PrintMore
attribute [local go_sem] max2_int min2_int max_two min_two max_three min_three max_four min_four   -- for this text's walks alone
set_option linter.unusedVariables false
set_option linter.unusedSimpArgs false
mutual
def impl_StepClient.j0 : Nat → Bool → List ByteArray → Int → Int → Int → ByteArray → Option (List ByteArray × Int × Int × Int × Int × Int × ByteArray × Bool)
 | 0, _, _, _, _, _, _ => none
 | k + 1, x19, x187000, x187001, x187002, x188000, x188001 => if x19 = true then (if x187000.length < 8796093022208 then (some ((x187000 ++ [x188001]), x187001, x187002, 0, 0, 0, (⟨#[]⟩ : ByteArray), true)) else (none)) else (if x188000 = 2 then (if x188001.toList = ([] : List UInt8) then (impl_StepClient.j1 k (decide (x187001 < 1000)) x187000 x187001 x187002) else (impl_StepClient.j1 k false x187000 x187001 x187002)) else (impl_StepClient.j1 k false x187000 x187001 x187002))
def impl_StepClient.j1 : Nat → Bool → List ByteArray → Int → Int → Option (List ByteArray × Int × Int × Int × Int × Int × ByteArray × Bool)
 | 0, _, _, _, _ => none
 | k + 1, x43, x187000, x187001, x187002 => if x43 = true then ((impl_emit.f x187001 x187002).bind fun bt198 => (if (x187000.length : Int) > 0 then (if 0 < (x187000.length : Int) then (if 1 ≤ (x187000.length : Int) then (some ((x187000.drop (1 : Int).toNat), wrap64 (x187001 + 1), x187002, bt198.1, bt198.2.1, bt198.2.2, rdOf ByteArray.empty x187000 0, true)) else (none)) else (none)) else (some (x187000, wrap64 (x187001 + 1), x187002, bt198.1, bt198.2.1, bt198.2.2, (⟨#[]⟩ : ByteArray), true)))) else (some (([] : List ByteArray), 0, 0, 0, 0, 0, (⟨#[]⟩ : ByteArray), false))
end
def impl_StepClient.f (k : Nat) (l0_0 : List ByteArray) (a0_1 : Int) (a0_2 : Int) (a1_0 : Int) (a1_1 : ByteArray) : Option (List ByteArray × Int × Int × Int × Int × Int × ByteArray × Bool) := (impl_GoodClient.f k l0_0 a0_1 a0_2).bind fun t190 => (if t190 = true then ((slices_Clone_string_string.f l0_0).bind fun t191 => (if a1_0 = 1 then ((impl_isSaid.f a1_1).bind fun t194 => (if t194 = true then (impl_StepClient.j0 k (decide ((t191.length : Int) < 5)) t191 a0_1 a0_2 a1_0 a1_1) else (impl_StepClient.j0 k false t191 a0_1 a0_2 a1_0 a1_1))) else (impl_StepClient.j0 k false t191 a0_1 a0_2 a1_0 a1_1))) else (some (([] : List ByteArray), 0, 0, 0, 0, 0, (⟨#[]⟩ : ByteArray), false)))
theorem impl_StepClient.mono_l : ∀ k, (∀ y0 y1 y2 y3 y4 y5, LeO (impl_StepClient.j0 k y0 y1 y2 y3 y4 y5) (impl_StepClient.j0 (k + 1) y0 y1 y2 y3 y4 y5)) ∧ (∀ y0 y1 y2 y3, LeO (impl_StepClient.j1 k y0 y1 y2 y3) (impl_StepClient.j1 (k + 1) y0 y1 y2 y3))
 | 0 => ⟨fun _ _ _ _ _ _ r h => by simp [impl_StepClient.j0] at h, fun _ _ _ _ r h => by simp [impl_StepClient.j1] at h⟩
 | k + 1 => by
  obtain ⟨ih0, ih1⟩ := impl_StepClient.mono_l k
  refine ⟨?_, ?_⟩
  ·intro y0 y1 y2 y3 y4 y5
   unfold impl_StepClient.j0
   repeat' first
   | (with_reducible exact ih0 _ _ _ _ _ _)
   | (with_reducible exact ih1 _ _ _ _)
   | (with_reducible exact impl_GoodClient.mono _ _ _ _)
   | (with_reducible exact LeO.refl _)
   | (with_reducible exact LeO.none _)
   | (with_reducible refine LeO.ite ?_ ?_)
   | (with_reducible refine LeO.bind ?_ (fun _ => ?_))
   | exact ih0 _ _ _ _ _ _
   | exact ih1 _ _ _ _
   | exact impl_GoodClient.mono _ _ _ _
   | exact LeO.none _
   | refine LeO.ite ?_ ?_
   | refine LeO.bind ?_ (fun _ => ?_)
  ·intro y0 y1 y2 y3
   unfold impl_StepClient.j1
   repeat' first
   | (with_reducible exact ih0 _ _ _ _ _ _)
   | (with_reducible exact ih1 _ _ _ _)
   | (with_reducible exact impl_GoodClient.mono _ _ _ _)
   | (with_reducible exact LeO.refl _)
   | (with_reducible exact LeO.none _)
   | (with_reducible refine LeO.ite ?_ ?_)
   | (with_reducible refine LeO.bind ?_ (fun _ => ?_))
   | exact ih0 _ _ _ _ _ _
   | exact ih1 _ _ _ _
   | exact impl_GoodClient.mono _ _ _ _
   | exact LeO.none _
   | refine LeO.ite ?_ ?_
   | refine LeO.bind ?_ (fun _ => ?_)
theorem impl_StepClient.mono : ∀ a0 a1 a2 a3 a4 k, LeO (impl_StepClient.f k a0 a1 a2 a3 a4) (impl_StepClient.f (k + 1) a0 a1 a2 a3 a4) := by
 intro a0 a1 a2 a3 a4 k
 obtain ⟨ih0, ih1⟩ := impl_StepClient.mono_l k
 unfold impl_StepClient.f
 repeat' first
   | (with_reducible exact ih0 _ _ _ _ _ _)
   | (with_reducible exact ih1 _ _ _ _)
   | (with_reducible exact impl_GoodClient.mono _ _ _ _)
   | (with_reducible exact LeO.refl _)
   | (with_reducible exact LeO.none _)
   | (with_reducible refine LeO.ite ?_ ?_)
   | (with_reducible refine LeO.bind ?_ (fun _ => ?_))
   | exact ih0 _ _ _ _ _ _
   | exact ih1 _ _ _ _
   | exact impl_GoodClient.mono _ _ _ _
   | exact LeO.none _
   | refine LeO.ite ?_ ?_
   | refine LeO.bind ?_ (fun _ => ?_)
def impl_StepClient.T10 : Bool × List (List Nat × List Nat) := (true, [([], []), ([0], [0]), ([1], [1]), ([2], [2]), ([], []), ([4], [4]), ([5], [5]), ([3, 0, 1, 2, 3], [3]), ([0, 1, 2, 3, 4, 5, 6, 7], []), ([8, 6, 7, 0, 1, 2, 3, 4, 5, 6, 7], [6, 8])])
def impl_StepClient.B10 : List Nat := [0, 1, 3, 7, 0, 16, 48, 15, 255, 511]
theorem impl_StepClient.tab10 : rtab .any (opsOf Try.f10 10) = impl_StepClient.T10 := by kernel_rfl
theorem impl_StepClient.bits10 : waitsOk impl_StepClient.T10.2 impl_StepClient.B10 = true := by kernel_rfl
set_option maxHeartbeats 8000000 in
set_option maxRecDepth 100000 in
theorem impl_StepClient.calls (k : Nat) (A0_0 : Option Addr) (c0_0 : Nat) (l0_0 : List ByteArray) (a0_1 : Int) (a0_2 : Int) (a1_0 : Int) (a1_1 : ByteArray) (r1 : List ByteArray) (r2 : Int) (r3 : Int) (r4 : Int) (r5 : Int) (r6 : Int) (r7 : ByteArray) (r8 : Bool) (w : World) (hr0_0 : Kd.C Kd.string w A0_0 l0_0.length l0_0) (hc0_0 : l0_0.length ≤ c0_0) (h : impl_StepClient.f k l0_0 a0_1 a0_2 a1_0 a1_1 = some (r1, r2, r3, r4, r5, r6, r7, r8)) :
  Calls Try.prog 10 #[.agg #[.slice A0_0 l0_0.length c0_0, .int .i64 a0_1, .int .i64 a0_2], .agg #[.int .i64 a1_0, .string a1_1]] w fun e w' => ∃ v0_ : Value, e = .returned (.tuple #[.agg #[v0_, .int .i64 r2, .int .i64 r3], .agg #[.int .i64 r4, .int .i64 r5, .int .i64 r6], .string r7, .bool r8]) ∧ Kd.Q Kd.string 9 w' w.heap.size (fun _ => True) v0_ r1 ∧ Below w.heap.size w w' := by
 have hu29 := Try.underlying29
 have hu35 := Try.underlying35
 have hu31 := Try.underlying31
 have HR0_0 := Aside0.mk hr0_0
 have HC0_0 := Aside0.mk hc0_0
 clear hr0_0 hc0_0
 have HB := Aside0.mk (Below.refl w.heap.size w)
 have H : ((impl_GoodClient.f k l0_0 a0_1 a0_2).bind fun t190 => (if t190 = true then ((slices_Clone_string_string.f l0_0).bind fun t191 => (if a1_0 = 1 then ((impl_isSaid.f a1_1).bind fun t194 => (if t194 = true then (impl_StepClient.j0 k (decide ((t191.length : Int) < 5)) t191 a0_1 a0_2 a1_0 a1_1) else (impl_StepClient.j0 k false t191 a0_1 a0_2 a1_0 a1_1))) else (impl_StepClient.j0 k false t191 a0_1 a0_2 a1_0 a1_1))) else (some (([] : List ByteArray), 0, 0, 0, 0, 0, (⟨#[]⟩ : ByteArray), false)))) = some (r1, r2, r3, r4, r5, r6, r7, r8) := h
 clear h
 replace H := oB H
 obtain ⟨t190, A30, H⟩ := H
 replace H : (if t190 = true then ((slices_Clone_string_string.f l0_0).bind fun t191 => (if a1_0 = 1 then ((impl_isSaid.f a1_1).bind fun t194 => (if t194 = true then (impl_StepClient.j0 k (decide ((t191.length : Int) < 5)) t191 a0_1 a0_2 a1_0 a1_1) else (impl_StepClient.j0 k false t191 a0_1 a0_2 a1_0 a1_1))) else (impl_StepClient.j0 k false t191 a0_1 a0_2 a1_0 a1_1))) else (some (([] : List ByteArray), 0, 0, 0, 0, 0, (⟨#[]⟩ : ByteArray), false))) = some (r1, r2, r3, r4, r5, r6, r7, r8) := H
 have A3 := Aside0.mk A30
 clear A30
 by_cases c4 : t190 = true
 ·subst c4
  have H1 : ((slices_Clone_string_string.f l0_0).bind fun t191 => (if a1_0 = 1 then ((impl_isSaid.f a1_1).bind fun t194 => (if t194 = true then (impl_StepClient.j0 k (decide ((t191.length : Int) < 5)) t191 a0_1 a0_2 a1_0 a1_1) else (impl_StepClient.j0 k false t191 a0_1 a0_2 a1_0 a1_1))) else (impl_StepClient.j0 k false t191 a0_1 a0_2 a1_0 a1_1))) = some (r1, r2, r3, r4, r5, r6, r7, r8) := by rw [if_pos rfl] at H; exact H
  clear H
  have H := H1
  clear H1
  replace H := oB H
  obtain ⟨t191, A50, H⟩ := H
  replace H : (if a1_0 = 1 then ((impl_isSaid.f a1_1).bind fun t194 => (if t194 = true then (impl_StepClient.j0 k (decide ((t191.length : Int) < 5)) t191 a0_1 a0_2 a1_0 a1_1) else (impl_StepClient.j0 k false t191 a0_1 a0_2 a1_0 a1_1))) else (impl_StepClient.j0 k false t191 a0_1 a0_2 a1_0 a1_1)) = some (r1, r2, r3, r4, r5, r6, r7, r8) := H
  have A5 := Aside0.mk A50
  clear A50
  have HC6 := Aside0.mk H
  clear H
  go_enter Try.func10, Try.ntmps10
  go_upto_region 4 with (first | ((with_reducible refine gate_dst (N := 2) rfl ?_); (try (refine gate_guard (by rfl) ?_; dsimp only)); refine box_event ?hg (N := 2) ?hd (cs := #[.slice A0_0 l0_0.length c0_0, .int .i64 a0_1, .int .i64 a0_2]) (t := 29) ?hr ?_; (case hd => rfl); (case hg => rfl); (case hr => first | (go_simp; done) | (go_simp; rfl)); intro gb186 hg w7 hbox hb; have n0_ := Aside0.mk (below_step (by repeat (first | (with_reducible first | exact HB.out | apply bA | apply bN | apply bD) | exact HB.out)) hb); have n1_ := Aside0.mk (hbox); have n2_ := Aside0.mk ((by rw [hg]; exact (below_size (by repeat (first | (with_reducible first | exact HB.out | apply bA | apply bN | apply bD) | exact HB.out))) : w.heap.size ≤ gb186)); have n3_ := Aside0.mk ((by rw [hg]; exact (below_size (by repeat (first | (with_reducible first | exact HB.out | apply bA | apply bN | apply bD) | exact HB.out))) : w.heap.size ≤ gb186)); clear HB; have HB := n0_; have BK186 := n1_; have GW186 := n2_; have GE186 := n3_; clear n0_ n1_ n2_ n3_; clear hb hbox hg) | ((with_reducible refine gate_dst (N := 3) rfl ?_); (try (refine gate_guard (by rfl) ?_; dsimp only)); refine box_event ?hg (N := 3) ?hd (cs := #[.int .i64 a1_0, .string a1_1]) (t := 35) ?hr ?_; (case hd => rfl); (case hg => rfl); (case hr => first | (go_simp; done) | (go_simp; rfl)); intro gb187 hg w8 hbox hb; have n0_ := Aside0.mk (blk_below (g := gb186) (o := .cells #[.slice A0_0 l0_0.length c0_0, .int .i64 a0_1, .int .i64 a0_2] 29 (0, 0)) (by (with_reducible repeat (first | refine lN ?_ _ | refine lD ?_ | refine lA ?_ _)); exact BK186.out) hb); have n1_ := Aside0.mk (below_step (by repeat (first | (with_reducible first | exact HB.out | apply bA | apply bN | apply bD | refine bS ?_ GE186.out) | exact HB.out)) hb); have n2_ := Aside0.mk (hbox); have n3_ := Aside0.mk ((by rw [hg]; exact (below_size (by repeat (first | (with_reducible first | exact HB.out | apply bA | apply bN | apply bD | refine bS ?_ GE186.out) | exact HB.out))) : w.heap.size ≤ gb187)); have n4_ := Aside0.mk ((by rw [hg]; exact (below_size (by repeat (first | (with_reducible first | exact HB.out | apply bA | apply bN | apply bD | refine bS ?_ GE186.out) | exact HB.out))) : w.heap.size ≤ gb187)); have n5_ := Aside0.mk ((by rw [hg]; exact Nat.ne_of_lt (blk_lt (g := gb186) (o := .cells #[.slice A0_0 l0_0.length c0_0, .int .i64 a0_1, .int .i64 a0_2] 29 (0, 0)) (by (with_reducible repeat (first | refine lN ?_ _ | refine lD ?_ | refine lA ?_ _)); exact BK186.out)) : gb186 ≠ gb187)); have n6_ := Aside0.mk ((by rw [hg]; exact Nat.ne_of_gt (blk_lt (g := gb186) (o := .cells #[.slice A0_0 l0_0.length c0_0, .int .i64 a0_1, .int .i64 a0_2] 29 (0, 0)) (by (with_reducible repeat (first | refine lN ?_ _ | refine lD ?_ | refine lA ?_ _)); exact BK186.out)) : gb187 ≠ gb186)); clear BK186; clear HB; have BK186 := n0_; have HB := n1_; have BK187 := n2_; have GW187 := n3_; have GE187 := n4_; have NB186_187 := n5_; have NB187_186 := n6_; clear n0_ n1_ n2_ n3_ n4_ n5_ n6_; clear hb hbox hg) | ((with_reducible refine gate_dst (N := 4) rfl ?_); (try (refine gate_guard (by rfl) ?_; dsimp only)); refine box_event ?hg (N := 4) ?hd (cs := #[.slice none 0 0, .int .i64 0, .int .i64 0]) (t := 29) ?hr ?_; (case hd => rfl); (case hg => rfl); (case hr => first | (go_simp; done) | (go_simp; rfl)); intro gb188 hg w9 hbox hb; have n0_ := Aside0.mk (blk_below (g := gb186) (o := .cells #[.slice A0_0 l0_0.length c0_0, .int .i64 a0_1, .int .i64 a0_2] 29 (0, 0)) (by (with_reducible repeat (first | refine lN ?_ _ | refine lD ?_ | refine lA ?_ _)); exact BK186.out) hb); have n1_ := Aside0.mk (blk_below (g := gb187) (o := .cells #[.int .i64 a1_0, .string a1_1] 35 (0, 0)) (by (with_reducible repeat (first | refine lN ?_ _ | refine lD ?_ | refine lA ?_ _)); exact BK187.out) hb); have n2_ := Aside0.mk (below_step (by repeat (first | (with_reducible first | exact HB.out | apply bA | apply bN | apply bD | refine bS ?_ GE186.out | refine bS ?_ GE187.out) | exact HB.out)) hb); have n3_ := Aside0.mk (hbox); have n4_ := Aside0.mk ((by rw [hg]; exact (below_size (by repeat (first | (with_reducible first | exact HB.out | apply bA | apply bN | apply bD | refine bS ?_ GE186.out | refine bS ?_ GE187.out) | exact HB.out))) : w.heap.size ≤ gb188)); have n5_ := Aside0.mk ((by rw [hg]; exact (below_size (by repeat (first | (with_reducible first | exact HB.out | apply bA | apply bN | apply bD | refine bS ?_ GE186.out | refine bS ?_ GE187.out) | exact HB.out))) : w.heap.size ≤ gb188)); have n6_ := Aside0.mk ((by rw [hg]; exact Nat.ne_of_lt (blk_lt (g := gb186) (o := .cells #[.slice A0_0 l0_0.length c0_0, .int .i64 a0_1, .int .i64 a0_2] 29 (0, 0)) (by (with_reducible repeat (first | refine lN ?_ _ | refine lD ?_ | refine lA ?_ _)); exact BK186.out)) : gb186 ≠ gb188)); have n7_ := Aside0.mk ((by rw [hg]; exact Nat.ne_of_gt (blk_lt (g := gb186) (o := .cells #[.slice A0_0 l0_0.length c0_0, .int .i64 a0_1, .int .i64 a0_2] 29 (0, 0)) (by (with_reducible repeat (first | refine lN ?_ _ | refine lD ?_ | refine lA ?_ _)); exact BK186.out)) : gb188 ≠ gb186)); have n8_ := Aside0.mk ((by rw [hg]; exact Nat.ne_of_lt (blk_lt (g := gb187) (o := .cells #[.int .i64 a1_0, .string a1_1] 35 (0, 0)) (by (with_reducible repeat (first | refine lN ?_ _ | refine lD ?_ | refine lA ?_ _)); exact BK187.out)) : gb187 ≠ gb188)); have n9_ := Aside0.mk ((by rw [hg]; exact Nat.ne_of_gt (blk_lt (g := gb187) (o := .cells #[.int .i64 a1_0, .string a1_1] 35 (0, 0)) (by (with_reducible repeat (first | refine lN ?_ _ | refine lD ?_ | refine lA ?_ _)); exact BK187.out)) : gb188 ≠ gb187)); clear BK186; clear BK187; clear HB; have BK186 := n0_; have BK187 := n1_; have HB := n2_; have BK188 := n3_; have GW188 := n4_; have GE188 := n5_; have NB186_188 := n6_; have NB188_186 := n7_; have NB187_188 := n8_; have NB188_187 := n9_; clear n0_ n1_ n2_ n3_ n4_ n5_ n6_ n7_ n8_ n9_; clear hb hbox hg) | ((with_reducible refine gate_dst (N := 5) rfl ?_); (try (refine gate_guard (by rfl) ?_; dsimp only)); refine box_event ?hg (N := 5) ?hd (cs := #[.int .i64 0, .int .i64 0, .int .i64 0]) (t := 31) ?hr ?_; (case hd => rfl); (case hg => rfl); (case hr => first | (go_simp; done) | (go_simp; rfl)); intro gb189 hg w10 hbox hb; have n0_ := Aside0.mk (blk_below (g := gb186) (o := .cells #[.slice A0_0 l0_0.length c0_0, .int .i64 a0_1, .int .i64 a0_2] 29 (0, 0)) (by (with_reducible repeat (first | refine lN ?_ _ | refine lD ?_ | refine lA ?_ _)); exact BK186.out) hb); have n1_ := Aside0.mk (blk_below (g := gb187) (o := .cells #[.int .i64 a1_0, .string a1_1] 35 (0, 0)) (by (with_reducible repeat (first | refine lN ?_ _ | refine lD ?_ | refine lA ?_ _)); exact BK187.out) hb); have n2_ := Aside0.mk (blk_below (g := gb188) (o := .cells #[.slice none 0 0, .int .i64 0, .int .i64 0] 29 (0, 0)) (by (with_reducible repeat (first | refine lN ?_ _ | refine lD ?_ | refine lA ?_ _)); exact BK188.out) hb); have n3_ := Aside0.mk (below_step (by repeat (first | (with_reducible first | exact HB.out | apply bA | apply bN | apply bD | refine bS ?_ GE186.out | refine bS ?_ GE187.out | refine bS ?_ GE188.out) | exact HB.out)) hb); have n4_ := Aside0.mk (hbox); have n5_ := Aside0.mk ((by rw [hg]; exact (below_size (by repeat (first | (with_reducible first | exact HB.out | apply bA | apply bN | apply bD | refine bS ?_ GE186.out | refine bS ?_ GE187.out | refine bS ?_ GE188.out) | exact HB.out))) : w.heap.size ≤ gb189)); have n6_ := Aside0.mk ((by rw [hg]; exact (below_size (by repeat (first | (with_reducible first | exact HB.out | apply bA | apply bN | apply bD | refine bS ?_ GE186.out | refine bS ?_ GE187.out | refine bS ?_ GE188.out) | exact HB.out))) : w.heap.size ≤ gb189)); have n7_ := Aside0.mk ((by rw [hg]; exact Nat.ne_of_lt (blk_lt (g := gb186) (o := .cells #[.slice A0_0 l0_0.length c0_0, .int .i64 a0_1, .int .i64 a0_2] 29 (0, 0)) (by (with_reducible repeat (first | refine lN ?_ _ | refine lD ?_ | refine lA ?_ _)); exact BK186.out)) : gb186 ≠ gb189)); have n8_ := Aside0.mk ((by rw [hg]; exact Nat.ne_of_gt (blk_lt (g := gb186) (o := .cells #[.slice A0_0 l0_0.length c0_0, .int .i64 a0_1, .int .i64 a0_2] 29 (0, 0)) (by (with_reducible repeat (first | refine lN ?_ _ | refine lD ?_ | refine lA ?_ _)); exact BK186.out)) : gb189 ≠ gb186)); have n9_ := Aside0.mk ((by rw [hg]; exact Nat.ne_of_lt (blk_lt (g := gb187) (o := .cells #[.int .i64 a1_0, .string a1_1] 35 (0, 0)) (by (with_reducible repeat (first | refine lN ?_ _ | refine lD ?_ | refine lA ?_ _)); exact BK187.out)) : gb187 ≠ gb189)); have n10_ := Aside0.mk ((by rw [hg]; exact Nat.ne_of_gt (blk_lt (g := gb187) (o := .cells #[.int .i64 a1_0, .string a1_1] 35 (0, 0)) (by (with_reducible repeat (first | refine lN ?_ _ | refine lD ?_ | refine lA ?_ _)); exact BK187.out)) : gb189 ≠ gb187)); have n11_ := Aside0.mk ((by rw [hg]; exact Nat.ne_of_lt (blk_lt (g := gb188) (o := .cells #[.slice none 0 0, .int .i64 0, .int .i64 0] 29 (0, 0)) (by (with_reducible repeat (first | refine lN ?_ _ | refine lD ?_ | refine lA ?_ _)); exact BK188.out)) : gb188 ≠ gb189)); have n12_ := Aside0.mk ((by rw [hg]; exact Nat.ne_of_gt (blk_lt (g := gb188) (o := .cells #[.slice none 0 0, .int .i64 0, .int .i64 0] 29 (0, 0)) (by (with_reducible repeat (first | refine lN ?_ _ | refine lD ?_ | refine lA ?_ _)); exact BK188.out)) : gb189 ≠ gb188)); clear BK186; clear BK187; clear BK188; clear HB; have BK186 := n0_; have BK187 := n1_; have BK188 := n2_; have HB := n3_; have BK189 := n4_; have GW189 := n5_; have GE189 := n6_; have NB186_189 := n7_; have NB189_186 := n8_; have NB187_189 := n9_; have NB189_187 := n10_; have NB188_189 := n11_; have NB189_188 := n12_; clear n0_ n1_ n2_ n3_ n4_ n5_ n6_ n7_ n8_ n9_ n10_ n11_ n12_; clear hb hbox hg; have hnb11 := NB186_187.out; have hnc11 := NB187_186.out; have hnb12 := NB186_188.out; have hnc12 := NB188_186.out; have hnb13 := NB186_189.out; have hnc13 := NB189_186.out; have hcz14_0 : w10.cell? ⟨gb186, 0, none⟩ = some (.slice A0_0 l0_0.length c0_0) := (lC BK186.out 0).trans rfl; have hcz14_1 : w10.cell? ⟨gb186, 1, none⟩ = some (.int .i64 a0_1) := (lC BK186.out 1).trans rfl; have hcz14_2 : w10.cell? ⟨gb186, 2, none⟩ = some (.int .i64 a0_2) := (lC BK186.out 2).trans rfl; have hfz14_0 := lF BK186.out 0; have hfz14_1 := lF BK186.out 1; have hfz14_2 := lF BK186.out 2) | ((with_reducible refine gate_callee (f := 18) rfl ?_); refine goesL_ (some 11) rfl rfl Try.func18 (by kernel_rfl) rfl #[.agg #[.slice A0_0 l0_0.length c0_0, .int .i64 a0_1, .int .i64 a0_2]] rfl (by (try simp only [List.map_toArray, List.map_cons, List.map_nil]); first | done | rfl | (simp only [List.length_drop, List.length_take]; rfl)) ?_; (with_reducible refine (impl_GoodClient.calls k _ _ l0_0 a0_1 a0_2 true _ ?side1 ?side2 A3.out).mono ?_); (case side1 => repeat (first | exact (Kd.C_below HR0_0.out HB.out) | (with_reducible first | refine cA ?_ _ | refine cN ?_ _ | refine cD ?_))); (case side2 => exact HC0_0.out); rintro e w15 ⟨rfl, hb⟩; refine ⟨_, rfl, ?_⟩; have n0_ := Aside0.mk (blk_below (g := gb186) (o := .cells #[.slice A0_0 l0_0.length c0_0, .int .i64 a0_1, .int .i64 a0_2] 29 (0, 0)) (by (with_reducible repeat (first | refine lN ?_ _ | refine lD ?_ | refine lA ?_ _)); exact BK186.out) hb); have n1_ := Aside0.mk (blk_below (g := gb187) (o := .cells #[.int .i64 a1_0, .string a1_1] 35 (0, 0)) (by (with_reducible repeat (first | refine lN ?_ _ | refine lD ?_ | refine lA ?_ _)); exact BK187.out) hb); have n2_ := Aside0.mk (blk_below (g := gb188) (o := .cells #[.slice none 0 0, .int .i64 0, .int .i64 0] 29 (0, 0)) (by (with_reducible repeat (first | refine lN ?_ _ | refine lD ?_ | refine lA ?_ _)); exact BK188.out) hb); have n3_ := Aside0.mk (blk_below (g := gb189) (o := .cells #[.int .i64 0, .int .i64 0, .int .i64 0] 31 (0, 0)) (by (with_reducible repeat (first | refine lN ?_ _ | refine lD ?_ | refine lA ?_ _)); exact BK189.out) hb); have n4_ := Aside0.mk (below_step (by repeat (first | (with_reducible first | exact HB.out | apply bA | apply bN | apply bD | refine bS ?_ GE186.out | refine bS ?_ GE187.out | refine bS ?_ GE188.out | refine bS ?_ GE189.out) | exact HB.out)) hb); clear BK186; clear BK187; clear BK188; clear BK189; clear HB; have BK186 := n0_; have BK187 := n1_; have BK188 := n2_; have BK189 := n3_; have HB := n4_; clear n0_ n1_ n2_ n3_ n4_; (try clear hb); (try clear hb2); (try clear hk); (try clear hi); have hcz16_0 : w15.cell? ⟨gb186, 0, none⟩ = some (.slice A0_0 l0_0.length c0_0) := (lC BK186.out 0).trans rfl; have hcz16_1 : w15.cell? ⟨gb186, 1, none⟩ = some (.int .i64 a0_1) := (lC BK186.out 1).trans rfl; have hcz16_2 : w15.cell? ⟨gb186, 2, none⟩ = some (.int .i64 a0_2) := (lC BK186.out 2).trans rfl; have hfz16_0 := lF BK186.out 0; have hfz16_1 := lF BK186.out 1; have hfz16_2 := lF BK186.out 2) | ((with_reducible refine gate_callee (f := 29) rfl ?_); refine goesL_ (some 17) rfl rfl Try.func29 (by kernel_rfl) rfl #[.slice A0_0 l0_0.length c0_0] rfl (by (try simp only [List.map_toArray, List.map_cons, List.map_nil]); first | done | rfl | (simp only [List.length_drop, List.length_take]; rfl)) ?_; (with_reducible refine (slices_Clone_string_string.calls _ _ l0_0 t191 _ ?side1 ?side2 A5.out).mono ?_); (case side1 => repeat (first | exact (Kd.C_below HR0_0.out HB.out) | (with_reducible first | refine cA ?_ _ | refine cN ?_ _ | refine cD ?_))); (case side2 => exact HC0_0.out); rintro e w17 ⟨v192, rfl, ho0, hb⟩; refine ⟨_, rfl, ?_⟩; have n0_ := Aside0.mk (Kd.R_lower ho0 (below_size (by repeat (first | (with_reducible first | exact HB.out | apply bA | apply bN | apply bD | refine bS ?_ GE186.out | refine bS ?_ GE187.out | refine bS ?_ GE188.out | refine bS ?_ GE189.out) | exact HB.out)))); have n1_ := Aside0.mk (blk_below (g := gb186) (o := .cells #[.slice A0_0 l0_0.length c0_0, .int .i64 a0_1, .int .i64 a0_2] 29 (0, 0)) (by (with_reducible repeat (first | refine lN ?_ _ | refine lD ?_ | refine lA ?_ _)); exact BK186.out) hb); have n2_ := Aside0.mk (blk_below (g := gb187) (o := .cells #[.int .i64 a1_0, .string a1_1] 35 (0, 0)) (by (with_reducible repeat (first | refine lN ?_ _ | refine lD ?_ | refine lA ?_ _)); exact BK187.out) hb); have n3_ := Aside0.mk (blk_below (g := gb188) (o := .cells #[.slice none 0 0, .int .i64 0, .int .i64 0] 29 (0, 0)) (by (with_reducible repeat (first | refine lN ?_ _ | refine lD ?_ | refine lA ?_ _)); exact BK188.out) hb); have n4_ := Aside0.mk (blk_below (g := gb189) (o := .cells #[.int .i64 0, .int .i64 0, .int .i64 0] 31 (0, 0)) (by (with_reducible repeat (first | refine lN ?_ _ | refine lD ?_ | refine lA ?_ _)); exact BK189.out) hb); have n5_ := Aside0.mk (below_step (by repeat (first | (with_reducible first | exact HB.out | apply bA | apply bN | apply bD | refine bS ?_ GE186.out | refine bS ?_ GE187.out | refine bS ?_ GE188.out | refine bS ?_ GE189.out) | exact HB.out)) hb); clear BK186; clear BK187; clear BK188; clear BK189; clear HB; have HO193 := n0_; have BK186 := n1_; have BK187 := n2_; have BK188 := n3_; have BK189 := n4_; have HB := n5_; clear n0_ n1_ n2_ n3_ n4_ n5_; (try clear hb); (try clear hb2); (try clear hk); (try clear hi); (try clear ho0); obtain ⟨Ao18, co18, eo18⟩ := rS HO193.out; subst eo18; have hcz19_0 : w17.cell? ⟨gb186, 0, none⟩ = some (.slice A0_0 l0_0.length c0_0) := (lC BK186.out 0).trans rfl; have hcz19_1 : w17.cell? ⟨gb186, 1, none⟩ = some (.int .i64 a0_1) := (lC BK186.out 1).trans rfl; have hcz19_2 : w17.cell? ⟨gb186, 2, none⟩ = some (.int .i64 a0_2) := (lC BK186.out 2).trans rfl; have hfz19_0 := lF BK186.out 0; have hfz19_1 := lF BK186.out 1; have hfz19_2 := lF BK186.out 2))
  (try simp only [Act.put, List.setIfInBounds_toArray, List.set_cons_zero, List.set_cons_succ])
  go_cut [19] (fun v19 wc => ∃ (kq : Nat) (x19_5 : Bool), v19 = .bool x19_5 ∧ Aside0 (impl_StepClient.j0 kq x19_5 t191 a0_1 a0_2 a1_0 a1_1 = some (r1, r2, r3, r4, r5, r6, r7, r8)) ∧ Aside0 (kq ≤ k) ∧ Aside0 (Kd.Q Kd.string 9 wc w.heap.size (fun _ => True) (.slice Ao18 t191.length co18) t191) ∧ Aside0 (wc.heap[gb186]? = some (.cells #[(.slice Ao18 t191.length co18), .int .i64 a0_1, .int .i64 a0_2] 29 (0, 0))) ∧ Aside0 (wc.heap[gb187]? = some (.cells #[.int .i64 a1_0, .string a1_1] 35 (0, 0))) ∧ Aside0 (wc.heap[gb188]? = some (.cells #[(.slice none 0 0), .int .i64 0, .int .i64 0] 29 (0, 0))) ∧ Aside0 (wc.heap[gb189]? = some (.cells #[.int .i64 0, .int .i64 0, .int .i64 0] 31 (0, 0))) ∧ Aside0 (Below w.heap.size w wc))
  case first =>
   have H := HC6.out
   clear HC6
   by_cases c20 : a1_0 = 1
   ·rw [if_pos c20] at H
    have c20b0 : (a1_0 == 1) = true := beq_iff_eq.mpr c20
    have c20b1 : (a1_0 != 1) = false := bne_eq_false_iff_eq.mpr c20
    clear c20
    (first | rw [c20b0] | (simp only [i64_w, i32_w]; rw [c20b0]) | skip)
    replace H := oB H
    obtain ⟨t194, A210, H⟩ := H
    replace H : (if t194 = true then (impl_StepClient.j0 k (decide ((t191.length : Int) < 5)) t191 a0_1 a0_2 a1_0 a1_1) else (impl_StepClient.j0 k false t191 a0_1 a0_2 a1_0 a1_1)) = some (r1, r2, r3, r4, r5, r6, r7, r8) := H
    have A21 := Aside0.mk A210
    clear A210
    by_cases c22 : t194 = true
    ·subst c22
     have H1 : (impl_StepClient.j0 k (decide ((t191.length : Int) < 5)) t191 a0_1 a0_2 a1_0 a1_1) = some (r1, r2, r3, r4, r5, r6, r7, r8) := by rw [if_pos rfl] at H; exact H
     clear H
     have H := H1
     clear H1
     have H' := Aside0.mk H
     clear H
     have hnb23 := NB187_186.out
     have hnc23 := NB186_187.out
     have hnb24 := NB187_188.out
     have hnc24 := NB188_187.out
     have hnb25 := NB187_189.out
     have hnc25 := NB189_187.out
     have hcz26_0 : w17.cell? ⟨gb187, 0, none⟩ = some (.int .i64 a1_0) := (lC BK187.out 0).trans rfl
     have hcz26_1 : w17.cell? ⟨gb187, 1, none⟩ = some (.string a1_1) := (lC BK187.out 1).trans rfl
     have hfz26_0 := lF BK187.out 0
     have hfz26_1 := lF BK187.out 1
     go_wp2_with (first | (go_at_call 30; (with_reducible refine (impl_isSaid.calls a1_1 true _ A21.out).mono ?_); rintro e w' ⟨rfl, ⟨nd, rfl⟩⟩; have hnb27 := NB186_188.out; have hnc27 := NB188_186.out; have hnb28 := NB186_189.out; have hnc28 := NB189_186.out; have hcz29_0 : w17.cell? ⟨gb186, 0, none⟩ = some (.slice A0_0 l0_0.length c0_0) := (lC BK186.out 0).trans rfl; have hcz29_1 : w17.cell? ⟨gb186, 1, none⟩ = some (.int .i64 a0_1) := (lC BK186.out 1).trans rfl; have hcz29_2 : w17.cell? ⟨gb186, 2, none⟩ = some (.int .i64 a0_2) := (lC BK186.out 2).trans rfl; have hfz29_0 := lF BK186.out 0; have hfz29_1 := lF BK186.out 1; have hfz29_2 := lF BK186.out 2))
     go_meet
     case rel => exact ⟨_, (decide ((t191.length : Int) < 5)), (by first | rfl | (simp; done) | (simp [*]; done)), H', ⟨by first | omega | exact Nat.le_refl _⟩, ⟨Kd.Q_of_R (by (with_reducible repeat (first | apply rA | apply rN | apply rD)); exact rM (Kd.R_far (p := ⟨gb186, 0, none⟩) (Kd.R_types HO193.out BK186.out (by decide)) (fun _ hk => hk.2) (.slice Ao18 t191.length co18)) (fun _ hk => trivial))⟩, ⟨by (with_reducible repeat (first | refine lN ?_ _ | refine lD ?_ | refine lA ?_ _)); refine lP (cs := #[.slice A0_0 l0_0.length c0_0, .int .i64 a0_1, .int .i64 a0_2]) ?_ 0 _ rfl; (with_reducible repeat (first | refine lN ?_ _ | refine lD ?_ | refine lA ?_ _)); exact BK186.out⟩, ⟨by (with_reducible repeat (first | refine lN ?_ _ | refine lD ?_ | refine lA ?_ _)); refine lX ?_ NB187_186.out _; (with_reducible repeat (first | refine lN ?_ _ | refine lD ?_ | refine lA ?_ _)); exact BK187.out⟩, ⟨by (with_reducible repeat (first | refine lN ?_ _ | refine lD ?_ | refine lA ?_ _)); refine lX ?_ NB188_186.out _; (with_reducible repeat (first | refine lN ?_ _ | refine lD ?_ | refine lA ?_ _)); exact BK188.out⟩, ⟨by (with_reducible repeat (first | refine lN ?_ _ | refine lD ?_ | refine lA ?_ _)); refine lX ?_ NB189_186.out _; (with_reducible repeat (first | refine lN ?_ _ | refine lD ?_ | refine lA ?_ _)); exact BK189.out⟩, ⟨by repeat (first | (with_reducible first | exact HB.out | apply bA | apply bN | apply bD | refine bS ?_ GE186.out | refine bS ?_ GE187.out | refine bS ?_ GE188.out | refine bS ?_ GE189.out) | exact HB.out)⟩⟩
    ·replace c22 := fB c22
     subst c22
     have H1 : (impl_StepClient.j0 k false t191 a0_1 a0_2 a1_0 a1_1) = some (r1, r2, r3, r4, r5, r6, r7, r8) := by rw [if_neg (show ¬ (false = true) by decide)] at H; exact H
     clear H
     have H := H1
     clear H1
     have H' := Aside0.mk H
     clear H
     have hnb30 := NB187_186.out
     have hnc30 := NB186_187.out
     have hnb31 := NB187_188.out
     have hnc31 := NB188_187.out
     have hnb32 := NB187_189.out
     have hnc32 := NB189_187.out
     have hcz33_0 : w17.cell? ⟨gb187, 0, none⟩ = some (.int .i64 a1_0) := (lC BK187.out 0).trans rfl
     have hcz33_1 : w17.cell? ⟨gb187, 1, none⟩ = some (.string a1_1) := (lC BK187.out 1).trans rfl
     have hfz33_0 := lF BK187.out 0
     have hfz33_1 := lF BK187.out 1
     go_wp2_with (first | (go_at_call 30; (with_reducible refine (impl_isSaid.calls a1_1 false _ A21.out).mono ?_); rintro e w' ⟨rfl, ⟨nd, rfl⟩⟩))
     go_meet
     case rel => exact ⟨_, (false), (by first | rfl | (simp; done) | (simp [*]; done)), H', ⟨by first | omega | exact Nat.le_refl _⟩, ⟨Kd.Q_of_R (by (with_reducible repeat (first | apply rA | apply rN | apply rD)); exact rM (Kd.R_far (p := ⟨gb186, 0, none⟩) (Kd.R_types HO193.out BK186.out (by decide)) (fun _ hk => hk.2) (.slice Ao18 t191.length co18)) (fun _ hk => trivial))⟩, ⟨by (with_reducible repeat (first | refine lN ?_ _ | refine lD ?_ | refine lA ?_ _)); refine lP (cs := #[.slice A0_0 l0_0.length c0_0, .int .i64 a0_1, .int .i64 a0_2]) ?_ 0 _ rfl; (with_reducible repeat (first | refine lN ?_ _ | refine lD ?_ | refine lA ?_ _)); exact BK186.out⟩, ⟨by (with_reducible repeat (first | refine lN ?_ _ | refine lD ?_ | refine lA ?_ _)); refine lX ?_ NB187_186.out _; (with_reducible repeat (first | refine lN ?_ _ | refine lD ?_ | refine lA ?_ _)); exact BK187.out⟩, ⟨by (with_reducible repeat (first | refine lN ?_ _ | refine lD ?_ | refine lA ?_ _)); refine lX ?_ NB188_186.out _; (with_reducible repeat (first | refine lN ?_ _ | refine lD ?_ | refine lA ?_ _)); exact BK188.out⟩, ⟨by (with_reducible repeat (first | refine lN ?_ _ | refine lD ?_ | refine lA ?_ _)); refine lX ?_ NB189_186.out _; (with_reducible repeat (first | refine lN ?_ _ | refine lD ?_ | refine lA ?_ _)); exact BK189.out⟩, ⟨by repeat (first | (with_reducible first | exact HB.out | apply bA | apply bN | apply bD | refine bS ?_ GE186.out | refine bS ?_ GE187.out | refine bS ?_ GE188.out | refine bS ?_ GE189.out) | exact HB.out)⟩⟩
   ·rw [if_neg c20] at H
    have c20b0 : (a1_0 == 1) = false := beq_eq_false_iff_ne.mpr c20
    have c20b1 : (a1_0 != 1) = true := bne_iff_ne.mpr c20
    (first | rw [c20b0] | (simp only [i64_w, i32_w]; rw [c20b0]) | skip)
    have H' := Aside0.mk H
    clear H
    have hnb34 := NB187_186.out
    have hnc34 := NB186_187.out
    have hnb35 := NB187_188.out
    have hnc35 := NB188_187.out
    have hnb36 := NB187_189.out
    have hnc36 := NB189_187.out
    have hcz37_0 : w17.cell? ⟨gb187, 0, none⟩ = some (.int .i64 a1_0) := (lC BK187.out 0).trans rfl
    have hcz37_1 : w17.cell? ⟨gb187, 1, none⟩ = some (.string a1_1) := (lC BK187.out 1).trans rfl
    have hfz37_0 := lF BK187.out 0
    have hfz37_1 := lF BK187.out 1
    go_wp2
    go_meet
    case rel => exact ⟨_, (false), (by first | rfl | (simp; done) | (simp [*]; done)), H', ⟨by first | omega | exact Nat.le_refl _⟩, ⟨Kd.Q_of_R (by (with_reducible repeat (first | apply rA | apply rN | apply rD)); exact rM (Kd.R_far (p := ⟨gb186, 0, none⟩) (Kd.R_types HO193.out BK186.out (by decide)) (fun _ hk => hk.2) (.slice Ao18 t191.length co18)) (fun _ hk => trivial))⟩, ⟨by (with_reducible repeat (first | refine lN ?_ _ | refine lD ?_ | refine lA ?_ _)); refine lP (cs := #[.slice A0_0 l0_0.length c0_0, .int .i64 a0_1, .int .i64 a0_2]) ?_ 0 _ rfl; (with_reducible repeat (first | refine lN ?_ _ | refine lD ?_ | refine lA ?_ _)); exact BK186.out⟩, ⟨by (with_reducible repeat (first | refine lN ?_ _ | refine lD ?_ | refine lA ?_ _)); refine lX ?_ NB187_186.out _; (with_reducible repeat (first | refine lN ?_ _ | refine lD ?_ | refine lA ?_ _)); exact BK187.out⟩, ⟨by (with_reducible repeat (first | refine lN ?_ _ | refine lD ?_ | refine lA ?_ _)); refine lX ?_ NB188_186.out _; (with_reducible repeat (first | refine lN ?_ _ | refine lD ?_ | refine lA ?_ _)); exact BK188.out⟩, ⟨by (with_reducible repeat (first | refine lN ?_ _ | refine lD ?_ | refine lA ?_ _)); refine lX ?_ NB189_186.out _; (with_reducible repeat (first | refine lN ?_ _ | refine lD ?_ | refine lA ?_ _)); exact BK189.out⟩, ⟨by repeat (first | (with_reducible first | exact HB.out | apply bA | apply bN | apply bD | refine bS ?_ GE186.out | refine bS ?_ GE187.out | refine bS ?_ GE188.out | refine bS ?_ GE189.out) | exact HB.out)⟩⟩
  case rest =>
   clear HC6
   try clear c1
   try clear c2
   try clear p2
   try clear c3
   try clear c4
   try clear c10
   try clear c11
   try clear c12
   try clear c13
   try clear c18
   try clear c20
   try clear c20b0
   try clear c20b1
   try clear c22
   try clear c23
   try clear c24
   try clear c25
   try clear c27
   try clear c28
   try clear c29
   try clear c30
   try clear c31
   try clear c32
   try clear c34
   try clear c35
   try clear c36
   try clear hcz14_0
   try clear hcz14_1
   try clear hcz14_2
   try clear hcz16_0
   try clear hcz16_1
   try clear hcz16_2
   try clear hcz19_0
   try clear hcz19_1
   try clear hcz19_2
   try clear hcz26_0
   try clear hcz26_1
   try clear hcz29_0
   try clear hcz29_1
   try clear hcz29_2
   try clear hcz33_0
   try clear hcz33_1
   try clear hcz37_0
   try clear hcz37_1
   try clear hfz14_0
   try clear hfz14_1
   try clear hfz14_2
   try clear hfz16_0
   try clear hfz16_1
   try clear hfz16_2
   try clear hfz19_0
   try clear hfz19_1
   try clear hfz19_2
   try clear hfz26_0
   try clear hfz26_1
   try clear hfz29_0
   try clear hfz29_1
   try clear hfz29_2
   try clear hfz33_0
   try clear hfz33_1
   try clear hfz37_0
   try clear hfz37_1
   obtain ⟨kq, x19_5, rfl, HA, HJ5, HO_187000, BK186, BK187, BK188, BK189, HB⟩ := hcut
   cases kq with
   | zero => exact absurd HA.out (by simp [impl_StepClient.j0])
   | succ kj5 =>
    have H := HA.out
    clear HA
    simp only [impl_StepClient.j0] at H
    by_cases c38 : x19_5 = true
    ·subst c38
     have H1 : (if t191.length < 8796093022208 then (some ((t191 ++ [a1_1]), a0_1, a0_2, 0, 0, 0, (⟨#[]⟩ : ByteArray), true)) else (none)) = some (r1, r2, r3, r4, r5, r6, r7, r8) := by rw [if_pos rfl] at H; exact H
     clear H
     have H := H1
     clear H1
     by_cases c39 : t191.length < 8796093022208
     ·rw [if_pos c39] at H
      have LMc39 := Aside0.mk c39
      clear c39
      obtain ⟨y195, hy195⟩ : ∃ y_ : List ByteArray, y_ = (t191 ++ [a1_1]) := ⟨_, rfl⟩
      replace H : (some (y195, a0_1, a0_2, 0, 0, 0, (⟨#[]⟩ : ByteArray), true)) = some (r1, r2, r3, r4, r5, r6, r7, r8) := by first | (rw [hy195]; with_reducible exact H) | (have H2_ := (Option.bind_some _ _).symm.trans H; rw [hy195]; with_reducible exact H2_) | (have H2_ := (Option.bind_some _ _).symm.trans H; with_reducible exact H2_) | with_reducible exact H | (rw [hy195]; exact H) | exact H
      have Ny195 := Aside0.mk hy195
      clear hy195
      simp only [Option.some.injEq, Prod.mk.injEq] at H
      obtain ⟨rfl, rfl, rfl, rfl, rfl, rfl, rfl, rfl⟩ := H
      have hnb40 := NB186_187.out
      have hnc40 := NB187_186.out
      have hnb41 := NB186_188.out
      have hnc41 := NB188_186.out
      have hnb42 := NB186_189.out
      have hnc42 := NB189_186.out
      have hcz43_0 : wc.cell? ⟨gb186, 0, none⟩ = some (.slice Ao18 t191.length co18) := (lC BK186.out 0).trans rfl
      have hcz43_1 : wc.cell? ⟨gb186, 1, none⟩ = some (.int .i64 a0_1) := (lC BK186.out 1).trans rfl
      have hcz43_2 : wc.cell? ⟨gb186, 2, none⟩ = some (.int .i64 a0_2) := (lC BK186.out 2).trans rfl
      have hfz43_0 := lF BK186.out 0
      have hfz43_1 := lF BK186.out 1
      have hfz43_2 := lF BK186.out 2
      have hnb44 := NB187_188.out
      have hnc44 := NB188_187.out
      have hnb45 := NB187_189.out
      have hnc45 := NB189_187.out
      have hcz46_0 : wc.cell? ⟨gb187, 0, none⟩ = some (.int .i64 a1_0) := (lC BK187.out 0).trans rfl
      have hcz46_1 : wc.cell? ⟨gb187, 1, none⟩ = some (.string a1_1) := (lC BK187.out 1).trans rfl
      have hfz46_0 := lF BK187.out 0
      have hfz46_1 := lF BK187.out 1
      go_wp2_with (first | ((with_reducible refine gate_builtin (b := .append) (xs := #[.tmp 35, .tmp 38]) rfl ?_); (try (refine gate_guard (by rfl) ?_; dsimp only)); at_builtin; refine Kd.Q_append Kd.string (w0 := w) w.heap.size rfl (.tmp 35) (.tmp 38) 22 9 (.string ⟨#[]⟩) 16 rfl Try.underlying22 info9 rfl (by decide) (by omega) (.slice Ao18 t191.length co18) t191 a1_1 [.string a1_1] (fun _ => True) (fun _ => False) rfl rfl ?aP (fun _ hk => hk.elim) ?aF ?aO ?aB ?aS ?aL ?_; (case aP => exact rfl); (case aB => exact (by repeat (first | (with_reducible first | exact HB.out | apply bA | apply bN | apply bD | refine bS ?_ GE186.out | refine bS ?_ GE187.out | refine bS ?_ GE188.out | refine bS ?_ GE189.out) | exact HB.out))); (case aF => exact (fun _ _ => trivial)); (case aO => exact (by (with_reducible repeat (first | apply qA | apply qN | apply qD)); exact HO_187000.out)); (case aS => exact (below_size (by repeat (first | (with_reducible first | exact HB.out | apply bA | apply bN | apply bD | refine bS ?_ GE186.out | refine bS ?_ GE187.out | refine bS ?_ GE188.out | refine bS ?_ GE189.out) | exact HB.out)))); (case aL => have := LMc39.out; omega); intro v196 w47 ho hb hg hat; rw [← Ny195.out] at ho; have n0_ := Aside0.mk (blk_grown (g := gb186) (o := .cells #[.slice Ao18 t191.length co18, .int .i64 a0_1, .int .i64 a0_2] 29 (0, 0)) (by (with_reducible repeat (first | refine lN ?_ _ | refine lD ?_ | refine lA ?_ _)); exact BK186.out) hg (Kd.Q_ne HO_187000.out BK186.out (by decide))); have n1_ := Aside0.mk (blk_grown (g := gb187) (o := .cells #[.int .i64 a1_0, .string a1_1] 35 (0, 0)) (by (with_reducible repeat (first | refine lN ?_ _ | refine lD ?_ | refine lA ?_ _)); exact BK187.out) hg (Kd.Q_ne HO_187000.out BK187.out (by decide))); have n2_ := Aside0.mk (blk_grown (g := gb188) (o := .cells #[.slice none 0 0, .int .i64 0, .int .i64 0] 29 (0, 0)) (by (with_reducible repeat (first | refine lN ?_ _ | refine lD ?_ | refine lA ?_ _)); exact BK188.out) hg (Kd.Q_ne HO_187000.out BK188.out (by decide))); have n3_ := Aside0.mk (blk_grown (g := gb189) (o := .cells #[.int .i64 0, .int .i64 0, .int .i64 0] 31 (0, 0)) (by (with_reducible repeat (first | refine lN ?_ _ | refine lD ?_ | refine lA ?_ _)); exact BK189.out) hg (Kd.Q_ne HO_187000.out BK189.out (by decide))); have n4_ := Aside0.mk (hb); have n5_ := Aside0.mk (ho); clear BK186; clear BK187; clear BK188; clear BK189; clear HB; clear HO_187000; have BK186 := n0_; have BK187 := n1_; have BK188 := n2_; have BK189 := n3_; have HB := n4_; have HO197 := n5_; clear n0_ n1_ n2_ n3_ n4_ n5_; clear ho hb hg hat; obtain ⟨Ao48, co48, eo48, _⟩ := Kd.Q_slice HO197.out; subst eo48; have hcz49_0 : w47.cell? ⟨gb186, 0, none⟩ = some (.slice Ao18 t191.length co18) := (lC BK186.out 0).trans rfl; have hcz49_1 : w47.cell? ⟨gb186, 1, none⟩ = some (.int .i64 a0_1) := (lC BK186.out 1).trans rfl; have hcz49_2 : w47.cell? ⟨gb186, 2, none⟩ = some (.int .i64 a0_2) := (lC BK186.out 2).trans rfl; have hfz49_0 := lF BK186.out 0; have hfz49_1 := lF BK186.out 1; have hfz49_2 := lF BK186.out 2; have hnb50 := NB188_189.out; have hnc50 := NB189_188.out; have hcz51_0 : w47.cell? ⟨gb188, 0, none⟩ = some (.slice none 0 0) := (lC BK188.out 0).trans rfl; have hcz51_1 : w47.cell? ⟨gb188, 1, none⟩ = some (.int .i64 0) := (lC BK188.out 1).trans rfl; have hcz51_2 : w47.cell? ⟨gb188, 2, none⟩ = some (.int .i64 0) := (lC BK188.out 2).trans rfl; have hfz51_0 := lF BK188.out 0; have hfz51_1 := lF BK188.out 1; have hfz51_2 := lF BK188.out 2; have hcz52_0 : w47.cell? ⟨gb189, 0, none⟩ = some (.int .i64 0) := (lC BK189.out 0).trans rfl; have hcz52_1 : w47.cell? ⟨gb189, 1, none⟩ = some (.int .i64 0) := (lC BK189.out 1).trans rfl; have hcz52_2 : w47.cell? ⟨gb189, 2, none⟩ = some (.int .i64 0) := (lC BK189.out 2).trans rfl; have hfz52_0 := lF BK189.out 0; have hfz52_1 := lF BK189.out 1; have hfz52_2 := lF BK189.out 2))
      refine bodyPost_ret (results_list (rs := [.cell 4 29, .cell 5 31, .tmp 6, .tmp 7]) rfl (by simp) (.cell gb188 29 #[.slice Ao48 y195.length co48, .int .i64 a0_1, .int .i64 a0_2] (0, 0) _ rfl (by (with_reducible repeat (first | refine lN ?_ _ | refine lD ?_ | refine lA ?_ _)); refine lX ?_ NB188_189.out _; (with_reducible repeat (first | refine lN ?_ _ | refine lD ?_ | refine lA ?_ _)); refine lX ?_ NB188_189.out _; (with_reducible repeat (first | refine lN ?_ _ | refine lD ?_ | refine lA ?_ _)); refine lX ?_ NB188_189.out _; (with_reducible repeat (first | refine lN ?_ _ | refine lD ?_ | refine lA ?_ _)); refine lP (cs := #[.slice Ao48 y195.length co48, .int .i64 a0_1, .int .i64 0]) ?_ 2 _ rfl; (with_reducible repeat (first | refine lN ?_ _ | refine lD ?_ | refine lA ?_ _)); refine lP (cs := #[.slice Ao48 y195.length co48, .int .i64 0, .int .i64 0]) ?_ 1 _ rfl; (with_reducible repeat (first | refine lN ?_ _ | refine lD ?_ | refine lA ?_ _)); refine lP (cs := #[.slice none 0 0, .int .i64 0, .int .i64 0]) ?_ 0 _ rfl; (with_reducible repeat (first | refine lN ?_ _ | refine lD ?_ | refine lA ?_ _)); refine lX ?_ NB188_186.out _; (with_reducible repeat (first | refine lN ?_ _ | refine lD ?_ | refine lA ?_ _)); exact BK188.out) Try.underlying29 rfl (by kernel_rfl) (.cell gb189 31 #[.int .i64 0, .int .i64 0, .int .i64 0] (0, 0) _ rfl (by (with_reducible repeat (first | refine lN ?_ _ | refine lD ?_ | refine lA ?_ _)); refine lP (cs := #[.int .i64 0, .int .i64 0, .int .i64 0]) ?_ 2 _ rfl; (with_reducible repeat (first | refine lN ?_ _ | refine lD ?_ | refine lA ?_ _)); refine lP (cs := #[.int .i64 0, .int .i64 0, .int .i64 0]) ?_ 1 _ rfl; (with_reducible repeat (first | refine lN ?_ _ | refine lD ?_ | refine lA ?_ _)); refine lP (cs := #[.int .i64 0, .int .i64 0, .int .i64 0]) ?_ 0 _ rfl; (with_reducible repeat (first | refine lN ?_ _ | refine lD ?_ | refine lA ?_ _)); refine lX ?_ NB189_188.out _; (with_reducible repeat (first | refine lN ?_ _ | refine lD ?_ | refine lA ?_ _)); refine lX ?_ NB189_188.out _; (with_reducible repeat (first | refine lN ?_ _ | refine lD ?_ | refine lA ?_ _)); refine lX ?_ NB189_188.out _; (with_reducible repeat (first | refine lN ?_ _ | refine lD ?_ | refine lA ?_ _)); refine lX ?_ NB189_186.out _; (with_reducible repeat (first | refine lN ?_ _ | refine lD ?_ | refine lA ?_ _)); exact BK189.out) Try.underlying31 rfl (by kernel_rfl) (.tmp (.tmp .nil))))) rfl ?_
      exact ⟨_, by first | rfl | (simp [errW_none, errW_some] <;> rfl) | (simp [*, errW_none, errW_some] <;> rfl), by (with_reducible repeat (first | apply qA | apply qN | apply qD)); exact Kd.Q_mono (Kd.Q_far (p := ⟨gb189, 2, none⟩) (Kd.Q_far (p := ⟨gb189, 1, none⟩) (Kd.Q_far (p := ⟨gb189, 0, none⟩) (Kd.Q_far (p := ⟨gb188, 2, none⟩) (Kd.Q_far (p := ⟨gb188, 1, none⟩) (Kd.Q_far (p := ⟨gb188, 0, none⟩) (Kd.Q_far (p := ⟨gb186, 0, none⟩) (Kd.Q_types (Kd.Q_types (Kd.Q_types HO197.out BK186.out (by decide)) BK188.out (by decide)) BK189.out (by decide)) (fun _ hk => hk.1.1.2) (.slice Ao48 y195.length co48)) (fun _ hk => hk.1.2) (.slice Ao48 y195.length co48)) (fun _ hk => hk.1.2) (.int .i64 a0_1)) (fun _ hk => hk.1.2) (.int .i64 a0_2)) (fun _ hk => hk.2) (.int .i64 0)) (fun _ hk => hk.2) (.int .i64 0)) (fun _ hk => hk.2) (.int .i64 0)) (fun _ hk => trivial), by repeat (first | (with_reducible first | exact HB.out | apply bA | apply bN | apply bD | refine bS ?_ GE186.out | refine bS ?_ GE187.out | refine bS ?_ GE188.out | refine bS ?_ GE189.out) | exact HB.out)⟩
     ·rw [if_neg c39] at H
      exact absurd H (by simp)
    ·replace c38 := fB c38
     subst c38
     have H1 : (if a1_0 = 2 then (if a1_1.toList = ([] : List UInt8) then (impl_StepClient.j1 kj5 (decide (a0_1 < 1000)) t191 a0_1 a0_2) else (impl_StepClient.j1 kj5 false t191 a0_1 a0_2)) else (impl_StepClient.j1 kj5 false t191 a0_1 a0_2)) = some (r1, r2, r3, r4, r5, r6, r7, r8) := by rw [if_neg (show ¬ (false = true) by decide)] at H; exact H
     clear H
     have H := H1
     clear H1
     have HC53 := Aside0.mk H
     clear H
     go_upto_region 7 with (fail)
     go_cut [43] (fun v43 wc => ∃ (kq : Nat) (x43_52 : Bool), v43 = .bool x43_52 ∧ Aside0 (impl_StepClient.j1 kq x43_52 t191 a0_1 a0_2 = some (r1, r2, r3, r4, r5, r6, r7, r8)) ∧ Aside0 (kq ≤ kj5) ∧ Aside0 (Kd.Q Kd.string 9 wc w.heap.size (fun _ => True) (.slice Ao18 t191.length co18) t191) ∧ Aside0 (wc.heap[gb186]? = some (.cells #[(.slice Ao18 t191.length co18), .int .i64 a0_1, .int .i64 a0_2] 29 (0, 0))) ∧ Aside0 (wc.heap[gb187]? = some (.cells #[.int .i64 a1_0, .string a1_1] 35 (0, 0))) ∧ Aside0 (wc.heap[gb188]? = some (.cells #[(.slice none 0 0), .int .i64 0, .int .i64 0] 29 (0, 0))) ∧ Aside0 (wc.heap[gb189]? = some (.cells #[.int .i64 0, .int .i64 0, .int .i64 0] 31 (0, 0))) ∧ Aside0 (Below w.heap.size w wc))
     case first =>
      have H := HC53.out
      clear HC53
      by_cases c54 : a1_0 = 2
      ·rw [if_pos c54] at H
       have c54b0 : (a1_0 == 2) = true := beq_iff_eq.mpr c54
       have c54b1 : (a1_0 != 2) = false := bne_eq_false_iff_eq.mpr c54
       clear c54
       (first | rw [c54b0] | (simp only [i64_w, i32_w]; rw [c54b0]) | skip)
       by_cases c55 : a1_1.toList = ([] : List UInt8)
       ·rw [if_pos c55] at H
        have c55b0 : (a1_1.toList == ([] : List UInt8)) = true := beq_iff_eq.mpr c55
        have c55b1 : (a1_1.toList != ([] : List UInt8)) = false := bne_eq_false_iff_eq.mpr c55
        clear c55
        have H' := Aside0.mk H
        clear H
        have hnb56 := NB187_186.out
        have hnc56 := NB186_187.out
        have hnb57 := NB187_188.out
        have hnc57 := NB188_187.out
        have hnb58 := NB187_189.out
        have hnc58 := NB189_187.out
        have hcz59_0 : wc.cell? ⟨gb187, 0, none⟩ = some (.int .i64 a1_0) := (lC BK187.out 0).trans rfl
        have hcz59_1 : wc.cell? ⟨gb187, 1, none⟩ = some (.string a1_1) := (lC BK187.out 1).trans rfl
        have hfz59_0 := lF BK187.out 0
        have hfz59_1 := lF BK187.out 1
        have hnb60 := NB186_188.out
        have hnc60 := NB188_186.out
        have hnb61 := NB186_189.out
        have hnc61 := NB189_186.out
        have hcz62_0 : wc.cell? ⟨gb186, 0, none⟩ = some (.slice Ao18 t191.length co18) := (lC BK186.out 0).trans rfl
        have hcz62_1 : wc.cell? ⟨gb186, 1, none⟩ = some (.int .i64 a0_1) := (lC BK186.out 1).trans rfl
        have hcz62_2 : wc.cell? ⟨gb186, 2, none⟩ = some (.int .i64 a0_2) := (lC BK186.out 2).trans rfl
        have hfz62_0 := lF BK186.out 0
        have hfz62_1 := lF BK186.out 1
        have hfz62_2 := lF BK186.out 2
        go_wp2
        go_meet
        case rel => exact ⟨_, (decide (a0_1 < 1000)), (by first | rfl | (simp; done) | (simp [*]; done)), H', ⟨by have := HJ5.out; first | omega | exact Nat.le_refl _⟩, ⟨by (with_reducible repeat (first | apply qA | apply qN | apply qD)); exact HO_187000.out⟩, ⟨by (with_reducible repeat (first | refine lN ?_ _ | refine lD ?_ | refine lA ?_ _)); exact BK186.out⟩, ⟨by (with_reducible repeat (first | refine lN ?_ _ | refine lD ?_ | refine lA ?_ _)); exact BK187.out⟩, ⟨by (with_reducible repeat (first | refine lN ?_ _ | refine lD ?_ | refine lA ?_ _)); exact BK188.out⟩, ⟨by (with_reducible repeat (first | refine lN ?_ _ | refine lD ?_ | refine lA ?_ _)); exact BK189.out⟩, ⟨by repeat (first | (with_reducible first | exact HB.out | apply bA | apply bN | apply bD | refine bS ?_ GE186.out | refine bS ?_ GE187.out | refine bS ?_ GE188.out | refine bS ?_ GE189.out) | exact HB.out)⟩⟩
       ·rw [if_neg c55] at H
        have c55b0 : (a1_1.toList == ([] : List UInt8)) = false := beq_eq_false_iff_ne.mpr c55
        have c55b1 : (a1_1.toList != ([] : List UInt8)) = true := bne_iff_ne.mpr c55
        have H' := Aside0.mk H
        clear H
        have hnb63 := NB187_186.out
        have hnc63 := NB186_187.out
        have hnb64 := NB187_188.out
        have hnc64 := NB188_187.out
        have hnb65 := NB187_189.out
        have hnc65 := NB189_187.out
        have hcz66_0 : wc.cell? ⟨gb187, 0, none⟩ = some (.int .i64 a1_0) := (lC BK187.out 0).trans rfl
        have hcz66_1 : wc.cell? ⟨gb187, 1, none⟩ = some (.string a1_1) := (lC BK187.out 1).trans rfl
        have hfz66_0 := lF BK187.out 0
        have hfz66_1 := lF BK187.out 1
        go_wp2
        go_meet
        case rel => exact ⟨_, (false), (by first | rfl | (simp; done) | (simp [*]; done)), H', ⟨by have := HJ5.out; first | omega | exact Nat.le_refl _⟩, ⟨by (with_reducible repeat (first | apply qA | apply qN | apply qD)); exact HO_187000.out⟩, ⟨by (with_reducible repeat (first | refine lN ?_ _ | refine lD ?_ | refine lA ?_ _)); exact BK186.out⟩, ⟨by (with_reducible repeat (first | refine lN ?_ _ | refine lD ?_ | refine lA ?_ _)); exact BK187.out⟩, ⟨by (with_reducible repeat (first | refine lN ?_ _ | refine lD ?_ | refine lA ?_ _)); exact BK188.out⟩, ⟨by (with_reducible repeat (first | refine lN ?_ _ | refine lD ?_ | refine lA ?_ _)); exact BK189.out⟩, ⟨by repeat (first | (with_reducible first | exact HB.out | apply bA | apply bN | apply bD | refine bS ?_ GE186.out | refine bS ?_ GE187.out | refine bS ?_ GE188.out | refine bS ?_ GE189.out) | exact HB.out)⟩⟩
      ·rw [if_neg c54] at H
       have c54b0 : (a1_0 == 2) = false := beq_eq_false_iff_ne.mpr c54
       have c54b1 : (a1_0 != 2) = true := bne_iff_ne.mpr c54
       (first | rw [c54b0] | (simp only [i64_w, i32_w]; rw [c54b0]) | skip)
       have H' := Aside0.mk H
       clear H
       have hnb67 := NB187_186.out
       have hnc67 := NB186_187.out
       have hnb68 := NB187_188.out
       have hnc68 := NB188_187.out
       have hnb69 := NB187_189.out
       have hnc69 := NB189_187.out
       have hcz70_0 : wc.cell? ⟨gb187, 0, none⟩ = some (.int .i64 a1_0) := (lC BK187.out 0).trans rfl
       have hcz70_1 : wc.cell? ⟨gb187, 1, none⟩ = some (.string a1_1) := (lC BK187.out 1).trans rfl
       have hfz70_0 := lF BK187.out 0
       have hfz70_1 := lF BK187.out 1
       go_wp2
       go_meet
       case rel => exact ⟨_, (false), (by first | rfl | (simp; done) | (simp [*]; done)), H', ⟨by have := HJ5.out; first | omega | exact Nat.le_refl _⟩, ⟨by (with_reducible repeat (first | apply qA | apply qN | apply qD)); exact HO_187000.out⟩, ⟨by (with_reducible repeat (first | refine lN ?_ _ | refine lD ?_ | refine lA ?_ _)); exact BK186.out⟩, ⟨by (with_reducible repeat (first | refine lN ?_ _ | refine lD ?_ | refine lA ?_ _)); exact BK187.out⟩, ⟨by (with_reducible repeat (first | refine lN ?_ _ | refine lD ?_ | refine lA ?_ _)); exact BK188.out⟩, ⟨by (with_reducible repeat (first | refine lN ?_ _ | refine lD ?_ | refine lA ?_ _)); exact BK189.out⟩, ⟨by repeat (first | (with_reducible first | exact HB.out | apply bA | apply bN | apply bD | refine bS ?_ GE186.out | refine bS ?_ GE187.out | refine bS ?_ GE188.out | refine bS ?_ GE189.out) | exact HB.out)⟩⟩
     case rest =>
      clear HC53
      try clear c1
      try clear c2
      try clear p2
      try clear c3
      try clear c4
      try clear c5
      try clear c6
      try clear c10
      try clear c11
      try clear c12
      try clear c13
      try clear c18
      try clear c20
      try clear c20b0
      try clear c20b1
      try clear c22
      try clear c23
      try clear c24
      try clear c25
      try clear c27
      try clear c28
      try clear c29
      try clear c30
      try clear c31
      try clear c32
      try clear c34
      try clear c35
      try clear c36
      try clear c38
      try clear c39
      try clear c40
      try clear c41
      try clear c42
      try clear c44
      try clear c45
      try clear c50
      try clear c54
      try clear c54b0
      try clear c54b1
      try clear c55
      try clear c55b0
      try clear c55b1
      try clear c56
      try clear c57
      try clear c58
      try clear c60
      try clear c61
      try clear c63
      try clear c64
      try clear c65
      try clear c67
      try clear c68
      try clear c69
      try clear hcz14_0
      try clear hcz14_1
      try clear hcz14_2
      try clear hcz16_0
      try clear hcz16_1
      try clear hcz16_2
      try clear hcz19_0
      try clear hcz19_1
      try clear hcz19_2
      try clear hcz26_0
      try clear hcz26_1
      try clear hcz29_0
      try clear hcz29_1
      try clear hcz29_2
      try clear hcz33_0
      try clear hcz33_1
      try clear hcz37_0
      try clear hcz37_1
      try clear hcz43_0
      try clear hcz43_1
      try clear hcz43_2
      try clear hcz46_0
      try clear hcz46_1
      try clear hcz49_0
      try clear hcz49_1
      try clear hcz49_2
      try clear hcz51_0
      try clear hcz51_1
      try clear hcz51_2
      try clear hcz52_0
      try clear hcz52_1
      try clear hcz52_2
      try clear hcz59_0
      try clear hcz59_1
      try clear hcz62_0
      try clear hcz62_1
      try clear hcz62_2
      try clear hcz66_0
      try clear hcz66_1
      try clear hcz70_0
      try clear hcz70_1
      try clear hfz14_0
      try clear hfz14_1
      try clear hfz14_2
      try clear hfz16_0
      try clear hfz16_1
      try clear hfz16_2
      try clear hfz19_0
      try clear hfz19_1
      try clear hfz19_2
      try clear hfz26_0
      try clear hfz26_1
      try clear hfz29_0
      try clear hfz29_1
      try clear hfz29_2
      try clear hfz33_0
      try clear hfz33_1
      try clear hfz37_0
      try clear hfz37_1
      try clear hfz43_0
      try clear hfz43_1
      try clear hfz43_2
      try clear hfz46_0
      try clear hfz46_1
      try clear hfz49_0
      try clear hfz49_1
      try clear hfz49_2
      try clear hfz51_0
      try clear hfz51_1
      try clear hfz51_2
      try clear hfz52_0
      try clear hfz52_1
      try clear hfz52_2
      try clear hfz59_0
      try clear hfz59_1
      try clear hfz62_0
      try clear hfz62_1
      try clear hfz62_2
      try clear hfz66_0
      try clear hfz66_1
      try clear hfz70_0
      try clear hfz70_1
      try clear p2
      obtain ⟨kq, x43_52, rfl, HA, HJ52, HO_187000, BK186, BK187, BK188, BK189, HB⟩ := hcut
      cases kq with
      | zero => exact absurd HA.out (by simp [impl_StepClient.j1])
      | succ kj52 =>
       have H := HA.out
       clear HA
       simp only [impl_StepClient.j1] at H
       by_cases c71 : x43_52 = true
       ·subst c71
        have H1 : ((impl_emit.f a0_1 a0_2).bind fun bt198 => (if (t191.length : Int) > 0 then (if 0 < (t191.length : Int) then (if 1 ≤ (t191.length : Int) then (some ((t191.drop (1 : Int).toNat), wrap64 (a0_1 + 1), a0_2, bt198.1, bt198.2.1, bt198.2.2, rdOf ByteArray.empty t191 0, true)) else (none)) else (none)) else (some (t191, wrap64 (a0_1 + 1), a0_2, bt198.1, bt198.2.1, bt198.2.2, (⟨#[]⟩ : ByteArray), true)))) = some (r1, r2, r3, r4, r5, r6, r7, r8) := by rw [if_pos rfl] at H; exact H
        clear H
        have H := H1
        clear H1
        replace H := oB H
        obtain ⟨⟨t198, t199, t200⟩, A720, H⟩ := H
        replace H : (if (t191.length : Int) > 0 then (if 0 < (t191.length : Int) then (if 1 ≤ (t191.length : Int) then (some ((t191.drop (1 : Int).toNat), wrap64 (a0_1 + 1), a0_2, t198, t199, t200, rdOf ByteArray.empty t191 0, true)) else (none)) else (none)) else (some (t191, wrap64 (a0_1 + 1), a0_2, t198, t199, t200, (⟨#[]⟩ : ByteArray), true))) = some (r1, r2, r3, r4, r5, r6, r7, r8) := H
        have A72 := Aside0.mk A720
        clear A720
        by_cases c73 : (t191.length : Int) > 0
        ·rw [if_pos c73] at H
         have c73b0 : decide (0 < (t191.length : Int)) = true := decide_eq_true c73
         have c73b1 : decide (0 < t191.length) = true := decide_eq_true (by omega)
         clear c73
         by_cases c74 : 0 < (t191.length : Int)
         ·rw [if_pos c74] at H
          have c74b0 : decide (0 < (t191.length : Int)) = true := decide_eq_true c74
          have c74b1 : decide (0 < t191.length) = true := decide_eq_true (by omega)
          clear c74
          by_cases c75 : 1 ≤ (t191.length : Int)
          ·rw [if_pos c75] at H
           have c75b0 := eq_true c75
           have c75b1 : decide (1 ≤ (t191.length : Int)) = true := decide_eq_true c75
           clear c75
           obtain ⟨y203, hy203⟩ : ∃ y_ : List ByteArray, y_ = (t191.drop (1 : Int).toNat) := ⟨_, rfl⟩
           replace H : (some (y203, wrap64 (a0_1 + 1), a0_2, t198, t199, t200, rdOf ByteArray.empty t191 0, true)) = some (r1, r2, r3, r4, r5, r6, r7, r8) := by first | (rw [hy203]; with_reducible exact H) | (have H2_ := (Option.bind_some _ _).symm.trans H; rw [hy203]; with_reducible exact H2_) | (have H2_ := (Option.bind_some _ _).symm.trans H; with_reducible exact H2_) | with_reducible exact H | (rw [hy203]; exact H) | exact H
           have Ny203 := Aside0.mk hy203
           clear hy203
           simp only [Option.some.injEq, Prod.mk.injEq] at H
           obtain ⟨rfl, rfl, rfl, rfl, rfl, rfl, rfl, rfl⟩ := H
           have hnb76 := NB186_187.out
           have hnc76 := NB187_186.out
           have hnb77 := NB186_188.out
           have hnc77 := NB188_186.out
           have hnb78 := NB186_189.out
           have hnc78 := NB189_186.out
           have hcz79_0 : wc.cell? ⟨gb186, 0, none⟩ = some (.slice Ao18 t191.length co18) := (lC BK186.out 0).trans rfl
           have hcz79_1 : wc.cell? ⟨gb186, 1, none⟩ = some (.int .i64 a0_1) := (lC BK186.out 1).trans rfl
           have hcz79_2 : wc.cell? ⟨gb186, 2, none⟩ = some (.int .i64 a0_2) := (lC BK186.out 2).trans rfl
           have hfz79_0 := lF BK186.out 0
           have hfz79_1 := lF BK186.out 1
           have hfz79_2 := lF BK186.out 2
           try go_wp2_with (first | ((with_reducible refine gate_callee (f := 31) rfl ?_); refine goesL_ (some 61) rfl rfl Try.func31 (by kernel_rfl) rfl #[.int .i64 a0_1, .int .i64 a0_2] rfl (by (try simp only [List.map_toArray, List.map_cons, List.map_nil]); first | done | rfl | (simp only [List.length_drop, List.length_take]; rfl)) ?_; (with_reducible refine (impl_emit.calls a0_1 a0_2 t198 t199 t200 _ A72.out).mono ?_); rintro e w80 ⟨rfl, hb⟩; refine ⟨_, rfl, ?_⟩; have n0_ := Aside0.mk (Kd.Q_below (by (with_reducible repeat (first | apply qA | apply qN | apply qD)); exact HO_187000.out) hb); have n1_ := Aside0.mk (blk_below (g := gb186) (o := .cells #[.slice Ao18 t191.length co18, .int .i64 a0_1, .int .i64 a0_2] 29 (0, 0)) (by (with_reducible repeat (first | refine lN ?_ _ | refine lD ?_ | refine lA ?_ _)); exact BK186.out) hb); have n2_ := Aside0.mk (blk_below (g := gb187) (o := .cells #[.int .i64 a1_0, .string a1_1] 35 (0, 0)) (by (with_reducible repeat (first | refine lN ?_ _ | refine lD ?_ | refine lA ?_ _)); exact BK187.out) hb); have n3_ := Aside0.mk (blk_below (g := gb188) (o := .cells #[.slice none 0 0, .int .i64 0, .int .i64 0] 29 (0, 0)) (by (with_reducible repeat (first | refine lN ?_ _ | refine lD ?_ | refine lA ?_ _)); exact BK188.out) hb); have n4_ := Aside0.mk (blk_below (g := gb189) (o := .cells #[.int .i64 0, .int .i64 0, .int .i64 0] 31 (0, 0)) (by (with_reducible repeat (first | refine lN ?_ _ | refine lD ?_ | refine lA ?_ _)); exact BK189.out) hb); have n5_ := Aside0.mk (below_step (by repeat (first | (with_reducible first | exact HB.out | apply bA | apply bN | apply bD | refine bS ?_ GE186.out | refine bS ?_ GE187.out | refine bS ?_ GE188.out | refine bS ?_ GE189.out) | exact HB.out)) hb); clear HO_187000; clear BK186; clear BK187; clear BK188; clear BK189; clear HB; have HO_187000 := n0_; have BK186 := n1_; have BK187 := n2_; have BK188 := n3_; have BK189 := n4_; have HB := n5_; clear n0_ n1_ n2_ n3_ n4_ n5_; (try clear hb); (try clear hb2); (try clear hk); (try clear hi)) | ((with_reducible refine gate_dst (N := 8) rfl ?_); (try (refine gate_guard (by rfl) ?_; dsimp only)); refine box_event ?hg (N := 8) ?hd (cs := #[.int .i64 0, .int .i64 0, .int .i64 0]) (t := 31) ?hr ?_; (case hd => rfl); (case hg => rfl); (case hr => first | (go_simp; done) | (go_simp; rfl)); intro gb201 hg w81 hbox hb; have n0_ := Aside0.mk (Kd.Q_below (by (with_reducible repeat (first | apply qA | apply qN | apply qD)); exact HO_187000.out) hb); have n1_ := Aside0.mk (blk_below (g := gb186) (o := .cells #[.slice Ao18 t191.length co18, .int .i64 a0_1, .int .i64 a0_2] 29 (0, 0)) (by (with_reducible repeat (first | refine lN ?_ _ | refine lD ?_ | refine lA ?_ _)); exact BK186.out) hb); have n2_ := Aside0.mk (blk_below (g := gb187) (o := .cells #[.int .i64 a1_0, .string a1_1] 35 (0, 0)) (by (with_reducible repeat (first | refine lN ?_ _ | refine lD ?_ | refine lA ?_ _)); exact BK187.out) hb); have n3_ := Aside0.mk (blk_below (g := gb188) (o := .cells #[.slice none 0 0, .int .i64 0, .int .i64 0] 29 (0, 0)) (by (with_reducible repeat (first | refine lN ?_ _ | refine lD ?_ | refine lA ?_ _)); exact BK188.out) hb); have n4_ := Aside0.mk (blk_below (g := gb189) (o := .cells #[.int .i64 0, .int .i64 0, .int .i64 0] 31 (0, 0)) (by (with_reducible repeat (first | refine lN ?_ _ | refine lD ?_ | refine lA ?_ _)); exact BK189.out) hb); have n5_ := Aside0.mk (below_step (by repeat (first | (with_reducible first | exact HB.out | apply bA | apply bN | apply bD | refine bS ?_ GE186.out | refine bS ?_ GE187.out | refine bS ?_ GE188.out | refine bS ?_ GE189.out) | exact HB.out)) hb); have n6_ := Aside0.mk (hbox); have n7_ := Aside0.mk ((by rw [hg]; exact (below_size (by repeat (first | (with_reducible first | exact HB.out | apply bA | apply bN | apply bD | refine bS ?_ GE186.out | refine bS ?_ GE187.out | refine bS ?_ GE188.out | refine bS ?_ GE189.out) | exact HB.out))) : w.heap.size ≤ gb201)); have n8_ := Aside0.mk ((by rw [hg]; exact (below_size (by repeat (first | (with_reducible first | exact HB.out | apply bA | apply bN | apply bD | refine bS ?_ GE186.out | refine bS ?_ GE187.out | refine bS ?_ GE188.out | refine bS ?_ GE189.out) | exact HB.out))) : w.heap.size ≤ gb201)); have n9_ := Aside0.mk ((by rw [hg]; exact Nat.ne_of_lt (blk_lt (g := gb186) (o := .cells #[.slice Ao18 t191.length co18, .int .i64 a0_1, .int .i64 a0_2] 29 (0, 0)) (by (with_reducible repeat (first | refine lN ?_ _ | refine lD ?_ | refine lA ?_ _)); exact BK186.out)) : gb186 ≠ gb201)); have n10_ := Aside0.mk ((by rw [hg]; exact Nat.ne_of_gt (blk_lt (g := gb186) (o := .cells #[.slice Ao18 t191.length co18, .int .i64 a0_1, .int .i64 a0_2] 29 (0, 0)) (by (with_reducible repeat (first | refine lN ?_ _ | refine lD ?_ | refine lA ?_ _)); exact BK186.out)) : gb201 ≠ gb186)); have n11_ := Aside0.mk ((by rw [hg]; exact Nat.ne_of_lt (blk_lt (g := gb187) (o := .cells #[.int .i64 a1_0, .string a1_1] 35 (0, 0)) (by (with_reducible repeat (first | refine lN ?_ _ | refine lD ?_ | refine lA ?_ _)); exact BK187.out)) : gb187 ≠ gb201)); have n12_ := Aside0.mk ((by rw [hg]; exact Nat.ne_of_gt (blk_lt (g := gb187) (o := .cells #[.int .i64 a1_0, .string a1_1] 35 (0, 0)) (by (with_reducible repeat (first | refine lN ?_ _ | refine lD ?_ | refine lA ?_ _)); exact BK187.out)) : gb201 ≠ gb187)); have n13_ := Aside0.mk ((by rw [hg]; exact Nat.ne_of_lt (blk_lt (g := gb188) (o := .cells #[.slice none 0 0, .int .i64 0, .int .i64 0] 29 (0, 0)) (by (with_reducible repeat (first | refine lN ?_ _ | refine lD ?_ | refine lA ?_ _)); exact BK188.out)) : gb188 ≠ gb201)); have n14_ := Aside0.mk ((by rw [hg]; exact Nat.ne_of_gt (blk_lt (g := gb188) (o := .cells #[.slice none 0 0, .int .i64 0, .int .i64 0] 29 (0, 0)) (by (with_reducible repeat (first | refine lN ?_ _ | refine lD ?_ | refine lA ?_ _)); exact BK188.out)) : gb201 ≠ gb188)); have n15_ := Aside0.mk ((by rw [hg]; exact Nat.ne_of_lt (blk_lt (g := gb189) (o := .cells #[.int .i64 0, .int .i64 0, .int .i64 0] 31 (0, 0)) (by (with_reducible repeat (first | refine lN ?_ _ | refine lD ?_ | refine lA ?_ _)); exact BK189.out)) : gb189 ≠ gb201)); have n16_ := Aside0.mk ((by rw [hg]; exact Nat.ne_of_gt (blk_lt (g := gb189) (o := .cells #[.int .i64 0, .int .i64 0, .int .i64 0] 31 (0, 0)) (by (with_reducible repeat (first | refine lN ?_ _ | refine lD ?_ | refine lA ?_ _)); exact BK189.out)) : gb201 ≠ gb189)); clear HO_187000; clear BK186; clear BK187; clear BK188; clear BK189; clear HB; have HO_187000 := n0_; have BK186 := n1_; have BK187 := n2_; have BK188 := n3_; have BK189 := n4_; have HB := n5_; have BK201 := n6_; have GW201 := n7_; have GE201 := n8_; have NB186_201 := n9_; have NB201_186 := n10_; have NB187_201 := n11_; have NB201_187 := n12_; have NB188_201 := n13_; have NB201_188 := n14_; have NB189_201 := n15_; have NB201_189 := n16_; clear n0_ n1_ n2_ n3_ n4_ n5_ n6_ n7_ n8_ n9_ n10_ n11_ n12_ n13_ n14_ n15_ n16_; clear hb hbox hg; have hnb82 := NB201_186.out; have hnc82 := NB186_201.out; have hnb83 := NB201_187.out; have hnc83 := NB187_201.out; have hnb84 := NB201_188.out; have hnc84 := NB188_201.out; have hnb85 := NB201_189.out; have hnc85 := NB189_201.out; have hcz86_0 : w81.cell? ⟨gb201, 0, none⟩ = some (.int .i64 0) := (lC BK201.out 0).trans rfl; have hcz86_1 : w81.cell? ⟨gb201, 1, none⟩ = some (.int .i64 0) := (lC BK201.out 1).trans rfl; have hcz86_2 : w81.cell? ⟨gb201, 2, none⟩ = some (.int .i64 0) := (lC BK201.out 2).trans rfl; have hfz86_0 := lF BK201.out 0; have hfz86_1 := lF BK201.out 1; have hfz86_2 := lF BK201.out 2; have hcz87_0 : w81.cell? ⟨gb186, 0, none⟩ = some (.slice Ao18 t191.length co18) := (lC BK186.out 0).trans rfl; have hcz87_1 : w81.cell? ⟨gb186, 1, none⟩ = some (.int .i64 a0_1) := (lC BK186.out 1).trans rfl; have hcz87_2 : w81.cell? ⟨gb186, 2, none⟩ = some (.int .i64 a0_2) := (lC BK186.out 2).trans rfl; have hfz87_0 := lF BK186.out 0; have hfz87_1 := lF BK186.out 1; have hfz87_2 := lF BK186.out 2))
           have n0_ : Aside0 (Kd.Q Kd.string 9 (((w81.setCell ⟨gb201, 0, none⟩ (.int .i64 t198)).setCell ⟨gb201, 1, none⟩ (.int .i64 t199)).setCell ⟨gb201, 2, none⟩ (.int .i64 t200)) w.heap.size (fun _ => True) (.slice Ao18 t191.length co18) t191) := ⟨by (with_reducible repeat (first | apply qA | apply qN | apply qD)); exact Kd.Q_mono (Kd.Q_far (p := ⟨gb201, 2, none⟩) (Kd.Q_far (p := ⟨gb201, 1, none⟩) (Kd.Q_far (p := ⟨gb201, 0, none⟩) (Kd.Q_types HO_187000.out BK201.out (by decide)) (fun _ hk => hk.2) (.int .i64 t198)) (fun _ hk => hk.2) (.int .i64 t199)) (fun _ hk => hk.2) (.int .i64 t200)) (fun _ hk => trivial)⟩
           have n1_ : Aside0 ((((w81.setCell ⟨gb201, 0, none⟩ (.int .i64 t198)).setCell ⟨gb201, 1, none⟩ (.int .i64 t199)).setCell ⟨gb201, 2, none⟩ (.int .i64 t200)).heap[gb186]? = some (.cells #[.slice Ao18 t191.length co18, .int .i64 a0_1, .int .i64 a0_2] 29 (0, 0))) := ⟨by (with_reducible repeat (first | refine lN ?_ _ | refine lD ?_ | refine lA ?_ _)); refine lX ?_ NB186_201.out _; (with_reducible repeat (first | refine lN ?_ _ | refine lD ?_ | refine lA ?_ _)); refine lX ?_ NB186_201.out _; (with_reducible repeat (first | refine lN ?_ _ | refine lD ?_ | refine lA ?_ _)); refine lX ?_ NB186_201.out _; (with_reducible repeat (first | refine lN ?_ _ | refine lD ?_ | refine lA ?_ _)); exact BK186.out⟩
           have n2_ : Aside0 ((((w81.setCell ⟨gb201, 0, none⟩ (.int .i64 t198)).setCell ⟨gb201, 1, none⟩ (.int .i64 t199)).setCell ⟨gb201, 2, none⟩ (.int .i64 t200)).heap[gb187]? = some (.cells #[.int .i64 a1_0, .string a1_1] 35 (0, 0))) := ⟨by (with_reducible repeat (first | refine lN ?_ _ | refine lD ?_ | refine lA ?_ _)); refine lX ?_ NB187_201.out _; (with_reducible repeat (first | refine lN ?_ _ | refine lD ?_ | refine lA ?_ _)); refine lX ?_ NB187_201.out _; (with_reducible repeat (first | refine lN ?_ _ | refine lD ?_ | refine lA ?_ _)); refine lX ?_ NB187_201.out _; (with_reducible repeat (first | refine lN ?_ _ | refine lD ?_ | refine lA ?_ _)); exact BK187.out⟩
           have n3_ : Aside0 ((((w81.setCell ⟨gb201, 0, none⟩ (.int .i64 t198)).setCell ⟨gb201, 1, none⟩ (.int .i64 t199)).setCell ⟨gb201, 2, none⟩ (.int .i64 t200)).heap[gb188]? = some (.cells #[.slice none 0 0, .int .i64 0, .int .i64 0] 29 (0, 0))) := ⟨by (with_reducible repeat (first | refine lN ?_ _ | refine lD ?_ | refine lA ?_ _)); refine lX ?_ NB188_201.out _; (with_reducible repeat (first | refine lN ?_ _ | refine lD ?_ | refine lA ?_ _)); refine lX ?_ NB188_201.out _; (with_reducible repeat (first | refine lN ?_ _ | refine lD ?_ | refine lA ?_ _)); refine lX ?_ NB188_201.out _; (with_reducible repeat (first | refine lN ?_ _ | refine lD ?_ | refine lA ?_ _)); exact BK188.out⟩
           have n4_ : Aside0 ((((w81.setCell ⟨gb201, 0, none⟩ (.int .i64 t198)).setCell ⟨gb201, 1, none⟩ (.int .i64 t199)).setCell ⟨gb201, 2, none⟩ (.int .i64 t200)).heap[gb189]? = some (.cells #[.int .i64 0, .int .i64 0, .int .i64 0] 31 (0, 0))) := ⟨by (with_reducible repeat (first | refine lN ?_ _ | refine lD ?_ | refine lA ?_ _)); refine lX ?_ NB189_201.out _; (with_reducible repeat (first | refine lN ?_ _ | refine lD ?_ | refine lA ?_ _)); refine lX ?_ NB189_201.out _; (with_reducible repeat (first | refine lN ?_ _ | refine lD ?_ | refine lA ?_ _)); refine lX ?_ NB189_201.out _; (with_reducible repeat (first | refine lN ?_ _ | refine lD ?_ | refine lA ?_ _)); exact BK189.out⟩
           have n5_ : Aside0 ((((w81.setCell ⟨gb201, 0, none⟩ (.int .i64 t198)).setCell ⟨gb201, 1, none⟩ (.int .i64 t199)).setCell ⟨gb201, 2, none⟩ (.int .i64 t200)).heap[gb201]? = some (.cells #[.int .i64 t198, .int .i64 t199, .int .i64 t200] 31 (0, 0))) := ⟨by (with_reducible repeat (first | refine lN ?_ _ | refine lD ?_ | refine lA ?_ _)); refine lP (cs := #[.int .i64 t198, .int .i64 t199, .int .i64 0]) ?_ 2 _ rfl; (with_reducible repeat (first | refine lN ?_ _ | refine lD ?_ | refine lA ?_ _)); refine lP (cs := #[.int .i64 t198, .int .i64 0, .int .i64 0]) ?_ 1 _ rfl; (with_reducible repeat (first | refine lN ?_ _ | refine lD ?_ | refine lA ?_ _)); refine lP (cs := #[.int .i64 0, .int .i64 0, .int .i64 0]) ?_ 0 _ rfl; (with_reducible repeat (first | refine lN ?_ _ | refine lD ?_ | refine lA ?_ _)); exact BK201.out⟩
           have n6_ : Aside0 (Below w.heap.size w (((w81.setCell ⟨gb201, 0, none⟩ (.int .i64 t198)).setCell ⟨gb201, 1, none⟩ (.int .i64 t199)).setCell ⟨gb201, 2, none⟩ (.int .i64 t200))) := ⟨by repeat (first | (with_reducible first | exact HB.out | apply bA | apply bN | apply bD | refine bS ?_ GE186.out | refine bS ?_ GE187.out | refine bS ?_ GE188.out | refine bS ?_ GE189.out | refine bS ?_ GE201.out) | exact HB.out)⟩
           (try clear HO_187000)
           (try clear BK186)
           (try clear BK187)
           (try clear BK188)
           (try clear BK189)
           (try clear BK201)
           (try clear HB)
           have sd_ : ∀ (w_ : World) (n_ : Nat) (a_ : Addr) (v_ : Value), (w_.drewN n_).setCell a_ v_ = (w_.setCell a_ v_).drewN n_ := fun _ _ _ _ => rfl
           (repeat rw [sd_])
           clear sd_
           generalize (((w81.setCell ⟨gb201, 0, none⟩ (.int .i64 t198)).setCell ⟨gb201, 1, none⟩ (.int .i64 t199)).setCell ⟨gb201, 2, none⟩ (.int .i64 t200)) = w88 at n0_ n1_ n2_ n3_ n4_ n5_ n6_ ⊢
           have HO_187000 := n0_
           have BK186 := n1_
           have BK187 := n2_
           have BK188 := n3_
           have BK189 := n4_
           have BK201 := n5_
           have HB := n6_
           clear n0_ n1_ n2_ n3_ n4_ n5_ n6_
           have n0_ := Aside0.mk (qD HO_187000.out)
           have n1_ := Aside0.mk (lD BK186.out)
           have n2_ := Aside0.mk (lD BK187.out)
           have n3_ := Aside0.mk (lD BK188.out)
           have n4_ := Aside0.mk (lD BK189.out)
           have n5_ := Aside0.mk (lD BK201.out)
           have n6_ := Aside0.mk (bD HB.out)
           clear HO_187000
           clear BK186
           clear BK187
           clear BK188
           clear BK189
           clear BK201
           clear HB
           have HO_187000 := n0_
           have BK186 := n1_
           have BK187 := n2_
           have BK188 := n3_
           have BK189 := n4_
           have BK201 := n5_
           have HB := n6_
           clear n0_ n1_ n2_ n3_ n4_ n5_ n6_
           have p202 : 0 ≤ (0 : Int) := (by omega)
           have q202 : 0 < (t191.length : Int) := of_decide_eq_true (by first | (with_reducible assumption) | assumption)
           obtain ⟨ad202, e202, hx202_0⟩ := Kd.at_string (Kd.Q_reads' HO_187000.out).2.2 0 p202 q202
           cases e202
           have qi202 : (0 < t191.length) = True := eq_true (by omega)
           (try rw [show ((0 : Int)).toNat = 0 from rfl] at hx202_0)
           (try rw [Addr.add_zero'] at hx202_0)
           replace p202 := eq_true p202
           replace q202 := eq_true q202
           have q90 : (1 : Int) ≤ ((t191.length : Int) : Int) := of_decide_eq_true (by first | (with_reducible assumption) | assumption)
           obtain ⟨i090, hi090, _, hsz90, _⟩ := info_parts info9
           have hcut90 := cut_from (P := Try.prog) 22 9 .i64 Try.underlying22 hi090 1 hsz90 (some ad202) t191.length co18 1 (by omega) q90
           have hr90 := Kd.Q_drop (k := (1 : Int).toNat) HO_187000.out (by omega)
           obtain ⟨A90, hA90⟩ : ∃ A1, A1 = (if co18 = (1 : Int).toNat then (some ad202) else ((some ad202) : Option Addr).map (·.add ((1 : Int).toNat * 1))) := ⟨_, rfl⟩
           obtain ⟨c90, hc90⟩ : ∃ c1, c1 = co18 - (1 : Int).toNat := ⟨_, rfl⟩
           have hy90 : y203.length = t191.length - (1 : Int).toNat := (by rw [Ny203.out, List.length_drop])
           rw [← Ny203.out] at hr90
           rw [← hy90, ← hA90, ← hc90] at hcut90
           replace hr90 : Kd.Q Kd.string 9 _ w.heap.size (fun _ => True) (.slice A90 y203.length c90) y203 := (by rw [hA90, hc90, hy90]; exact hr90)
           have HE90 : Aside0 ((Value.slice A90 y203.length c90).ownBlock = (.slice (some ad202) t191.length co18 : Value).ownBlock) := ⟨by rw [hA90]; split <;> (cases ((some ad202) : Option Addr) <;> rfl)⟩
           clear hy90 hi090 hsz90 HO_187000 hA90 hc90
           have HO205 := Aside0.mk hr90
           clear hr90
           replace q90 := eq_true q90
           refine start_ (n := 10) (S := fun w' => w'.cell? ⟨gb186, 0, none⟩ = some (.slice (some ad202) t191.length co18) ∧ w'.cell? ⟨gb186, 1, none⟩ = some (.int .i64 a0_1) ∧ w'.cell? ⟨gb186, 2, none⟩ = some (.int .i64 a0_2) ∧ w'.cell? ad202 = some (.string (rdOf ByteArray.empty t191 0))) (ds := [9]) #[false, false, false, false, false, false, false, false, false, false] (by kernel_rfl) rfl rfl ⟨(lC BK186.out 0).trans rfl, (lC BK186.out 1).trans rfl, (lC BK186.out 2).trans rfl, hx202_0⟩ (fun hHeld => ?_); refine with_tabW impl_StepClient.tab10 impl_StepClient.bits10 (fun HT_ HW_ => ?_)
           generalize w88.drew = w89 at BK186 BK187 BK188 BK189 BK201 HB HO205 hx202_0 hHeld ⊢
           refine pure_ (i := 0) (N := some 66) (v := ?_) (a' := ?_) #[true, false, false, false, false, false, false, false, false, false] rfl rfl (any_of HT_.out (by kernel_rfl)) (fun _ _ _ h => h) (Or.inl ⟨by rfl, ?_⟩) ?_ ?_
           rotate_left
           ·intro w'
            go_simp
            with_reducible rfl
           rotate_left
           ·simp only [Act.put, List.setIfInBounds_toArray, List.set_cons_zero, List.set_cons_succ, i64_w, i32_w]
            rfl
           refine pure_ (i := 4) (N := some 70) (v := ?_) (a' := ?_) #[true, false, false, false, true, false, false, false, false, false] rfl rfl (any_of HT_.out (by kernel_rfl)) (fun _ _ _ h => h) (Or.inl ⟨by rfl, ?_⟩) ?_ ?_
           rotate_left
           ·intro w'
            go_simp
            with_reducible rfl
           rotate_left
           ·simp only [Act.put, List.setIfInBounds_toArray, List.set_cons_zero, List.set_cons_succ, i64_w, i32_w]
            rfl
           refine take_ (i := 1) (N := some 67) (v := ?_) (a' := ?_) #[true, true, false, false, true, false, false, false, false, false] rfl rfl (take_ofW HT_.out HW_.out (by kernel_rfl)) (fun _ _ _ h => h) (Or.inl ⟨by rfl, ?_⟩) hHeld ?_ ?_
           rotate_left
           ·rintro w' ⟨s0, s1, s2, s3⟩
            go_simp
            with_reducible rfl
           rotate_left
           ·simp only [Act.put, List.setIfInBounds_toArray, List.set_cons_zero, List.set_cons_succ, i64_w, i32_w]
            rfl
           refine pure_ (i := 2) (N := some 68) (v := ?_) (a' := ?_) #[true, true, true, false, true, false, false, false, false, false] rfl rfl (any_of HT_.out (by kernel_rfl)) (fun _ _ _ h => h) (Or.inl ⟨by rfl, ?_⟩) ?_ ?_
           rotate_left
           ·intro w'
            go_simp
            with_reducible rfl
           rotate_left
           ·simp only [Act.put, List.setIfInBounds_toArray, List.set_cons_zero, List.set_cons_succ, i64_w, i32_w]
            rfl
           refine take_ (i := 3) (N := some 69) (v := ?_) (a' := ?_) #[true, true, true, true, true, false, false, false, false, false] rfl rfl (take_ofW HT_.out HW_.out (by kernel_rfl)) (fun _ _ _ h => h) (Or.inl ⟨by rfl, ?_⟩) hHeld ?_ ?_
           rotate_left
           ·rintro w' ⟨s0, s1, s2, s3⟩
            go_simp
            with_reducible rfl
           rotate_left
           ·simp only [Act.put, List.setIfInBounds_toArray, List.set_cons_zero, List.set_cons_succ, i64_w, i32_w]
            rfl
           refine pure_ (i := 7) (N := some 9) (v := ?_) (a' := ?_) #[true, true, true, true, true, false, false, true, false, false] rfl rfl (any_of HT_.out (by kernel_rfl)) (fun _ _ _ h => h) (Or.inl ⟨by rfl, ?_⟩) ?_ ?_
           rotate_left
           ·intro w'
            go_simp
            with_reducible rfl
           rotate_left
           ·simp only [Act.put, List.setIfInBounds_toArray, List.set_cons_zero, List.set_cons_succ, i64_w, i32_w]
            rfl
           refine take_ (i := 5) (N := some 71) (v := ?_) (a' := ?_) #[true, true, true, true, true, true, false, true, false, false] rfl rfl (take_ofW HT_.out HW_.out (by kernel_rfl)) (fun _ _ _ h => h) (Or.inl ⟨by rfl, ?_⟩) hHeld ?_ ?_
           rotate_left
           ·rintro w' ⟨s0, s1, s2, s3⟩
            go_simp
            with_reducible rfl
           rotate_left
           ·simp only [Act.put, List.setIfInBounds_toArray, List.set_cons_zero, List.set_cons_succ, i64_w, i32_w]
            rfl
           refine pure_ (i := 6) (N := some 72) (v := ?_) (a' := ?_) #[true, true, true, true, true, true, true, true, false, false] rfl rfl (any_of HT_.out (by kernel_rfl)) (fun _ _ _ h => h) (Or.inl ⟨by rfl, ?_⟩) ?_ ?_
           rotate_left
           ·intro w'
            go_simp
            with_reducible rfl
           rotate_left
           ·simp only [Act.put, List.setIfInBounds_toArray, List.set_cons_zero, List.set_cons_succ, i64_w, i32_w]
            rfl
           refine pure_ (i := 8) (N := some 73) (v := ?_) (a' := ?_) #[true, true, true, true, true, true, true, true, true, false] rfl rfl (any_of HT_.out (by kernel_rfl)) (fun _ _ _ h => h) (Or.inl ⟨by rfl, ?_⟩) ?_ ?_
           rotate_left
           ·intro w'
            go_simp
            with_reducible rfl
           rotate_left
           ·simp only [Act.put, List.setIfInBounds_toArray, List.set_cons_zero, List.set_cons_succ, i64_w, i32_w]
            rfl
           refine last_ (i := 9) (N := none) #[true, true, true, true, true, true, true, true, true, true] rfl rfl (one_of HT_.out (by kernel_rfl)) (by decide) (fun K hK => ?_)
           have hs91 : w89.cell? ⟨gb186, 0, none⟩ = some (.slice (some ad202) t191.length co18) := (lC BK186.out 0).trans rfl
           have hfs91 := lF BK186.out 0
           have hns91_1 := NB187_186.out
           have hns91_2 := NB188_186.out
           have hns91_3 := NB189_186.out
           have hns91_4 := NB201_186.out
           have hms91_1 := NB186_187.out
           have hms91_2 := NB186_188.out
           have hms91_3 := NB186_189.out
           have hms91_4 := NB186_201.out
           refine skip_ (w1 := ?_) (by rfl) rfl ?_ ?_
           rotate_left
           ·go_simp
            rfl
           refine hK.out _ _ ?_
           clear hK K
           refine done_ (done_of HT_.out (by kernel_rfl)) ?_
           have hcz92_0 : w89.cell? ⟨gb186, 0, none⟩ = some (.slice (some ad202) t191.length co18) := (lC BK186.out 0).trans rfl
           have hcz92_1 : w89.cell? ⟨gb186, 1, none⟩ = some (.int .i64 a0_1) := (lC BK186.out 1).trans rfl
           have hcz92_2 : w89.cell? ⟨gb186, 2, none⟩ = some (.int .i64 a0_2) := (lC BK186.out 2).trans rfl
           have hfz92_0 := lF BK186.out 0
           have hfz92_1 := lF BK186.out 1
           have hfz92_2 := lF BK186.out 2
           try go_wp2
           have n0_ : Aside0 (Kd.Q Kd.string 9 ((w89.setCell ⟨gb186, 0, none⟩ (.slice A90 y203.length c90)).setCell ⟨gb186, 1, none⟩ (.int .i64 (wrap64 (a0_1 + 1)))) w.heap.size (fun _ => True) (.slice A90 y203.length c90) y203) := ⟨by (with_reducible repeat (first | apply qA | apply qN | apply qD)); exact Kd.Q_mono (Kd.Q_far (p := ⟨gb186, 1, none⟩) (Kd.Q_far (p := ⟨gb186, 0, none⟩) (Kd.Q_types HO205.out BK186.out (by decide)) (fun _ hk => hk.2) (.slice A90 y203.length c90)) (fun _ hk => hk.2) (.int .i64 (wrap64 (a0_1 + 1)))) (fun _ hk => trivial)⟩
           have n1_ : Aside0 (((w89.setCell ⟨gb186, 0, none⟩ (.slice A90 y203.length c90)).setCell ⟨gb186, 1, none⟩ (.int .i64 (wrap64 (a0_1 + 1)))).heap[gb186]? = some (.cells #[.slice A90 y203.length c90, .int .i64 (wrap64 (a0_1 + 1)), .int .i64 a0_2] 29 (0, 0))) := ⟨by (with_reducible repeat (first | refine lN ?_ _ | refine lD ?_ | refine lA ?_ _)); refine lP (cs := #[.slice A90 y203.length c90, .int .i64 a0_1, .int .i64 a0_2]) ?_ 1 _ rfl; (with_reducible repeat (first | refine lN ?_ _ | refine lD ?_ | refine lA ?_ _)); refine lP (cs := #[.slice (some ad202) t191.length co18, .int .i64 a0_1, .int .i64 a0_2]) ?_ 0 _ rfl; (with_reducible repeat (first | refine lN ?_ _ | refine lD ?_ | refine lA ?_ _)); exact BK186.out⟩
           have n2_ : Aside0 (((w89.setCell ⟨gb186, 0, none⟩ (.slice A90 y203.length c90)).setCell ⟨gb186, 1, none⟩ (.int .i64 (wrap64 (a0_1 + 1)))).heap[gb187]? = some (.cells #[.int .i64 a1_0, .string a1_1] 35 (0, 0))) := ⟨by (with_reducible repeat (first | refine lN ?_ _ | refine lD ?_ | refine lA ?_ _)); refine lX ?_ NB187_186.out _; (with_reducible repeat (first | refine lN ?_ _ | refine lD ?_ | refine lA ?_ _)); refine lX ?_ NB187_186.out _; (with_reducible repeat (first | refine lN ?_ _ | refine lD ?_ | refine lA ?_ _)); exact BK187.out⟩
           have n3_ : Aside0 (((w89.setCell ⟨gb186, 0, none⟩ (.slice A90 y203.length c90)).setCell ⟨gb186, 1, none⟩ (.int .i64 (wrap64 (a0_1 + 1)))).heap[gb188]? = some (.cells #[.slice none 0 0, .int .i64 0, .int .i64 0] 29 (0, 0))) := ⟨by (with_reducible repeat (first | refine lN ?_ _ | refine lD ?_ | refine lA ?_ _)); refine lX ?_ NB188_186.out _; (with_reducible repeat (first | refine lN ?_ _ | refine lD ?_ | refine lA ?_ _)); refine lX ?_ NB188_186.out _; (with_reducible repeat (first | refine lN ?_ _ | refine lD ?_ | refine lA ?_ _)); exact BK188.out⟩
           have n4_ : Aside0 (((w89.setCell ⟨gb186, 0, none⟩ (.slice A90 y203.length c90)).setCell ⟨gb186, 1, none⟩ (.int .i64 (wrap64 (a0_1 + 1)))).heap[gb189]? = some (.cells #[.int .i64 0, .int .i64 0, .int .i64 0] 31 (0, 0))) := ⟨by (with_reducible repeat (first | refine lN ?_ _ | refine lD ?_ | refine lA ?_ _)); refine lX ?_ NB189_186.out _; (with_reducible repeat (first | refine lN ?_ _ | refine lD ?_ | refine lA ?_ _)); refine lX ?_ NB189_186.out _; (with_reducible repeat (first | refine lN ?_ _ | refine lD ?_ | refine lA ?_ _)); exact BK189.out⟩
           have n5_ : Aside0 (((w89.setCell ⟨gb186, 0, none⟩ (.slice A90 y203.length c90)).setCell ⟨gb186, 1, none⟩ (.int .i64 (wrap64 (a0_1 + 1)))).heap[gb201]? = some (.cells #[.int .i64 t198, .int .i64 t199, .int .i64 t200] 31 (0, 0))) := ⟨by (with_reducible repeat (first | refine lN ?_ _ | refine lD ?_ | refine lA ?_ _)); refine lX ?_ NB201_186.out _; (with_reducible repeat (first | refine lN ?_ _ | refine lD ?_ | refine lA ?_ _)); refine lX ?_ NB201_186.out _; (with_reducible repeat (first | refine lN ?_ _ | refine lD ?_ | refine lA ?_ _)); exact BK201.out⟩
           have n6_ : Aside0 (Below w.heap.size w ((w89.setCell ⟨gb186, 0, none⟩ (.slice A90 y203.length c90)).setCell ⟨gb186, 1, none⟩ (.int .i64 (wrap64 (a0_1 + 1))))) := ⟨by repeat (first | (with_reducible first | exact HB.out | apply bA | apply bN | apply bD | refine bS ?_ GE186.out | refine bS ?_ GE187.out | refine bS ?_ GE188.out | refine bS ?_ GE189.out | refine bS ?_ GE201.out) | exact HB.out)⟩
           (try clear HO205)
           (try clear BK186)
           (try clear BK187)
           (try clear BK188)
           (try clear BK189)
           (try clear BK201)
           (try clear HB)
           have sd_ : ∀ (w_ : World) (n_ : Nat) (a_ : Addr) (v_ : Value), (w_.drewN n_).setCell a_ v_ = (w_.setCell a_ v_).drewN n_ := fun _ _ _ _ => rfl
           (repeat rw [sd_])
           clear sd_
           generalize ((w89.setCell ⟨gb186, 0, none⟩ (.slice A90 y203.length c90)).setCell ⟨gb186, 1, none⟩ (.int .i64 (wrap64 (a0_1 + 1)))) = w93 at n0_ n1_ n2_ n3_ n4_ n5_ n6_ ⊢
           have HO205 := n0_
           have BK186 := n1_
           have BK187 := n2_
           have BK188 := n3_
           have BK189 := n4_
           have BK201 := n5_
           have HB := n6_
           clear n0_ n1_ n2_ n3_ n4_ n5_ n6_
           have n0_ := Aside0.mk (qD HO205.out)
           have n1_ := Aside0.mk (lD BK186.out)
           have n2_ := Aside0.mk (lD BK187.out)
           have n3_ := Aside0.mk (lD BK188.out)
           have n4_ := Aside0.mk (lD BK189.out)
           have n5_ := Aside0.mk (lD BK201.out)
           have n6_ := Aside0.mk (bD HB.out)
           clear HO205
           clear BK186
           clear BK187
           clear BK188
           clear BK189
           clear BK201
           clear HB
           have HO205 := n0_
           have BK186 := n1_
           have BK187 := n2_
           have BK188 := n3_
           have BK189 := n4_
           have BK201 := n5_
           have HB := n6_
           clear n0_ n1_ n2_ n3_ n4_ n5_ n6_
           refine start_ (n := 7) (S := fun w' => w'.cell? ⟨gb186, 0, none⟩ = some (.slice A90 y203.length c90) ∧ w'.cell? ⟨gb186, 1, none⟩ = some (.int .i64 (wrap64 (a0_1 + 1))) ∧ w'.cell? ⟨gb186, 2, none⟩ = some (.int .i64 a0_2) ∧ w'.cell? ⟨gb201, 0, none⟩ = some (.int .i64 t198) ∧ w'.cell? ⟨gb201, 1, none⟩ = some (.int .i64 t199) ∧ w'.cell? ⟨gb201, 2, none⟩ = some (.int .i64 t200)) (ds := []) #[false, false, false, false, false, false, false] (by kernel_rfl) rfl rfl ⟨(lC BK186.out 0).trans rfl, (lC BK186.out 1).trans rfl, (lC BK186.out 2).trans rfl, (lC BK201.out 0).trans rfl, (lC BK201.out 1).trans rfl, (lC BK201.out 2).trans rfl⟩ (fun hHeld => ?_)
           generalize w93.drew = w94 at HO205 BK186 BK187 BK188 BK189 BK201 HB hHeld ⊢
           refine pure_ (i := 2) (N := some 80) (v := ?_) (a' := ?_) #[false, false, true, false, false, false, false] rfl rfl (by kernel_rfl) (fun _ _ _ h => h) (Or.inl ⟨by rfl, ?_⟩) ?_ ?_
           rotate_left
           ·intro w'
            go_simp
            with_reducible rfl
           rotate_left
           ·simp only [Act.put, List.setIfInBounds_toArray, List.set_cons_zero, List.set_cons_succ, i64_w, i32_w]
            rfl
           refine take_ (i := 0) (N := some 78) (v := ?_) (a' := ?_) #[true, false, true, false, false, false, false] rfl rfl (by kernel_rfl) (fun _ _ _ h => h) (Or.inl ⟨by rfl, ?_⟩) hHeld ?_ ?_
           rotate_left
           ·rintro w' ⟨s0, s1, s2, s3, s4, s5⟩
            go_simp
            with_reducible rfl
           rotate_left
           ·simp only [Act.put, List.setIfInBounds_toArray, List.set_cons_zero, List.set_cons_succ, i64_w, i32_w]
            rfl
           refine take_ (i := 1) (N := some 79) (v := ?_) (a' := ?_) #[true, true, true, false, false, false, false] rfl rfl (by kernel_rfl) (fun _ _ _ h => h) (Or.inl ⟨by rfl, ?_⟩) hHeld ?_ ?_
           rotate_left
           ·rintro w' ⟨s0, s1, s2, s3, s4, s5⟩
            go_simp
            with_reducible rfl
           rotate_left
           ·simp only [Act.put, List.setIfInBounds_toArray, List.set_cons_zero, List.set_cons_succ, i64_w, i32_w]
            rfl
           refine one_ (i := 3) (N := none) #[true, true, true, true, false, false, false] rfl rfl (by kernel_rfl) (by decide) (fun K hK => ?_)
           have hs95 : w94.cell? ⟨gb188, 0, none⟩ = some (.slice none 0 0) := (lC BK188.out 0).trans rfl
           have hfs95 := lF BK188.out 0
           have hns95_0 := NB186_188.out
           have hns95_1 := NB187_188.out
           have hns95_3 := NB189_188.out
           have hns95_4 := NB201_188.out
           have hms95_0 := NB188_186.out
           have hms95_1 := NB188_187.out
           have hms95_3 := NB188_189.out
           have hms95_4 := NB188_201.out
           have hs96 : w94.cell? ⟨gb188, 1, none⟩ = some (.int .i64 0) := (lC BK188.out 1).trans rfl
           have hfs96 := lF BK188.out 1
           have hns96_0 := NB186_188.out
           have hns96_1 := NB187_188.out
           have hns96_3 := NB189_188.out
           have hns96_4 := NB201_188.out
           have hms96_0 := NB188_186.out
           have hms96_1 := NB188_187.out
           have hms96_3 := NB188_189.out
           have hms96_4 := NB188_201.out
           have hs97 : w94.cell? ⟨gb188, 2, none⟩ = some (.int .i64 0) := (lC BK188.out 2).trans rfl
           have hfs97 := lF BK188.out 2
           have hns97_0 := NB186_188.out
           have hns97_1 := NB187_188.out
           have hns97_3 := NB189_188.out
           have hns97_4 := NB201_188.out
           have hms97_0 := NB188_186.out
           have hms97_1 := NB188_187.out
           have hms97_3 := NB188_189.out
           have hms97_4 := NB188_201.out
           refine skip_ (w1 := ?_) (by rfl) rfl ?_ ?_
           rotate_left
           ·go_simp
            rfl
           refine hK.out _ _ ⟨((cell_far (p := ⟨gb188, _, none⟩) NB186_188.out _).trans (((cell_far (p := ⟨gb188, _, none⟩) NB186_188.out _).trans (((cell_far (p := ⟨gb188, _, none⟩) NB186_188.out _).trans (hHeld.1)))))), ((cell_far (p := ⟨gb188, _, none⟩) NB186_188.out _).trans (((cell_far (p := ⟨gb188, _, none⟩) NB186_188.out _).trans (((cell_far (p := ⟨gb188, _, none⟩) NB186_188.out _).trans (hHeld.2.1)))))), ((cell_far (p := ⟨gb188, _, none⟩) NB186_188.out _).trans (((cell_far (p := ⟨gb188, _, none⟩) NB186_188.out _).trans (((cell_far (p := ⟨gb188, _, none⟩) NB186_188.out _).trans (hHeld.2.2.1)))))), ((cell_far (p := ⟨gb188, _, none⟩) NB201_188.out _).trans (((cell_far (p := ⟨gb188, _, none⟩) NB201_188.out _).trans (((cell_far (p := ⟨gb188, _, none⟩) NB201_188.out _).trans (hHeld.2.2.2.1)))))), ((cell_far (p := ⟨gb188, _, none⟩) NB201_188.out _).trans (((cell_far (p := ⟨gb188, _, none⟩) NB201_188.out _).trans (((cell_far (p := ⟨gb188, _, none⟩) NB201_188.out _).trans (hHeld.2.2.2.2.1)))))), ((cell_far (p := ⟨gb188, _, none⟩) NB201_188.out _).trans (((cell_far (p := ⟨gb188, _, none⟩) NB201_188.out _).trans (((cell_far (p := ⟨gb188, _, none⟩) NB201_188.out _).trans (hHeld.2.2.2.2.2))))))⟩ (fun hHeld => ?_)
           clear hK K
           refine one_ (i := 4) (N := none) #[true, true, true, true, true, false, false] rfl rfl (by kernel_rfl) (by decide) (fun K hK => ?_)
           have hs98 : w94.cell? ⟨gb189, 0, none⟩ = some (.int .i64 0) := (lC BK189.out 0).trans rfl
           have hfs98 := lF BK189.out 0
           have hns98_0 := NB186_189.out
           have hns98_1 := NB187_189.out
           have hns98_2 := NB188_189.out
           have hns98_4 := NB201_189.out
           have hms98_0 := NB189_186.out
           have hms98_1 := NB189_187.out
           have hms98_2 := NB189_188.out
           have hms98_4 := NB189_201.out
           have hs99 : w94.cell? ⟨gb189, 1, none⟩ = some (.int .i64 0) := (lC BK189.out 1).trans rfl
           have hfs99 := lF BK189.out 1
           have hns99_0 := NB186_189.out
           have hns99_1 := NB187_189.out
           have hns99_2 := NB188_189.out
           have hns99_4 := NB201_189.out
           have hms99_0 := NB189_186.out
           have hms99_1 := NB189_187.out
           have hms99_2 := NB189_188.out
           have hms99_4 := NB189_201.out
           have hs100 : w94.cell? ⟨gb189, 2, none⟩ = some (.int .i64 0) := (lC BK189.out 2).trans rfl
           have hfs100 := lF BK189.out 2
           have hns100_0 := NB186_189.out
           have hns100_1 := NB187_189.out
           have hns100_2 := NB188_189.out
           have hns100_4 := NB201_189.out
           have hms100_0 := NB189_186.out
           have hms100_1 := NB189_187.out
           have hms100_2 := NB189_188.out
           have hms100_4 := NB189_201.out
           refine skip_ (w1 := ?_) (by rfl) rfl ?_ ?_
           rotate_left
           ·go_simp
            rfl
           refine hK.out _ _ ⟨((cell_far (p := ⟨gb189, _, none⟩) NB186_189.out _).trans (((cell_far (p := ⟨gb189, _, none⟩) NB186_189.out _).trans (((cell_far (p := ⟨gb189, _, none⟩) NB186_189.out _).trans (hHeld.1)))))), ((cell_far (p := ⟨gb189, _, none⟩) NB186_189.out _).trans (((cell_far (p := ⟨gb189, _, none⟩) NB186_189.out _).trans (((cell_far (p := ⟨gb189, _, none⟩) NB186_189.out _).trans (hHeld.2.1)))))), ((cell_far (p := ⟨gb189, _, none⟩) NB186_189.out _).trans (((cell_far (p := ⟨gb189, _, none⟩) NB186_189.out _).trans (((cell_far (p := ⟨gb189, _, none⟩) NB186_189.out _).trans (hHeld.2.2.1)))))), ((cell_far (p := ⟨gb189, _, none⟩) NB201_189.out _).trans (((cell_far (p := ⟨gb189, _, none⟩) NB201_189.out _).trans (((cell_far (p := ⟨gb189, _, none⟩) NB201_189.out _).trans (hHeld.2.2.2.1)))))), ((cell_far (p := ⟨gb189, _, none⟩) NB201_189.out _).trans (((cell_far (p := ⟨gb189, _, none⟩) NB201_189.out _).trans (((cell_far (p := ⟨gb189, _, none⟩) NB201_189.out _).trans (hHeld.2.2.2.2.1)))))), ((cell_far (p := ⟨gb189, _, none⟩) NB201_189.out _).trans (((cell_far (p := ⟨gb189, _, none⟩) NB201_189.out _).trans (((cell_far (p := ⟨gb189, _, none⟩) NB201_189.out _).trans (hHeld.2.2.2.2.2))))))⟩ (fun hHeld => ?_)
           clear hK K
           refine pure_ (i := 5) (N := some 6) (v := ?_) (a' := ?_) #[true, true, true, true, true, true, false] rfl rfl (by kernel_rfl) (fun _ _ _ h => h) (Or.inl ⟨by rfl, ?_⟩) ?_ ?_
           rotate_left
           ·intro w'
            go_simp
            with_reducible rfl
           rotate_left
           ·simp only [Act.put, List.setIfInBounds_toArray, List.set_cons_zero, List.set_cons_succ, i64_w, i32_w]
            rfl
           refine pure_ (i := 6) (N := some 7) (v := ?_) (a' := ?_) #[true, true, true, true, true, true, true] rfl rfl (by kernel_rfl) (fun _ _ _ h => h) (Or.inl ⟨by rfl, ?_⟩) ?_ ?_
           rotate_left
           ·intro w'
            go_simp
            with_reducible rfl
           rotate_left
           ·simp only [Act.put, List.setIfInBounds_toArray, List.set_cons_zero, List.set_cons_succ, i64_w, i32_w]
            rfl
           refine done_ (by kernel_rfl) ?_
           try go_wp2
           refine bodyPost_ret (results_list (rs := [.cell 4 29, .cell 5 31, .tmp 6, .tmp 7]) rfl (by simp) (.cell gb188 29 #[.slice A90 y203.length c90, .int .i64 (wrap64 (a0_1 + 1)), .int .i64 a0_2] (0, 0) _ rfl (by (with_reducible repeat (first | refine lN ?_ _ | refine lD ?_ | refine lA ?_ _)); refine lX ?_ NB188_189.out _; (with_reducible repeat (first | refine lN ?_ _ | refine lD ?_ | refine lA ?_ _)); refine lX ?_ NB188_189.out _; (with_reducible repeat (first | refine lN ?_ _ | refine lD ?_ | refine lA ?_ _)); refine lX ?_ NB188_189.out _; (with_reducible repeat (first | refine lN ?_ _ | refine lD ?_ | refine lA ?_ _)); refine lP (cs := #[.slice A90 y203.length c90, .int .i64 (wrap64 (a0_1 + 1)), .int .i64 0]) ?_ 2 _ rfl; (with_reducible repeat (first | refine lN ?_ _ | refine lD ?_ | refine lA ?_ _)); refine lP (cs := #[.slice A90 y203.length c90, .int .i64 0, .int .i64 0]) ?_ 1 _ rfl; (with_reducible repeat (first | refine lN ?_ _ | refine lD ?_ | refine lA ?_ _)); refine lP (cs := #[.slice none 0 0, .int .i64 0, .int .i64 0]) ?_ 0 _ rfl; (with_reducible repeat (first | refine lN ?_ _ | refine lD ?_ | refine lA ?_ _)); exact BK188.out) Try.underlying29 rfl (by kernel_rfl) (.cell gb189 31 #[.int .i64 t198, .int .i64 t199, .int .i64 t200] (0, 0) _ rfl (by (with_reducible repeat (first | refine lN ?_ _ | refine lD ?_ | refine lA ?_ _)); refine lP (cs := #[.int .i64 t198, .int .i64 t199, .int .i64 0]) ?_ 2 _ rfl; (with_reducible repeat (first | refine lN ?_ _ | refine lD ?_ | refine lA ?_ _)); refine lP (cs := #[.int .i64 t198, .int .i64 0, .int .i64 0]) ?_ 1 _ rfl; (with_reducible repeat (first | refine lN ?_ _ | refine lD ?_ | refine lA ?_ _)); refine lP (cs := #[.int .i64 0, .int .i64 0, .int .i64 0]) ?_ 0 _ rfl; (with_reducible repeat (first | refine lN ?_ _ | refine lD ?_ | refine lA ?_ _)); refine lX ?_ NB189_188.out _; (with_reducible repeat (first | refine lN ?_ _ | refine lD ?_ | refine lA ?_ _)); refine lX ?_ NB189_188.out _; (with_reducible repeat (first | refine lN ?_ _ | refine lD ?_ | refine lA ?_ _)); refine lX ?_ NB189_188.out _; (with_reducible repeat (first | refine lN ?_ _ | refine lD ?_ | refine lA ?_ _)); exact BK189.out) Try.underlying31 rfl (by kernel_rfl) (.tmp (.tmp .nil))))) rfl ?_
           exact ⟨_, by first | rfl | (simp [errW_none, errW_some] <;> rfl) | (simp [*, errW_none, errW_some] <;> rfl), by (with_reducible repeat (first | apply qA | apply qN | apply qD)); exact Kd.Q_mono (Kd.Q_far (p := ⟨gb189, 2, none⟩) (Kd.Q_far (p := ⟨gb189, 1, none⟩) (Kd.Q_far (p := ⟨gb189, 0, none⟩) (Kd.Q_far (p := ⟨gb188, 2, none⟩) (Kd.Q_far (p := ⟨gb188, 1, none⟩) (Kd.Q_far (p := ⟨gb188, 0, none⟩) (Kd.Q_types (Kd.Q_types HO205.out BK188.out (by decide)) BK189.out (by decide)) (fun _ hk => hk.1.2) (.slice A90 y203.length c90)) (fun _ hk => hk.1.2) (.int .i64 (wrap64 (a0_1 + 1)))) (fun _ hk => hk.1.2) (.int .i64 a0_2)) (fun _ hk => hk.2) (.int .i64 t198)) (fun _ hk => hk.2) (.int .i64 t199)) (fun _ hk => hk.2) (.int .i64 t200)) (fun _ hk => trivial), by repeat (first | (with_reducible first | exact HB.out | apply bA | apply bN | apply bD | refine bS ?_ GE186.out | refine bS ?_ GE187.out | refine bS ?_ GE188.out | refine bS ?_ GE189.out | refine bS ?_ GE201.out) | exact HB.out)⟩
          ·rw [if_neg c75] at H
           exact absurd H (by simp)
         ·rw [if_neg c74] at H
          exact absurd H (by simp)
        ·rw [if_neg c73] at H
         have c73b0 : decide (0 < (t191.length : Int)) = false := decide_eq_false c73
         have c73b1 : decide (0 < t191.length) = false := decide_eq_false (by omega)
         clear c73
         simp only [Option.some.injEq, Prod.mk.injEq] at H
         obtain ⟨rfl, rfl, rfl, rfl, rfl, rfl, rfl, rfl⟩ := H
         have hnb101 := NB186_187.out
         have hnc101 := NB187_186.out
         have hnb102 := NB186_188.out
         have hnc102 := NB188_186.out
         have hnb103 := NB186_189.out
         have hnc103 := NB189_186.out
         have hcz104_0 : wc.cell? ⟨gb186, 0, none⟩ = some (.slice Ao18 t191.length co18) := (lC BK186.out 0).trans rfl
         have hcz104_1 : wc.cell? ⟨gb186, 1, none⟩ = some (.int .i64 a0_1) := (lC BK186.out 1).trans rfl
         have hcz104_2 : wc.cell? ⟨gb186, 2, none⟩ = some (.int .i64 a0_2) := (lC BK186.out 2).trans rfl
         have hfz104_0 := lF BK186.out 0
         have hfz104_1 := lF BK186.out 1
         have hfz104_2 := lF BK186.out 2
         try go_wp2_with (first | ((with_reducible refine gate_callee (f := 31) rfl ?_); refine goesL_ (some 61) rfl rfl Try.func31 (by kernel_rfl) rfl #[.int .i64 a0_1, .int .i64 a0_2] rfl (by (try simp only [List.map_toArray, List.map_cons, List.map_nil]); first | done | rfl | (simp only [List.length_drop, List.length_take]; rfl)) ?_; (with_reducible refine (impl_emit.calls a0_1 a0_2 t198 t199 t200 _ A72.out).mono ?_); rintro e w105 ⟨rfl, hb⟩; refine ⟨_, rfl, ?_⟩; have n0_ := Aside0.mk (Kd.Q_below (by (with_reducible repeat (first | apply qA | apply qN | apply qD)); exact HO_187000.out) hb); have n1_ := Aside0.mk (blk_below (g := gb186) (o := .cells #[.slice Ao18 t191.length co18, .int .i64 a0_1, .int .i64 a0_2] 29 (0, 0)) (by (with_reducible repeat (first | refine lN ?_ _ | refine lD ?_ | refine lA ?_ _)); exact BK186.out) hb); have n2_ := Aside0.mk (blk_below (g := gb187) (o := .cells #[.int .i64 a1_0, .string a1_1] 35 (0, 0)) (by (with_reducible repeat (first | refine lN ?_ _ | refine lD ?_ | refine lA ?_ _)); exact BK187.out) hb); have n3_ := Aside0.mk (blk_below (g := gb188) (o := .cells #[.slice none 0 0, .int .i64 0, .int .i64 0] 29 (0, 0)) (by (with_reducible repeat (first | refine lN ?_ _ | refine lD ?_ | refine lA ?_ _)); exact BK188.out) hb); have n4_ := Aside0.mk (blk_below (g := gb189) (o := .cells #[.int .i64 0, .int .i64 0, .int .i64 0] 31 (0, 0)) (by (with_reducible repeat (first | refine lN ?_ _ | refine lD ?_ | refine lA ?_ _)); exact BK189.out) hb); have n5_ := Aside0.mk (below_step (by repeat (first | (with_reducible first | exact HB.out | apply bA | apply bN | apply bD | refine bS ?_ GE186.out | refine bS ?_ GE187.out | refine bS ?_ GE188.out | refine bS ?_ GE189.out) | exact HB.out)) hb); clear HO_187000; clear BK186; clear BK187; clear BK188; clear BK189; clear HB; have HO_187000 := n0_; have BK186 := n1_; have BK187 := n2_; have BK188 := n3_; have BK189 := n4_; have HB := n5_; clear n0_ n1_ n2_ n3_ n4_ n5_; (try clear hb); (try clear hb2); (try clear hk); (try clear hi)) | ((with_reducible refine gate_dst (N := 8) rfl ?_); (try (refine gate_guard (by rfl) ?_; dsimp only)); refine box_event ?hg (N := 8) ?hd (cs := #[.int .i64 0, .int .i64 0, .int .i64 0]) (t := 31) ?hr ?_; (case hd => rfl); (case hg => rfl); (case hr => first | (go_simp; done) | (go_simp; rfl)); intro gb201 hg w106 hbox hb; have n0_ := Aside0.mk (Kd.Q_below (by (with_reducible repeat (first | apply qA | apply qN | apply qD)); exact HO_187000.out) hb); have n1_ := Aside0.mk (blk_below (g := gb186) (o := .cells #[.slice Ao18 t191.length co18, .int .i64 a0_1, .int .i64 a0_2] 29 (0, 0)) (by (with_reducible repeat (first | refine lN ?_ _ | refine lD ?_ | refine lA ?_ _)); exact BK186.out) hb); have n2_ := Aside0.mk (blk_below (g := gb187) (o := .cells #[.int .i64 a1_0, .string a1_1] 35 (0, 0)) (by (with_reducible repeat (first | refine lN ?_ _ | refine lD ?_ | refine lA ?_ _)); exact BK187.out) hb); have n3_ := Aside0.mk (blk_below (g := gb188) (o := .cells #[.slice none 0 0, .int .i64 0, .int .i64 0] 29 (0, 0)) (by (with_reducible repeat (first | refine lN ?_ _ | refine lD ?_ | refine lA ?_ _)); exact BK188.out) hb); have n4_ := Aside0.mk (blk_below (g := gb189) (o := .cells #[.int .i64 0, .int .i64 0, .int .i64 0] 31 (0, 0)) (by (with_reducible repeat (first | refine lN ?_ _ | refine lD ?_ | refine lA ?_ _)); exact BK189.out) hb); have n5_ := Aside0.mk (below_step (by repeat (first | (with_reducible first | exact HB.out | apply bA | apply bN | apply bD | refine bS ?_ GE186.out | refine bS ?_ GE187.out | refine bS ?_ GE188.out | refine bS ?_ GE189.out) | exact HB.out)) hb); have n6_ := Aside0.mk (hbox); have n7_ := Aside0.mk ((by rw [hg]; exact (below_size (by repeat (first | (with_reducible first | exact HB.out | apply bA | apply bN | apply bD | refine bS ?_ GE186.out | refine bS ?_ GE187.out | refine bS ?_ GE188.out | refine bS ?_ GE189.out) | exact HB.out))) : w.heap.size ≤ gb201)); have n8_ := Aside0.mk ((by rw [hg]; exact (below_size (by repeat (first | (with_reducible first | exact HB.out | apply bA | apply bN | apply bD | refine bS ?_ GE186.out | refine bS ?_ GE187.out | refine bS ?_ GE188.out | refine bS ?_ GE189.out) | exact HB.out))) : w.heap.size ≤ gb201)); have n9_ := Aside0.mk ((by rw [hg]; exact Nat.ne_of_lt (blk_lt (g := gb186) (o := .cells #[.slice Ao18 t191.length co18, .int .i64 a0_1, .int .i64 a0_2] 29 (0, 0)) (by (with_reducible repeat (first | refine lN ?_ _ | refine lD ?_ | refine lA ?_ _)); exact BK186.out)) : gb186 ≠ gb201)); have n10_ := Aside0.mk ((by rw [hg]; exact Nat.ne_of_gt (blk_lt (g := gb186) (o := .cells #[.slice Ao18 t191.length co18, .int .i64 a0_1, .int .i64 a0_2] 29 (0, 0)) (by (with_reducible repeat (first | refine lN ?_ _ | refine lD ?_ | refine lA ?_ _)); exact BK186.out)) : gb201 ≠ gb186)); have n11_ := Aside0.mk ((by rw [hg]; exact Nat.ne_of_lt (blk_lt (g := gb187) (o := .cells #[.int .i64 a1_0, .string a1_1] 35 (0, 0)) (by (with_reducible repeat (first | refine lN ?_ _ | refine lD ?_ | refine lA ?_ _)); exact BK187.out)) : gb187 ≠ gb201)); have n12_ := Aside0.mk ((by rw [hg]; exact Nat.ne_of_gt (blk_lt (g := gb187) (o := .cells #[.int .i64 a1_0, .string a1_1] 35 (0, 0)) (by (with_reducible repeat (first | refine lN ?_ _ | refine lD ?_ | refine lA ?_ _)); exact BK187.out)) : gb201 ≠ gb187)); have n13_ := Aside0.mk ((by rw [hg]; exact Nat.ne_of_lt (blk_lt (g := gb188) (o := .cells #[.slice none 0 0, .int .i64 0, .int .i64 0] 29 (0, 0)) (by (with_reducible repeat (first | refine lN ?_ _ | refine lD ?_ | refine lA ?_ _)); exact BK188.out)) : gb188 ≠ gb201)); have n14_ := Aside0.mk ((by rw [hg]; exact Nat.ne_of_gt (blk_lt (g := gb188) (o := .cells #[.slice none 0 0, .int .i64 0, .int .i64 0] 29 (0, 0)) (by (with_reducible repeat (first | refine lN ?_ _ | refine lD ?_ | refine lA ?_ _)); exact BK188.out)) : gb201 ≠ gb188)); have n15_ := Aside0.mk ((by rw [hg]; exact Nat.ne_of_lt (blk_lt (g := gb189) (o := .cells #[.int .i64 0, .int .i64 0, .int .i64 0] 31 (0, 0)) (by (with_reducible repeat (first | refine lN ?_ _ | refine lD ?_ | refine lA ?_ _)); exact BK189.out)) : gb189 ≠ gb201)); have n16_ := Aside0.mk ((by rw [hg]; exact Nat.ne_of_gt (blk_lt (g := gb189) (o := .cells #[.int .i64 0, .int .i64 0, .int .i64 0] 31 (0, 0)) (by (with_reducible repeat (first | refine lN ?_ _ | refine lD ?_ | refine lA ?_ _)); exact BK189.out)) : gb201 ≠ gb189)); clear HO_187000; clear BK186; clear BK187; clear BK188; clear BK189; clear HB; have HO_187000 := n0_; have BK186 := n1_; have BK187 := n2_; have BK188 := n3_; have BK189 := n4_; have HB := n5_; have BK201 := n6_; have GW201 := n7_; have GE201 := n8_; have NB186_201 := n9_; have NB201_186 := n10_; have NB187_201 := n11_; have NB201_187 := n12_; have NB188_201 := n13_; have NB201_188 := n14_; have NB189_201 := n15_; have NB201_189 := n16_; clear n0_ n1_ n2_ n3_ n4_ n5_ n6_ n7_ n8_ n9_ n10_ n11_ n12_ n13_ n14_ n15_ n16_; clear hb hbox hg; have hnb107 := NB201_186.out; have hnc107 := NB186_201.out; have hnb108 := NB201_187.out; have hnc108 := NB187_201.out; have hnb109 := NB201_188.out; have hnc109 := NB188_201.out; have hnb110 := NB201_189.out; have hnc110 := NB189_201.out; have hcz111_0 : w106.cell? ⟨gb201, 0, none⟩ = some (.int .i64 0) := (lC BK201.out 0).trans rfl; have hcz111_1 : w106.cell? ⟨gb201, 1, none⟩ = some (.int .i64 0) := (lC BK201.out 1).trans rfl; have hcz111_2 : w106.cell? ⟨gb201, 2, none⟩ = some (.int .i64 0) := (lC BK201.out 2).trans rfl; have hfz111_0 := lF BK201.out 0; have hfz111_1 := lF BK201.out 1; have hfz111_2 := lF BK201.out 2; have hcz112_0 : w106.cell? ⟨gb186, 0, none⟩ = some (.slice Ao18 t191.length co18) := (lC BK186.out 0).trans rfl; have hcz112_1 : w106.cell? ⟨gb186, 1, none⟩ = some (.int .i64 a0_1) := (lC BK186.out 1).trans rfl; have hcz112_2 : w106.cell? ⟨gb186, 2, none⟩ = some (.int .i64 a0_2) := (lC BK186.out 2).trans rfl; have hfz112_0 := lF BK186.out 0; have hfz112_1 := lF BK186.out 1; have hfz112_2 := lF BK186.out 2))
         have n0_ : Aside0 (Kd.Q Kd.string 9 ((((w106.setCell ⟨gb201, 0, none⟩ (.int .i64 t198)).setCell ⟨gb201, 1, none⟩ (.int .i64 t199)).setCell ⟨gb201, 2, none⟩ (.int .i64 t200)).setCell ⟨gb186, 1, none⟩ (.int .i64 (wrap64 (a0_1 + 1)))) w.heap.size (fun _ => True) (.slice Ao18 t191.length co18) t191) := ⟨by (with_reducible repeat (first | apply qA | apply qN | apply qD)); exact Kd.Q_mono (Kd.Q_far (p := ⟨gb186, 1, none⟩) (Kd.Q_far (p := ⟨gb201, 2, none⟩) (Kd.Q_far (p := ⟨gb201, 1, none⟩) (Kd.Q_far (p := ⟨gb201, 0, none⟩) (Kd.Q_types (Kd.Q_types HO_187000.out BK201.out (by decide)) BK186.out (by decide)) (fun _ hk => hk.1.2) (.int .i64 t198)) (fun _ hk => hk.1.2) (.int .i64 t199)) (fun _ hk => hk.1.2) (.int .i64 t200)) (fun _ hk => hk.2) (.int .i64 (wrap64 (a0_1 + 1)))) (fun _ hk => trivial)⟩
         have n1_ : Aside0 (((((w106.setCell ⟨gb201, 0, none⟩ (.int .i64 t198)).setCell ⟨gb201, 1, none⟩ (.int .i64 t199)).setCell ⟨gb201, 2, none⟩ (.int .i64 t200)).setCell ⟨gb186, 1, none⟩ (.int .i64 (wrap64 (a0_1 + 1)))).heap[gb186]? = some (.cells #[.slice Ao18 t191.length co18, .int .i64 (wrap64 (a0_1 + 1)), .int .i64 a0_2] 29 (0, 0))) := ⟨by (with_reducible repeat (first | refine lN ?_ _ | refine lD ?_ | refine lA ?_ _)); refine lP (cs := #[.slice Ao18 t191.length co18, .int .i64 a0_1, .int .i64 a0_2]) ?_ 1 _ rfl; (with_reducible repeat (first | refine lN ?_ _ | refine lD ?_ | refine lA ?_ _)); refine lX ?_ NB186_201.out _; (with_reducible repeat (first | refine lN ?_ _ | refine lD ?_ | refine lA ?_ _)); refine lX ?_ NB186_201.out _; (with_reducible repeat (first | refine lN ?_ _ | refine lD ?_ | refine lA ?_ _)); refine lX ?_ NB186_201.out _; (with_reducible repeat (first | refine lN ?_ _ | refine lD ?_ | refine lA ?_ _)); exact BK186.out⟩
         have n2_ : Aside0 (((((w106.setCell ⟨gb201, 0, none⟩ (.int .i64 t198)).setCell ⟨gb201, 1, none⟩ (.int .i64 t199)).setCell ⟨gb201, 2, none⟩ (.int .i64 t200)).setCell ⟨gb186, 1, none⟩ (.int .i64 (wrap64 (a0_1 + 1)))).heap[gb187]? = some (.cells #[.int .i64 a1_0, .string a1_1] 35 (0, 0))) := ⟨by (with_reducible repeat (first | refine lN ?_ _ | refine lD ?_ | refine lA ?_ _)); refine lX ?_ NB187_186.out _; (with_reducible repeat (first | refine lN ?_ _ | refine lD ?_ | refine lA ?_ _)); refine lX ?_ NB187_201.out _; (with_reducible repeat (first | refine lN ?_ _ | refine lD ?_ | refine lA ?_ _)); refine lX ?_ NB187_201.out _; (with_reducible repeat (first | refine lN ?_ _ | refine lD ?_ | refine lA ?_ _)); refine lX ?_ NB187_201.out _; (with_reducible repeat (first | refine lN ?_ _ | refine lD ?_ | refine lA ?_ _)); exact BK187.out⟩
         have n3_ : Aside0 (((((w106.setCell ⟨gb201, 0, none⟩ (.int .i64 t198)).setCell ⟨gb201, 1, none⟩ (.int .i64 t199)).setCell ⟨gb201, 2, none⟩ (.int .i64 t200)).setCell ⟨gb186, 1, none⟩ (.int .i64 (wrap64 (a0_1 + 1)))).heap[gb188]? = some (.cells #[.slice none 0 0, .int .i64 0, .int .i64 0] 29 (0, 0))) := ⟨by (with_reducible repeat (first | refine lN ?_ _ | refine lD ?_ | refine lA ?_ _)); refine lX ?_ NB188_186.out _; (with_reducible repeat (first | refine lN ?_ _ | refine lD ?_ | refine lA ?_ _)); refine lX ?_ NB188_201.out _; (with_reducible repeat (first | refine lN ?_ _ | refine lD ?_ | refine lA ?_ _)); refine lX ?_ NB188_201.out _; (with_reducible repeat (first | refine lN ?_ _ | refine lD ?_ | refine lA ?_ _)); refine lX ?_ NB188_201.out _; (with_reducible repeat (first | refine lN ?_ _ | refine lD ?_ | refine lA ?_ _)); exact BK188.out⟩
         have n4_ : Aside0 (((((w106.setCell ⟨gb201, 0, none⟩ (.int .i64 t198)).setCell ⟨gb201, 1, none⟩ (.int .i64 t199)).setCell ⟨gb201, 2, none⟩ (.int .i64 t200)).setCell ⟨gb186, 1, none⟩ (.int .i64 (wrap64 (a0_1 + 1)))).heap[gb189]? = some (.cells #[.int .i64 0, .int .i64 0, .int .i64 0] 31 (0, 0))) := ⟨by (with_reducible repeat (first | refine lN ?_ _ | refine lD ?_ | refine lA ?_ _)); refine lX ?_ NB189_186.out _; (with_reducible repeat (first | refine lN ?_ _ | refine lD ?_ | refine lA ?_ _)); refine lX ?_ NB189_201.out _; (with_reducible repeat (first | refine lN ?_ _ | refine lD ?_ | refine lA ?_ _)); refine lX ?_ NB189_201.out _; (with_reducible repeat (first | refine lN ?_ _ | refine lD ?_ | refine lA ?_ _)); refine lX ?_ NB189_201.out _; (with_reducible repeat (first | refine lN ?_ _ | refine lD ?_ | refine lA ?_ _)); exact BK189.out⟩
         have n5_ : Aside0 (((((w106.setCell ⟨gb201, 0, none⟩ (.int .i64 t198)).setCell ⟨gb201, 1, none⟩ (.int .i64 t199)).setCell ⟨gb201, 2, none⟩ (.int .i64 t200)).setCell ⟨gb186, 1, none⟩ (.int .i64 (wrap64 (a0_1 + 1)))).heap[gb201]? = some (.cells #[.int .i64 t198, .int .i64 t199, .int .i64 t200] 31 (0, 0))) := ⟨by (with_reducible repeat (first | refine lN ?_ _ | refine lD ?_ | refine lA ?_ _)); refine lX ?_ NB201_186.out _; (with_reducible repeat (first | refine lN ?_ _ | refine lD ?_ | refine lA ?_ _)); refine lP (cs := #[.int .i64 t198, .int .i64 t199, .int .i64 0]) ?_ 2 _ rfl; (with_reducible repeat (first | refine lN ?_ _ | refine lD ?_ | refine lA ?_ _)); refine lP (cs := #[.int .i64 t198, .int .i64 0, .int .i64 0]) ?_ 1 _ rfl; (with_reducible repeat (first | refine lN ?_ _ | refine lD ?_ | refine lA ?_ _)); refine lP (cs := #[.int .i64 0, .int .i64 0, .int .i64 0]) ?_ 0 _ rfl; (with_reducible repeat (first | refine lN ?_ _ | refine lD ?_ | refine lA ?_ _)); exact BK201.out⟩
         have n6_ : Aside0 (Below w.heap.size w ((((w106.setCell ⟨gb201, 0, none⟩ (.int .i64 t198)).setCell ⟨gb201, 1, none⟩ (.int .i64 t199)).setCell ⟨gb201, 2, none⟩ (.int .i64 t200)).setCell ⟨gb186, 1, none⟩ (.int .i64 (wrap64 (a0_1 + 1))))) := ⟨by repeat (first | (with_reducible first | exact HB.out | apply bA | apply bN | apply bD | refine bS ?_ GE186.out | refine bS ?_ GE187.out | refine bS ?_ GE188.out | refine bS ?_ GE189.out | refine bS ?_ GE201.out) | exact HB.out)⟩
         (try clear HO_187000)
         (try clear BK186)
         (try clear BK187)
         (try clear BK188)
         (try clear BK189)
         (try clear BK201)
         (try clear HB)
         have sd_ : ∀ (w_ : World) (n_ : Nat) (a_ : Addr) (v_ : Value), (w_.drewN n_).setCell a_ v_ = (w_.setCell a_ v_).drewN n_ := fun _ _ _ _ => rfl
         (repeat rw [sd_])
         clear sd_
         generalize ((((w106.setCell ⟨gb201, 0, none⟩ (.int .i64 t198)).setCell ⟨gb201, 1, none⟩ (.int .i64 t199)).setCell ⟨gb201, 2, none⟩ (.int .i64 t200)).setCell ⟨gb186, 1, none⟩ (.int .i64 (wrap64 (a0_1 + 1)))) = w113 at n0_ n1_ n2_ n3_ n4_ n5_ n6_ ⊢
         have HO_187000 := n0_
         have BK186 := n1_
         have BK187 := n2_
         have BK188 := n3_
         have BK189 := n4_
         have BK201 := n5_
         have HB := n6_
         clear n0_ n1_ n2_ n3_ n4_ n5_ n6_
         have n0_ := Aside0.mk (qD HO_187000.out)
         have n1_ := Aside0.mk (lD BK186.out)
         have n2_ := Aside0.mk (lD BK187.out)
         have n3_ := Aside0.mk (lD BK188.out)
         have n4_ := Aside0.mk (lD BK189.out)
         have n5_ := Aside0.mk (lD BK201.out)
         have n6_ := Aside0.mk (bD HB.out)
         clear HO_187000
         clear BK186
         clear BK187
         clear BK188
         clear BK189
         clear BK201
         clear HB
         have HO_187000 := n0_
         have BK186 := n1_
         have BK187 := n2_
         have BK188 := n3_
         have BK189 := n4_
         have BK201 := n5_
         have HB := n6_
         clear n0_ n1_ n2_ n3_ n4_ n5_ n6_
         refine start_ (n := 7) (S := fun w' => w'.cell? ⟨gb186, 0, none⟩ = some (.slice Ao18 t191.length co18) ∧ w'.cell? ⟨gb186, 1, none⟩ = some (.int .i64 (wrap64 (a0_1 + 1))) ∧ w'.cell? ⟨gb186, 2, none⟩ = some (.int .i64 a0_2) ∧ w'.cell? ⟨gb201, 0, none⟩ = some (.int .i64 t198) ∧ w'.cell? ⟨gb201, 1, none⟩ = some (.int .i64 t199) ∧ w'.cell? ⟨gb201, 2, none⟩ = some (.int .i64 t200)) (ds := []) #[false, false, false, false, false, false, false] (by kernel_rfl) rfl rfl ⟨(lC BK186.out 0).trans rfl, (lC BK186.out 1).trans rfl, (lC BK186.out 2).trans rfl, (lC BK201.out 0).trans rfl, (lC BK201.out 1).trans rfl, (lC BK201.out 2).trans rfl⟩ (fun hHeld => ?_)
         generalize w113.drew = w114 at HO_187000 BK186 BK187 BK188 BK189 BK201 HB hHeld ⊢
         refine pure_ (i := 2) (N := some 80) (v := ?_) (a' := ?_) #[false, false, true, false, false, false, false] rfl rfl (by kernel_rfl) (fun _ _ _ h => h) (Or.inl ⟨by rfl, ?_⟩) ?_ ?_
         rotate_left
         ·intro w'
          go_simp
          with_reducible rfl
         rotate_left
         ·simp only [Act.put, List.setIfInBounds_toArray, List.set_cons_zero, List.set_cons_succ, i64_w, i32_w]
          rfl
         refine take_ (i := 0) (N := some 78) (v := ?_) (a' := ?_) #[true, false, true, false, false, false, false] rfl rfl (by kernel_rfl) (fun _ _ _ h => h) (Or.inl ⟨by rfl, ?_⟩) hHeld ?_ ?_
         rotate_left
         ·rintro w' ⟨s0, s1, s2, s3, s4, s5⟩
          go_simp
          with_reducible rfl
         rotate_left
         ·simp only [Act.put, List.setIfInBounds_toArray, List.set_cons_zero, List.set_cons_succ, i64_w, i32_w]
          rfl
         refine take_ (i := 1) (N := some 79) (v := ?_) (a' := ?_) #[true, true, true, false, false, false, false] rfl rfl (by kernel_rfl) (fun _ _ _ h => h) (Or.inl ⟨by rfl, ?_⟩) hHeld ?_ ?_
         rotate_left
         ·rintro w' ⟨s0, s1, s2, s3, s4, s5⟩
          go_simp
          with_reducible rfl
         rotate_left
         ·simp only [Act.put, List.setIfInBounds_toArray, List.set_cons_zero, List.set_cons_succ, i64_w, i32_w]
          rfl
         refine one_ (i := 3) (N := none) #[true, true, true, true, false, false, false] rfl rfl (by kernel_rfl) (by decide) (fun K hK => ?_)
         have hs115 : w114.cell? ⟨gb188, 0, none⟩ = some (.slice none 0 0) := (lC BK188.out 0).trans rfl
         have hfs115 := lF BK188.out 0
         have hns115_0 := NB186_188.out
         have hns115_1 := NB187_188.out
         have hns115_3 := NB189_188.out
         have hns115_4 := NB201_188.out
         have hms115_0 := NB188_186.out
         have hms115_1 := NB188_187.out
         have hms115_3 := NB188_189.out
         have hms115_4 := NB188_201.out
         have hs116 : w114.cell? ⟨gb188, 1, none⟩ = some (.int .i64 0) := (lC BK188.out 1).trans rfl
         have hfs116 := lF BK188.out 1
         have hns116_0 := NB186_188.out
         have hns116_1 := NB187_188.out
         have hns116_3 := NB189_188.out
         have hns116_4 := NB201_188.out
         have hms116_0 := NB188_186.out
         have hms116_1 := NB188_187.out
         have hms116_3 := NB188_189.out
         have hms116_4 := NB188_201.out
         have hs117 : w114.cell? ⟨gb188, 2, none⟩ = some (.int .i64 0) := (lC BK188.out 2).trans rfl
         have hfs117 := lF BK188.out 2
         have hns117_0 := NB186_188.out
         have hns117_1 := NB187_188.out
         have hns117_3 := NB189_188.out
         have hns117_4 := NB201_188.out
         have hms117_0 := NB188_186.out
         have hms117_1 := NB188_187.out
         have hms117_3 := NB188_189.out
         have hms117_4 := NB188_201.out
         refine skip_ (w1 := ?_) (by rfl) rfl ?_ ?_
         rotate_left
         ·go_simp
          rfl
         refine hK.out _ _ ⟨((cell_far (p := ⟨gb188, _, none⟩) NB186_188.out _).trans (((cell_far (p := ⟨gb188, _, none⟩) NB186_188.out _).trans (((cell_far (p := ⟨gb188, _, none⟩) NB186_188.out _).trans (hHeld.1)))))), ((cell_far (p := ⟨gb188, _, none⟩) NB186_188.out _).trans (((cell_far (p := ⟨gb188, _, none⟩) NB186_188.out _).trans (((cell_far (p := ⟨gb188, _, none⟩) NB186_188.out _).trans (hHeld.2.1)))))), ((cell_far (p := ⟨gb188, _, none⟩) NB186_188.out _).trans (((cell_far (p := ⟨gb188, _, none⟩) NB186_188.out _).trans (((cell_far (p := ⟨gb188, _, none⟩) NB186_188.out _).trans (hHeld.2.2.1)))))), ((cell_far (p := ⟨gb188, _, none⟩) NB201_188.out _).trans (((cell_far (p := ⟨gb188, _, none⟩) NB201_188.out _).trans (((cell_far (p := ⟨gb188, _, none⟩) NB201_188.out _).trans (hHeld.2.2.2.1)))))), ((cell_far (p := ⟨gb188, _, none⟩) NB201_188.out _).trans (((cell_far (p := ⟨gb188, _, none⟩) NB201_188.out _).trans (((cell_far (p := ⟨gb188, _, none⟩) NB201_188.out _).trans (hHeld.2.2.2.2.1)))))), ((cell_far (p := ⟨gb188, _, none⟩) NB201_188.out _).trans (((cell_far (p := ⟨gb188, _, none⟩) NB201_188.out _).trans (((cell_far (p := ⟨gb188, _, none⟩) NB201_188.out _).trans (hHeld.2.2.2.2.2))))))⟩ (fun hHeld => ?_)
         clear hK K
         refine one_ (i := 4) (N := none) #[true, true, true, true, true, false, false] rfl rfl (by kernel_rfl) (by decide) (fun K hK => ?_)
         have hs118 : w114.cell? ⟨gb189, 0, none⟩ = some (.int .i64 0) := (lC BK189.out 0).trans rfl
         have hfs118 := lF BK189.out 0
         have hns118_0 := NB186_189.out
         have hns118_1 := NB187_189.out
         have hns118_2 := NB188_189.out
         have hns118_4 := NB201_189.out
         have hms118_0 := NB189_186.out
         have hms118_1 := NB189_187.out
         have hms118_2 := NB189_188.out
         have hms118_4 := NB189_201.out
         have hs119 : w114.cell? ⟨gb189, 1, none⟩ = some (.int .i64 0) := (lC BK189.out 1).trans rfl
         have hfs119 := lF BK189.out 1
         have hns119_0 := NB186_189.out
         have hns119_1 := NB187_189.out
         have hns119_2 := NB188_189.out
         have hns119_4 := NB201_189.out
         have hms119_0 := NB189_186.out
         have hms119_1 := NB189_187.out
         have hms119_2 := NB189_188.out
         have hms119_4 := NB189_201.out
         have hs120 : w114.cell? ⟨gb189, 2, none⟩ = some (.int .i64 0) := (lC BK189.out 2).trans rfl
         have hfs120 := lF BK189.out 2
         have hns120_0 := NB186_189.out
         have hns120_1 := NB187_189.out
         have hns120_2 := NB188_189.out
         have hns120_4 := NB201_189.out
         have hms120_0 := NB189_186.out
         have hms120_1 := NB189_187.out
         have hms120_2 := NB189_188.out
         have hms120_4 := NB189_201.out
         refine skip_ (w1 := ?_) (by rfl) rfl ?_ ?_
         rotate_left
         ·go_simp
          rfl
         refine hK.out _ _ ⟨((cell_far (p := ⟨gb189, _, none⟩) NB186_189.out _).trans (((cell_far (p := ⟨gb189, _, none⟩) NB186_189.out _).trans (((cell_far (p := ⟨gb189, _, none⟩) NB186_189.out _).trans (hHeld.1)))))), ((cell_far (p := ⟨gb189, _, none⟩) NB186_189.out _).trans (((cell_far (p := ⟨gb189, _, none⟩) NB186_189.out _).trans (((cell_far (p := ⟨gb189, _, none⟩) NB186_189.out _).trans (hHeld.2.1)))))), ((cell_far (p := ⟨gb189, _, none⟩) NB186_189.out _).trans (((cell_far (p := ⟨gb189, _, none⟩) NB186_189.out _).trans (((cell_far (p := ⟨gb189, _, none⟩) NB186_189.out _).trans (hHeld.2.2.1)))))), ((cell_far (p := ⟨gb189, _, none⟩) NB201_189.out _).trans (((cell_far (p := ⟨gb189, _, none⟩) NB201_189.out _).trans (((cell_far (p := ⟨gb189, _, none⟩) NB201_189.out _).trans (hHeld.2.2.2.1)))))), ((cell_far (p := ⟨gb189, _, none⟩) NB201_189.out _).trans (((cell_far (p := ⟨gb189, _, none⟩) NB201_189.out _).trans (((cell_far (p := ⟨gb189, _, none⟩) NB201_189.out _).trans (hHeld.2.2.2.2.1)))))), ((cell_far (p := ⟨gb189, _, none⟩) NB201_189.out _).trans (((cell_far (p := ⟨gb189, _, none⟩) NB201_189.out _).trans (((cell_far (p := ⟨gb189, _, none⟩) NB201_189.out _).trans (hHeld.2.2.2.2.2))))))⟩ (fun hHeld => ?_)
         clear hK K
         refine pure_ (i := 5) (N := some 6) (v := ?_) (a' := ?_) #[true, true, true, true, true, true, false] rfl rfl (by kernel_rfl) (fun _ _ _ h => h) (Or.inl ⟨by rfl, ?_⟩) ?_ ?_
         rotate_left
         ·intro w'
          go_simp
          with_reducible rfl
         rotate_left
         ·simp only [Act.put, List.setIfInBounds_toArray, List.set_cons_zero, List.set_cons_succ, i64_w, i32_w]
          rfl
         refine pure_ (i := 6) (N := some 7) (v := ?_) (a' := ?_) #[true, true, true, true, true, true, true] rfl rfl (by kernel_rfl) (fun _ _ _ h => h) (Or.inl ⟨by rfl, ?_⟩) ?_ ?_
         rotate_left
         ·intro w'
          go_simp
          with_reducible rfl
         rotate_left
         ·simp only [Act.put, List.setIfInBounds_toArray, List.set_cons_zero, List.set_cons_succ, i64_w, i32_w]
          rfl
         refine done_ (by kernel_rfl) ?_
         try go_wp2
         refine bodyPost_ret (results_list (rs := [.cell 4 29, .cell 5 31, .tmp 6, .tmp 7]) rfl (by simp) (.cell gb188 29 #[.slice Ao18 t191.length co18, .int .i64 (wrap64 (a0_1 + 1)), .int .i64 a0_2] (0, 0) _ rfl (by (with_reducible repeat (first | refine lN ?_ _ | refine lD ?_ | refine lA ?_ _)); refine lX ?_ NB188_189.out _; (with_reducible repeat (first | refine lN ?_ _ | refine lD ?_ | refine lA ?_ _)); refine lX ?_ NB188_189.out _; (with_reducible repeat (first | refine lN ?_ _ | refine lD ?_ | refine lA ?_ _)); refine lX ?_ NB188_189.out _; (with_reducible repeat (first | refine lN ?_ _ | refine lD ?_ | refine lA ?_ _)); refine lP (cs := #[.slice Ao18 t191.length co18, .int .i64 (wrap64 (a0_1 + 1)), .int .i64 0]) ?_ 2 _ rfl; (with_reducible repeat (first | refine lN ?_ _ | refine lD ?_ | refine lA ?_ _)); refine lP (cs := #[.slice Ao18 t191.length co18, .int .i64 0, .int .i64 0]) ?_ 1 _ rfl; (with_reducible repeat (first | refine lN ?_ _ | refine lD ?_ | refine lA ?_ _)); refine lP (cs := #[.slice none 0 0, .int .i64 0, .int .i64 0]) ?_ 0 _ rfl; (with_reducible repeat (first | refine lN ?_ _ | refine lD ?_ | refine lA ?_ _)); exact BK188.out) Try.underlying29 rfl (by kernel_rfl) (.cell gb189 31 #[.int .i64 t198, .int .i64 t199, .int .i64 t200] (0, 0) _ rfl (by (with_reducible repeat (first | refine lN ?_ _ | refine lD ?_ | refine lA ?_ _)); refine lP (cs := #[.int .i64 t198, .int .i64 t199, .int .i64 0]) ?_ 2 _ rfl; (with_reducible repeat (first | refine lN ?_ _ | refine lD ?_ | refine lA ?_ _)); refine lP (cs := #[.int .i64 t198, .int .i64 0, .int .i64 0]) ?_ 1 _ rfl; (with_reducible repeat (first | refine lN ?_ _ | refine lD ?_ | refine lA ?_ _)); refine lP (cs := #[.int .i64 0, .int .i64 0, .int .i64 0]) ?_ 0 _ rfl; (with_reducible repeat (first | refine lN ?_ _ | refine lD ?_ | refine lA ?_ _)); refine lX ?_ NB189_188.out _; (with_reducible repeat (first | refine lN ?_ _ | refine lD ?_ | refine lA ?_ _)); refine lX ?_ NB189_188.out _; (with_reducible repeat (first | refine lN ?_ _ | refine lD ?_ | refine lA ?_ _)); refine lX ?_ NB189_188.out _; (with_reducible repeat (first | refine lN ?_ _ | refine lD ?_ | refine lA ?_ _)); exact BK189.out) Try.underlying31 rfl (by kernel_rfl) (.tmp (.tmp .nil))))) rfl ?_
         exact ⟨_, by first | rfl | (simp [errW_none, errW_some] <;> rfl) | (simp [*, errW_none, errW_some] <;> rfl), by (with_reducible repeat (first | apply qA | apply qN | apply qD)); exact Kd.Q_mono (Kd.Q_far (p := ⟨gb189, 2, none⟩) (Kd.Q_far (p := ⟨gb189, 1, none⟩) (Kd.Q_far (p := ⟨gb189, 0, none⟩) (Kd.Q_far (p := ⟨gb188, 2, none⟩) (Kd.Q_far (p := ⟨gb188, 1, none⟩) (Kd.Q_far (p := ⟨gb188, 0, none⟩) (Kd.Q_types (Kd.Q_types HO_187000.out BK188.out (by decide)) BK189.out (by decide)) (fun _ hk => hk.1.2) (.slice Ao18 t191.length co18)) (fun _ hk => hk.1.2) (.int .i64 (wrap64 (a0_1 + 1)))) (fun _ hk => hk.1.2) (.int .i64 a0_2)) (fun _ hk => hk.2) (.int .i64 t198)) (fun _ hk => hk.2) (.int .i64 t199)) (fun _ hk => hk.2) (.int .i64 t200)) (fun _ hk => trivial), by repeat (first | (with_reducible first | exact HB.out | apply bA | apply bN | apply bD | refine bS ?_ GE186.out | refine bS ?_ GE187.out | refine bS ?_ GE188.out | refine bS ?_ GE189.out | refine bS ?_ GE201.out) | exact HB.out)⟩
       ·replace c71 := fB c71
        subst c71
        have H1 : (some (([] : List ByteArray), 0, 0, 0, 0, 0, (⟨#[]⟩ : ByteArray), false)) = some (r1, r2, r3, r4, r5, r6, r7, r8) := by rw [if_neg (show ¬ (false = true) by decide)] at H; exact H
        clear H
        have H := H1
        clear H1
        simp only [Option.some.injEq, Prod.mk.injEq] at H
        obtain ⟨rfl, rfl, rfl, rfl, rfl, rfl, rfl, rfl⟩ := H
        have hnb121 := NB188_186.out
        have hnc121 := NB186_188.out
        have hnb122 := NB188_187.out
        have hnc122 := NB187_188.out
        have hnb123 := NB188_189.out
        have hnc123 := NB189_188.out
        have hcz124_0 : wc.cell? ⟨gb188, 0, none⟩ = some (.slice none 0 0) := (lC BK188.out 0).trans rfl
        have hcz124_1 : wc.cell? ⟨gb188, 1, none⟩ = some (.int .i64 0) := (lC BK188.out 1).trans rfl
        have hcz124_2 : wc.cell? ⟨gb188, 2, none⟩ = some (.int .i64 0) := (lC BK188.out 2).trans rfl
        have hfz124_0 := lF BK188.out 0
        have hfz124_1 := lF BK188.out 1
        have hfz124_2 := lF BK188.out 2
        have hnb125 := NB189_186.out
        have hnc125 := NB186_189.out
        have hnb126 := NB189_187.out
        have hnc126 := NB187_189.out
        have hcz127_0 : wc.cell? ⟨gb189, 0, none⟩ = some (.int .i64 0) := (lC BK189.out 0).trans rfl
        have hcz127_1 : wc.cell? ⟨gb189, 1, none⟩ = some (.int .i64 0) := (lC BK189.out 1).trans rfl
        have hcz127_2 : wc.cell? ⟨gb189, 2, none⟩ = some (.int .i64 0) := (lC BK189.out 2).trans rfl
        have hfz127_0 := lF BK189.out 0
        have hfz127_1 := lF BK189.out 1
        have hfz127_2 := lF BK189.out 2
        go_wp2
        refine bodyPost_ret (results_list (rs := [.cell 4 29, .cell 5 31, .tmp 6, .tmp 7]) rfl (by simp) (.cell gb188 29 #[.slice none 0 0, .int .i64 0, .int .i64 0] (0, 0) _ rfl (by (with_reducible repeat (first | refine lN ?_ _ | refine lD ?_ | refine lA ?_ _)); refine lX ?_ NB188_189.out _; (with_reducible repeat (first | refine lN ?_ _ | refine lD ?_ | refine lA ?_ _)); refine lX ?_ NB188_189.out _; (with_reducible repeat (first | refine lN ?_ _ | refine lD ?_ | refine lA ?_ _)); refine lX ?_ NB188_189.out _; (with_reducible repeat (first | refine lN ?_ _ | refine lD ?_ | refine lA ?_ _)); refine lP (cs := #[.slice none 0 0, .int .i64 0, .int .i64 0]) ?_ 2 _ rfl; (with_reducible repeat (first | refine lN ?_ _ | refine lD ?_ | refine lA ?_ _)); refine lP (cs := #[.slice none 0 0, .int .i64 0, .int .i64 0]) ?_ 1 _ rfl; (with_reducible repeat (first | refine lN ?_ _ | refine lD ?_ | refine lA ?_ _)); refine lP (cs := #[.slice none 0 0, .int .i64 0, .int .i64 0]) ?_ 0 _ rfl; (with_reducible repeat (first | refine lN ?_ _ | refine lD ?_ | refine lA ?_ _)); exact BK188.out) Try.underlying29 rfl (by kernel_rfl) (.cell gb189 31 #[.int .i64 0, .int .i64 0, .int .i64 0] (0, 0) _ rfl (by (with_reducible repeat (first | refine lN ?_ _ | refine lD ?_ | refine lA ?_ _)); refine lP (cs := #[.int .i64 0, .int .i64 0, .int .i64 0]) ?_ 2 _ rfl; (with_reducible repeat (first | refine lN ?_ _ | refine lD ?_ | refine lA ?_ _)); refine lP (cs := #[.int .i64 0, .int .i64 0, .int .i64 0]) ?_ 1 _ rfl; (with_reducible repeat (first | refine lN ?_ _ | refine lD ?_ | refine lA ?_ _)); refine lP (cs := #[.int .i64 0, .int .i64 0, .int .i64 0]) ?_ 0 _ rfl; (with_reducible repeat (first | refine lN ?_ _ | refine lD ?_ | refine lA ?_ _)); refine lX ?_ NB189_188.out _; (with_reducible repeat (first | refine lN ?_ _ | refine lD ?_ | refine lA ?_ _)); refine lX ?_ NB189_188.out _; (with_reducible repeat (first | refine lN ?_ _ | refine lD ?_ | refine lA ?_ _)); refine lX ?_ NB189_188.out _; (with_reducible repeat (first | refine lN ?_ _ | refine lD ?_ | refine lA ?_ _)); exact BK189.out) Try.underlying31 rfl (by kernel_rfl) (.tmp (.tmp .nil))))) rfl ?_
        exact ⟨_, by first | rfl | (simp [errW_none, errW_some] <;> rfl) | (simp [*, errW_none, errW_some] <;> rfl), Kd.Q_of_R (by first | exact Kd.R_nil _ _ _ _ _ | exact Kd.N_nil _ _ _ _ _ | exact Kd.V_nil _ _ _ _ _ | exact Kd.Q_nil _ _ _ _ _ | exact Kd.S_nil _ _ _ _ _), by repeat (first | (with_reducible first | exact HB.out | apply bA | apply bN | apply bD | refine bS ?_ GE186.out | refine bS ?_ GE187.out | refine bS ?_ GE188.out | refine bS ?_ GE189.out) | exact HB.out)⟩
 ·replace c4 := fB c4
  subst c4
  have H1 : (some (([] : List ByteArray), 0, 0, 0, 0, 0, (⟨#[]⟩ : ByteArray), false)) = some (r1, r2, r3, r4, r5, r6, r7, r8) := by rw [if_neg (show ¬ (false = true) by decide)] at H; exact H
  clear H
  have H := H1
  clear H1
  simp only [Option.some.injEq, Prod.mk.injEq] at H
  obtain ⟨rfl, rfl, rfl, rfl, rfl, rfl, rfl, rfl⟩ := H
  go_enter Try.func10, Try.ntmps10
  go_wp2_with (first | ((with_reducible refine gate_dst (N := 2) rfl ?_); (try (refine gate_guard (by rfl) ?_; dsimp only)); refine box_event ?hg (N := 2) ?hd (cs := #[.slice A0_0 l0_0.length c0_0, .int .i64 a0_1, .int .i64 a0_2]) (t := 29) ?hr ?_; (case hd => rfl); (case hg => rfl); (case hr => first | (go_simp; done) | (go_simp; rfl)); intro gb186 hg w128 hbox hb; have n0_ := Aside0.mk (below_step (by repeat (first | (with_reducible first | exact HB.out | apply bA | apply bN | apply bD) | exact HB.out)) hb); have n1_ := Aside0.mk (hbox); have n2_ := Aside0.mk ((by rw [hg]; exact (below_size (by repeat (first | (with_reducible first | exact HB.out | apply bA | apply bN | apply bD) | exact HB.out))) : w.heap.size ≤ gb186)); have n3_ := Aside0.mk ((by rw [hg]; exact (below_size (by repeat (first | (with_reducible first | exact HB.out | apply bA | apply bN | apply bD) | exact HB.out))) : w.heap.size ≤ gb186)); clear HB; have HB := n0_; have BK186 := n1_; have GW186 := n2_; have GE186 := n3_; clear n0_ n1_ n2_ n3_; clear hb hbox hg) | ((with_reducible refine gate_dst (N := 3) rfl ?_); (try (refine gate_guard (by rfl) ?_; dsimp only)); refine box_event ?hg (N := 3) ?hd (cs := #[.int .i64 a1_0, .string a1_1]) (t := 35) ?hr ?_; (case hd => rfl); (case hg => rfl); (case hr => first | (go_simp; done) | (go_simp; rfl)); intro gb187 hg w129 hbox hb; have n0_ := Aside0.mk (blk_below (g := gb186) (o := .cells #[.slice A0_0 l0_0.length c0_0, .int .i64 a0_1, .int .i64 a0_2] 29 (0, 0)) (by (with_reducible repeat (first | refine lN ?_ _ | refine lD ?_ | refine lA ?_ _)); exact BK186.out) hb); have n1_ := Aside0.mk (below_step (by repeat (first | (with_reducible first | exact HB.out | apply bA | apply bN | apply bD | refine bS ?_ GE186.out) | exact HB.out)) hb); have n2_ := Aside0.mk (hbox); have n3_ := Aside0.mk ((by rw [hg]; exact (below_size (by repeat (first | (with_reducible first | exact HB.out | apply bA | apply bN | apply bD | refine bS ?_ GE186.out) | exact HB.out))) : w.heap.size ≤ gb187)); have n4_ := Aside0.mk ((by rw [hg]; exact (below_size (by repeat (first | (with_reducible first | exact HB.out | apply bA | apply bN | apply bD | refine bS ?_ GE186.out) | exact HB.out))) : w.heap.size ≤ gb187)); have n5_ := Aside0.mk ((by rw [hg]; exact Nat.ne_of_lt (blk_lt (g := gb186) (o := .cells #[.slice A0_0 l0_0.length c0_0, .int .i64 a0_1, .int .i64 a0_2] 29 (0, 0)) (by (with_reducible repeat (first | refine lN ?_ _ | refine lD ?_ | refine lA ?_ _)); exact BK186.out)) : gb186 ≠ gb187)); have n6_ := Aside0.mk ((by rw [hg]; exact Nat.ne_of_gt (blk_lt (g := gb186) (o := .cells #[.slice A0_0 l0_0.length c0_0, .int .i64 a0_1, .int .i64 a0_2] 29 (0, 0)) (by (with_reducible repeat (first | refine lN ?_ _ | refine lD ?_ | refine lA ?_ _)); exact BK186.out)) : gb187 ≠ gb186)); clear BK186; clear HB; have BK186 := n0_; have HB := n1_; have BK187 := n2_; have GW187 := n3_; have GE187 := n4_; have NB186_187 := n5_; have NB187_186 := n6_; clear n0_ n1_ n2_ n3_ n4_ n5_ n6_; clear hb hbox hg) | ((with_reducible refine gate_dst (N := 4) rfl ?_); (try (refine gate_guard (by rfl) ?_; dsimp only)); refine box_event ?hg (N := 4) ?hd (cs := #[.slice none 0 0, .int .i64 0, .int .i64 0]) (t := 29) ?hr ?_; (case hd => rfl); (case hg => rfl); (case hr => first | (go_simp; done) | (go_simp; rfl)); intro gb188 hg w130 hbox hb; have n0_ := Aside0.mk (blk_below (g := gb186) (o := .cells #[.slice A0_0 l0_0.length c0_0, .int .i64 a0_1, .int .i64 a0_2] 29 (0, 0)) (by (with_reducible repeat (first | refine lN ?_ _ | refine lD ?_ | refine lA ?_ _)); exact BK186.out) hb); have n1_ := Aside0.mk (blk_below (g := gb187) (o := .cells #[.int .i64 a1_0, .string a1_1] 35 (0, 0)) (by (with_reducible repeat (first | refine lN ?_ _ | refine lD ?_ | refine lA ?_ _)); exact BK187.out) hb); have n2_ := Aside0.mk (below_step (by repeat (first | (with_reducible first | exact HB.out | apply bA | apply bN | apply bD | refine bS ?_ GE186.out | refine bS ?_ GE187.out) | exact HB.out)) hb); have n3_ := Aside0.mk (hbox); have n4_ := Aside0.mk ((by rw [hg]; exact (below_size (by repeat (first | (with_reducible first | exact HB.out | apply bA | apply bN | apply bD | refine bS ?_ GE186.out | refine bS ?_ GE187.out) | exact HB.out))) : w.heap.size ≤ gb188)); have n5_ := Aside0.mk ((by rw [hg]; exact (below_size (by repeat (first | (with_reducible first | exact HB.out | apply bA | apply bN | apply bD | refine bS ?_ GE186.out | refine bS ?_ GE187.out) | exact HB.out))) : w.heap.size ≤ gb188)); have n6_ := Aside0.mk ((by rw [hg]; exact Nat.ne_of_lt (blk_lt (g := gb186) (o := .cells #[.slice A0_0 l0_0.length c0_0, .int .i64 a0_1, .int .i64 a0_2] 29 (0, 0)) (by (with_reducible repeat (first | refine lN ?_ _ | refine lD ?_ | refine lA ?_ _)); exact BK186.out)) : gb186 ≠ gb188)); have n7_ := Aside0.mk ((by rw [hg]; exact Nat.ne_of_gt (blk_lt (g := gb186) (o := .cells #[.slice A0_0 l0_0.length c0_0, .int .i64 a0_1, .int .i64 a0_2] 29 (0, 0)) (by (with_reducible repeat (first | refine lN ?_ _ | refine lD ?_ | refine lA ?_ _)); exact BK186.out)) : gb188 ≠ gb186)); have n8_ := Aside0.mk ((by rw [hg]; exact Nat.ne_of_lt (blk_lt (g := gb187) (o := .cells #[.int .i64 a1_0, .string a1_1] 35 (0, 0)) (by (with_reducible repeat (first | refine lN ?_ _ | refine lD ?_ | refine lA ?_ _)); exact BK187.out)) : gb187 ≠ gb188)); have n9_ := Aside0.mk ((by rw [hg]; exact Nat.ne_of_gt (blk_lt (g := gb187) (o := .cells #[.int .i64 a1_0, .string a1_1] 35 (0, 0)) (by (with_reducible repeat (first | refine lN ?_ _ | refine lD ?_ | refine lA ?_ _)); exact BK187.out)) : gb188 ≠ gb187)); clear BK186; clear BK187; clear HB; have BK186 := n0_; have BK187 := n1_; have HB := n2_; have BK188 := n3_; have GW188 := n4_; have GE188 := n5_; have NB186_188 := n6_; have NB188_186 := n7_; have NB187_188 := n8_; have NB188_187 := n9_; clear n0_ n1_ n2_ n3_ n4_ n5_ n6_ n7_ n8_ n9_; clear hb hbox hg) | ((with_reducible refine gate_dst (N := 5) rfl ?_); (try (refine gate_guard (by rfl) ?_; dsimp only)); refine box_event ?hg (N := 5) ?hd (cs := #[.int .i64 0, .int .i64 0, .int .i64 0]) (t := 31) ?hr ?_; (case hd => rfl); (case hg => rfl); (case hr => first | (go_simp; done) | (go_simp; rfl)); intro gb189 hg w131 hbox hb; have n0_ := Aside0.mk (blk_below (g := gb186) (o := .cells #[.slice A0_0 l0_0.length c0_0, .int .i64 a0_1, .int .i64 a0_2] 29 (0, 0)) (by (with_reducible repeat (first | refine lN ?_ _ | refine lD ?_ | refine lA ?_ _)); exact BK186.out) hb); have n1_ := Aside0.mk (blk_below (g := gb187) (o := .cells #[.int .i64 a1_0, .string a1_1] 35 (0, 0)) (by (with_reducible repeat (first | refine lN ?_ _ | refine lD ?_ | refine lA ?_ _)); exact BK187.out) hb); have n2_ := Aside0.mk (blk_below (g := gb188) (o := .cells #[.slice none 0 0, .int .i64 0, .int .i64 0] 29 (0, 0)) (by (with_reducible repeat (first | refine lN ?_ _ | refine lD ?_ | refine lA ?_ _)); exact BK188.out) hb); have n3_ := Aside0.mk (below_step (by repeat (first | (with_reducible first | exact HB.out | apply bA | apply bN | apply bD | refine bS ?_ GE186.out | refine bS ?_ GE187.out | refine bS ?_ GE188.out) | exact HB.out)) hb); have n4_ := Aside0.mk (hbox); have n5_ := Aside0.mk ((by rw [hg]; exact (below_size (by repeat (first | (with_reducible first | exact HB.out | apply bA | apply bN | apply bD | refine bS ?_ GE186.out | refine bS ?_ GE187.out | refine bS ?_ GE188.out) | exact HB.out))) : w.heap.size ≤ gb189)); have n6_ := Aside0.mk ((by rw [hg]; exact (below_size (by repeat (first | (with_reducible first | exact HB.out | apply bA | apply bN | apply bD | refine bS ?_ GE186.out | refine bS ?_ GE187.out | refine bS ?_ GE188.out) | exact HB.out))) : w.heap.size ≤ gb189)); have n7_ := Aside0.mk ((by rw [hg]; exact Nat.ne_of_lt (blk_lt (g := gb186) (o := .cells #[.slice A0_0 l0_0.length c0_0, .int .i64 a0_1, .int .i64 a0_2] 29 (0, 0)) (by (with_reducible repeat (first | refine lN ?_ _ | refine lD ?_ | refine lA ?_ _)); exact BK186.out)) : gb186 ≠ gb189)); have n8_ := Aside0.mk ((by rw [hg]; exact Nat.ne_of_gt (blk_lt (g := gb186) (o := .cells #[.slice A0_0 l0_0.length c0_0, .int .i64 a0_1, .int .i64 a0_2] 29 (0, 0)) (by (with_reducible repeat (first | refine lN ?_ _ | refine lD ?_ | refine lA ?_ _)); exact BK186.out)) : gb189 ≠ gb186)); have n9_ := Aside0.mk ((by rw [hg]; exact Nat.ne_of_lt (blk_lt (g := gb187) (o := .cells #[.int .i64 a1_0, .string a1_1] 35 (0, 0)) (by (with_reducible repeat (first | refine lN ?_ _ | refine lD ?_ | refine lA ?_ _)); exact BK187.out)) : gb187 ≠ gb189)); have n10_ := Aside0.mk ((by rw [hg]; exact Nat.ne_of_gt (blk_lt (g := gb187) (o := .cells #[.int .i64 a1_0, .string a1_1] 35 (0, 0)) (by (with_reducible repeat (first | refine lN ?_ _ | refine lD ?_ | refine lA ?_ _)); exact BK187.out)) : gb189 ≠ gb187)); have n11_ := Aside0.mk ((by rw [hg]; exact Nat.ne_of_lt (blk_lt (g := gb188) (o := .cells #[.slice none 0 0, .int .i64 0, .int .i64 0] 29 (0, 0)) (by (with_reducible repeat (first | refine lN ?_ _ | refine lD ?_ | refine lA ?_ _)); exact BK188.out)) : gb188 ≠ gb189)); have n12_ := Aside0.mk ((by rw [hg]; exact Nat.ne_of_gt (blk_lt (g := gb188) (o := .cells #[.slice none 0 0, .int .i64 0, .int .i64 0] 29 (0, 0)) (by (with_reducible repeat (first | refine lN ?_ _ | refine lD ?_ | refine lA ?_ _)); exact BK188.out)) : gb189 ≠ gb188)); clear BK186; clear BK187; clear BK188; clear HB; have BK186 := n0_; have BK187 := n1_; have BK188 := n2_; have HB := n3_; have BK189 := n4_; have GW189 := n5_; have GE189 := n6_; have NB186_189 := n7_; have NB189_186 := n8_; have NB187_189 := n9_; have NB189_187 := n10_; have NB188_189 := n11_; have NB189_188 := n12_; clear n0_ n1_ n2_ n3_ n4_ n5_ n6_ n7_ n8_ n9_ n10_ n11_ n12_; clear hb hbox hg; have hnb132 := NB186_187.out; have hnc132 := NB187_186.out; have hnb133 := NB186_188.out; have hnc133 := NB188_186.out; have hnb134 := NB186_189.out; have hnc134 := NB189_186.out; have hcz135_0 : w131.cell? ⟨gb186, 0, none⟩ = some (.slice A0_0 l0_0.length c0_0) := (lC BK186.out 0).trans rfl; have hcz135_1 : w131.cell? ⟨gb186, 1, none⟩ = some (.int .i64 a0_1) := (lC BK186.out 1).trans rfl; have hcz135_2 : w131.cell? ⟨gb186, 2, none⟩ = some (.int .i64 a0_2) := (lC BK186.out 2).trans rfl; have hfz135_0 := lF BK186.out 0; have hfz135_1 := lF BK186.out 1; have hfz135_2 := lF BK186.out 2) | ((with_reducible refine gate_callee (f := 18) rfl ?_); refine goesL_ (some 11) rfl rfl Try.func18 (by kernel_rfl) rfl #[.agg #[.slice A0_0 l0_0.length c0_0, .int .i64 a0_1, .int .i64 a0_2]] rfl (by (try simp only [List.map_toArray, List.map_cons, List.map_nil]); first | done | rfl | (simp only [List.length_drop, List.length_take]; rfl)) ?_; (with_reducible refine (impl_GoodClient.calls k _ _ l0_0 a0_1 a0_2 false _ ?side1 ?side2 A3.out).mono ?_); (case side1 => repeat (first | exact (Kd.C_below HR0_0.out HB.out) | (with_reducible first | refine cA ?_ _ | refine cN ?_ _ | refine cD ?_))); (case side2 => exact HC0_0.out); rintro e w136 ⟨rfl, hb⟩; refine ⟨_, rfl, ?_⟩; have n0_ := Aside0.mk (blk_below (g := gb186) (o := .cells #[.slice A0_0 l0_0.length c0_0, .int .i64 a0_1, .int .i64 a0_2] 29 (0, 0)) (by (with_reducible repeat (first | refine lN ?_ _ | refine lD ?_ | refine lA ?_ _)); exact BK186.out) hb); have n1_ := Aside0.mk (blk_below (g := gb187) (o := .cells #[.int .i64 a1_0, .string a1_1] 35 (0, 0)) (by (with_reducible repeat (first | refine lN ?_ _ | refine lD ?_ | refine lA ?_ _)); exact BK187.out) hb); have n2_ := Aside0.mk (blk_below (g := gb188) (o := .cells #[.slice none 0 0, .int .i64 0, .int .i64 0] 29 (0, 0)) (by (with_reducible repeat (first | refine lN ?_ _ | refine lD ?_ | refine lA ?_ _)); exact BK188.out) hb); have n3_ := Aside0.mk (blk_below (g := gb189) (o := .cells #[.int .i64 0, .int .i64 0, .int .i64 0] 31 (0, 0)) (by (with_reducible repeat (first | refine lN ?_ _ | refine lD ?_ | refine lA ?_ _)); exact BK189.out) hb); have n4_ := Aside0.mk (below_step (by repeat (first | (with_reducible first | exact HB.out | apply bA | apply bN | apply bD | refine bS ?_ GE186.out | refine bS ?_ GE187.out | refine bS ?_ GE188.out | refine bS ?_ GE189.out) | exact HB.out)) hb); clear BK186; clear BK187; clear BK188; clear BK189; clear HB; have BK186 := n0_; have BK187 := n1_; have BK188 := n2_; have BK189 := n3_; have HB := n4_; clear n0_ n1_ n2_ n3_ n4_; (try clear hb); (try clear hb2); (try clear hk); (try clear hi); have hnb137 := NB188_187.out; have hnc137 := NB187_188.out; have hnb138 := NB188_189.out; have hnc138 := NB189_188.out; have hcz139_0 : w136.cell? ⟨gb188, 0, none⟩ = some (.slice none 0 0) := (lC BK188.out 0).trans rfl; have hcz139_1 : w136.cell? ⟨gb188, 1, none⟩ = some (.int .i64 0) := (lC BK188.out 1).trans rfl; have hcz139_2 : w136.cell? ⟨gb188, 2, none⟩ = some (.int .i64 0) := (lC BK188.out 2).trans rfl; have hfz139_0 := lF BK188.out 0; have hfz139_1 := lF BK188.out 1; have hfz139_2 := lF BK188.out 2; have hnb140 := NB189_187.out; have hnc140 := NB187_189.out; have hcz141_0 : w136.cell? ⟨gb189, 0, none⟩ = some (.int .i64 0) := (lC BK189.out 0).trans rfl; have hcz141_1 : w136.cell? ⟨gb189, 1, none⟩ = some (.int .i64 0) := (lC BK189.out 1).trans rfl; have hcz141_2 : w136.cell? ⟨gb189, 2, none⟩ = some (.int .i64 0) := (lC BK189.out 2).trans rfl; have hfz141_0 := lF BK189.out 0; have hfz141_1 := lF BK189.out 1; have hfz141_2 := lF BK189.out 2))
  refine bodyPost_ret (results_list (rs := [.cell 4 29, .cell 5 31, .tmp 6, .tmp 7]) rfl (by simp) (.cell gb188 29 #[.slice none 0 0, .int .i64 0, .int .i64 0] (0, 0) _ rfl (by (with_reducible repeat (first | refine lN ?_ _ | refine lD ?_ | refine lA ?_ _)); refine lX ?_ NB188_189.out _; (with_reducible repeat (first | refine lN ?_ _ | refine lD ?_ | refine lA ?_ _)); refine lX ?_ NB188_189.out _; (with_reducible repeat (first | refine lN ?_ _ | refine lD ?_ | refine lA ?_ _)); refine lX ?_ NB188_189.out _; (with_reducible repeat (first | refine lN ?_ _ | refine lD ?_ | refine lA ?_ _)); refine lP (cs := #[.slice none 0 0, .int .i64 0, .int .i64 0]) ?_ 2 _ rfl; (with_reducible repeat (first | refine lN ?_ _ | refine lD ?_ | refine lA ?_ _)); refine lP (cs := #[.slice none 0 0, .int .i64 0, .int .i64 0]) ?_ 1 _ rfl; (with_reducible repeat (first | refine lN ?_ _ | refine lD ?_ | refine lA ?_ _)); refine lP (cs := #[.slice none 0 0, .int .i64 0, .int .i64 0]) ?_ 0 _ rfl; (with_reducible repeat (first | refine lN ?_ _ | refine lD ?_ | refine lA ?_ _)); exact BK188.out) Try.underlying29 rfl (by kernel_rfl) (.cell gb189 31 #[.int .i64 0, .int .i64 0, .int .i64 0] (0, 0) _ rfl (by (with_reducible repeat (first | refine lN ?_ _ | refine lD ?_ | refine lA ?_ _)); refine lP (cs := #[.int .i64 0, .int .i64 0, .int .i64 0]) ?_ 2 _ rfl; (with_reducible repeat (first | refine lN ?_ _ | refine lD ?_ | refine lA ?_ _)); refine lP (cs := #[.int .i64 0, .int .i64 0, .int .i64 0]) ?_ 1 _ rfl; (with_reducible repeat (first | refine lN ?_ _ | refine lD ?_ | refine lA ?_ _)); refine lP (cs := #[.int .i64 0, .int .i64 0, .int .i64 0]) ?_ 0 _ rfl; (with_reducible repeat (first | refine lN ?_ _ | refine lD ?_ | refine lA ?_ _)); refine lX ?_ NB189_188.out _; (with_reducible repeat (first | refine lN ?_ _ | refine lD ?_ | refine lA ?_ _)); refine lX ?_ NB189_188.out _; (with_reducible repeat (first | refine lN ?_ _ | refine lD ?_ | refine lA ?_ _)); refine lX ?_ NB189_188.out _; (with_reducible repeat (first | refine lN ?_ _ | refine lD ?_ | refine lA ?_ _)); exact BK189.out) Try.underlying31 rfl (by kernel_rfl) (.tmp (.tmp .nil))))) rfl ?_
  exact ⟨_, by first | rfl | (simp [errW_none, errW_some] <;> rfl) | (simp [*, errW_none, errW_some] <;> rfl), Kd.Q_of_R (by first | exact Kd.R_nil _ _ _ _ _ | exact Kd.N_nil _ _ _ _ _ | exact Kd.V_nil _ _ _ _ _ | exact Kd.Q_nil _ _ _ _ _ | exact Kd.S_nil _ _ _ _ _), by repeat (first | (with_reducible first | exact HB.out | apply bA | apply bN | apply bD | refine bS ?_ GE186.out | refine bS ?_ GE187.out | refine bS ?_ GE188.out | refine bS ?_ GE189.out) | exact HB.out)⟩
end Go.Proofs.Ytodhogegjkfemaa.PFnQueue
