-- Written by a program of this session, after the kit's print (changed in some places; see NOTES.md). Lean checks it.
import Derived.Test.YtodhogegjkfemaaAbb
import Derived.Test.YtodhogegjkfemaaPFnQueuex0
import Derived.Test.YtodhogegjkfemaaPFnQueuex2
namespace Go.Proofs.Ytodhogegjkfemaa.PFnQueue
open Go.Proofs.Ytodhogegjkfemaa.Abb Go.RowKit Go.Proofs.YtodhogegjkfemaaW.PrintWords Go.Proofs.YtodhogegjkfemaaW.PrintLast Go.Proofs.YtodhogegjkfemaaW.PrintMore
attribute [local go_sem] max2_int min2_int max_two min_two max_three min_three max_four min_four   -- for this text's walks alone
set_option linter.unusedVariables false
set_option linter.unusedSimpArgs false
mutual
def spec_l10Step.j0 : Nat → Bool → List ByteArray → Int → Int → Int → ByteArray → Option (List ByteArray × Int × Int × Int × Int × Int × ByteArray × Bool)
 | 0, _, _, _, _, _, _ => none
 | k + 1, x9, x108000, x108001, x108002, x109000, x109001 => if x9 = true then ((some (([] : List ByteArray) : List ByteArray)).bind fun y112 => (if y112.length + x108000.length < 8796093022208 then ((some (y112 ++ x108000 : List ByteArray)).bind fun y115 => ((some (([x109001] : List ByteArray) : List ByteArray)).bind fun y118 => (if y115.length + y118.length < 8796093022208 then (some ((y115 ++ y118), x108001, x108002, 0, 0, 0, (⟨#[]⟩ : ByteArray), true)) else (none)))) else (none))) else (if x109000 = 2 then (if x109001.toList = ([] : List UInt8) then (spec_l10Step.j1 k (decide (x108001 < 1000)) x108000 x108001 x108002) else (spec_l10Step.j1 k false x108000 x108001 x108002)) else (spec_l10Step.j1 k false x108000 x108001 x108002))
def spec_l10Step.j1 : Nat → Bool → List ByteArray → Int → Int → Option (List ByteArray × Int × Int × Int × Int × Int × ByteArray × Bool)
 | 0, _, _, _, _ => none
 | k + 1, x35, x108000, x108001, x108002 => if x35 = true then (if (x108000.length : Int) > 0 then (if 0 < (x108000.length : Int) then ((some (([] : List ByteArray) : List ByteArray)).bind fun y125 => (if 1 ≤ (x108000.length : Int) then ((some (x108000.drop 1 : List ByteArray)).bind fun y128 => (if y125.length + y128.length < 8796093022208 then ((spec_l10Emit.f x108002 (wrap64 ((wrap64 (x108001 + 1)) - 1))).bind fun bt135 => (some ((y125 ++ y128), wrap64 (x108001 + 1), x108002, bt135.1, bt135.2.1, bt135.2.2, rdOf ByteArray.empty x108000 0, true))) else (none))) else (none))) else (none)) else ((spec_l10Emit.f x108002 (wrap64 ((wrap64 (x108001 + 1)) - 1))).bind fun bt138 => (some (x108000, wrap64 (x108001 + 1), x108002, bt138.1, bt138.2.1, bt138.2.2, (⟨#[]⟩ : ByteArray), true)))) else (some (x108000, x108001, x108002, 0, 0, 0, (⟨#[]⟩ : ByteArray), false))
end
def spec_l10Step.f (k : Nat) (l0_0 : List ByteArray) (a0_1 : Int) (a0_2 : Int) (a1_0 : Int) (a1_1 : ByteArray) : Option (List ByteArray × Int × Int × Int × Int × Int × ByteArray × Bool) := if a1_0 = 1 then ((spec_l10Text.f a1_1).bind fun t111 => (if t111 = true then (spec_l10Step.j0 k (decide ((l0_0.length : Int) < 5)) l0_0 a0_1 a0_2 a1_0 a1_1) else (spec_l10Step.j0 k false l0_0 a0_1 a0_2 a1_0 a1_1))) else (spec_l10Step.j0 k false l0_0 a0_1 a0_2 a1_0 a1_1)
theorem spec_l10Step.mono_l : ∀ k, (∀ y0 y1 y2 y3 y4 y5, LeO (spec_l10Step.j0 k y0 y1 y2 y3 y4 y5) (spec_l10Step.j0 (k + 1) y0 y1 y2 y3 y4 y5)) ∧ (∀ y0 y1 y2 y3, LeO (spec_l10Step.j1 k y0 y1 y2 y3) (spec_l10Step.j1 (k + 1) y0 y1 y2 y3))
 | 0 => ⟨fun _ _ _ _ _ _ r h => by simp [spec_l10Step.j0] at h, fun _ _ _ _ r h => by simp [spec_l10Step.j1] at h⟩
 | k + 1 => by
  obtain ⟨ih0, ih1⟩ := spec_l10Step.mono_l k
  refine ⟨?_, ?_⟩
  ·intro y0 y1 y2 y3 y4 y5
   unfold spec_l10Step.j0
   repeat' first
   | (with_reducible exact ih0 _ _ _ _ _ _)
   | (with_reducible exact ih1 _ _ _ _)
   | (with_reducible exact LeO.refl _)
   | (with_reducible exact LeO.none _)
   | (with_reducible refine LeO.ite ?_ ?_)
   | (with_reducible refine LeO.bind ?_ (fun _ => ?_))
   | exact ih0 _ _ _ _ _ _
   | exact ih1 _ _ _ _
   | exact LeO.none _
   | refine LeO.ite ?_ ?_
   | refine LeO.bind ?_ (fun _ => ?_)
  ·intro y0 y1 y2 y3
   unfold spec_l10Step.j1
   repeat' first
   | (with_reducible exact ih0 _ _ _ _ _ _)
   | (with_reducible exact ih1 _ _ _ _)
   | (with_reducible exact LeO.refl _)
   | (with_reducible exact LeO.none _)
   | (with_reducible refine LeO.ite ?_ ?_)
   | (with_reducible refine LeO.bind ?_ (fun _ => ?_))
   | exact ih0 _ _ _ _ _ _
   | exact ih1 _ _ _ _
   | exact LeO.none _
   | refine LeO.ite ?_ ?_
   | refine LeO.bind ?_ (fun _ => ?_)
theorem spec_l10Step.mono : ∀ a0 a1 a2 a3 a4 k, LeO (spec_l10Step.f k a0 a1 a2 a3 a4) (spec_l10Step.f (k + 1) a0 a1 a2 a3 a4) := by
 intro a0 a1 a2 a3 a4 k
 obtain ⟨ih0, ih1⟩ := spec_l10Step.mono_l k
 unfold spec_l10Step.f
 repeat' first
   | (with_reducible exact ih0 _ _ _ _ _ _)
   | (with_reducible exact ih1 _ _ _ _)
   | (with_reducible exact LeO.refl _)
   | (with_reducible exact LeO.none _)
   | (with_reducible refine LeO.ite ?_ ?_)
   | (with_reducible refine LeO.bind ?_ (fun _ => ?_))
   | exact ih0 _ _ _ _ _ _
   | exact ih1 _ _ _ _
   | exact LeO.none _
   | refine LeO.ite ?_ ?_
   | refine LeO.bind ?_ (fun _ => ?_)
def spec_l10Step.T2 : Bool × List (List Nat × List Nat) := (true, [([], []), ([], []), ([1], [1]), ([0, 2], [0, 2]), ([], []), ([4], [4]), ([5], [5]), ([3, 6, 3], [3, 6]), ([0, 1, 2, 3, 4, 5, 6, 7], []), ([8, 7, 7, 0, 1, 2, 3, 4, 5, 6, 7], [7, 8])])
def spec_l10Step.B2 : List Nat := [0, 0, 2, 7, 0, 16, 48, 127, 255, 511]
theorem spec_l10Step.tab2 : rtab .any (opsOf Try.f26 2) = spec_l10Step.T2 := by kernel_rfl
theorem spec_l10Step.bits2 : waitsOk spec_l10Step.T2.2 spec_l10Step.B2 = true := by kernel_rfl
def spec_l10Step.T10 : Bool × List (List Nat × List Nat) := (true, [([], []), ([], []), ([1], [1]), ([], []), ([3], [3]), ([4], [4]), ([2, 5], [2, 5]), ([], []), ([0, 6, 0], [0]), ([6, 8, 0, 1, 2, 3, 4, 5, 6, 8], [6]), ([7, 9, 0, 1, 2, 3, 4, 5, 6, 7, 8, 9], [7]), ([10, 0, 1, 2, 3, 4, 5, 6, 7, 8, 9, 10], [])])
def spec_l10Step.B10 : List Nat := [0, 0, 2, 0, 8, 24, 62, 0, 127, 383, 1023, 2047]
theorem spec_l10Step.tab10 : rtab .any (opsOf Try.f26 10) = spec_l10Step.T10 := by kernel_rfl
theorem spec_l10Step.bits10 : waitsOk spec_l10Step.T10.2 spec_l10Step.B10 = true := by kernel_rfl
set_option maxHeartbeats 8000000 in
set_option maxRecDepth 100000 in
theorem spec_l10Step.calls (k : Nat) (P0_0_ : Nat → Prop) (u9000_ : Value) (l0_0 : List ByteArray) (a0_1 : Int) (a0_2 : Int) (a1_0 : Int) (a1_1 : ByteArray) (r1 : List ByteArray) (r2 : Int) (r3 : Int) (r4 : Int) (r5 : Int) (r6 : Int) (r7 : ByteArray) (r8 : Bool) (w0 w : World) (hB : Below w0.heap.size w0 w) (ho0_0 : Kd.R Kd.string 9 w w0.heap.size P0_0_ u9000_ l0_0) (h : spec_l10Step.f k l0_0 a0_1 a0_2 a1_0 a1_1 = some (r1, r2, r3, r4, r5, r6, r7, r8)) :
  Calls Try.prog 26 #[.agg #[u9000_, .int .i64 a0_1, .int .i64 a0_2], .agg #[.int .i64 a1_0, .string a1_1]] w fun e w' => ∃ v0_ : Value, e = .returned (.tuple #[.agg #[v0_, .int .i64 r2, .int .i64 r3], .agg #[.int .i64 r4, .int .i64 r5, .int .i64 r6], .string r7, .bool r8]) ∧ Kd.R Kd.string 9 w' w0.heap.size (fun k_ => (P0_0_ k_ ∨ w.heap.size ≤ k_)) v0_ r1 ∧ Below w0.heap.size w0 w' ∧ Kept w w' (fun k_ => P0_0_ k_) := by
 have hu29 := Try.underlying29
 have hu35 := Try.underlying35
 have hu31 := Try.underlying31
 have HO0_0 := Aside0.mk (show Kd.R Kd.string 9 w w0.heap.size (fun k_ => (P0_0_ k_ ∨ w.heap.size ≤ k_)) u9000_ l0_0 from rM ho0_0 (fun k_ hk => (.inl hk)))
 have HK := Aside0.mk (Kept.refl w (fun k_ => P0_0_ k_))
 have HW0 := Aside0.mk hB.size
 have HB := Aside0.mk hB
 clear hB
 have H : (if a1_0 = 1 then ((spec_l10Text.f a1_1).bind fun t111 => (if t111 = true then (spec_l10Step.j0 k (decide ((l0_0.length : Int) < 5)) l0_0 a0_1 a0_2 a1_0 a1_1) else (spec_l10Step.j0 k false l0_0 a0_1 a0_2 a1_0 a1_1))) else (spec_l10Step.j0 k false l0_0 a0_1 a0_2 a1_0 a1_1)) = some (r1, r2, r3, r4, r5, r6, r7, r8) := h
 clear h
 have HC3 := Aside0.mk H
 clear H
 obtain ⟨Ao4, co4, eo4⟩ := rS HO0_0.out
 subst eo4
 go_enter Try.func26, Try.ntmps26
 go_upto_region 1 with (first | ((with_reducible refine gate_dst (N := 2) rfl ?_); (try (refine gate_guard (by rfl) ?_; dsimp only)); refine box_event ?hg (N := 2) ?hd (cs := #[.slice Ao4 l0_0.length co4, .int .i64 a0_1, .int .i64 a0_2]) (t := 29) ?hr ?_; (case hd => rfl); (case hg => rfl); (case hr => first | (go_simp; done) | (go_simp; rfl)); intro gb107 hg w5 hbox hb; have n0_ := Aside0.mk (rB (by (with_reducible repeat (first | apply rA | apply rN | apply rD)); exact HO0_0.out) hb); have n1_ := Aside0.mk (Kept.below (S := (fun k_ => P0_0_ k_)) (by repeat (first | (with_reducible first | exact HK.out | apply kA | apply kN | apply kD) | exact HK.out)) hb); have n2_ := Aside0.mk (below_step (by repeat (first | (with_reducible first | exact HB.out | apply bA | apply bN | apply bD) | exact HB.out)) hb); have n3_ := Aside0.mk (hbox); have n4_ := Aside0.mk ((by rw [hg]; exact (by first | exact HK.out.1 | exact (show Kept w _ (fun k_ => P0_0_ k_) from by repeat (first | (with_reducible first | exact HK.out | apply kA | apply kN | apply kD) | exact HK.out)).1) : w.heap.size ≤ gb107)); have n5_ := Aside0.mk ((by rw [hg]; exact (below_size (by repeat (first | (with_reducible first | exact HB.out | apply bA | apply bN | apply bD) | exact HB.out))) : w0.heap.size ≤ gb107)); clear HO0_0; clear HK; clear HB; have HO0_0 := n0_; have HK := n1_; have HB := n2_; have BK107 := n3_; have GW107 := n4_; have GE107 := n5_; clear n0_ n1_ n2_ n3_ n4_ n5_; clear hb hbox hg) | ((with_reducible refine gate_dst (N := 3) rfl ?_); (try (refine gate_guard (by rfl) ?_; dsimp only)); refine box_event ?hg (N := 3) ?hd (cs := #[.int .i64 a1_0, .string a1_1]) (t := 35) ?hr ?_; (case hd => rfl); (case hg => rfl); (case hr => first | (go_simp; done) | (go_simp; rfl)); intro gb108 hg w6 hbox hb; have n0_ := Aside0.mk (rB (by (with_reducible repeat (first | apply rA | apply rN | apply rD)); exact HO0_0.out) hb); have n1_ := Aside0.mk (blk_below (g := gb107) (o := .cells #[.slice Ao4 l0_0.length co4, .int .i64 a0_1, .int .i64 a0_2] 29 (0, 0)) (by (with_reducible repeat (first | refine lN ?_ _ | refine lD ?_ | refine lA ?_ _)); exact BK107.out) hb); have n2_ := Aside0.mk (Kept.below (S := (fun k_ => P0_0_ k_)) (by repeat (first | (with_reducible first | exact HK.out | apply kA | apply kN | apply kD | refine Kept.setCell ?_ (.inr GW107.out) _) | exact HK.out)) hb); have n3_ := Aside0.mk (below_step (by repeat (first | (with_reducible first | exact HB.out | apply bA | apply bN | apply bD | refine bS ?_ GE107.out) | exact HB.out)) hb); have n4_ := Aside0.mk (hbox); have n5_ := Aside0.mk ((by rw [hg]; exact (by first | exact HK.out.1 | exact (show Kept w _ (fun k_ => P0_0_ k_) from by repeat (first | (with_reducible first | exact HK.out | apply kA | apply kN | apply kD | refine Kept.setCell ?_ (.inr GW107.out) _) | exact HK.out)).1) : w.heap.size ≤ gb108)); have n6_ := Aside0.mk ((by rw [hg]; exact (below_size (by repeat (first | (with_reducible first | exact HB.out | apply bA | apply bN | apply bD | refine bS ?_ GE107.out) | exact HB.out))) : w0.heap.size ≤ gb108)); have n7_ := Aside0.mk ((by rw [hg]; exact Nat.ne_of_lt (blk_lt (g := gb107) (o := .cells #[.slice Ao4 l0_0.length co4, .int .i64 a0_1, .int .i64 a0_2] 29 (0, 0)) (by (with_reducible repeat (first | refine lN ?_ _ | refine lD ?_ | refine lA ?_ _)); exact BK107.out)) : gb107 ≠ gb108)); have n8_ := Aside0.mk ((by rw [hg]; exact Nat.ne_of_gt (blk_lt (g := gb107) (o := .cells #[.slice Ao4 l0_0.length co4, .int .i64 a0_1, .int .i64 a0_2] 29 (0, 0)) (by (with_reducible repeat (first | refine lN ?_ _ | refine lD ?_ | refine lA ?_ _)); exact BK107.out)) : gb108 ≠ gb107)); clear HO0_0; clear BK107; clear HK; clear HB; have HO0_0 := n0_; have BK107 := n1_; have HK := n2_; have HB := n3_; have BK108 := n4_; have GW108 := n5_; have GE108 := n6_; have NB107_108 := n7_; have NB108_107 := n8_; clear n0_ n1_ n2_ n3_ n4_ n5_ n6_ n7_ n8_; clear hb hbox hg) | ((with_reducible refine gate_dst (N := 4) rfl ?_); (try (refine gate_guard (by rfl) ?_; dsimp only)); refine box_event ?hg (N := 4) ?hd (cs := #[.slice none 0 0, .int .i64 0, .int .i64 0]) (t := 29) ?hr ?_; (case hd => rfl); (case hg => rfl); (case hr => first | (go_simp; done) | (go_simp; rfl)); intro gb109 hg w7 hbox hb; have n0_ := Aside0.mk (rB (by (with_reducible repeat (first | apply rA | apply rN | apply rD)); exact HO0_0.out) hb); have n1_ := Aside0.mk (blk_below (g := gb107) (o := .cells #[.slice Ao4 l0_0.length co4, .int .i64 a0_1, .int .i64 a0_2] 29 (0, 0)) (by (with_reducible repeat (first | refine lN ?_ _ | refine lD ?_ | refine lA ?_ _)); exact BK107.out) hb); have n2_ := Aside0.mk (blk_below (g := gb108) (o := .cells #[.int .i64 a1_0, .string a1_1] 35 (0, 0)) (by (with_reducible repeat (first | refine lN ?_ _ | refine lD ?_ | refine lA ?_ _)); exact BK108.out) hb); have n3_ := Aside0.mk (Kept.below (S := (fun k_ => P0_0_ k_)) (by repeat (first | (with_reducible first | exact HK.out | apply kA | apply kN | apply kD | refine Kept.setCell ?_ (.inr GW107.out) _ | refine Kept.setCell ?_ (.inr GW108.out) _) | exact HK.out)) hb); have n4_ := Aside0.mk (below_step (by repeat (first | (with_reducible first | exact HB.out | apply bA | apply bN | apply bD | refine bS ?_ GE107.out | refine bS ?_ GE108.out) | exact HB.out)) hb); have n5_ := Aside0.mk (hbox); have n6_ := Aside0.mk ((by rw [hg]; exact (by first | exact HK.out.1 | exact (show Kept w _ (fun k_ => P0_0_ k_) from by repeat (first | (with_reducible first | exact HK.out | apply kA | apply kN | apply kD | refine Kept.setCell ?_ (.inr GW107.out) _ | refine Kept.setCell ?_ (.inr GW108.out) _) | exact HK.out)).1) : w.heap.size ≤ gb109)); have n7_ := Aside0.mk ((by rw [hg]; exact (below_size (by repeat (first | (with_reducible first | exact HB.out | apply bA | apply bN | apply bD | refine bS ?_ GE107.out | refine bS ?_ GE108.out) | exact HB.out))) : w0.heap.size ≤ gb109)); have n8_ := Aside0.mk ((by rw [hg]; exact Nat.ne_of_lt (blk_lt (g := gb107) (o := .cells #[.slice Ao4 l0_0.length co4, .int .i64 a0_1, .int .i64 a0_2] 29 (0, 0)) (by (with_reducible repeat (first | refine lN ?_ _ | refine lD ?_ | refine lA ?_ _)); exact BK107.out)) : gb107 ≠ gb109)); have n9_ := Aside0.mk ((by rw [hg]; exact Nat.ne_of_gt (blk_lt (g := gb107) (o := .cells #[.slice Ao4 l0_0.length co4, .int .i64 a0_1, .int .i64 a0_2] 29 (0, 0)) (by (with_reducible repeat (first | refine lN ?_ _ | refine lD ?_ | refine lA ?_ _)); exact BK107.out)) : gb109 ≠ gb107)); have n10_ := Aside0.mk ((by rw [hg]; exact Nat.ne_of_lt (blk_lt (g := gb108) (o := .cells #[.int .i64 a1_0, .string a1_1] 35 (0, 0)) (by (with_reducible repeat (first | refine lN ?_ _ | refine lD ?_ | refine lA ?_ _)); exact BK108.out)) : gb108 ≠ gb109)); have n11_ := Aside0.mk ((by rw [hg]; exact Nat.ne_of_gt (blk_lt (g := gb108) (o := .cells #[.int .i64 a1_0, .string a1_1] 35 (0, 0)) (by (with_reducible repeat (first | refine lN ?_ _ | refine lD ?_ | refine lA ?_ _)); exact BK108.out)) : gb109 ≠ gb108)); clear HO0_0; clear BK107; clear BK108; clear HK; clear HB; have HO0_0 := n0_; have BK107 := n1_; have BK108 := n2_; have HK := n3_; have HB := n4_; have BK109 := n5_; have GW109 := n6_; have GE109 := n7_; have NB107_109 := n8_; have NB109_107 := n9_; have NB108_109 := n10_; have NB109_108 := n11_; clear n0_ n1_ n2_ n3_ n4_ n5_ n6_ n7_ n8_ n9_ n10_ n11_; clear hb hbox hg) | ((with_reducible refine gate_dst (N := 5) rfl ?_); (try (refine gate_guard (by rfl) ?_; dsimp only)); refine box_event ?hg (N := 5) ?hd (cs := #[.int .i64 0, .int .i64 0, .int .i64 0]) (t := 31) ?hr ?_; (case hd => rfl); (case hg => rfl); (case hr => first | (go_simp; done) | (go_simp; rfl)); intro gb110 hg w8 hbox hb; have n0_ := Aside0.mk (rB (by (with_reducible repeat (first | apply rA | apply rN | apply rD)); exact HO0_0.out) hb); have n1_ := Aside0.mk (blk_below (g := gb107) (o := .cells #[.slice Ao4 l0_0.length co4, .int .i64 a0_1, .int .i64 a0_2] 29 (0, 0)) (by (with_reducible repeat (first | refine lN ?_ _ | refine lD ?_ | refine lA ?_ _)); exact BK107.out) hb); have n2_ := Aside0.mk (blk_below (g := gb108) (o := .cells #[.int .i64 a1_0, .string a1_1] 35 (0, 0)) (by (with_reducible repeat (first | refine lN ?_ _ | refine lD ?_ | refine lA ?_ _)); exact BK108.out) hb); have n3_ := Aside0.mk (blk_below (g := gb109) (o := .cells #[.slice none 0 0, .int .i64 0, .int .i64 0] 29 (0, 0)) (by (with_reducible repeat (first | refine lN ?_ _ | refine lD ?_ | refine lA ?_ _)); exact BK109.out) hb); have n4_ := Aside0.mk (Kept.below (S := (fun k_ => P0_0_ k_)) (by repeat (first | (with_reducible first | exact HK.out | apply kA | apply kN | apply kD | refine Kept.setCell ?_ (.inr GW107.out) _ | refine Kept.setCell ?_ (.inr GW108.out) _ | refine Kept.setCell ?_ (.inr GW109.out) _) | exact HK.out)) hb); have n5_ := Aside0.mk (below_step (by repeat (first | (with_reducible first | exact HB.out | apply bA | apply bN | apply bD | refine bS ?_ GE107.out | refine bS ?_ GE108.out | refine bS ?_ GE109.out) | exact HB.out)) hb); have n6_ := Aside0.mk (hbox); have n7_ := Aside0.mk ((by rw [hg]; exact (by first | exact HK.out.1 | exact (show Kept w _ (fun k_ => P0_0_ k_) from by repeat (first | (with_reducible first | exact HK.out | apply kA | apply kN | apply kD | refine Kept.setCell ?_ (.inr GW107.out) _ | refine Kept.setCell ?_ (.inr GW108.out) _ | refine Kept.setCell ?_ (.inr GW109.out) _) | exact HK.out)).1) : w.heap.size ≤ gb110)); have n8_ := Aside0.mk ((by rw [hg]; exact (below_size (by repeat (first | (with_reducible first | exact HB.out | apply bA | apply bN | apply bD | refine bS ?_ GE107.out | refine bS ?_ GE108.out | refine bS ?_ GE109.out) | exact HB.out))) : w0.heap.size ≤ gb110)); have n9_ := Aside0.mk ((by rw [hg]; exact Nat.ne_of_lt (blk_lt (g := gb107) (o := .cells #[.slice Ao4 l0_0.length co4, .int .i64 a0_1, .int .i64 a0_2] 29 (0, 0)) (by (with_reducible repeat (first | refine lN ?_ _ | refine lD ?_ | refine lA ?_ _)); exact BK107.out)) : gb107 ≠ gb110)); have n10_ := Aside0.mk ((by rw [hg]; exact Nat.ne_of_gt (blk_lt (g := gb107) (o := .cells #[.slice Ao4 l0_0.length co4, .int .i64 a0_1, .int .i64 a0_2] 29 (0, 0)) (by (with_reducible repeat (first | refine lN ?_ _ | refine lD ?_ | refine lA ?_ _)); exact BK107.out)) : gb110 ≠ gb107)); have n11_ := Aside0.mk ((by rw [hg]; exact Nat.ne_of_lt (blk_lt (g := gb108) (o := .cells #[.int .i64 a1_0, .string a1_1] 35 (0, 0)) (by (with_reducible repeat (first | refine lN ?_ _ | refine lD ?_ | refine lA ?_ _)); exact BK108.out)) : gb108 ≠ gb110)); have n12_ := Aside0.mk ((by rw [hg]; exact Nat.ne_of_gt (blk_lt (g := gb108) (o := .cells #[.int .i64 a1_0, .string a1_1] 35 (0, 0)) (by (with_reducible repeat (first | refine lN ?_ _ | refine lD ?_ | refine lA ?_ _)); exact BK108.out)) : gb110 ≠ gb108)); have n13_ := Aside0.mk ((by rw [hg]; exact Nat.ne_of_lt (blk_lt (g := gb109) (o := .cells #[.slice none 0 0, .int .i64 0, .int .i64 0] 29 (0, 0)) (by (with_reducible repeat (first | refine lN ?_ _ | refine lD ?_ | refine lA ?_ _)); exact BK109.out)) : gb109 ≠ gb110)); have n14_ := Aside0.mk ((by rw [hg]; exact Nat.ne_of_gt (blk_lt (g := gb109) (o := .cells #[.slice none 0 0, .int .i64 0, .int .i64 0] 29 (0, 0)) (by (with_reducible repeat (first | refine lN ?_ _ | refine lD ?_ | refine lA ?_ _)); exact BK109.out)) : gb110 ≠ gb109)); clear HO0_0; clear BK107; clear BK108; clear BK109; clear HK; clear HB; have HO0_0 := n0_; have BK107 := n1_; have BK108 := n2_; have BK109 := n3_; have HK := n4_; have HB := n5_; have BK110 := n6_; have GW110 := n7_; have GE110 := n8_; have NB107_110 := n9_; have NB110_107 := n10_; have NB108_110 := n11_; have NB110_108 := n12_; have NB109_110 := n13_; have NB110_109 := n14_; clear n0_ n1_ n2_ n3_ n4_ n5_ n6_ n7_ n8_ n9_ n10_ n11_ n12_ n13_ n14_; clear hb hbox hg))
 (try simp only [Act.put, List.setIfInBounds_toArray, List.set_cons_zero, List.set_cons_succ])
 go_cut [9] (fun v9 wc => ∃ (kq : Nat) (x9_2 : Bool), v9 = .bool x9_2 ∧ Aside0 (spec_l10Step.j0 kq x9_2 l0_0 a0_1 a0_2 a1_0 a1_1 = some (r1, r2, r3, r4, r5, r6, r7, r8)) ∧ Aside0 (kq ≤ k) ∧ Aside0 (Kd.R Kd.string 9 wc w0.heap.size (fun k_ => (P0_0_ k_ ∨ w.heap.size ≤ k_)) (.slice Ao4 l0_0.length co4) l0_0) ∧ Aside0 (wc.heap[gb107]? = some (.cells #[(.slice Ao4 l0_0.length co4), .int .i64 a0_1, .int .i64 a0_2] 29 (0, 0))) ∧ Aside0 (wc.heap[gb108]? = some (.cells #[.int .i64 a1_0, .string a1_1] 35 (0, 0))) ∧ Aside0 (wc.heap[gb109]? = some (.cells #[(.slice none 0 0), .int .i64 0, .int .i64 0] 29 (0, 0))) ∧ Aside0 (wc.heap[gb110]? = some (.cells #[.int .i64 0, .int .i64 0, .int .i64 0] 31 (0, 0))) ∧ Aside0 (Kept w wc (fun k_ => P0_0_ k_)) ∧ Aside0 (Below w0.heap.size w0 wc))
 case first =>
  have H := HC3.out
  clear HC3
  by_cases c9 : a1_0 = 1
  ·rw [if_pos c9] at H
   have c9b0 : (a1_0 == 1) = true := beq_iff_eq.mpr c9
   have c9b1 : (a1_0 != 1) = false := bne_eq_false_iff_eq.mpr c9
   clear c9
   (first | rw [c9b0] | (simp only [i64_w, i32_w]; rw [c9b0]) | skip)
   replace H := oB H
   obtain ⟨t111, A100, H⟩ := H
   replace H : (if t111 = true then (spec_l10Step.j0 k (decide ((l0_0.length : Int) < 5)) l0_0 a0_1 a0_2 a1_0 a1_1) else (spec_l10Step.j0 k false l0_0 a0_1 a0_2 a1_0 a1_1)) = some (r1, r2, r3, r4, r5, r6, r7, r8) := H
   have A10 := Aside0.mk A100
   clear A100
   by_cases c11 : t111 = true
   ·subst c11
    have H1 : (spec_l10Step.j0 k (decide ((l0_0.length : Int) < 5)) l0_0 a0_1 a0_2 a1_0 a1_1) = some (r1, r2, r3, r4, r5, r6, r7, r8) := by rw [if_pos rfl] at H; exact H
    clear H
    have H := H1
    clear H1
    have H' := Aside0.mk H
    clear H
    have hnb12 := NB108_107.out
    have hnc12 := NB107_108.out
    have hnb13 := NB108_109.out
    have hnc13 := NB109_108.out
    have hnb14 := NB108_110.out
    have hnc14 := NB110_108.out
    have hcz15_0 : w8.cell? ⟨gb108, 0, none⟩ = some (.int .i64 a1_0) := (lC BK108.out 0).trans rfl
    have hcz15_1 : w8.cell? ⟨gb108, 1, none⟩ = some (.string a1_1) := (lC BK108.out 1).trans rfl
    have hfz15_0 := lF BK108.out 0
    have hfz15_1 := lF BK108.out 1
    go_wp2_with (first | (go_at_call 42; (with_reducible refine (spec_l10Text.calls a1_1 true _ A10.out).mono ?_); rintro e w' ⟨rfl, ⟨nd, rfl⟩⟩; have hnb16 := NB107_109.out; have hnc16 := NB109_107.out; have hnb17 := NB107_110.out; have hnc17 := NB110_107.out; have hcz18_0 : w8.cell? ⟨gb107, 0, none⟩ = some (.slice Ao4 l0_0.length co4) := (lC BK107.out 0).trans rfl; have hcz18_1 : w8.cell? ⟨gb107, 1, none⟩ = some (.int .i64 a0_1) := (lC BK107.out 1).trans rfl; have hcz18_2 : w8.cell? ⟨gb107, 2, none⟩ = some (.int .i64 a0_2) := (lC BK107.out 2).trans rfl; have hfz18_0 := lF BK107.out 0; have hfz18_1 := lF BK107.out 1; have hfz18_2 := lF BK107.out 2))
    go_meet
    case rel => exact ⟨_, (decide ((l0_0.length : Int) < 5)), (by first | rfl | (simp; done) | (simp [*]; done)), H', ⟨by first | omega | exact Nat.le_refl _⟩, ⟨by (with_reducible repeat (first | apply rA | apply rN | apply rD)); exact HO0_0.out⟩, ⟨by (with_reducible repeat (first | refine lN ?_ _ | refine lD ?_ | refine lA ?_ _)); exact BK107.out⟩, ⟨by (with_reducible repeat (first | refine lN ?_ _ | refine lD ?_ | refine lA ?_ _)); exact BK108.out⟩, ⟨by (with_reducible repeat (first | refine lN ?_ _ | refine lD ?_ | refine lA ?_ _)); exact BK109.out⟩, ⟨by (with_reducible repeat (first | refine lN ?_ _ | refine lD ?_ | refine lA ?_ _)); exact BK110.out⟩, ⟨by repeat (first | (with_reducible first | exact HK.out | apply kA | apply kN | apply kD | refine Kept.setCell ?_ (.inr GW107.out) _ | refine Kept.setCell ?_ (.inr GW108.out) _ | refine Kept.setCell ?_ (.inr GW109.out) _ | refine Kept.setCell ?_ (.inr GW110.out) _) | exact HK.out)⟩, ⟨by repeat (first | (with_reducible first | exact HB.out | apply bA | apply bN | apply bD | refine bS ?_ GE107.out | refine bS ?_ GE108.out | refine bS ?_ GE109.out | refine bS ?_ GE110.out) | exact HB.out)⟩⟩
   ·replace c11 := fB c11
    subst c11
    have H1 : (spec_l10Step.j0 k false l0_0 a0_1 a0_2 a1_0 a1_1) = some (r1, r2, r3, r4, r5, r6, r7, r8) := by rw [if_neg (show ¬ (false = true) by decide)] at H; exact H
    clear H
    have H := H1
    clear H1
    have H' := Aside0.mk H
    clear H
    have hnb19 := NB108_107.out
    have hnc19 := NB107_108.out
    have hnb20 := NB108_109.out
    have hnc20 := NB109_108.out
    have hnb21 := NB108_110.out
    have hnc21 := NB110_108.out
    have hcz22_0 : w8.cell? ⟨gb108, 0, none⟩ = some (.int .i64 a1_0) := (lC BK108.out 0).trans rfl
    have hcz22_1 : w8.cell? ⟨gb108, 1, none⟩ = some (.string a1_1) := (lC BK108.out 1).trans rfl
    have hfz22_0 := lF BK108.out 0
    have hfz22_1 := lF BK108.out 1
    go_wp2_with (first | (go_at_call 42; (with_reducible refine (spec_l10Text.calls a1_1 false _ A10.out).mono ?_); rintro e w' ⟨rfl, ⟨nd, rfl⟩⟩))
    go_meet
    case rel => exact ⟨_, (false), (by first | rfl | (simp; done) | (simp [*]; done)), H', ⟨by first | omega | exact Nat.le_refl _⟩, ⟨by (with_reducible repeat (first | apply rA | apply rN | apply rD)); exact HO0_0.out⟩, ⟨by (with_reducible repeat (first | refine lN ?_ _ | refine lD ?_ | refine lA ?_ _)); exact BK107.out⟩, ⟨by (with_reducible repeat (first | refine lN ?_ _ | refine lD ?_ | refine lA ?_ _)); exact BK108.out⟩, ⟨by (with_reducible repeat (first | refine lN ?_ _ | refine lD ?_ | refine lA ?_ _)); exact BK109.out⟩, ⟨by (with_reducible repeat (first | refine lN ?_ _ | refine lD ?_ | refine lA ?_ _)); exact BK110.out⟩, ⟨by repeat (first | (with_reducible first | exact HK.out | apply kA | apply kN | apply kD | refine Kept.setCell ?_ (.inr GW107.out) _ | refine Kept.setCell ?_ (.inr GW108.out) _ | refine Kept.setCell ?_ (.inr GW109.out) _ | refine Kept.setCell ?_ (.inr GW110.out) _) | exact HK.out)⟩, ⟨by repeat (first | (with_reducible first | exact HB.out | apply bA | apply bN | apply bD | refine bS ?_ GE107.out | refine bS ?_ GE108.out | refine bS ?_ GE109.out | refine bS ?_ GE110.out) | exact HB.out)⟩⟩
  ·rw [if_neg c9] at H
   have c9b0 : (a1_0 == 1) = false := beq_eq_false_iff_ne.mpr c9
   have c9b1 : (a1_0 != 1) = true := bne_iff_ne.mpr c9
   (first | rw [c9b0] | (simp only [i64_w, i32_w]; rw [c9b0]) | skip)
   have H' := Aside0.mk H
   clear H
   have hnb23 := NB108_107.out
   have hnc23 := NB107_108.out
   have hnb24 := NB108_109.out
   have hnc24 := NB109_108.out
   have hnb25 := NB108_110.out
   have hnc25 := NB110_108.out
   have hcz26_0 : w8.cell? ⟨gb108, 0, none⟩ = some (.int .i64 a1_0) := (lC BK108.out 0).trans rfl
   have hcz26_1 : w8.cell? ⟨gb108, 1, none⟩ = some (.string a1_1) := (lC BK108.out 1).trans rfl
   have hfz26_0 := lF BK108.out 0
   have hfz26_1 := lF BK108.out 1
   go_wp2
   go_meet
   case rel => exact ⟨_, (false), (by first | rfl | (simp; done) | (simp [*]; done)), H', ⟨by first | omega | exact Nat.le_refl _⟩, ⟨by (with_reducible repeat (first | apply rA | apply rN | apply rD)); exact HO0_0.out⟩, ⟨by (with_reducible repeat (first | refine lN ?_ _ | refine lD ?_ | refine lA ?_ _)); exact BK107.out⟩, ⟨by (with_reducible repeat (first | refine lN ?_ _ | refine lD ?_ | refine lA ?_ _)); exact BK108.out⟩, ⟨by (with_reducible repeat (first | refine lN ?_ _ | refine lD ?_ | refine lA ?_ _)); exact BK109.out⟩, ⟨by (with_reducible repeat (first | refine lN ?_ _ | refine lD ?_ | refine lA ?_ _)); exact BK110.out⟩, ⟨by repeat (first | (with_reducible first | exact HK.out | apply kA | apply kN | apply kD | refine Kept.setCell ?_ (.inr GW107.out) _ | refine Kept.setCell ?_ (.inr GW108.out) _ | refine Kept.setCell ?_ (.inr GW109.out) _ | refine Kept.setCell ?_ (.inr GW110.out) _) | exact HK.out)⟩, ⟨by repeat (first | (with_reducible first | exact HB.out | apply bA | apply bN | apply bD | refine bS ?_ GE107.out | refine bS ?_ GE108.out | refine bS ?_ GE109.out | refine bS ?_ GE110.out) | exact HB.out)⟩⟩
 case rest =>
  clear HC3
  try clear c1
  try clear c2
  try clear p2
  try clear c9
  try clear c9b0
  try clear c9b1
  try clear c11
  try clear c12
  try clear c13
  try clear c14
  try clear c16
  try clear c17
  try clear c19
  try clear c20
  try clear c21
  try clear c23
  try clear c24
  try clear c25
  try clear c26
  try clear hcz15_0
  try clear hcz15_1
  try clear hcz18_0
  try clear hcz18_1
  try clear hcz18_2
  try clear hcz22_0
  try clear hcz22_1
  try clear hcz26_0
  try clear hcz26_1
  try clear hfz15_0
  try clear hfz15_1
  try clear hfz18_0
  try clear hfz18_1
  try clear hfz18_2
  try clear hfz22_0
  try clear hfz22_1
  try clear hfz26_0
  try clear hfz26_1
  obtain ⟨kq, x9_2, rfl, HA, HJ2, HO_108000, BK107, BK108, BK109, BK110, HK, HB⟩ := hcut
  cases kq with
  | zero => exact absurd HA.out (by simp [spec_l10Step.j0])
  | succ kj2 =>
   have H := HA.out
   clear HA
   simp only [spec_l10Step.j0] at H
   by_cases c27 : x9_2 = true
   ·subst c27
    have H1 : ((some (([] : List ByteArray) : List ByteArray)).bind fun y112 => (if y112.length + l0_0.length < 8796093022208 then ((some (y112 ++ l0_0 : List ByteArray)).bind fun y115 => ((some (([a1_1] : List ByteArray) : List ByteArray)).bind fun y118 => (if y115.length + y118.length < 8796093022208 then (some ((y115 ++ y118), a0_1, a0_2, 0, 0, 0, (⟨#[]⟩ : ByteArray), true)) else (none)))) else (none))) = some (r1, r2, r3, r4, r5, r6, r7, r8) := by rw [if_pos rfl] at H; exact H
    clear H
    have H := H1
    clear H1
    obtain ⟨y112, hy112⟩ : ∃ y_ : List ByteArray, y_ = (([] : List ByteArray)) := ⟨_, rfl⟩
    replace H : (if y112.length + l0_0.length < 8796093022208 then ((some (y112 ++ l0_0 : List ByteArray)).bind fun y115 => ((some (([a1_1] : List ByteArray) : List ByteArray)).bind fun y118 => (if y115.length + y118.length < 8796093022208 then (some ((y115 ++ y118), a0_1, a0_2, 0, 0, 0, (⟨#[]⟩ : ByteArray), true)) else (none)))) else (none)) = some (r1, r2, r3, r4, r5, r6, r7, r8) := by first | (rw [hy112]; with_reducible exact H) | (have H2_ := (Option.bind_some _ _).symm.trans H; rw [hy112]; with_reducible exact H2_) | (have H2_ := (Option.bind_some _ _).symm.trans H; with_reducible exact H2_) | with_reducible exact H | (rw [hy112]; exact H) | exact H
    have Ny112 := Aside0.mk hy112
    clear hy112
    by_cases c28 : y112.length + l0_0.length < 8796093022208
    ·rw [if_pos c28] at H
     have LMc28 := Aside0.mk c28
     clear c28
     obtain ⟨y115, hy115⟩ : ∃ y_ : List ByteArray, y_ = (y112 ++ l0_0) := ⟨_, rfl⟩
     replace H : ((some (([a1_1] : List ByteArray) : List ByteArray)).bind fun y118 => (if y115.length + y118.length < 8796093022208 then (some ((y115 ++ y118), a0_1, a0_2, 0, 0, 0, (⟨#[]⟩ : ByteArray), true)) else (none))) = some (r1, r2, r3, r4, r5, r6, r7, r8) := by first | (rw [hy115]; with_reducible exact H) | (have H2_ := (Option.bind_some _ _).symm.trans H; rw [hy115]; with_reducible exact H2_) | (have H2_ := (Option.bind_some _ _).symm.trans H; with_reducible exact H2_) | with_reducible exact H | (rw [hy115]; exact H) | exact H
     have Ny115 := Aside0.mk hy115
     clear hy115
     obtain ⟨y118, hy118⟩ : ∃ y_ : List ByteArray, y_ = (([a1_1] : List ByteArray)) := ⟨_, rfl⟩
     replace H : (if y115.length + y118.length < 8796093022208 then (some ((y115 ++ y118), a0_1, a0_2, 0, 0, 0, (⟨#[]⟩ : ByteArray), true)) else (none)) = some (r1, r2, r3, r4, r5, r6, r7, r8) := by first | (rw [hy118]; with_reducible exact H) | (have H2_ := (Option.bind_some _ _).symm.trans H; rw [hy118]; with_reducible exact H2_) | (have H2_ := (Option.bind_some _ _).symm.trans H; with_reducible exact H2_) | with_reducible exact H | (rw [hy118]; exact H) | exact H
     have Ny118 := Aside0.mk hy118
     clear hy118
     by_cases c29 : y115.length + y118.length < 8796093022208
     ·rw [if_pos c29] at H
      have LMc29 := Aside0.mk c29
      clear c29
      obtain ⟨y121, hy121⟩ : ∃ y_ : List ByteArray, y_ = (y115 ++ y118) := ⟨_, rfl⟩
      replace H : (some (y121, a0_1, a0_2, 0, 0, 0, (⟨#[]⟩ : ByteArray), true)) = some (r1, r2, r3, r4, r5, r6, r7, r8) := by first | (rw [hy121]; with_reducible exact H) | (have H2_ := (Option.bind_some _ _).symm.trans H; rw [hy121]; with_reducible exact H2_) | (have H2_ := (Option.bind_some _ _).symm.trans H; with_reducible exact H2_) | with_reducible exact H | (rw [hy121]; exact H) | exact H
      have Ny121 := Aside0.mk hy121
      clear hy121
      simp only [Option.some.injEq, Prod.mk.injEq] at H
      obtain ⟨rfl, rfl, rfl, rfl, rfl, rfl, rfl, rfl⟩ := H
      try go_wp2
      have n0_ := Aside0.mk (rD HO_108000.out)
      have n1_ := Aside0.mk (lD BK107.out)
      have n2_ := Aside0.mk (lD BK108.out)
      have n3_ := Aside0.mk (lD BK109.out)
      have n4_ := Aside0.mk (lD BK110.out)
      have n5_ := Aside0.mk (kD HK.out)
      have n6_ := Aside0.mk (bD HB.out)
      clear HO_108000
      clear BK107
      clear BK108
      clear BK109
      clear BK110
      clear HK
      clear HB
      have HO_108000 := n0_
      have BK107 := n1_
      have BK108 := n2_
      have BK109 := n3_
      have BK110 := n4_
      have HK := n5_
      have HB := n6_
      clear n0_ n1_ n2_ n3_ n4_ n5_ n6_
      refine start_ (n := 10) (S := fun w' => w'.cell? ⟨gb107, 0, none⟩ = some (.slice Ao4 l0_0.length co4) ∧ w'.cell? ⟨gb107, 1, none⟩ = some (.int .i64 a0_1) ∧ w'.cell? ⟨gb107, 2, none⟩ = some (.int .i64 a0_2) ∧ w'.cell? ⟨gb108, 0, none⟩ = some (.int .i64 a1_0) ∧ w'.cell? ⟨gb108, 1, none⟩ = some (.string a1_1)) (ds := [9]) #[false, false, false, false, false, false, false, false, false, false] (by kernel_rfl) rfl rfl ⟨(lC BK107.out 0).trans rfl, (lC BK107.out 1).trans rfl, (lC BK107.out 2).trans rfl, (lC BK108.out 0).trans rfl, (lC BK108.out 1).trans rfl⟩ (fun hHeld => ?_); refine with_tabW spec_l10Step.tab2 spec_l10Step.bits2 (fun HT_ HW_ => ?_)
      generalize wc.drew = w30 at HO_108000 BK107 BK108 BK109 BK110 HK HB hHeld ⊢
      refine pure_ (i := 1) (N := some 25) (v := ?_) (a' := ?_) #[false, true, false, false, false, false, false, false, false, false] rfl rfl (any_of HT_.out (by kernel_rfl)) (fun _ _ _ h => h) (Or.inl ⟨by rfl, ?_⟩) ?_ ?_
      rotate_left
      ·intro w'
       go_simp
       with_reducible rfl
      rotate_left
      ·simp only [Act.put, List.setIfInBounds_toArray, List.set_cons_zero, List.set_cons_succ, i64_w, i32_w]
       rfl
      refine pure_ (i := 4) (N := some 28) (v := ?_) (a' := ?_) #[false, true, false, false, true, false, false, false, false, false] rfl rfl (any_of HT_.out (by kernel_rfl)) (fun _ _ _ h => h) (Or.inl ⟨by rfl, ?_⟩) ?_ ?_
      rotate_left
      ·intro w'
       go_simp
       with_reducible rfl
      rotate_left
      ·simp only [Act.put, List.setIfInBounds_toArray, List.set_cons_zero, List.set_cons_succ, i64_w, i32_w]
       rfl
      refine take_ (i := 2) (N := some 26) (v := ?_) (a' := ?_) #[false, true, true, false, true, false, false, false, false, false] rfl rfl (take_ofW HT_.out HW_.out (by kernel_rfl)) (fun _ _ _ h => h) (Or.inl ⟨by rfl, ?_⟩) hHeld ?_ ?_
      rotate_left
      ·rintro w' ⟨s0, s1, s2, s3, s4⟩
       go_simp
       with_reducible rfl
      rotate_left
      ·simp only [Act.put, List.setIfInBounds_toArray, List.set_cons_zero, List.set_cons_succ, i64_w, i32_w]
       rfl
      refine take_ (i := 5) (N := some 29) (v := ?_) (a' := ?_) #[false, true, true, false, true, true, false, false, false, false] rfl rfl (take_ofW HT_.out HW_.out (by kernel_rfl)) (fun _ _ _ h => h) (Or.inl ⟨by rfl, ?_⟩) hHeld ?_ ?_
      rotate_left
      ·rintro w' ⟨s0, s1, s2, s3, s4⟩
       go_simp
       with_reducible rfl
      rotate_left
      ·simp only [Act.put, List.setIfInBounds_toArray, List.set_cons_zero, List.set_cons_succ, i64_w, i32_w]
       rfl
      refine join_ (σ := Value × Value × Value) 3 #[true, true, true, true, true, true, true, false, false, false] (fun s_ => [(24, s_.1), (27, s_.2.1), (30, s_.2.2)]) (fun s_ w' => (w'.cell? ⟨gb107, 0, none⟩ = some (.slice Ao4 l0_0.length co4) ∧ w'.cell? ⟨gb107, 1, none⟩ = some (.int .i64 a0_1) ∧ w'.cell? ⟨gb107, 2, none⟩ = some (.int .i64 a0_2) ∧ w'.cell? ⟨gb108, 0, none⟩ = some (.int .i64 a1_0) ∧ w'.cell? ⟨gb108, 1, none⟩ = some (.string a1_1)) ∧ (Kd.R Kd.string 9 w' w0.heap.size (fun k_ => (P0_0_ k_ ∨ w.heap.size ≤ k_) ∧ some k_ ≠ (s_.2.2 : Value).ownBlock ∧ some k_ ≠ (.slice Ao4 l0_0.length co4 : Value).ownBlock) s_.2.1 y115) ∧ (Kd.R Kd.string 9 w' w0.heap.size (fun k_ => (P0_0_ k_ ∨ w.heap.size ≤ k_) ∧ some k_ ≠ (s_.2.1 : Value).ownBlock ∧ some k_ ≠ (.slice Ao4 l0_0.length co4 : Value).ownBlock) s_.2.2 y118) ∧ (Kd.R Kd.string 9 w' w0.heap.size (fun k_ => (P0_0_ k_ ∨ w.heap.size ≤ k_) ∧ some k_ ≠ (s_.2.1 : Value).ownBlock ∧ some k_ ≠ (s_.2.2 : Value).ownBlock) (.slice Ao4 l0_0.length co4) l0_0) ∧ (w'.heap[gb107]? = some (.cells #[.slice Ao4 l0_0.length co4, .int .i64 a0_1, .int .i64 a0_2] 29 (0, 0))) ∧ (w'.heap[gb108]? = some (.cells #[.int .i64 a1_0, .string a1_1] 35 (0, 0))) ∧ (w'.heap[gb109]? = some (.cells #[.slice none 0 0, .int .i64 0, .int .i64 0] 29 (0, 0))) ∧ (w'.heap[gb110]? = some (.cells #[.int .i64 0, .int .i64 0, .int .i64 0] 31 (0, 0))) ∧ (Kept w w' (fun k_ => P0_0_ k_)) ∧ (Below w0.heap.size w0 w')) ?_ ?_
      rotate_left
      ·intro hCont
       refine two_ (i := 0) (j := 6) (Ni := some 24) (Nj := some 30) #[true, true, true, false, true, true, false, false, false, false] #[false, true, true, false, true, true, true, false, false, false] rfl rfl rfl rfl (two_of HT_.out (by kernel_rfl)) (by decide) (by decide) (fun K hK => ?_) (fun K hK => ?_)
       ·skip
        refine Kd.R_lit_step Kd.string _ 9 ?hg (N := 24) ?hd (xs := ([] : List ByteArray)) (inner := []) (ok := fun _ => True) (okp := fun _ => True) ?hr ?hp (fun _ hk => hk) trivial (Below.refl _ _) (Nat.le_refl _) (by simp) ?_; (case hd => rfl); (case hg => rfl); (case hr => first | (go_simp; done) | (go_simp; rfl)); (case hp => exact (Reps.none _ _))
        intro v113 w31 ho32 hb hg_ hnew_
        clear hg_ hnew_
        (first | rw [← Ny112.out] at ho32 | (simp only [Int.reduceToNat] at ho32; rw [← Ny112.out] at ho32))
        have n0_ := Aside0.mk (rF (by (with_reducible repeat (first | apply rA | apply rN | apply rD)); exact HO_108000.out) (rE ho32) hb)
        have n1_ := Aside0.mk (Kd.R_lower (Kd.R_new' (Kd.R_newM (M := fun k_ => (P0_0_ k_ ∨ w.heap.size ≤ k_)) ho32 (by first | exact HK.out.1 | exact (show Kept w _ (fun k_ => P0_0_ k_) from by repeat (first | (with_reducible first | exact HK.out | apply kA | apply kN | apply kD | refine Kept.setCell ?_ (.inr GW107.out) _ | refine Kept.setCell ?_ (.inr GW108.out) _ | refine Kept.setCell ?_ (.inr GW109.out) _ | refine Kept.setCell ?_ (.inr GW110.out) _) | exact HK.out)).1) (fun k_ h_ => .inr h_)) (Kd.R_lt (by (with_reducible repeat (first | apply rA | apply rN | apply rD)); exact HO_108000.out))) (below_size (by repeat (first | (with_reducible first | exact HB.out | apply bA | apply bN | apply bD | refine bS ?_ GE107.out | refine bS ?_ GE108.out | refine bS ?_ GE109.out | refine bS ?_ GE110.out) | exact HB.out))))
        have n2_ := Aside0.mk (blk_below (g := gb107) (o := .cells #[.slice Ao4 l0_0.length co4, .int .i64 a0_1, .int .i64 a0_2] 29 (0, 0)) (by (with_reducible repeat (first | refine lN ?_ _ | refine lD ?_ | refine lA ?_ _)); exact BK107.out) hb)
        have n3_ := Aside0.mk (blk_below (g := gb108) (o := .cells #[.int .i64 a1_0, .string a1_1] 35 (0, 0)) (by (with_reducible repeat (first | refine lN ?_ _ | refine lD ?_ | refine lA ?_ _)); exact BK108.out) hb)
        have n4_ := Aside0.mk (blk_below (g := gb109) (o := .cells #[.slice none 0 0, .int .i64 0, .int .i64 0] 29 (0, 0)) (by (with_reducible repeat (first | refine lN ?_ _ | refine lD ?_ | refine lA ?_ _)); exact BK109.out) hb)
        have n5_ := Aside0.mk (blk_below (g := gb110) (o := .cells #[.int .i64 0, .int .i64 0, .int .i64 0] 31 (0, 0)) (by (with_reducible repeat (first | refine lN ?_ _ | refine lD ?_ | refine lA ?_ _)); exact BK110.out) hb)
        have n6_ := Aside0.mk (Kept.below (S := (fun k_ => P0_0_ k_)) (by repeat (first | (with_reducible first | exact HK.out | apply kA | apply kN | apply kD | refine Kept.setCell ?_ (.inr GW107.out) _ | refine Kept.setCell ?_ (.inr GW108.out) _ | refine Kept.setCell ?_ (.inr GW109.out) _ | refine Kept.setCell ?_ (.inr GW110.out) _) | exact HK.out)) hb)
        have n7_ := Aside0.mk (below_step (by repeat (first | (with_reducible first | exact HB.out | apply bA | apply bN | apply bD | refine bS ?_ GE107.out | refine bS ?_ GE108.out | refine bS ?_ GE109.out | refine bS ?_ GE110.out) | exact HB.out)) hb)
        clear HO_108000
        clear BK107
        clear BK108
        clear BK109
        clear BK110
        clear HK
        clear HB
        have HO_108000 := n0_
        have HO114 := n1_
        have BK107 := n2_
        have BK108 := n3_
        have BK109 := n4_
        have BK110 := n5_
        have HK := n6_
        have HB := n7_
        clear n0_ n1_ n2_ n3_ n4_ n5_ n6_ n7_
        clear hb ho32
        refine hK.out _ _ ⟨(lC BK107.out 0).trans rfl, (lC BK107.out 1).trans rfl, (lC BK107.out 2).trans rfl, (lC BK108.out 0).trans rfl, (lC BK108.out 1).trans rfl⟩ (fun hHeld => ?_)
        clear hK K
        refine norm_ (a' := ?_) ?_ ?_
        rotate_left
        ·show Act.put _ (some 24) _ = _
         simp only [Act.put, List.setIfInBounds_toArray, List.set_cons_zero, List.set_cons_succ, i64_w, i32_w]
         rfl
        refine two_ (i := 3) (j := 6) (Ni := some 27) (Nj := some 30) #[true, true, true, true, true, true, false, false, false, false] #[true, true, true, false, true, true, true, false, false, false] rfl rfl rfl rfl (two_of HT_.out (by kernel_rfl)) (by decide) (by decide) (fun K hK => ?_) (fun K hK => ?_)
        ·skip
         refine Kd.R_append_rows_step Kd.string (w0 := w0) w0.heap.size (by rfl) (.tmp 24) (.tmp 26) 22 9 (.string ⟨#[]⟩) 16 rfl Try.underlying22 info9 rfl (by decide) (by omega) v113 y112 l0_0 _ _ _ (fun k_ => (P0_0_ k_ ∨ w.heap.size ≤ k_) ∧ some k_ ≠ (.slice Ao4 l0_0.length co4 : Value).ownBlock) (fun _ => False) rfl rfl ?aO ?aR (fun _ _ h => h) (fun _ h => h.elim) ?aF ?aB ?aS ?aL ?_
         (case aR => repeat (first | exact (rR HO_108000.out).2.2 | (with_reducible first | refine cA ?_ _ | refine cN ?_ _ | refine cD ?_)))
         (case aB => exact (by repeat (first | (with_reducible first | exact HB.out | apply bA | apply bN | apply bD | refine bS ?_ GE107.out | refine bS ?_ GE108.out | refine bS ?_ GE109.out | refine bS ?_ GE110.out) | exact HB.out)))
         (case aF => exact (fun k_ hk => ⟨(.inr (Nat.le_trans (by first | exact HK.out.1 | exact (show Kept w _ (fun k_ => P0_0_ k_) from by repeat (first | (with_reducible first | exact HK.out | apply kA | apply kN | apply kD | refine Kept.setCell ?_ (.inr GW107.out) _ | refine Kept.setCell ?_ (.inr GW108.out) _ | refine Kept.setCell ?_ (.inr GW109.out) _ | refine Kept.setCell ?_ (.inr GW110.out) _) | exact HK.out)).1) hk)), Kd.fresh' (Kd.R_lt (by (with_reducible repeat (first | apply rA | apply rN | apply rD)); exact HO_108000.out)) k_ hk⟩))
         (case aO => exact (by (with_reducible repeat (first | apply rA | apply rN | apply rD)); exact rM HO114.out (fun _ hk => ⟨hk.1.1, hk.2⟩)))
         (case aS => exact (below_size (by repeat (first | (with_reducible first | exact HB.out | apply bA | apply bN | apply bD | refine bS ?_ GE107.out | refine bS ?_ GE108.out | refine bS ?_ GE109.out | refine bS ?_ GE110.out) | exact HB.out))))
         (case aL => have := LMc28.out; omega)
         intro v116 w33 ho hb hg hat
         rw [← Ny115.out] at ho
         have n0_ := Aside0.mk (Kd.R_after (ok := (fun k_ => (P0_0_ k_ ∨ w.heap.size ≤ k_))) (by (with_reducible repeat (first | apply rA | apply rN | apply rD)); exact HO_108000.out) hg hat)
         have n1_ := Aside0.mk (blk_grown (g := gb107) (o := .cells #[.slice Ao4 l0_0.length co4, .int .i64 a0_1, .int .i64 a0_2] 29 (0, 0)) (by (with_reducible repeat (first | refine lN ?_ _ | refine lD ?_ | refine lA ?_ _)); exact BK107.out) hg (Kd.R_ne HO114.out BK107.out (by decide)))
         have n2_ := Aside0.mk (blk_grown (g := gb108) (o := .cells #[.int .i64 a1_0, .string a1_1] 35 (0, 0)) (by (with_reducible repeat (first | refine lN ?_ _ | refine lD ?_ | refine lA ?_ _)); exact BK108.out) hg (Kd.R_ne HO114.out BK108.out (by decide)))
         have n3_ := Aside0.mk (blk_grown (g := gb109) (o := .cells #[.slice none 0 0, .int .i64 0, .int .i64 0] 29 (0, 0)) (by (with_reducible repeat (first | refine lN ?_ _ | refine lD ?_ | refine lA ?_ _)); exact BK109.out) hg (Kd.R_ne HO114.out BK109.out (by decide)))
         have n4_ := Aside0.mk (blk_grown (g := gb110) (o := .cells #[.int .i64 0, .int .i64 0, .int .i64 0] 31 (0, 0)) (by (with_reducible repeat (first | refine lN ?_ _ | refine lD ?_ | refine lA ?_ _)); exact BK110.out) hg (Kd.R_ne HO114.out BK110.out (by decide)))
         have n5_ := Aside0.mk (hb)
         have n6_ := Aside0.mk (Kept.of_grown (S := (fun k_ => P0_0_ k_)) hg (by repeat (first | (with_reducible first | exact HK.out | apply kA | apply kN | apply kD | refine Kept.setCell ?_ (.inr GW107.out) _ | refine Kept.setCell ?_ (.inr GW108.out) _ | refine Kept.setCell ?_ (.inr GW109.out) _ | refine Kept.setCell ?_ (.inr GW110.out) _) | exact HK.out)) (fun k_ e_ => (HO114.out.1 k_ e_).1.1))
         have n7_ := Aside0.mk (ho)
         clear HO_108000
         clear BK107
         clear BK108
         clear BK109
         clear BK110
         clear HB
         clear HK
         clear HO114
         have HO_108000 := n0_
         have BK107 := n1_
         have BK108 := n2_
         have BK109 := n3_
         have BK110 := n4_
         have HB := n5_
         have HK := n6_
         have HO117 := n7_
         clear n0_ n1_ n2_ n3_ n4_ n5_ n6_ n7_
         clear ho hb hg hat
         refine hK.out _ _ ⟨(lC BK107.out 0).trans rfl, (lC BK107.out 1).trans rfl, (lC BK107.out 2).trans rfl, (lC BK108.out 0).trans rfl, (lC BK108.out 1).trans rfl⟩ (fun hHeld => ?_)
         clear hK K
         refine norm_ (a' := ?_) ?_ ?_
         rotate_left
         ·show Act.put _ (some 27) _ = _
          simp only [Act.put, List.setIfInBounds_toArray, List.set_cons_zero, List.set_cons_succ, i64_w, i32_w]
          rfl
         refine one_ (i := 6) (N := some 30) #[true, true, true, true, true, true, true, false, false, false] rfl rfl (one_of HT_.out (by kernel_rfl)) (by decide) (fun K hK => ?_)
         refine Kd.R_lit_step Kd.string _ 9 ?hg (N := 30) ?hd (xs := ([a1_1] : List ByteArray)) (inner := [.string a1_1]) (ok := fun _ => True) (okp := fun _ => True) ?hr ?hp (fun _ hk => hk) trivial (Below.refl _ _) (Nat.le_refl _) (by simp) ?_; (case hd => rfl); (case hg => rfl); (case hr => first | (go_simp; done) | (go_simp; rfl)); (case hp => exact (Reps.one (show Kd.M Kd.string _ _ _ a1_1 [.string a1_1] from rfl) (Reps.none _ _)))
         intro v119 w34 ho35 hb hg_ hnew_
         clear hg_ hnew_
         (first | rw [← Ny118.out] at ho35 | (simp only [Int.reduceToNat] at ho35; rw [← Ny118.out] at ho35))
         have n0_ := Aside0.mk (rF (by (with_reducible repeat (first | apply rA | apply rN | apply rD)); exact HO_108000.out) (rE ho35) hb)
         have n1_ := Aside0.mk (rF (by (with_reducible repeat (first | apply rA | apply rN | apply rD)); exact HO117.out) (rE ho35) hb)
         have n2_ := Aside0.mk (Kd.R_lower (Kd.R_new' (Kd.R_new' (Kd.R_newM (M := fun k_ => (P0_0_ k_ ∨ w.heap.size ≤ k_)) ho35 (by first | exact HK.out.1 | exact (show Kept w _ (fun k_ => P0_0_ k_) from by repeat (first | (with_reducible first | exact HK.out | apply kA | apply kN | apply kD | refine Kept.setCell ?_ (.inr GW107.out) _ | refine Kept.setCell ?_ (.inr GW108.out) _ | refine Kept.setCell ?_ (.inr GW109.out) _ | refine Kept.setCell ?_ (.inr GW110.out) _) | exact HK.out)).1) (fun k_ h_ => .inr h_)) (Kd.R_lt (by (with_reducible repeat (first | apply rA | apply rN | apply rD)); exact HO_108000.out))) (Kd.R_lt (by (with_reducible repeat (first | apply rA | apply rN | apply rD)); exact HO117.out))) (below_size (by repeat (first | (with_reducible first | exact HB.out | apply bA | apply bN | apply bD | refine bS ?_ GE107.out | refine bS ?_ GE108.out | refine bS ?_ GE109.out | refine bS ?_ GE110.out) | exact HB.out))))
         have n3_ := Aside0.mk (blk_below (g := gb107) (o := .cells #[.slice Ao4 l0_0.length co4, .int .i64 a0_1, .int .i64 a0_2] 29 (0, 0)) (by (with_reducible repeat (first | refine lN ?_ _ | refine lD ?_ | refine lA ?_ _)); exact BK107.out) hb)
         have n4_ := Aside0.mk (blk_below (g := gb108) (o := .cells #[.int .i64 a1_0, .string a1_1] 35 (0, 0)) (by (with_reducible repeat (first | refine lN ?_ _ | refine lD ?_ | refine lA ?_ _)); exact BK108.out) hb)
         have n5_ := Aside0.mk (blk_below (g := gb109) (o := .cells #[.slice none 0 0, .int .i64 0, .int .i64 0] 29 (0, 0)) (by (with_reducible repeat (first | refine lN ?_ _ | refine lD ?_ | refine lA ?_ _)); exact BK109.out) hb)
         have n6_ := Aside0.mk (blk_below (g := gb110) (o := .cells #[.int .i64 0, .int .i64 0, .int .i64 0] 31 (0, 0)) (by (with_reducible repeat (first | refine lN ?_ _ | refine lD ?_ | refine lA ?_ _)); exact BK110.out) hb)
         have n7_ := Aside0.mk (Kept.below (S := (fun k_ => P0_0_ k_)) (by repeat (first | (with_reducible first | exact HK.out | apply kA | apply kN | apply kD | refine Kept.setCell ?_ (.inr GW107.out) _ | refine Kept.setCell ?_ (.inr GW108.out) _ | refine Kept.setCell ?_ (.inr GW109.out) _ | refine Kept.setCell ?_ (.inr GW110.out) _) | exact HK.out)) hb)
         have n8_ := Aside0.mk (below_step (by repeat (first | (with_reducible first | exact HB.out | apply bA | apply bN | apply bD | refine bS ?_ GE107.out | refine bS ?_ GE108.out | refine bS ?_ GE109.out | refine bS ?_ GE110.out) | exact HB.out)) hb)
         clear HO_108000
         clear HO117
         clear BK107
         clear BK108
         clear BK109
         clear BK110
         clear HK
         clear HB
         have HO_108000 := n0_
         have HO117 := n1_
         have HO120 := n2_
         have BK107 := n3_
         have BK108 := n4_
         have BK109 := n5_
         have BK110 := n6_
         have HK := n7_
         have HB := n8_
         clear n0_ n1_ n2_ n3_ n4_ n5_ n6_ n7_ n8_
         clear hb ho35
         refine hK.out _ _ ⟨(lC BK107.out 0).trans rfl, (lC BK107.out 1).trans rfl, (lC BK107.out 2).trans rfl, (lC BK108.out 0).trans rfl, (lC BK108.out 1).trans rfl⟩ (fun hHeld => ?_)
         clear hK K
         refine norm_ (a' := ?_) ?_ ?_
         rotate_left
         ·show Act.put _ (some 30) _ = _
          simp only [Act.put, List.setIfInBounds_toArray, List.set_cons_zero, List.set_cons_succ, i64_w, i32_w]
          rfl
         exact norm_ (by simp only [putAll, Act.put, List.setIfInBounds_toArray, List.set_cons_zero, List.set_cons_succ]) (hCont (v113, v116, v119) _ ⟨hHeld, (by (with_reducible repeat (first | apply rA | apply rN | apply rD)); exact rM HO117.out (fun _ hk => ⟨hk.1.1, ⟨hk.2, hk.1.2⟩⟩)), (by (with_reducible repeat (first | apply rA | apply rN | apply rD)); exact rM HO120.out (fun _ hk => ⟨hk.1.1.1, ⟨hk.2, hk.1.2⟩⟩)), (by (with_reducible repeat (first | apply rA | apply rN | apply rD)); exact rM HO_108000.out (fun _ hk => ⟨hk.1.1, ⟨hk.1.2, hk.2⟩⟩)), (by (with_reducible repeat (first | refine lN ?_ _ | refine lD ?_ | refine lA ?_ _)); exact BK107.out), (by (with_reducible repeat (first | refine lN ?_ _ | refine lD ?_ | refine lA ?_ _)); exact BK108.out), (by (with_reducible repeat (first | refine lN ?_ _ | refine lD ?_ | refine lA ?_ _)); exact BK109.out), (by (with_reducible repeat (first | refine lN ?_ _ | refine lD ?_ | refine lA ?_ _)); exact BK110.out), (by repeat (first | (with_reducible first | exact HK.out | apply kA | apply kN | apply kD | refine Kept.setCell ?_ (.inr GW107.out) _ | refine Kept.setCell ?_ (.inr GW108.out) _ | refine Kept.setCell ?_ (.inr GW109.out) _ | refine Kept.setCell ?_ (.inr GW110.out) _) | exact HK.out)), (by repeat (first | (with_reducible first | exact HB.out | apply bA | apply bN | apply bD | refine bS ?_ GE107.out | refine bS ?_ GE108.out | refine bS ?_ GE109.out | refine bS ?_ GE110.out) | exact HB.out))⟩)
        ·skip
         refine Kd.R_lit_step Kd.string _ 9 ?hg (N := 30) ?hd (xs := ([a1_1] : List ByteArray)) (inner := [.string a1_1]) (ok := fun _ => True) (okp := fun _ => True) ?hr ?hp (fun _ hk => hk) trivial (Below.refl _ _) (Nat.le_refl _) (by simp) ?_; (case hd => rfl); (case hg => rfl); (case hr => first | (go_simp; done) | (go_simp; rfl)); (case hp => exact (Reps.one (show Kd.M Kd.string _ _ _ a1_1 [.string a1_1] from rfl) (Reps.none _ _)))
         intro v119 w33 ho34 hb hg_ hnew_
         clear hg_ hnew_
         (first | rw [← Ny118.out] at ho34 | (simp only [Int.reduceToNat] at ho34; rw [← Ny118.out] at ho34))
         have n0_ := Aside0.mk (rF (by (with_reducible repeat (first | apply rA | apply rN | apply rD)); exact HO_108000.out) (rE ho34) hb)
         have n1_ := Aside0.mk (rF (by (with_reducible repeat (first | apply rA | apply rN | apply rD)); exact HO114.out) (rE ho34) hb)
         have n2_ := Aside0.mk (Kd.R_lower (Kd.R_new' (Kd.R_new' (Kd.R_newM (M := fun k_ => (P0_0_ k_ ∨ w.heap.size ≤ k_)) ho34 (by first | exact HK.out.1 | exact (show Kept w _ (fun k_ => P0_0_ k_) from by repeat (first | (with_reducible first | exact HK.out | apply kA | apply kN | apply kD | refine Kept.setCell ?_ (.inr GW107.out) _ | refine Kept.setCell ?_ (.inr GW108.out) _ | refine Kept.setCell ?_ (.inr GW109.out) _ | refine Kept.setCell ?_ (.inr GW110.out) _) | exact HK.out)).1) (fun k_ h_ => .inr h_)) (Kd.R_lt (by (with_reducible repeat (first | apply rA | apply rN | apply rD)); exact HO_108000.out))) (Kd.R_lt (by (with_reducible repeat (first | apply rA | apply rN | apply rD)); exact HO114.out))) (below_size (by repeat (first | (with_reducible first | exact HB.out | apply bA | apply bN | apply bD | refine bS ?_ GE107.out | refine bS ?_ GE108.out | refine bS ?_ GE109.out | refine bS ?_ GE110.out) | exact HB.out))))
         have n3_ := Aside0.mk (blk_below (g := gb107) (o := .cells #[.slice Ao4 l0_0.length co4, .int .i64 a0_1, .int .i64 a0_2] 29 (0, 0)) (by (with_reducible repeat (first | refine lN ?_ _ | refine lD ?_ | refine lA ?_ _)); exact BK107.out) hb)
         have n4_ := Aside0.mk (blk_below (g := gb108) (o := .cells #[.int .i64 a1_0, .string a1_1] 35 (0, 0)) (by (with_reducible repeat (first | refine lN ?_ _ | refine lD ?_ | refine lA ?_ _)); exact BK108.out) hb)
         have n5_ := Aside0.mk (blk_below (g := gb109) (o := .cells #[.slice none 0 0, .int .i64 0, .int .i64 0] 29 (0, 0)) (by (with_reducible repeat (first | refine lN ?_ _ | refine lD ?_ | refine lA ?_ _)); exact BK109.out) hb)
         have n6_ := Aside0.mk (blk_below (g := gb110) (o := .cells #[.int .i64 0, .int .i64 0, .int .i64 0] 31 (0, 0)) (by (with_reducible repeat (first | refine lN ?_ _ | refine lD ?_ | refine lA ?_ _)); exact BK110.out) hb)
         have n7_ := Aside0.mk (Kept.below (S := (fun k_ => P0_0_ k_)) (by repeat (first | (with_reducible first | exact HK.out | apply kA | apply kN | apply kD | refine Kept.setCell ?_ (.inr GW107.out) _ | refine Kept.setCell ?_ (.inr GW108.out) _ | refine Kept.setCell ?_ (.inr GW109.out) _ | refine Kept.setCell ?_ (.inr GW110.out) _) | exact HK.out)) hb)
         have n8_ := Aside0.mk (below_step (by repeat (first | (with_reducible first | exact HB.out | apply bA | apply bN | apply bD | refine bS ?_ GE107.out | refine bS ?_ GE108.out | refine bS ?_ GE109.out | refine bS ?_ GE110.out) | exact HB.out)) hb)
         clear HO_108000
         clear HO114
         clear BK107
         clear BK108
         clear BK109
         clear BK110
         clear HK
         clear HB
         have HO_108000 := n0_
         have HO114 := n1_
         have HO120 := n2_
         have BK107 := n3_
         have BK108 := n4_
         have BK109 := n5_
         have BK110 := n6_
         have HK := n7_
         have HB := n8_
         clear n0_ n1_ n2_ n3_ n4_ n5_ n6_ n7_ n8_
         clear hb ho34
         refine hK.out _ _ ⟨(lC BK107.out 0).trans rfl, (lC BK107.out 1).trans rfl, (lC BK107.out 2).trans rfl, (lC BK108.out 0).trans rfl, (lC BK108.out 1).trans rfl⟩ (fun hHeld => ?_)
         clear hK K
         refine norm_ (a' := ?_) ?_ ?_
         rotate_left
         ·show Act.put _ (some 30) _ = _
          simp only [Act.put, List.setIfInBounds_toArray, List.set_cons_zero, List.set_cons_succ, i64_w, i32_w]
          rfl
         refine one_ (i := 3) (N := some 27) #[true, true, true, true, true, true, true, false, false, false] rfl rfl (one_of HT_.out (by kernel_rfl)) (by decide) (fun K hK => ?_)
         refine Kd.R_append_rows_step Kd.string (w0 := w0) w0.heap.size (by rfl) (.tmp 24) (.tmp 26) 22 9 (.string ⟨#[]⟩) 16 rfl Try.underlying22 info9 rfl (by decide) (by omega) v113 y112 l0_0 _ _ _ (fun k_ => (P0_0_ k_ ∨ w.heap.size ≤ k_) ∧ some k_ ≠ (.slice Ao4 l0_0.length co4 : Value).ownBlock ∧ some k_ ≠ (v119 : Value).ownBlock) (fun _ => False) rfl rfl ?aO ?aR (fun _ _ h => h) (fun _ h => h.elim) ?aF ?aB ?aS ?aL ?_
         (case aR => repeat (first | exact (rR HO_108000.out).2.2 | (with_reducible first | refine cA ?_ _ | refine cN ?_ _ | refine cD ?_)))
         (case aB => exact (by repeat (first | (with_reducible first | exact HB.out | apply bA | apply bN | apply bD | refine bS ?_ GE107.out | refine bS ?_ GE108.out | refine bS ?_ GE109.out | refine bS ?_ GE110.out) | exact HB.out)))
         (case aF => exact (fun k_ hk => ⟨(.inr (Nat.le_trans (by first | exact HK.out.1 | exact (show Kept w _ (fun k_ => P0_0_ k_) from by repeat (first | (with_reducible first | exact HK.out | apply kA | apply kN | apply kD | refine Kept.setCell ?_ (.inr GW107.out) _ | refine Kept.setCell ?_ (.inr GW108.out) _ | refine Kept.setCell ?_ (.inr GW109.out) _ | refine Kept.setCell ?_ (.inr GW110.out) _) | exact HK.out)).1) hk)), Kd.fresh' (Kd.R_lt (by (with_reducible repeat (first | apply rA | apply rN | apply rD)); exact HO_108000.out)) k_ hk, Kd.fresh' (Kd.R_lt (by (with_reducible repeat (first | apply rA | apply rN | apply rD)); exact HO120.out)) k_ hk⟩))
         (case aO => exact (by (with_reducible repeat (first | apply rA | apply rN | apply rD)); exact rM HO114.out (fun _ hk => ⟨hk.1.1.1, ⟨hk.1.2, hk.2⟩⟩)))
         (case aS => exact (below_size (by repeat (first | (with_reducible first | exact HB.out | apply bA | apply bN | apply bD | refine bS ?_ GE107.out | refine bS ?_ GE108.out | refine bS ?_ GE109.out | refine bS ?_ GE110.out) | exact HB.out))))
         (case aL => have := LMc28.out; omega)
         intro v116 w35 ho hb hg hat
         rw [← Ny115.out] at ho
         have n0_ := Aside0.mk (Kd.R_after (ok := (fun k_ => (P0_0_ k_ ∨ w.heap.size ≤ k_) ∧ some k_ ≠ (v119 : Value).ownBlock)) (by (with_reducible repeat (first | apply rA | apply rN | apply rD)); exact rM HO_108000.out (fun _ hk => ⟨⟨hk.1.1, hk.2⟩, hk.1.2⟩)) hg hat)
         have n1_ := Aside0.mk (blk_grown (g := gb107) (o := .cells #[.slice Ao4 l0_0.length co4, .int .i64 a0_1, .int .i64 a0_2] 29 (0, 0)) (by (with_reducible repeat (first | refine lN ?_ _ | refine lD ?_ | refine lA ?_ _)); exact BK107.out) hg (Kd.R_ne HO114.out BK107.out (by decide)))
         have n2_ := Aside0.mk (blk_grown (g := gb108) (o := .cells #[.int .i64 a1_0, .string a1_1] 35 (0, 0)) (by (with_reducible repeat (first | refine lN ?_ _ | refine lD ?_ | refine lA ?_ _)); exact BK108.out) hg (Kd.R_ne HO114.out BK108.out (by decide)))
         have n3_ := Aside0.mk (blk_grown (g := gb109) (o := .cells #[.slice none 0 0, .int .i64 0, .int .i64 0] 29 (0, 0)) (by (with_reducible repeat (first | refine lN ?_ _ | refine lD ?_ | refine lA ?_ _)); exact BK109.out) hg (Kd.R_ne HO114.out BK109.out (by decide)))
         have n4_ := Aside0.mk (blk_grown (g := gb110) (o := .cells #[.int .i64 0, .int .i64 0, .int .i64 0] 31 (0, 0)) (by (with_reducible repeat (first | refine lN ?_ _ | refine lD ?_ | refine lA ?_ _)); exact BK110.out) hg (Kd.R_ne HO114.out BK110.out (by decide)))
         have n5_ := Aside0.mk (Kd.R_after (ok := (fun k_ => (P0_0_ k_ ∨ w.heap.size ≤ k_) ∧ some k_ ≠ (.slice Ao4 l0_0.length co4 : Value).ownBlock)) (by (with_reducible repeat (first | apply rA | apply rN | apply rD)); exact rM HO120.out (fun _ hk => ⟨⟨hk.1.1.1, hk.1.2⟩, hk.2⟩)) hg hat)
         have n6_ := Aside0.mk (hb)
         have n7_ := Aside0.mk (Kept.of_grown (S := (fun k_ => P0_0_ k_)) hg (by repeat (first | (with_reducible first | exact HK.out | apply kA | apply kN | apply kD | refine Kept.setCell ?_ (.inr GW107.out) _ | refine Kept.setCell ?_ (.inr GW108.out) _ | refine Kept.setCell ?_ (.inr GW109.out) _ | refine Kept.setCell ?_ (.inr GW110.out) _) | exact HK.out)) (fun k_ e_ => (HO114.out.1 k_ e_).1.1.1))
         have n8_ := Aside0.mk (ho)
         clear HO_108000
         clear BK107
         clear BK108
         clear BK109
         clear BK110
         clear HO120
         clear HB
         clear HK
         clear HO114
         have HO_108000 := n0_
         have BK107 := n1_
         have BK108 := n2_
         have BK109 := n3_
         have BK110 := n4_
         have HO120 := n5_
         have HB := n6_
         have HK := n7_
         have HO117 := n8_
         clear n0_ n1_ n2_ n3_ n4_ n5_ n6_ n7_ n8_
         clear ho hb hg hat
         refine hK.out _ _ ⟨(lC BK107.out 0).trans rfl, (lC BK107.out 1).trans rfl, (lC BK107.out 2).trans rfl, (lC BK108.out 0).trans rfl, (lC BK108.out 1).trans rfl⟩ (fun hHeld => ?_)
         clear hK K
         refine norm_ (a' := ?_) ?_ ?_
         rotate_left
         ·show Act.put _ (some 27) _ = _
          simp only [Act.put, List.setIfInBounds_toArray, List.set_cons_zero, List.set_cons_succ, i64_w, i32_w]
          rfl
         exact norm_ (by simp only [putAll, Act.put, List.setIfInBounds_toArray, List.set_cons_zero, List.set_cons_succ]) (hCont (v113, v116, v119) _ ⟨hHeld, (by (with_reducible repeat (first | apply rA | apply rN | apply rD)); exact rM HO117.out (fun _ hk => ⟨hk.1, ⟨hk.2.2, hk.2.1⟩⟩)), (by (with_reducible repeat (first | apply rA | apply rN | apply rD)); exact rM HO120.out (fun _ hk => ⟨hk.1.1, ⟨hk.2, hk.1.2⟩⟩)), (by (with_reducible repeat (first | apply rA | apply rN | apply rD)); exact rM HO_108000.out (fun _ hk => ⟨hk.1.1, ⟨hk.2, hk.1.2⟩⟩)), (by (with_reducible repeat (first | refine lN ?_ _ | refine lD ?_ | refine lA ?_ _)); exact BK107.out), (by (with_reducible repeat (first | refine lN ?_ _ | refine lD ?_ | refine lA ?_ _)); exact BK108.out), (by (with_reducible repeat (first | refine lN ?_ _ | refine lD ?_ | refine lA ?_ _)); exact BK109.out), (by (with_reducible repeat (first | refine lN ?_ _ | refine lD ?_ | refine lA ?_ _)); exact BK110.out), (by repeat (first | (with_reducible first | exact HK.out | apply kA | apply kN | apply kD | refine Kept.setCell ?_ (.inr GW107.out) _ | refine Kept.setCell ?_ (.inr GW108.out) _ | refine Kept.setCell ?_ (.inr GW109.out) _ | refine Kept.setCell ?_ (.inr GW110.out) _) | exact HK.out)), (by repeat (first | (with_reducible first | exact HB.out | apply bA | apply bN | apply bD | refine bS ?_ GE107.out | refine bS ?_ GE108.out | refine bS ?_ GE109.out | refine bS ?_ GE110.out) | exact HB.out))⟩)
       ·skip
        refine Kd.R_lit_step Kd.string _ 9 ?hg (N := 30) ?hd (xs := ([a1_1] : List ByteArray)) (inner := [.string a1_1]) (ok := fun _ => True) (okp := fun _ => True) ?hr ?hp (fun _ hk => hk) trivial (Below.refl _ _) (Nat.le_refl _) (by simp) ?_; (case hd => rfl); (case hg => rfl); (case hr => first | (go_simp; done) | (go_simp; rfl)); (case hp => exact (Reps.one (show Kd.M Kd.string _ _ _ a1_1 [.string a1_1] from rfl) (Reps.none _ _)))
        intro v119 w31 ho32 hb hg_ hnew_
        clear hg_ hnew_
        (first | rw [← Ny118.out] at ho32 | (simp only [Int.reduceToNat] at ho32; rw [← Ny118.out] at ho32))
        have n0_ := Aside0.mk (rF (by (with_reducible repeat (first | apply rA | apply rN | apply rD)); exact HO_108000.out) (rE ho32) hb)
        have n1_ := Aside0.mk (Kd.R_lower (Kd.R_new' (Kd.R_newM (M := fun k_ => (P0_0_ k_ ∨ w.heap.size ≤ k_)) ho32 (by first | exact HK.out.1 | exact (show Kept w _ (fun k_ => P0_0_ k_) from by repeat (first | (with_reducible first | exact HK.out | apply kA | apply kN | apply kD | refine Kept.setCell ?_ (.inr GW107.out) _ | refine Kept.setCell ?_ (.inr GW108.out) _ | refine Kept.setCell ?_ (.inr GW109.out) _ | refine Kept.setCell ?_ (.inr GW110.out) _) | exact HK.out)).1) (fun k_ h_ => .inr h_)) (Kd.R_lt (by (with_reducible repeat (first | apply rA | apply rN | apply rD)); exact HO_108000.out))) (below_size (by repeat (first | (with_reducible first | exact HB.out | apply bA | apply bN | apply bD | refine bS ?_ GE107.out | refine bS ?_ GE108.out | refine bS ?_ GE109.out | refine bS ?_ GE110.out) | exact HB.out))))
        have n2_ := Aside0.mk (blk_below (g := gb107) (o := .cells #[.slice Ao4 l0_0.length co4, .int .i64 a0_1, .int .i64 a0_2] 29 (0, 0)) (by (with_reducible repeat (first | refine lN ?_ _ | refine lD ?_ | refine lA ?_ _)); exact BK107.out) hb)
        have n3_ := Aside0.mk (blk_below (g := gb108) (o := .cells #[.int .i64 a1_0, .string a1_1] 35 (0, 0)) (by (with_reducible repeat (first | refine lN ?_ _ | refine lD ?_ | refine lA ?_ _)); exact BK108.out) hb)
        have n4_ := Aside0.mk (blk_below (g := gb109) (o := .cells #[.slice none 0 0, .int .i64 0, .int .i64 0] 29 (0, 0)) (by (with_reducible repeat (first | refine lN ?_ _ | refine lD ?_ | refine lA ?_ _)); exact BK109.out) hb)
        have n5_ := Aside0.mk (blk_below (g := gb110) (o := .cells #[.int .i64 0, .int .i64 0, .int .i64 0] 31 (0, 0)) (by (with_reducible repeat (first | refine lN ?_ _ | refine lD ?_ | refine lA ?_ _)); exact BK110.out) hb)
        have n6_ := Aside0.mk (Kept.below (S := (fun k_ => P0_0_ k_)) (by repeat (first | (with_reducible first | exact HK.out | apply kA | apply kN | apply kD | refine Kept.setCell ?_ (.inr GW107.out) _ | refine Kept.setCell ?_ (.inr GW108.out) _ | refine Kept.setCell ?_ (.inr GW109.out) _ | refine Kept.setCell ?_ (.inr GW110.out) _) | exact HK.out)) hb)
        have n7_ := Aside0.mk (below_step (by repeat (first | (with_reducible first | exact HB.out | apply bA | apply bN | apply bD | refine bS ?_ GE107.out | refine bS ?_ GE108.out | refine bS ?_ GE109.out | refine bS ?_ GE110.out) | exact HB.out)) hb)
        clear HO_108000
        clear BK107
        clear BK108
        clear BK109
        clear BK110
        clear HK
        clear HB
        have HO_108000 := n0_
        have HO120 := n1_
        have BK107 := n2_
        have BK108 := n3_
        have BK109 := n4_
        have BK110 := n5_
        have HK := n6_
        have HB := n7_
        clear n0_ n1_ n2_ n3_ n4_ n5_ n6_ n7_
        clear hb ho32
        refine hK.out _ _ ⟨(lC BK107.out 0).trans rfl, (lC BK107.out 1).trans rfl, (lC BK107.out 2).trans rfl, (lC BK108.out 0).trans rfl, (lC BK108.out 1).trans rfl⟩ (fun hHeld => ?_)
        clear hK K
        refine norm_ (a' := ?_) ?_ ?_
        rotate_left
        ·show Act.put _ (some 30) _ = _
         simp only [Act.put, List.setIfInBounds_toArray, List.set_cons_zero, List.set_cons_succ, i64_w, i32_w]
         rfl
        refine one_ (i := 0) (N := some 24) #[true, true, true, false, true, true, true, false, false, false] rfl rfl (one_of HT_.out (by kernel_rfl)) (by decide) (fun K hK => ?_)
        refine Kd.R_lit_step Kd.string _ 9 ?hg (N := 24) ?hd (xs := ([] : List ByteArray)) (inner := []) (ok := fun _ => True) (okp := fun _ => True) ?hr ?hp (fun _ hk => hk) trivial (Below.refl _ _) (Nat.le_refl _) (by simp) ?_; (case hd => rfl); (case hg => rfl); (case hr => first | (go_simp; done) | (go_simp; rfl)); (case hp => exact (Reps.none _ _))
        intro v113 w33 ho34 hb hg_ hnew_
        clear hg_ hnew_
        (first | rw [← Ny112.out] at ho34 | (simp only [Int.reduceToNat] at ho34; rw [← Ny112.out] at ho34))
        have n0_ := Aside0.mk (rF (by (with_reducible repeat (first | apply rA | apply rN | apply rD)); exact HO_108000.out) (rE ho34) hb)
        have n1_ := Aside0.mk (rF (by (with_reducible repeat (first | apply rA | apply rN | apply rD)); exact HO120.out) (rE ho34) hb)
        have n2_ := Aside0.mk (Kd.R_lower (Kd.R_new' (Kd.R_new' (Kd.R_newM (M := fun k_ => (P0_0_ k_ ∨ w.heap.size ≤ k_)) ho34 (by first | exact HK.out.1 | exact (show Kept w _ (fun k_ => P0_0_ k_) from by repeat (first | (with_reducible first | exact HK.out | apply kA | apply kN | apply kD | refine Kept.setCell ?_ (.inr GW107.out) _ | refine Kept.setCell ?_ (.inr GW108.out) _ | refine Kept.setCell ?_ (.inr GW109.out) _ | refine Kept.setCell ?_ (.inr GW110.out) _) | exact HK.out)).1) (fun k_ h_ => .inr h_)) (Kd.R_lt (by (with_reducible repeat (first | apply rA | apply rN | apply rD)); exact HO_108000.out))) (Kd.R_lt (by (with_reducible repeat (first | apply rA | apply rN | apply rD)); exact HO120.out))) (below_size (by repeat (first | (with_reducible first | exact HB.out | apply bA | apply bN | apply bD | refine bS ?_ GE107.out | refine bS ?_ GE108.out | refine bS ?_ GE109.out | refine bS ?_ GE110.out) | exact HB.out))))
        have n3_ := Aside0.mk (blk_below (g := gb107) (o := .cells #[.slice Ao4 l0_0.length co4, .int .i64 a0_1, .int .i64 a0_2] 29 (0, 0)) (by (with_reducible repeat (first | refine lN ?_ _ | refine lD ?_ | refine lA ?_ _)); exact BK107.out) hb)
        have n4_ := Aside0.mk (blk_below (g := gb108) (o := .cells #[.int .i64 a1_0, .string a1_1] 35 (0, 0)) (by (with_reducible repeat (first | refine lN ?_ _ | refine lD ?_ | refine lA ?_ _)); exact BK108.out) hb)
        have n5_ := Aside0.mk (blk_below (g := gb109) (o := .cells #[.slice none 0 0, .int .i64 0, .int .i64 0] 29 (0, 0)) (by (with_reducible repeat (first | refine lN ?_ _ | refine lD ?_ | refine lA ?_ _)); exact BK109.out) hb)
        have n6_ := Aside0.mk (blk_below (g := gb110) (o := .cells #[.int .i64 0, .int .i64 0, .int .i64 0] 31 (0, 0)) (by (with_reducible repeat (first | refine lN ?_ _ | refine lD ?_ | refine lA ?_ _)); exact BK110.out) hb)
        have n7_ := Aside0.mk (Kept.below (S := (fun k_ => P0_0_ k_)) (by repeat (first | (with_reducible first | exact HK.out | apply kA | apply kN | apply kD | refine Kept.setCell ?_ (.inr GW107.out) _ | refine Kept.setCell ?_ (.inr GW108.out) _ | refine Kept.setCell ?_ (.inr GW109.out) _ | refine Kept.setCell ?_ (.inr GW110.out) _) | exact HK.out)) hb)
        have n8_ := Aside0.mk (below_step (by repeat (first | (with_reducible first | exact HB.out | apply bA | apply bN | apply bD | refine bS ?_ GE107.out | refine bS ?_ GE108.out | refine bS ?_ GE109.out | refine bS ?_ GE110.out) | exact HB.out)) hb)
        clear HO_108000
        clear HO120
        clear BK107
        clear BK108
        clear BK109
        clear BK110
        clear HK
        clear HB
        have HO_108000 := n0_
        have HO120 := n1_
        have HO114 := n2_
        have BK107 := n3_
        have BK108 := n4_
        have BK109 := n5_
        have BK110 := n6_
        have HK := n7_
        have HB := n8_
        clear n0_ n1_ n2_ n3_ n4_ n5_ n6_ n7_ n8_
        clear hb ho34
        refine hK.out _ _ ⟨(lC BK107.out 0).trans rfl, (lC BK107.out 1).trans rfl, (lC BK107.out 2).trans rfl, (lC BK108.out 0).trans rfl, (lC BK108.out 1).trans rfl⟩ (fun hHeld => ?_)
        clear hK K
        refine norm_ (a' := ?_) ?_ ?_
        rotate_left
        ·show Act.put _ (some 24) _ = _
         simp only [Act.put, List.setIfInBounds_toArray, List.set_cons_zero, List.set_cons_succ, i64_w, i32_w]
         rfl
        refine one_ (i := 3) (N := some 27) #[true, true, true, true, true, true, true, false, false, false] rfl rfl (one_of HT_.out (by kernel_rfl)) (by decide) (fun K hK => ?_)
        refine Kd.R_append_rows_step Kd.string (w0 := w0) w0.heap.size (by rfl) (.tmp 24) (.tmp 26) 22 9 (.string ⟨#[]⟩) 16 rfl Try.underlying22 info9 rfl (by decide) (by omega) v113 y112 l0_0 _ _ _ (fun k_ => (P0_0_ k_ ∨ w.heap.size ≤ k_) ∧ some k_ ≠ (.slice Ao4 l0_0.length co4 : Value).ownBlock ∧ some k_ ≠ (v119 : Value).ownBlock) (fun _ => False) rfl rfl ?aO ?aR (fun _ _ h => h) (fun _ h => h.elim) ?aF ?aB ?aS ?aL ?_
        (case aR => repeat (first | exact (rR HO_108000.out).2.2 | (with_reducible first | refine cA ?_ _ | refine cN ?_ _ | refine cD ?_)))
        (case aB => exact (by repeat (first | (with_reducible first | exact HB.out | apply bA | apply bN | apply bD | refine bS ?_ GE107.out | refine bS ?_ GE108.out | refine bS ?_ GE109.out | refine bS ?_ GE110.out) | exact HB.out)))
        (case aF => exact (fun k_ hk => ⟨(.inr (Nat.le_trans (by first | exact HK.out.1 | exact (show Kept w _ (fun k_ => P0_0_ k_) from by repeat (first | (with_reducible first | exact HK.out | apply kA | apply kN | apply kD | refine Kept.setCell ?_ (.inr GW107.out) _ | refine Kept.setCell ?_ (.inr GW108.out) _ | refine Kept.setCell ?_ (.inr GW109.out) _ | refine Kept.setCell ?_ (.inr GW110.out) _) | exact HK.out)).1) hk)), Kd.fresh' (Kd.R_lt (by (with_reducible repeat (first | apply rA | apply rN | apply rD)); exact HO_108000.out)) k_ hk, Kd.fresh' (Kd.R_lt (by (with_reducible repeat (first | apply rA | apply rN | apply rD)); exact HO120.out)) k_ hk⟩))
        (case aO => exact (by (with_reducible repeat (first | apply rA | apply rN | apply rD)); exact rM HO114.out (fun _ hk => ⟨hk.1.1.1, ⟨hk.1.2, hk.2⟩⟩)))
        (case aS => exact (below_size (by repeat (first | (with_reducible first | exact HB.out | apply bA | apply bN | apply bD | refine bS ?_ GE107.out | refine bS ?_ GE108.out | refine bS ?_ GE109.out | refine bS ?_ GE110.out) | exact HB.out))))
        (case aL => have := LMc28.out; omega)
        intro v116 w35 ho hb hg hat
        rw [← Ny115.out] at ho
        have n0_ := Aside0.mk (Kd.R_after (ok := (fun k_ => (P0_0_ k_ ∨ w.heap.size ≤ k_) ∧ some k_ ≠ (v119 : Value).ownBlock)) (by (with_reducible repeat (first | apply rA | apply rN | apply rD)); exact HO_108000.out) hg hat)
        have n1_ := Aside0.mk (blk_grown (g := gb107) (o := .cells #[.slice Ao4 l0_0.length co4, .int .i64 a0_1, .int .i64 a0_2] 29 (0, 0)) (by (with_reducible repeat (first | refine lN ?_ _ | refine lD ?_ | refine lA ?_ _)); exact BK107.out) hg (Kd.R_ne HO114.out BK107.out (by decide)))
        have n2_ := Aside0.mk (blk_grown (g := gb108) (o := .cells #[.int .i64 a1_0, .string a1_1] 35 (0, 0)) (by (with_reducible repeat (first | refine lN ?_ _ | refine lD ?_ | refine lA ?_ _)); exact BK108.out) hg (Kd.R_ne HO114.out BK108.out (by decide)))
        have n3_ := Aside0.mk (blk_grown (g := gb109) (o := .cells #[.slice none 0 0, .int .i64 0, .int .i64 0] 29 (0, 0)) (by (with_reducible repeat (first | refine lN ?_ _ | refine lD ?_ | refine lA ?_ _)); exact BK109.out) hg (Kd.R_ne HO114.out BK109.out (by decide)))
        have n4_ := Aside0.mk (blk_grown (g := gb110) (o := .cells #[.int .i64 0, .int .i64 0, .int .i64 0] 31 (0, 0)) (by (with_reducible repeat (first | refine lN ?_ _ | refine lD ?_ | refine lA ?_ _)); exact BK110.out) hg (Kd.R_ne HO114.out BK110.out (by decide)))
        have n5_ := Aside0.mk (Kd.R_after (ok := (fun k_ => (P0_0_ k_ ∨ w.heap.size ≤ k_) ∧ some k_ ≠ (.slice Ao4 l0_0.length co4 : Value).ownBlock)) (by (with_reducible repeat (first | apply rA | apply rN | apply rD)); exact rM HO120.out (fun _ hk => ⟨⟨hk.1.1.1, hk.1.2⟩, hk.2⟩)) hg hat)
        have n6_ := Aside0.mk (hb)
        have n7_ := Aside0.mk (Kept.of_grown (S := (fun k_ => P0_0_ k_)) hg (by repeat (first | (with_reducible first | exact HK.out | apply kA | apply kN | apply kD | refine Kept.setCell ?_ (.inr GW107.out) _ | refine Kept.setCell ?_ (.inr GW108.out) _ | refine Kept.setCell ?_ (.inr GW109.out) _ | refine Kept.setCell ?_ (.inr GW110.out) _) | exact HK.out)) (fun k_ e_ => (HO114.out.1 k_ e_).1.1.1))
        have n8_ := Aside0.mk (ho)
        clear HO_108000
        clear BK107
        clear BK108
        clear BK109
        clear BK110
        clear HO120
        clear HB
        clear HK
        clear HO114
        have HO_108000 := n0_
        have BK107 := n1_
        have BK108 := n2_
        have BK109 := n3_
        have BK110 := n4_
        have HO120 := n5_
        have HB := n6_
        have HK := n7_
        have HO117 := n8_
        clear n0_ n1_ n2_ n3_ n4_ n5_ n6_ n7_ n8_
        clear ho hb hg hat
        refine hK.out _ _ ⟨(lC BK107.out 0).trans rfl, (lC BK107.out 1).trans rfl, (lC BK107.out 2).trans rfl, (lC BK108.out 0).trans rfl, (lC BK108.out 1).trans rfl⟩ (fun hHeld => ?_)
        clear hK K
        refine norm_ (a' := ?_) ?_ ?_
        rotate_left
        ·show Act.put _ (some 27) _ = _
         simp only [Act.put, List.setIfInBounds_toArray, List.set_cons_zero, List.set_cons_succ, i64_w, i32_w]
         rfl
        exact norm_ (by simp only [putAll, Act.put, List.setIfInBounds_toArray, List.set_cons_zero, List.set_cons_succ]) (hCont (v113, v116, v119) _ ⟨hHeld, (by (with_reducible repeat (first | apply rA | apply rN | apply rD)); exact rM HO117.out (fun _ hk => ⟨hk.1, ⟨hk.2.2, hk.2.1⟩⟩)), (by (with_reducible repeat (first | apply rA | apply rN | apply rD)); exact rM HO120.out (fun _ hk => ⟨hk.1.1, ⟨hk.2, hk.1.2⟩⟩)), (by (with_reducible repeat (first | apply rA | apply rN | apply rD)); exact rM HO_108000.out (fun _ hk => ⟨hk.1.1, ⟨hk.2, hk.1.2⟩⟩)), (by (with_reducible repeat (first | refine lN ?_ _ | refine lD ?_ | refine lA ?_ _)); exact BK107.out), (by (with_reducible repeat (first | refine lN ?_ _ | refine lD ?_ | refine lA ?_ _)); exact BK108.out), (by (with_reducible repeat (first | refine lN ?_ _ | refine lD ?_ | refine lA ?_ _)); exact BK109.out), (by (with_reducible repeat (first | refine lN ?_ _ | refine lD ?_ | refine lA ?_ _)); exact BK110.out), (by repeat (first | (with_reducible first | exact HK.out | apply kA | apply kN | apply kD | refine Kept.setCell ?_ (.inr GW107.out) _ | refine Kept.setCell ?_ (.inr GW108.out) _ | refine Kept.setCell ?_ (.inr GW109.out) _ | refine Kept.setCell ?_ (.inr GW110.out) _) | exact HK.out)), (by repeat (first | (with_reducible first | exact HB.out | apply bA | apply bN | apply bD | refine bS ?_ GE107.out | refine bS ?_ GE108.out | refine bS ?_ GE109.out | refine bS ?_ GE110.out) | exact HB.out))⟩)
      rintro ⟨v113, v116, v119⟩ w36 ⟨hS_, h0_, h1_, h2_, h3_, h4_, h5_, h6_, h7_, h8_⟩
      have n0_ : Aside0 (Kd.R Kd.string 9 w36 w0.heap.size (fun k_ => (P0_0_ k_ ∨ w.heap.size ≤ k_) ∧ some k_ ≠ (v119 : Value).ownBlock ∧ some k_ ≠ (.slice Ao4 l0_0.length co4 : Value).ownBlock) v116 y115) := ⟨h0_⟩
      have n1_ : Aside0 (Kd.R Kd.string 9 w36 w0.heap.size (fun k_ => (P0_0_ k_ ∨ w.heap.size ≤ k_) ∧ some k_ ≠ (v116 : Value).ownBlock ∧ some k_ ≠ (.slice Ao4 l0_0.length co4 : Value).ownBlock) v119 y118) := ⟨h1_⟩
      have n2_ : Aside0 (Kd.R Kd.string 9 w36 w0.heap.size (fun k_ => (P0_0_ k_ ∨ w.heap.size ≤ k_) ∧ some k_ ≠ (v116 : Value).ownBlock ∧ some k_ ≠ (v119 : Value).ownBlock) (.slice Ao4 l0_0.length co4) l0_0) := ⟨h2_⟩
      have n3_ : Aside0 (w36.heap[gb107]? = some (.cells #[.slice Ao4 l0_0.length co4, .int .i64 a0_1, .int .i64 a0_2] 29 (0, 0))) := ⟨h3_⟩
      have n4_ : Aside0 (w36.heap[gb108]? = some (.cells #[.int .i64 a1_0, .string a1_1] 35 (0, 0))) := ⟨h4_⟩
      have n5_ : Aside0 (w36.heap[gb109]? = some (.cells #[.slice none 0 0, .int .i64 0, .int .i64 0] 29 (0, 0))) := ⟨h5_⟩
      have n6_ : Aside0 (w36.heap[gb110]? = some (.cells #[.int .i64 0, .int .i64 0, .int .i64 0] 31 (0, 0))) := ⟨h6_⟩
      have n7_ : Aside0 (Kept w w36 (fun k_ => P0_0_ k_)) := ⟨h7_⟩
      have n8_ : Aside0 (Below w0.heap.size w0 w36) := ⟨h8_⟩
      clear HO_108000
      clear BK107
      clear BK108
      clear BK109
      clear BK110
      clear HK
      clear HB
      clear h0_ h1_ h2_ h3_ h4_ h5_ h6_ h7_ h8_
      have HO117 := n0_
      have HO120 := n1_
      have HO_108000 := n2_
      have BK107 := n3_
      have BK108 := n4_
      have BK109 := n5_
      have BK110 := n6_
      have HK := n7_
      have HB := n8_
      clear n0_ n1_ n2_ n3_ n4_ n5_ n6_ n7_ n8_
      have hHeld : w36.cell? ⟨gb107, 0, none⟩ = some (.slice Ao4 l0_0.length co4) ∧ w36.cell? ⟨gb107, 1, none⟩ = some (.int .i64 a0_1) ∧ w36.cell? ⟨gb107, 2, none⟩ = some (.int .i64 a0_2) ∧ w36.cell? ⟨gb108, 0, none⟩ = some (.int .i64 a1_0) ∧ w36.cell? ⟨gb108, 1, none⟩ = some (.string a1_1) := hS_
      obtain ⟨Ao38, co38, eo38⟩ := rS HO120.out
      (first | subst eo38 | (injection eo38 with f1_ f2_ f3_; have f4_ := f1_.symm; have f5_ := f3_.symm; clear f1_ f2_ f3_; subst f4_; subst f5_))
      refine norm_ (a' := ?_) ?_ ?_
      rotate_left
      ·simp only [putAll, Act.put, List.setIfInBounds_toArray, List.set_cons_zero, List.set_cons_succ]
       rfl
      refine one_ (i := 7) (N := some 31) #[true, true, true, true, true, true, true, true, false, false] rfl rfl (one_of HT_.out (by kernel_rfl)) (by decide) (fun K hK => ?_)
      refine Kd.R_append_rows_step Kd.string (w0 := w0) w0.heap.size (by rfl) (.tmp 27) (.tmp 30) 22 9 (.string ⟨#[]⟩) 16 rfl Try.underlying22 info9 rfl (by decide) (by omega) v116 y115 y118 _ _ _ (fun k_ => (P0_0_ k_ ∨ w.heap.size ≤ k_) ∧ some k_ ≠ (.slice Ao4 l0_0.length co4 : Value).ownBlock ∧ some k_ ≠ (.slice Ao38 y118.length co38 : Value).ownBlock) (fun _ => False) rfl rfl ?aO ?aR (fun _ _ h => h) (fun _ h => h.elim) ?aF ?aB ?aS ?aL ?_
      (case aR => repeat (first | exact (rR HO120.out).2.2 | (with_reducible first | refine cA ?_ _ | refine cN ?_ _ | refine cD ?_)))
      (case aB => exact (by repeat (first | (with_reducible first | exact HB.out | apply bA | apply bN | apply bD | refine bS ?_ GE107.out | refine bS ?_ GE108.out | refine bS ?_ GE109.out | refine bS ?_ GE110.out) | exact HB.out)))
      (case aF => exact (fun k_ hk => ⟨(.inr (Nat.le_trans (by first | exact HK.out.1 | exact (show Kept w _ (fun k_ => P0_0_ k_) from by repeat (first | (with_reducible first | exact HK.out | apply kA | apply kN | apply kD | refine Kept.setCell ?_ (.inr GW107.out) _ | refine Kept.setCell ?_ (.inr GW108.out) _ | refine Kept.setCell ?_ (.inr GW109.out) _ | refine Kept.setCell ?_ (.inr GW110.out) _) | exact HK.out)).1) hk)), Kd.fresh' (Kd.R_lt (by (with_reducible repeat (first | apply rA | apply rN | apply rD)); exact HO_108000.out)) k_ hk, Kd.fresh' (Kd.R_lt (by (with_reducible repeat (first | apply rA | apply rN | apply rD)); exact HO120.out)) k_ hk⟩))
      (case aO => exact (by (with_reducible repeat (first | apply rA | apply rN | apply rD)); exact rM HO117.out (fun _ hk => ⟨hk.1, ⟨hk.2.2, hk.2.1⟩⟩)))
      (case aS => exact (below_size (by repeat (first | (with_reducible first | exact HB.out | apply bA | apply bN | apply bD | refine bS ?_ GE107.out | refine bS ?_ GE108.out | refine bS ?_ GE109.out | refine bS ?_ GE110.out) | exact HB.out))))
      (case aL => have := LMc29.out; omega)
      intro v122 w37 ho hb hg hat
      rw [← Ny121.out] at ho
      have n0_ := Aside0.mk (Kd.R_after (ok := (fun k_ => (P0_0_ k_ ∨ w.heap.size ≤ k_) ∧ some k_ ≠ (.slice Ao38 y118.length co38 : Value).ownBlock)) (by (with_reducible repeat (first | apply rA | apply rN | apply rD)); exact rM HO_108000.out (fun _ hk => ⟨⟨hk.1, hk.2.2⟩, hk.2.1⟩)) hg hat)
      have n1_ := Aside0.mk (blk_grown (g := gb107) (o := .cells #[.slice Ao4 l0_0.length co4, .int .i64 a0_1, .int .i64 a0_2] 29 (0, 0)) (by (with_reducible repeat (first | refine lN ?_ _ | refine lD ?_ | refine lA ?_ _)); exact BK107.out) hg (Kd.R_ne HO117.out BK107.out (by decide)))
      have n2_ := Aside0.mk (blk_grown (g := gb108) (o := .cells #[.int .i64 a1_0, .string a1_1] 35 (0, 0)) (by (with_reducible repeat (first | refine lN ?_ _ | refine lD ?_ | refine lA ?_ _)); exact BK108.out) hg (Kd.R_ne HO117.out BK108.out (by decide)))
      have n3_ := Aside0.mk (blk_grown (g := gb109) (o := .cells #[.slice none 0 0, .int .i64 0, .int .i64 0] 29 (0, 0)) (by (with_reducible repeat (first | refine lN ?_ _ | refine lD ?_ | refine lA ?_ _)); exact BK109.out) hg (Kd.R_ne HO117.out BK109.out (by decide)))
      have n4_ := Aside0.mk (blk_grown (g := gb110) (o := .cells #[.int .i64 0, .int .i64 0, .int .i64 0] 31 (0, 0)) (by (with_reducible repeat (first | refine lN ?_ _ | refine lD ?_ | refine lA ?_ _)); exact BK110.out) hg (Kd.R_ne HO117.out BK110.out (by decide)))
      have n5_ := Aside0.mk (Kd.R_after (ok := (fun k_ => (P0_0_ k_ ∨ w.heap.size ≤ k_) ∧ some k_ ≠ (.slice Ao4 l0_0.length co4 : Value).ownBlock)) (by (with_reducible repeat (first | apply rA | apply rN | apply rD)); exact rM HO120.out (fun _ hk => ⟨⟨hk.1, hk.2.2⟩, hk.2.1⟩)) hg hat)
      have n6_ := Aside0.mk (hb)
      have n7_ := Aside0.mk (Kept.of_grown (S := (fun k_ => P0_0_ k_)) hg (by repeat (first | (with_reducible first | exact HK.out | apply kA | apply kN | apply kD | refine Kept.setCell ?_ (.inr GW107.out) _ | refine Kept.setCell ?_ (.inr GW108.out) _ | refine Kept.setCell ?_ (.inr GW109.out) _ | refine Kept.setCell ?_ (.inr GW110.out) _) | exact HK.out)) (fun k_ e_ => (HO117.out.1 k_ e_).1))
      have n8_ := Aside0.mk (ho)
      clear HO_108000
      clear BK107
      clear BK108
      clear BK109
      clear BK110
      clear HO120
      clear HB
      clear HK
      clear HO117
      have HO_108000 := n0_
      have BK107 := n1_
      have BK108 := n2_
      have BK109 := n3_
      have BK110 := n4_
      have HO120 := n5_
      have HB := n6_
      have HK := n7_
      have HO123 := n8_
      clear n0_ n1_ n2_ n3_ n4_ n5_ n6_ n7_ n8_
      clear ho hb hg hat
      obtain ⟨Ao39, co39, eo39⟩ := rS HO123.out
      (first | subst eo39 | (injection eo39 with f1_ f2_ f3_; have f4_ := f1_.symm; have f5_ := f3_.symm; clear f1_ f2_ f3_; subst f4_; subst f5_))
      refine hK.out _ _ ⟨(lC BK107.out 0).trans rfl, (lC BK107.out 1).trans rfl, (lC BK107.out 2).trans rfl, (lC BK108.out 0).trans rfl, (lC BK108.out 1).trans rfl⟩ (fun hHeld => ?_)
      clear hK K
      refine norm_ (a' := ?_) ?_ ?_
      rotate_left
      ·show Act.put _ (some 31) _ = _
       simp only [Act.put, List.setIfInBounds_toArray, List.set_cons_zero, List.set_cons_succ, i64_w, i32_w]
       rfl
      refine pure_ (i := 8) (N := some 32) (v := ?_) (a' := ?_) #[true, true, true, true, true, true, true, true, true, false] rfl rfl (any_of HT_.out (by kernel_rfl)) (fun _ _ _ h => h) (Or.inl ⟨by rfl, ?_⟩) ?_ ?_
      rotate_left
      ·intro w'
       go_simp
       with_reducible rfl
      rotate_left
      ·simp only [Act.put, List.setIfInBounds_toArray, List.set_cons_zero, List.set_cons_succ, i64_w, i32_w]
       rfl
      refine last_ (i := 9) (N := none) #[true, true, true, true, true, true, true, true, true, true] rfl rfl (one_of HT_.out (by kernel_rfl)) (by decide) (fun K hK => ?_)
      have hs40 : w37.cell? ⟨gb107, 0, none⟩ = some (.slice Ao4 l0_0.length co4) := (lC BK107.out 0).trans rfl
      have hfs40 := lF BK107.out 0
      have hns40_1 := NB108_107.out
      have hns40_2 := NB109_107.out
      have hns40_3 := NB110_107.out
      have hms40_1 := NB107_108.out
      have hms40_2 := NB107_109.out
      have hms40_3 := NB107_110.out
      refine skip_ (w1 := ?_) (by rfl) rfl ?_ ?_
      rotate_left
      ·go_simp
       rfl
      refine hK.out _ _ ?_
      clear hK K
      refine done_ (done_of HT_.out (by kernel_rfl)) ?_
      have hnb41 := NB107_108.out
      have hnc41 := NB108_107.out
      have hnb42 := NB107_109.out
      have hnc42 := NB109_107.out
      have hnb43 := NB107_110.out
      have hnc43 := NB110_107.out
      have hcz44_0 : w37.cell? ⟨gb107, 0, none⟩ = some (.slice Ao4 l0_0.length co4) := (lC BK107.out 0).trans rfl
      have hcz44_1 : w37.cell? ⟨gb107, 1, none⟩ = some (.int .i64 a0_1) := (lC BK107.out 1).trans rfl
      have hcz44_2 : w37.cell? ⟨gb107, 2, none⟩ = some (.int .i64 a0_2) := (lC BK107.out 2).trans rfl
      have hfz44_0 := lF BK107.out 0
      have hfz44_1 := lF BK107.out 1
      have hfz44_2 := lF BK107.out 2
      have hnb45 := NB109_108.out
      have hnc45 := NB108_109.out
      have hnb46 := NB109_110.out
      have hnc46 := NB110_109.out
      have hcz47_0 : w37.cell? ⟨gb109, 0, none⟩ = some (.slice none 0 0) := (lC BK109.out 0).trans rfl
      have hcz47_1 : w37.cell? ⟨gb109, 1, none⟩ = some (.int .i64 0) := (lC BK109.out 1).trans rfl
      have hcz47_2 : w37.cell? ⟨gb109, 2, none⟩ = some (.int .i64 0) := (lC BK109.out 2).trans rfl
      have hfz47_0 := lF BK109.out 0
      have hfz47_1 := lF BK109.out 1
      have hfz47_2 := lF BK109.out 2
      have hnb48 := NB110_108.out
      have hnc48 := NB108_110.out
      have hcz49_0 : w37.cell? ⟨gb110, 0, none⟩ = some (.int .i64 0) := (lC BK110.out 0).trans rfl
      have hcz49_1 : w37.cell? ⟨gb110, 1, none⟩ = some (.int .i64 0) := (lC BK110.out 1).trans rfl
      have hcz49_2 : w37.cell? ⟨gb110, 2, none⟩ = some (.int .i64 0) := (lC BK110.out 2).trans rfl
      have hfz49_0 := lF BK110.out 0
      have hfz49_1 := lF BK110.out 1
      have hfz49_2 := lF BK110.out 2
      try go_wp2
      refine bodyPost_ret (results_list (rs := [.cell 4 29, .cell 5 31, .tmp 6, .tmp 7]) rfl (by simp) (.cell gb109 29 #[.slice Ao39 y121.length co39, .int .i64 a0_1, .int .i64 a0_2] (0, 0) _ rfl (by (with_reducible repeat (first | refine lN ?_ _ | refine lD ?_ | refine lA ?_ _)); refine lX ?_ NB109_110.out _; (with_reducible repeat (first | refine lN ?_ _ | refine lD ?_ | refine lA ?_ _)); refine lX ?_ NB109_110.out _; (with_reducible repeat (first | refine lN ?_ _ | refine lD ?_ | refine lA ?_ _)); refine lX ?_ NB109_110.out _; (with_reducible repeat (first | refine lN ?_ _ | refine lD ?_ | refine lA ?_ _)); refine lP (cs := #[.slice Ao39 y121.length co39, .int .i64 a0_1, .int .i64 0]) ?_ 2 _ rfl; (with_reducible repeat (first | refine lN ?_ _ | refine lD ?_ | refine lA ?_ _)); refine lP (cs := #[.slice Ao39 y121.length co39, .int .i64 0, .int .i64 0]) ?_ 1 _ rfl; (with_reducible repeat (first | refine lN ?_ _ | refine lD ?_ | refine lA ?_ _)); refine lP (cs := #[.slice none 0 0, .int .i64 0, .int .i64 0]) ?_ 0 _ rfl; (with_reducible repeat (first | refine lN ?_ _ | refine lD ?_ | refine lA ?_ _)); refine lX ?_ NB109_107.out _; (with_reducible repeat (first | refine lN ?_ _ | refine lD ?_ | refine lA ?_ _)); exact BK109.out) Try.underlying29 rfl (by kernel_rfl) (.cell gb110 31 #[.int .i64 0, .int .i64 0, .int .i64 0] (0, 0) _ rfl (by (with_reducible repeat (first | refine lN ?_ _ | refine lD ?_ | refine lA ?_ _)); refine lP (cs := #[.int .i64 0, .int .i64 0, .int .i64 0]) ?_ 2 _ rfl; (with_reducible repeat (first | refine lN ?_ _ | refine lD ?_ | refine lA ?_ _)); refine lP (cs := #[.int .i64 0, .int .i64 0, .int .i64 0]) ?_ 1 _ rfl; (with_reducible repeat (first | refine lN ?_ _ | refine lD ?_ | refine lA ?_ _)); refine lP (cs := #[.int .i64 0, .int .i64 0, .int .i64 0]) ?_ 0 _ rfl; (with_reducible repeat (first | refine lN ?_ _ | refine lD ?_ | refine lA ?_ _)); refine lX ?_ NB110_109.out _; (with_reducible repeat (first | refine lN ?_ _ | refine lD ?_ | refine lA ?_ _)); refine lX ?_ NB110_109.out _; (with_reducible repeat (first | refine lN ?_ _ | refine lD ?_ | refine lA ?_ _)); refine lX ?_ NB110_109.out _; (with_reducible repeat (first | refine lN ?_ _ | refine lD ?_ | refine lA ?_ _)); refine lX ?_ NB110_107.out _; (with_reducible repeat (first | refine lN ?_ _ | refine lD ?_ | refine lA ?_ _)); exact BK110.out) Try.underlying31 rfl (by kernel_rfl) (.tmp (.tmp .nil))))) rfl ?_
      exact ⟨_, by first | rfl | (simp [errW_none, errW_some] <;> rfl) | (simp [*, errW_none, errW_some] <;> rfl), by (with_reducible repeat (first | apply rA | apply rN | apply rD)); exact rM (Kd.R_far (p := ⟨gb110, 2, none⟩) (Kd.R_far (p := ⟨gb110, 1, none⟩) (Kd.R_far (p := ⟨gb110, 0, none⟩) (Kd.R_far (p := ⟨gb109, 2, none⟩) (Kd.R_far (p := ⟨gb109, 1, none⟩) (Kd.R_far (p := ⟨gb109, 0, none⟩) (Kd.R_far (p := ⟨gb107, 0, none⟩) (Kd.R_types (Kd.R_types (Kd.R_types HO123.out BK107.out (by decide)) BK109.out (by decide)) BK110.out (by decide)) (fun _ hk => hk.1.1.2) (.slice Ao39 y121.length co39)) (fun _ hk => hk.1.2) (.slice Ao39 y121.length co39)) (fun _ hk => hk.1.2) (.int .i64 a0_1)) (fun _ hk => hk.1.2) (.int .i64 a0_2)) (fun _ hk => hk.2) (.int .i64 0)) (fun _ hk => hk.2) (.int .i64 0)) (fun _ hk => hk.2) (.int .i64 0)) (fun _ hk => hk.1.1.1.1), by repeat (first | (with_reducible first | exact HB.out | apply bA | apply bN | apply bD | refine bS ?_ GE107.out | refine bS ?_ GE108.out | refine bS ?_ GE109.out | refine bS ?_ GE110.out) | exact HB.out), by repeat (first | (with_reducible first | exact HK.out | apply kA | apply kN | apply kD | refine Kept.setCell ?_ (.inr GW107.out) _ | refine Kept.setCell ?_ (.inr GW108.out) _ | refine Kept.setCell ?_ (.inr GW109.out) _ | refine Kept.setCell ?_ (.inr GW110.out) _) | exact HK.out)⟩
     ·rw [if_neg c29] at H
      exact absurd H (by simp)
    ·rw [if_neg c28] at H
     exact absurd H (by simp)
   ·replace c27 := fB c27
    subst c27
    have H1 : (if a1_0 = 2 then (if a1_1.toList = ([] : List UInt8) then (spec_l10Step.j1 kj2 (decide (a0_1 < 1000)) l0_0 a0_1 a0_2) else (spec_l10Step.j1 kj2 false l0_0 a0_1 a0_2)) else (spec_l10Step.j1 kj2 false l0_0 a0_1 a0_2)) = some (r1, r2, r3, r4, r5, r6, r7, r8) := by rw [if_neg (show ¬ (false = true) by decide)] at H; exact H
    clear H
    have H := H1
    clear H1
    have HC50 := Aside0.mk H
    clear H
    go_upto_region 4 with (fail)
    go_cut [35] (fun v35 wc => ∃ (kq : Nat) (x35_49 : Bool), v35 = .bool x35_49 ∧ Aside0 (spec_l10Step.j1 kq x35_49 l0_0 a0_1 a0_2 = some (r1, r2, r3, r4, r5, r6, r7, r8)) ∧ Aside0 (kq ≤ kj2) ∧ Aside0 (Kd.R Kd.string 9 wc w0.heap.size (fun k_ => (P0_0_ k_ ∨ w.heap.size ≤ k_)) (.slice Ao4 l0_0.length co4) l0_0) ∧ Aside0 (wc.heap[gb107]? = some (.cells #[(.slice Ao4 l0_0.length co4), .int .i64 a0_1, .int .i64 a0_2] 29 (0, 0))) ∧ Aside0 (wc.heap[gb108]? = some (.cells #[.int .i64 a1_0, .string a1_1] 35 (0, 0))) ∧ Aside0 (wc.heap[gb109]? = some (.cells #[(.slice none 0 0), .int .i64 0, .int .i64 0] 29 (0, 0))) ∧ Aside0 (wc.heap[gb110]? = some (.cells #[.int .i64 0, .int .i64 0, .int .i64 0] 31 (0, 0))) ∧ Aside0 (Kept w wc (fun k_ => P0_0_ k_)) ∧ Aside0 (Below w0.heap.size w0 wc))
    case first =>
     have H := HC50.out
     clear HC50
     by_cases c51 : a1_0 = 2
     ·rw [if_pos c51] at H
      have c51b0 : (a1_0 == 2) = true := beq_iff_eq.mpr c51
      have c51b1 : (a1_0 != 2) = false := bne_eq_false_iff_eq.mpr c51
      clear c51
      (first | rw [c51b0] | (simp only [i64_w, i32_w]; rw [c51b0]) | skip)
      by_cases c52 : a1_1.toList = ([] : List UInt8)
      ·rw [if_pos c52] at H
       have c52b0 : (a1_1.toList == ([] : List UInt8)) = true := beq_iff_eq.mpr c52
       have c52b1 : (a1_1.toList != ([] : List UInt8)) = false := bne_eq_false_iff_eq.mpr c52
       clear c52
       have H' := Aside0.mk H
       clear H
       have hnb53 := NB108_107.out
       have hnc53 := NB107_108.out
       have hnb54 := NB108_109.out
       have hnc54 := NB109_108.out
       have hnb55 := NB108_110.out
       have hnc55 := NB110_108.out
       have hcz56_0 : wc.cell? ⟨gb108, 0, none⟩ = some (.int .i64 a1_0) := (lC BK108.out 0).trans rfl
       have hcz56_1 : wc.cell? ⟨gb108, 1, none⟩ = some (.string a1_1) := (lC BK108.out 1).trans rfl
       have hfz56_0 := lF BK108.out 0
       have hfz56_1 := lF BK108.out 1
       have hnb57 := NB107_109.out
       have hnc57 := NB109_107.out
       have hnb58 := NB107_110.out
       have hnc58 := NB110_107.out
       have hcz59_0 : wc.cell? ⟨gb107, 0, none⟩ = some (.slice Ao4 l0_0.length co4) := (lC BK107.out 0).trans rfl
       have hcz59_1 : wc.cell? ⟨gb107, 1, none⟩ = some (.int .i64 a0_1) := (lC BK107.out 1).trans rfl
       have hcz59_2 : wc.cell? ⟨gb107, 2, none⟩ = some (.int .i64 a0_2) := (lC BK107.out 2).trans rfl
       have hfz59_0 := lF BK107.out 0
       have hfz59_1 := lF BK107.out 1
       have hfz59_2 := lF BK107.out 2
       go_wp2
       go_meet
       case rel => exact ⟨_, (decide (a0_1 < 1000)), (by first | rfl | (simp; done) | (simp [*]; done)), H', ⟨by have := HJ2.out; first | omega | exact Nat.le_refl _⟩, ⟨by (with_reducible repeat (first | apply rA | apply rN | apply rD)); exact HO_108000.out⟩, ⟨by (with_reducible repeat (first | refine lN ?_ _ | refine lD ?_ | refine lA ?_ _)); exact BK107.out⟩, ⟨by (with_reducible repeat (first | refine lN ?_ _ | refine lD ?_ | refine lA ?_ _)); exact BK108.out⟩, ⟨by (with_reducible repeat (first | refine lN ?_ _ | refine lD ?_ | refine lA ?_ _)); exact BK109.out⟩, ⟨by (with_reducible repeat (first | refine lN ?_ _ | refine lD ?_ | refine lA ?_ _)); exact BK110.out⟩, ⟨by repeat (first | (with_reducible first | exact HK.out | apply kA | apply kN | apply kD | refine Kept.setCell ?_ (.inr GW107.out) _ | refine Kept.setCell ?_ (.inr GW108.out) _ | refine Kept.setCell ?_ (.inr GW109.out) _ | refine Kept.setCell ?_ (.inr GW110.out) _) | exact HK.out)⟩, ⟨by repeat (first | (with_reducible first | exact HB.out | apply bA | apply bN | apply bD | refine bS ?_ GE107.out | refine bS ?_ GE108.out | refine bS ?_ GE109.out | refine bS ?_ GE110.out) | exact HB.out)⟩⟩
      ·rw [if_neg c52] at H
       have c52b0 : (a1_1.toList == ([] : List UInt8)) = false := beq_eq_false_iff_ne.mpr c52
       have c52b1 : (a1_1.toList != ([] : List UInt8)) = true := bne_iff_ne.mpr c52
       have H' := Aside0.mk H
       clear H
       have hnb60 := NB108_107.out
       have hnc60 := NB107_108.out
       have hnb61 := NB108_109.out
       have hnc61 := NB109_108.out
       have hnb62 := NB108_110.out
       have hnc62 := NB110_108.out
       have hcz63_0 : wc.cell? ⟨gb108, 0, none⟩ = some (.int .i64 a1_0) := (lC BK108.out 0).trans rfl
       have hcz63_1 : wc.cell? ⟨gb108, 1, none⟩ = some (.string a1_1) := (lC BK108.out 1).trans rfl
       have hfz63_0 := lF BK108.out 0
       have hfz63_1 := lF BK108.out 1
       go_wp2
       go_meet
       case rel => exact ⟨_, (false), (by first | rfl | (simp; done) | (simp [*]; done)), H', ⟨by have := HJ2.out; first | omega | exact Nat.le_refl _⟩, ⟨by (with_reducible repeat (first | apply rA | apply rN | apply rD)); exact HO_108000.out⟩, ⟨by (with_reducible repeat (first | refine lN ?_ _ | refine lD ?_ | refine lA ?_ _)); exact BK107.out⟩, ⟨by (with_reducible repeat (first | refine lN ?_ _ | refine lD ?_ | refine lA ?_ _)); exact BK108.out⟩, ⟨by (with_reducible repeat (first | refine lN ?_ _ | refine lD ?_ | refine lA ?_ _)); exact BK109.out⟩, ⟨by (with_reducible repeat (first | refine lN ?_ _ | refine lD ?_ | refine lA ?_ _)); exact BK110.out⟩, ⟨by repeat (first | (with_reducible first | exact HK.out | apply kA | apply kN | apply kD | refine Kept.setCell ?_ (.inr GW107.out) _ | refine Kept.setCell ?_ (.inr GW108.out) _ | refine Kept.setCell ?_ (.inr GW109.out) _ | refine Kept.setCell ?_ (.inr GW110.out) _) | exact HK.out)⟩, ⟨by repeat (first | (with_reducible first | exact HB.out | apply bA | apply bN | apply bD | refine bS ?_ GE107.out | refine bS ?_ GE108.out | refine bS ?_ GE109.out | refine bS ?_ GE110.out) | exact HB.out)⟩⟩
     ·rw [if_neg c51] at H
      have c51b0 : (a1_0 == 2) = false := beq_eq_false_iff_ne.mpr c51
      have c51b1 : (a1_0 != 2) = true := bne_iff_ne.mpr c51
      (first | rw [c51b0] | (simp only [i64_w, i32_w]; rw [c51b0]) | skip)
      have H' := Aside0.mk H
      clear H
      have hnb64 := NB108_107.out
      have hnc64 := NB107_108.out
      have hnb65 := NB108_109.out
      have hnc65 := NB109_108.out
      have hnb66 := NB108_110.out
      have hnc66 := NB110_108.out
      have hcz67_0 : wc.cell? ⟨gb108, 0, none⟩ = some (.int .i64 a1_0) := (lC BK108.out 0).trans rfl
      have hcz67_1 : wc.cell? ⟨gb108, 1, none⟩ = some (.string a1_1) := (lC BK108.out 1).trans rfl
      have hfz67_0 := lF BK108.out 0
      have hfz67_1 := lF BK108.out 1
      go_wp2
      go_meet
      case rel => exact ⟨_, (false), (by first | rfl | (simp; done) | (simp [*]; done)), H', ⟨by have := HJ2.out; first | omega | exact Nat.le_refl _⟩, ⟨by (with_reducible repeat (first | apply rA | apply rN | apply rD)); exact HO_108000.out⟩, ⟨by (with_reducible repeat (first | refine lN ?_ _ | refine lD ?_ | refine lA ?_ _)); exact BK107.out⟩, ⟨by (with_reducible repeat (first | refine lN ?_ _ | refine lD ?_ | refine lA ?_ _)); exact BK108.out⟩, ⟨by (with_reducible repeat (first | refine lN ?_ _ | refine lD ?_ | refine lA ?_ _)); exact BK109.out⟩, ⟨by (with_reducible repeat (first | refine lN ?_ _ | refine lD ?_ | refine lA ?_ _)); exact BK110.out⟩, ⟨by repeat (first | (with_reducible first | exact HK.out | apply kA | apply kN | apply kD | refine Kept.setCell ?_ (.inr GW107.out) _ | refine Kept.setCell ?_ (.inr GW108.out) _ | refine Kept.setCell ?_ (.inr GW109.out) _ | refine Kept.setCell ?_ (.inr GW110.out) _) | exact HK.out)⟩, ⟨by repeat (first | (with_reducible first | exact HB.out | apply bA | apply bN | apply bD | refine bS ?_ GE107.out | refine bS ?_ GE108.out | refine bS ?_ GE109.out | refine bS ?_ GE110.out) | exact HB.out)⟩⟩
    case rest =>
     clear HC50
     try clear c2
     try clear p2
     try clear c4
     try clear c5
     try clear c6
     try clear c27
     try clear c28
     try clear c29
     try clear c41
     try clear c42
     try clear c43
     try clear c45
     try clear c46
     try clear c48
     try clear c51
     try clear c51b0
     try clear c51b1
     try clear c52
     try clear c52b0
     try clear c52b1
     try clear c53
     try clear c54
     try clear c55
     try clear c57
     try clear c58
     try clear c60
     try clear c61
     try clear c62
     try clear c64
     try clear c65
     try clear c66
     try clear hcz44_0
     try clear hcz44_1
     try clear hcz44_2
     try clear hcz47_0
     try clear hcz47_1
     try clear hcz47_2
     try clear hcz49_0
     try clear hcz49_1
     try clear hcz49_2
     try clear hcz56_0
     try clear hcz56_1
     try clear hcz59_0
     try clear hcz59_1
     try clear hcz59_2
     try clear hcz63_0
     try clear hcz63_1
     try clear hcz67_0
     try clear hcz67_1
     try clear hfz44_0
     try clear hfz44_1
     try clear hfz44_2
     try clear hfz47_0
     try clear hfz47_1
     try clear hfz47_2
     try clear hfz49_0
     try clear hfz49_1
     try clear hfz49_2
     try clear hfz56_0
     try clear hfz56_1
     try clear hfz59_0
     try clear hfz59_1
     try clear hfz59_2
     try clear hfz63_0
     try clear hfz63_1
     try clear hfz67_0
     try clear hfz67_1
     obtain ⟨kq, x35_49, rfl, HA, HJ49, HO_108000, BK107, BK108, BK109, BK110, HK, HB⟩ := hcut
     cases kq with
     | zero => exact absurd HA.out (by simp [spec_l10Step.j1])
     | succ kj49 =>
      have H := HA.out
      clear HA
      simp only [spec_l10Step.j1] at H
      by_cases c68 : x35_49 = true
      ·subst c68
       have H1 : (if (l0_0.length : Int) > 0 then (if 0 < (l0_0.length : Int) then ((some (([] : List ByteArray) : List ByteArray)).bind fun y125 => (if 1 ≤ (l0_0.length : Int) then ((some (l0_0.drop 1 : List ByteArray)).bind fun y128 => (if y125.length + y128.length < 8796093022208 then ((spec_l10Emit.f a0_2 (wrap64 ((wrap64 (a0_1 + 1)) - 1))).bind fun bt135 => (some ((y125 ++ y128), wrap64 (a0_1 + 1), a0_2, bt135.1, bt135.2.1, bt135.2.2, rdOf ByteArray.empty l0_0 0, true))) else (none))) else (none))) else (none)) else ((spec_l10Emit.f a0_2 (wrap64 ((wrap64 (a0_1 + 1)) - 1))).bind fun bt138 => (some (l0_0, wrap64 (a0_1 + 1), a0_2, bt138.1, bt138.2.1, bt138.2.2, (⟨#[]⟩ : ByteArray), true)))) = some (r1, r2, r3, r4, r5, r6, r7, r8) := by rw [if_pos rfl] at H; exact H
       clear H
       have H := H1
       clear H1
       by_cases c69 : (l0_0.length : Int) > 0
       ·rw [if_pos c69] at H
        have c69b0 : decide (0 < (l0_0.length : Int)) = true := decide_eq_true c69
        have c69b1 : decide (0 < l0_0.length) = true := decide_eq_true (by omega)
        clear c69
        by_cases c70 : 0 < (l0_0.length : Int)
        ·rw [if_pos c70] at H
         have c70b0 : decide (0 < (l0_0.length : Int)) = true := decide_eq_true c70
         have c70b1 : decide (0 < l0_0.length) = true := decide_eq_true (by omega)
         clear c70
         obtain ⟨y125, hy125⟩ : ∃ y_ : List ByteArray, y_ = (([] : List ByteArray)) := ⟨_, rfl⟩
         replace H : (if 1 ≤ (l0_0.length : Int) then ((some (l0_0.drop 1 : List ByteArray)).bind fun y128 => (if y125.length + y128.length < 8796093022208 then ((spec_l10Emit.f a0_2 (wrap64 ((wrap64 (a0_1 + 1)) - 1))).bind fun bt135 => (some ((y125 ++ y128), wrap64 (a0_1 + 1), a0_2, bt135.1, bt135.2.1, bt135.2.2, rdOf ByteArray.empty l0_0 0, true))) else (none))) else (none)) = some (r1, r2, r3, r4, r5, r6, r7, r8) := by first | (rw [hy125]; with_reducible exact H) | (have H2_ := (Option.bind_some _ _).symm.trans H; rw [hy125]; with_reducible exact H2_) | (have H2_ := (Option.bind_some _ _).symm.trans H; with_reducible exact H2_) | with_reducible exact H | (rw [hy125]; exact H) | exact H
         have Ny125 := Aside0.mk hy125
         clear hy125
         by_cases c71 : 1 ≤ (l0_0.length : Int)
         ·rw [if_pos c71] at H
          have c71b0 := eq_true c71
          have c71b1 : decide (1 ≤ (l0_0.length : Int)) = true := decide_eq_true c71
          clear c71
          obtain ⟨y128, hy128⟩ : ∃ y_ : List ByteArray, y_ = (l0_0.drop 1) := ⟨_, rfl⟩
          replace H : (if y125.length + y128.length < 8796093022208 then ((spec_l10Emit.f a0_2 (wrap64 ((wrap64 (a0_1 + 1)) - 1))).bind fun bt135 => (some ((y125 ++ y128), wrap64 (a0_1 + 1), a0_2, bt135.1, bt135.2.1, bt135.2.2, rdOf ByteArray.empty l0_0 0, true))) else (none)) = some (r1, r2, r3, r4, r5, r6, r7, r8) := by first | (rw [hy128]; with_reducible exact H) | (have H2_ := (Option.bind_some _ _).symm.trans H; rw [hy128]; with_reducible exact H2_) | (have H2_ := (Option.bind_some _ _).symm.trans H; with_reducible exact H2_) | with_reducible exact H | (rw [hy128]; exact H) | exact H
          have Ny128 := Aside0.mk hy128
          clear hy128
          by_cases c72 : y125.length + y128.length < 8796093022208
          ·rw [if_pos c72] at H
           have LMc72 := Aside0.mk c72
           clear c72
           obtain ⟨y132, hy132⟩ : ∃ y_ : List ByteArray, y_ = (y125 ++ y128) := ⟨_, rfl⟩
           replace H : ((spec_l10Emit.f a0_2 (wrap64 ((wrap64 (a0_1 + 1)) - 1))).bind fun bt135 => (some (y132, wrap64 (a0_1 + 1), a0_2, bt135.1, bt135.2.1, bt135.2.2, rdOf ByteArray.empty l0_0 0, true))) = some (r1, r2, r3, r4, r5, r6, r7, r8) := by first | (rw [hy132]; with_reducible exact H) | (have H2_ := (Option.bind_some _ _).symm.trans H; rw [hy132]; with_reducible exact H2_) | (have H2_ := (Option.bind_some _ _).symm.trans H; with_reducible exact H2_) | with_reducible exact H | (rw [hy132]; exact H) | exact H
           have Ny132 := Aside0.mk hy132
           clear hy132
           replace H := oB H
           obtain ⟨⟨t135, t136, t137⟩, A730, H⟩ := H
           replace H : (some (y132, wrap64 (a0_1 + 1), a0_2, t135, t136, t137, rdOf ByteArray.empty l0_0 0, true)) = some (r1, r2, r3, r4, r5, r6, r7, r8) := H
           have A73 := Aside0.mk A730
           clear A730
           simp only [Option.some.injEq, Prod.mk.injEq] at H
           obtain ⟨rfl, rfl, rfl, rfl, rfl, rfl, rfl, rfl⟩ := H
           have hnb74 := NB107_108.out
           have hnc74 := NB108_107.out
           have hnb75 := NB107_109.out
           have hnc75 := NB109_107.out
           have hnb76 := NB107_110.out
           have hnc76 := NB110_107.out
           have hcz77_0 : wc.cell? ⟨gb107, 0, none⟩ = some (.slice Ao4 l0_0.length co4) := (lC BK107.out 0).trans rfl
           have hcz77_1 : wc.cell? ⟨gb107, 1, none⟩ = some (.int .i64 a0_1) := (lC BK107.out 1).trans rfl
           have hcz77_2 : wc.cell? ⟨gb107, 2, none⟩ = some (.int .i64 a0_2) := (lC BK107.out 2).trans rfl
           have hfz77_0 := lF BK107.out 0
           have hfz77_1 := lF BK107.out 1
           have hfz77_2 := lF BK107.out 2
           have p124 : 0 ≤ (0 : Int) := (by omega)
           have q124 : 0 < (l0_0.length : Int) := of_decide_eq_true (by first | (with_reducible assumption) | assumption)
           obtain ⟨ad124, e124, hx124_0⟩ := Kd.at_string (rR HO_108000.out).2.2 0 p124 q124
           cases e124
           have qi124 : (0 < l0_0.length) = True := eq_true (by omega)
           (try rw [show ((0 : Int)).toNat = 0 from rfl] at hx124_0)
           (try rw [Addr.add_zero'] at hx124_0)
           replace p124 := eq_true p124
           replace q124 := eq_true q124
           try go_wp2_with (first | ((with_reducible refine gate_dst (N := 57) rfl ?_); (try (refine gate_guard (by rfl) ?_; dsimp only)); refine Kd.R_lit Kd.string _ 9 ?hg (N := 57) ?hd (xs := ([] : List ByteArray)) (inner := []) (ok := fun _ => True) (okp := fun _ => True) ?hr ?hp (fun _ hk => hk) trivial (Below.refl _ _) (Nat.le_refl _) (by simp) ?_; (case hd => rfl); (case hg => rfl); (case hr => first | (go_simp; done) | (go_simp; rfl)); (case hp => exact (Reps.none _ _)); intro v126 w78 ho79 hb hg_ hnew_; clear hg_ hnew_; (first | rw [← Ny125.out] at ho79 | (simp only [Int.reduceToNat] at ho79; rw [← Ny125.out] at ho79)); have n0_ := Aside0.mk (rF (by (with_reducible repeat (first | apply rA | apply rN | apply rD)); exact HO_108000.out) (rE ho79) hb); have n1_ := Aside0.mk (Kd.R_lower (Kd.R_new' (Kd.R_newM (M := fun k_ => (P0_0_ k_ ∨ w.heap.size ≤ k_)) ho79 (by first | exact HK.out.1 | exact (show Kept w _ (fun k_ => P0_0_ k_) from by repeat (first | (with_reducible first | exact HK.out | apply kA | apply kN | apply kD | refine Kept.setCell ?_ (.inr GW107.out) _ | refine Kept.setCell ?_ (.inr GW108.out) _ | refine Kept.setCell ?_ (.inr GW109.out) _ | refine Kept.setCell ?_ (.inr GW110.out) _) | exact HK.out)).1) (fun k_ h_ => .inr h_)) (Kd.R_lt (by (with_reducible repeat (first | apply rA | apply rN | apply rD)); exact HO_108000.out))) (below_size (by repeat (first | (with_reducible first | exact HB.out | apply bA | apply bN | apply bD | refine bS ?_ GE107.out | refine bS ?_ GE108.out | refine bS ?_ GE109.out | refine bS ?_ GE110.out) | exact HB.out)))); have n2_ := Aside0.mk (blk_below (g := gb107) (o := .cells #[.slice (some ad124) l0_0.length co4, .int .i64 a0_1, .int .i64 a0_2] 29 (0, 0)) (by (with_reducible repeat (first | refine lN ?_ _ | refine lD ?_ | refine lA ?_ _)); exact BK107.out) hb); have n3_ := Aside0.mk (blk_below (g := gb108) (o := .cells #[.int .i64 a1_0, .string a1_1] 35 (0, 0)) (by (with_reducible repeat (first | refine lN ?_ _ | refine lD ?_ | refine lA ?_ _)); exact BK108.out) hb); have n4_ := Aside0.mk (blk_below (g := gb109) (o := .cells #[.slice none 0 0, .int .i64 0, .int .i64 0] 29 (0, 0)) (by (with_reducible repeat (first | refine lN ?_ _ | refine lD ?_ | refine lA ?_ _)); exact BK109.out) hb); have n5_ := Aside0.mk (blk_below (g := gb110) (o := .cells #[.int .i64 0, .int .i64 0, .int .i64 0] 31 (0, 0)) (by (with_reducible repeat (first | refine lN ?_ _ | refine lD ?_ | refine lA ?_ _)); exact BK110.out) hb); have n6_ := Aside0.mk (Kept.below (S := (fun k_ => P0_0_ k_)) (by repeat (first | (with_reducible first | exact HK.out | apply kA | apply kN | apply kD | refine Kept.setCell ?_ (.inr GW107.out) _ | refine Kept.setCell ?_ (.inr GW108.out) _ | refine Kept.setCell ?_ (.inr GW109.out) _ | refine Kept.setCell ?_ (.inr GW110.out) _) | exact HK.out)) hb); have n7_ := Aside0.mk (below_step (by repeat (first | (with_reducible first | exact HB.out | apply bA | apply bN | apply bD | refine bS ?_ GE107.out | refine bS ?_ GE108.out | refine bS ?_ GE109.out | refine bS ?_ GE110.out) | exact HB.out)) hb); clear HO_108000; clear BK107; clear BK108; clear BK109; clear BK110; clear HK; clear HB; have HO_108000 := n0_; have HO127 := n1_; have BK107 := n2_; have BK108 := n3_; have BK109 := n4_; have BK110 := n5_; have HK := n6_; have HB := n7_; clear n0_ n1_ n2_ n3_ n4_ n5_ n6_ n7_; clear hb ho79; have hcz80_0 : w78.cell? ⟨gb107, 0, none⟩ = some (.slice (some ad124) l0_0.length co4) := (lC BK107.out 0).trans rfl; have hcz80_1 : w78.cell? ⟨gb107, 1, none⟩ = some (.int .i64 a0_1) := (lC BK107.out 1).trans rfl; have hcz80_2 : w78.cell? ⟨gb107, 2, none⟩ = some (.int .i64 a0_2) := (lC BK107.out 2).trans rfl; have hfz80_0 := lF BK107.out 0; have hfz80_1 := lF BK107.out 1; have hfz80_2 := lF BK107.out 2; have q81 : (1 : Int) ≤ ((l0_0.length : Int) : Int) := of_decide_eq_true (by first | (with_reducible assumption) | assumption); obtain ⟨i081, hi081, _, hsz81, _⟩ := info_parts info9; have hroom81 : l0_0.length ≤ co4 := (rR HO_108000.out).2.1; have hC81 : Kd.C Kd.string _ (some ad124) l0_0.length l0_0 := (rR HO_108000.out).2.2; have hcut81 := cut_from (P := Try.prog) 22 9 .i64 Try.underlying22 hi081 1 hsz81 (some ad124) l0_0.length co4 1 (by omega) q81; have hr81 := Kd.C_drop (m := (1 : Int).toNat) (c := co4) hC81 (by omega) hroom81; obtain ⟨A81, hA81⟩ : ∃ A1, A1 = (if co4 = (1 : Int).toNat then (some ad124) else ((some ad124) : Option Addr).map (·.add ((1 : Int).toNat * 1))) := ⟨_, rfl⟩; obtain ⟨c81, hc81⟩ : ∃ c1, c1 = co4 - (1 : Int).toNat := ⟨_, rfl⟩; have hy81 : y128.length = l0_0.length - (1 : Int).toNat := (by rw [Ny128.out, List.length_drop] <;> omega); rw [show (l0_0).drop (1 : Int).toNat = y128 from Ny128.out.symm] at hr81; replace hr81 : Kd.C Kd.string _ A81 y128.length y128 := (by rw [hA81]; exact hr81); rw [← hy81, ← hA81, ← hc81] at hcut81; have HR131 := Aside0.mk hr81; have HC131 := Aside0.mk (show y128.length ≤ c81 from by rw [hy81, hc81]; exact Nat.sub_le_sub_right hroom81 _); clear hr81 hC81 hroom81 hi081 hsz81 hc81; have KY81 := Aside0.mk hy81; have KA81 := Aside0.mk hA81; clear hy81 hA81; have KL81 := Aside0.mk (show 1 ≤ l0_0.length from by omega); replace q81 := eq_true q81) | ((with_reducible refine gate_builtin (b := .append) (xs := #[.tmp 57, .tmp 60]) rfl ?_); (try (refine gate_guard (by rfl) ?_; dsimp only)); at_builtin; refine Kd.R_append_rows Kd.string (w0 := w0) w0.heap.size rfl (.tmp 57) (.tmp 60) 22 9 (.string ⟨#[]⟩) 16 rfl Try.underlying22 info9 rfl (by decide) (by omega) v126 y125 y128 _ _ _ (fun k_ => (P0_0_ k_ ∨ w.heap.size ≤ k_) ∧ some k_ ≠ (.slice (some ad124) l0_0.length co4 : Value).ownBlock) (fun _ => False) rfl rfl ?aO ?aR (fun _ _ h => h) (fun _ h => h.elim) ?aF ?aB ?aS ?aL ?_; (case aR => repeat (first | exact (by repeat (first | (with_reducible exact HR131.out) | (with_reducible first | refine cA ?_ _ | refine cN ?_ _ | refine cD ?_) | exact HR131.out)) | (with_reducible first | refine cA ?_ _ | refine cN ?_ _ | refine cD ?_))); (case aB => exact (by repeat (first | (with_reducible first | exact HB.out | apply bA | apply bN | apply bD | refine bS ?_ GE107.out | refine bS ?_ GE108.out | refine bS ?_ GE109.out | refine bS ?_ GE110.out) | exact HB.out))); (case aF => exact (fun k_ hk => ⟨(.inr (Nat.le_trans (by first | exact HK.out.1 | exact (show Kept w _ (fun k_ => P0_0_ k_) from by repeat (first | (with_reducible first | exact HK.out | apply kA | apply kN | apply kD | refine Kept.setCell ?_ (.inr GW107.out) _ | refine Kept.setCell ?_ (.inr GW108.out) _ | refine Kept.setCell ?_ (.inr GW109.out) _ | refine Kept.setCell ?_ (.inr GW110.out) _) | exact HK.out)).1) hk)), Kd.fresh' (Kd.R_lt (by (with_reducible repeat (first | apply rA | apply rN | apply rD)); exact HO_108000.out)) k_ hk⟩)); (case aO => exact (by (with_reducible repeat (first | apply rA | apply rN | apply rD)); exact rM HO127.out (fun _ hk => ⟨hk.1.1, hk.2⟩))); (case aS => exact (below_size (by repeat (first | (with_reducible first | exact HB.out | apply bA | apply bN | apply bD | refine bS ?_ GE107.out | refine bS ?_ GE108.out | refine bS ?_ GE109.out | refine bS ?_ GE110.out) | exact HB.out)))); (case aL => have := LMc72.out; omega); intro v133 w82 ho hb hg hat; rw [← Ny132.out] at ho; have n0_ := Aside0.mk (Kd.R_after (ok := (fun k_ => (P0_0_ k_ ∨ w.heap.size ≤ k_))) (by (with_reducible repeat (first | apply rA | apply rN | apply rD)); exact HO_108000.out) hg hat); have n1_ := Aside0.mk (blk_grown (g := gb107) (o := .cells #[.slice (some ad124) l0_0.length co4, .int .i64 a0_1, .int .i64 a0_2] 29 (0, 0)) (by (with_reducible repeat (first | refine lN ?_ _ | refine lD ?_ | refine lA ?_ _)); exact BK107.out) hg (Kd.R_ne HO127.out BK107.out (by decide))); have n2_ := Aside0.mk (blk_grown (g := gb108) (o := .cells #[.int .i64 a1_0, .string a1_1] 35 (0, 0)) (by (with_reducible repeat (first | refine lN ?_ _ | refine lD ?_ | refine lA ?_ _)); exact BK108.out) hg (Kd.R_ne HO127.out BK108.out (by decide))); have n3_ := Aside0.mk (blk_grown (g := gb109) (o := .cells #[.slice none 0 0, .int .i64 0, .int .i64 0] 29 (0, 0)) (by (with_reducible repeat (first | refine lN ?_ _ | refine lD ?_ | refine lA ?_ _)); exact BK109.out) hg (Kd.R_ne HO127.out BK109.out (by decide))); have n4_ := Aside0.mk (blk_grown (g := gb110) (o := .cells #[.int .i64 0, .int .i64 0, .int .i64 0] 31 (0, 0)) (by (with_reducible repeat (first | refine lN ?_ _ | refine lD ?_ | refine lA ?_ _)); exact BK110.out) hg (Kd.R_ne HO127.out BK110.out (by decide))); have n5_ := Aside0.mk (hb); have n6_ := Aside0.mk (Kept.of_grown (S := (fun k_ => P0_0_ k_)) hg (by repeat (first | (with_reducible first | exact HK.out | apply kA | apply kN | apply kD | refine Kept.setCell ?_ (.inr GW107.out) _ | refine Kept.setCell ?_ (.inr GW108.out) _ | refine Kept.setCell ?_ (.inr GW109.out) _ | refine Kept.setCell ?_ (.inr GW110.out) _) | exact HK.out)) (fun k_ e_ => (HO127.out.1 k_ e_).1.1)); have n7_ := Aside0.mk ((show Kd.C Kd.string w82 A81 y128.length y128 from by rw [Ny128.out, KA81.out]; exact Kd.C_drop (m := 1) (c := co4) ((rR (Kd.R_after (ok := (fun k_ => (P0_0_ k_ ∨ w.heap.size ≤ k_))) (by (with_reducible repeat (first | apply rA | apply rN | apply rD)); exact HO_108000.out) hg hat)).2.2) KL81.out ((rR (Kd.R_after (ok := (fun k_ => (P0_0_ k_ ∨ w.heap.size ≤ k_))) (by (with_reducible repeat (first | apply rA | apply rN | apply rD)); exact HO_108000.out) hg hat)).2.1))); have n8_ := Aside0.mk (ho); clear HO_108000; clear BK107; clear BK108; clear BK109; clear BK110; clear HB; clear HK; clear HR131; clear HO127; have HO_108000 := n0_; have BK107 := n1_; have BK108 := n2_; have BK109 := n3_; have BK110 := n4_; have HB := n5_; have HK := n6_; have HR131 := n7_; have HO134 := n8_; clear n0_ n1_ n2_ n3_ n4_ n5_ n6_ n7_ n8_; clear ho hb hg hat; obtain ⟨Ao83, co83, eo83⟩ := rS HO134.out; subst eo83; have hcz84_0 : w82.cell? ⟨gb107, 0, none⟩ = some (.slice (some ad124) l0_0.length co4) := (lC BK107.out 0).trans rfl; have hcz84_1 : w82.cell? ⟨gb107, 1, none⟩ = some (.int .i64 a0_1) := (lC BK107.out 1).trans rfl; have hcz84_2 : w82.cell? ⟨gb107, 2, none⟩ = some (.int .i64 a0_2) := (lC BK107.out 2).trans rfl; have hfz84_0 := lF BK107.out 0; have hfz84_1 := lF BK107.out 1; have hfz84_2 := lF BK107.out 2))
           have n0_ : Aside0 (Kd.R Kd.string 9 ((w82.setCell ⟨gb107, 0, none⟩ (.slice Ao83 y132.length co83)).setCell ⟨gb107, 1, none⟩ (.int .i64 (wrap64 (a0_1 + 1)))) w0.heap.size (fun k_ => (P0_0_ k_ ∨ w.heap.size ≤ k_) ∧ some k_ ≠ (.slice Ao83 y132.length co83 : Value).ownBlock) (.slice (some ad124) l0_0.length co4) l0_0) := ⟨by (with_reducible repeat (first | apply rA | apply rN | apply rD)); exact rM (Kd.R_far (p := ⟨gb107, 1, none⟩) (Kd.R_far (p := ⟨gb107, 0, none⟩) (Kd.R_types HO_108000.out BK107.out (by decide)) (fun _ hk => hk.2) (.slice Ao83 y132.length co83)) (fun _ hk => hk.2) (.int .i64 (wrap64 (a0_1 + 1)))) (fun _ hk => ⟨hk.1.1, hk.1.2⟩)⟩
           have n1_ : Aside0 (Kd.R Kd.string 9 ((w82.setCell ⟨gb107, 0, none⟩ (.slice Ao83 y132.length co83)).setCell ⟨gb107, 1, none⟩ (.int .i64 (wrap64 (a0_1 + 1)))) w0.heap.size (fun k_ => (P0_0_ k_ ∨ w.heap.size ≤ k_) ∧ some k_ ≠ (.slice (some ad124) l0_0.length co4 : Value).ownBlock) (.slice Ao83 y132.length co83) y132) := ⟨by (with_reducible repeat (first | apply rA | apply rN | apply rD)); exact rM (Kd.R_far (p := ⟨gb107, 1, none⟩) (Kd.R_far (p := ⟨gb107, 0, none⟩) (Kd.R_types HO134.out BK107.out (by decide)) (fun _ hk => hk.2) (.slice Ao83 y132.length co83)) (fun _ hk => hk.2) (.int .i64 (wrap64 (a0_1 + 1)))) (fun _ hk => ⟨hk.1.1, hk.1.2⟩)⟩
           have n2_ : Aside0 (((w82.setCell ⟨gb107, 0, none⟩ (.slice Ao83 y132.length co83)).setCell ⟨gb107, 1, none⟩ (.int .i64 (wrap64 (a0_1 + 1)))).heap[gb107]? = some (.cells #[.slice Ao83 y132.length co83, .int .i64 (wrap64 (a0_1 + 1)), .int .i64 a0_2] 29 (0, 0))) := ⟨by (with_reducible repeat (first | refine lN ?_ _ | refine lD ?_ | refine lA ?_ _)); refine lP (cs := #[.slice Ao83 y132.length co83, .int .i64 a0_1, .int .i64 a0_2]) ?_ 1 _ rfl; (with_reducible repeat (first | refine lN ?_ _ | refine lD ?_ | refine lA ?_ _)); refine lP (cs := #[.slice (some ad124) l0_0.length co4, .int .i64 a0_1, .int .i64 a0_2]) ?_ 0 _ rfl; (with_reducible repeat (first | refine lN ?_ _ | refine lD ?_ | refine lA ?_ _)); exact BK107.out⟩
           have n3_ : Aside0 (((w82.setCell ⟨gb107, 0, none⟩ (.slice Ao83 y132.length co83)).setCell ⟨gb107, 1, none⟩ (.int .i64 (wrap64 (a0_1 + 1)))).heap[gb108]? = some (.cells #[.int .i64 a1_0, .string a1_1] 35 (0, 0))) := ⟨by (with_reducible repeat (first | refine lN ?_ _ | refine lD ?_ | refine lA ?_ _)); refine lX ?_ NB108_107.out _; (with_reducible repeat (first | refine lN ?_ _ | refine lD ?_ | refine lA ?_ _)); refine lX ?_ NB108_107.out _; (with_reducible repeat (first | refine lN ?_ _ | refine lD ?_ | refine lA ?_ _)); exact BK108.out⟩
           have n4_ : Aside0 (((w82.setCell ⟨gb107, 0, none⟩ (.slice Ao83 y132.length co83)).setCell ⟨gb107, 1, none⟩ (.int .i64 (wrap64 (a0_1 + 1)))).heap[gb109]? = some (.cells #[.slice none 0 0, .int .i64 0, .int .i64 0] 29 (0, 0))) := ⟨by (with_reducible repeat (first | refine lN ?_ _ | refine lD ?_ | refine lA ?_ _)); refine lX ?_ NB109_107.out _; (with_reducible repeat (first | refine lN ?_ _ | refine lD ?_ | refine lA ?_ _)); refine lX ?_ NB109_107.out _; (with_reducible repeat (first | refine lN ?_ _ | refine lD ?_ | refine lA ?_ _)); exact BK109.out⟩
           have n5_ : Aside0 (((w82.setCell ⟨gb107, 0, none⟩ (.slice Ao83 y132.length co83)).setCell ⟨gb107, 1, none⟩ (.int .i64 (wrap64 (a0_1 + 1)))).heap[gb110]? = some (.cells #[.int .i64 0, .int .i64 0, .int .i64 0] 31 (0, 0))) := ⟨by (with_reducible repeat (first | refine lN ?_ _ | refine lD ?_ | refine lA ?_ _)); refine lX ?_ NB110_107.out _; (with_reducible repeat (first | refine lN ?_ _ | refine lD ?_ | refine lA ?_ _)); refine lX ?_ NB110_107.out _; (with_reducible repeat (first | refine lN ?_ _ | refine lD ?_ | refine lA ?_ _)); exact BK110.out⟩
           have n6_ : Aside0 (Kept w ((w82.setCell ⟨gb107, 0, none⟩ (.slice Ao83 y132.length co83)).setCell ⟨gb107, 1, none⟩ (.int .i64 (wrap64 (a0_1 + 1)))) (fun k_ => P0_0_ k_)) := ⟨by repeat (first | (with_reducible first | exact HK.out | apply kA | apply kN | apply kD | refine Kept.setCell ?_ (.inr GW107.out) _ | refine Kept.setCell ?_ (.inr GW108.out) _ | refine Kept.setCell ?_ (.inr GW109.out) _ | refine Kept.setCell ?_ (.inr GW110.out) _) | exact HK.out)⟩
           have n7_ : Aside0 (Below w0.heap.size w0 ((w82.setCell ⟨gb107, 0, none⟩ (.slice Ao83 y132.length co83)).setCell ⟨gb107, 1, none⟩ (.int .i64 (wrap64 (a0_1 + 1))))) := ⟨by repeat (first | (with_reducible first | exact HB.out | apply bA | apply bN | apply bD | refine bS ?_ GE107.out | refine bS ?_ GE108.out | refine bS ?_ GE109.out | refine bS ?_ GE110.out) | exact HB.out)⟩
           (try clear HO_108000)
           (try clear HO134)
           (try clear BK107)
           (try clear BK108)
           (try clear BK109)
           (try clear BK110)
           (try clear HK)
           (try clear HB)
           have sd_ : ∀ (w_ : World) (n_ : Nat) (a_ : Addr) (v_ : Value), (w_.drewN n_).setCell a_ v_ = (w_.setCell a_ v_).drewN n_ := fun _ _ _ _ => rfl
           (repeat rw [sd_])
           clear sd_
           generalize ((w82.setCell ⟨gb107, 0, none⟩ (.slice Ao83 y132.length co83)).setCell ⟨gb107, 1, none⟩ (.int .i64 (wrap64 (a0_1 + 1)))) = w85 at n0_ n1_ n2_ n3_ n4_ n5_ n6_ n7_ ⊢
           have HO_108000 := n0_
           have HO134 := n1_
           have BK107 := n2_
           have BK108 := n3_
           have BK109 := n4_
           have BK110 := n5_
           have HK := n6_
           have HB := n7_
           clear n0_ n1_ n2_ n3_ n4_ n5_ n6_ n7_
           have n0_ := Aside0.mk (rD HO_108000.out)
           have n1_ := Aside0.mk (rD HO134.out)
           have n2_ := Aside0.mk (lD BK107.out)
           have n3_ := Aside0.mk (lD BK108.out)
           have n4_ := Aside0.mk (lD BK109.out)
           have n5_ := Aside0.mk (lD BK110.out)
           have n6_ := Aside0.mk (kD HK.out)
           have n7_ := Aside0.mk (bD HB.out)
           clear HO_108000
           clear HO134
           clear BK107
           clear BK108
           clear BK109
           clear BK110
           clear HK
           clear HB
           have HO_108000 := n0_
           have HO134 := n1_
           have BK107 := n2_
           have BK108 := n3_
           have BK109 := n4_
           have BK110 := n5_
           have HK := n6_
           have HB := n7_
           clear n0_ n1_ n2_ n3_ n4_ n5_ n6_ n7_
           refine start_ (n := 12) (S := fun w' => w'.cell? ⟨gb107, 0, none⟩ = some (.slice Ao83 y132.length co83) ∧ w'.cell? ⟨gb107, 1, none⟩ = some (.int .i64 (wrap64 (a0_1 + 1))) ∧ w'.cell? ⟨gb107, 2, none⟩ = some (.int .i64 a0_2)) (ds := []) #[false, false, false, false, false, false, false, false, false, false, false, false] (by kernel_rfl) rfl rfl ⟨(lC BK107.out 0).trans rfl, (lC BK107.out 1).trans rfl, (lC BK107.out 2).trans rfl⟩ (fun hHeld => ?_); refine with_tabW spec_l10Step.tab10 spec_l10Step.bits10 (fun HT_ HW_ => ?_)
           generalize w85.drew = w86 at HO_108000 HO134 BK107 BK108 BK109 BK110 HK HB hHeld ⊢
           refine pure_ (i := 1) (N := some 68) (v := ?_) (a' := ?_) #[false, true, false, false, false, false, false, false, false, false, false, false] rfl rfl (any_of HT_.out (by kernel_rfl)) (fun _ _ _ h => h) (Or.inl ⟨by rfl, ?_⟩) ?_ ?_
           rotate_left
           ·intro w'
            go_simp
            with_reducible rfl
           rotate_left
           ·simp only [Act.put, List.setIfInBounds_toArray, List.set_cons_zero, List.set_cons_succ, i64_w, i32_w]
            rfl
           refine pure_ (i := 3) (N := some 70) (v := ?_) (a' := ?_) #[false, true, false, true, false, false, false, false, false, false, false, false] rfl rfl (any_of HT_.out (by kernel_rfl)) (fun _ _ _ h => h) (Or.inl ⟨by rfl, ?_⟩) ?_ ?_
           rotate_left
           ·intro w'
            go_simp
            with_reducible rfl
           rotate_left
           ·simp only [Act.put, List.setIfInBounds_toArray, List.set_cons_zero, List.set_cons_succ, i64_w, i32_w]
            rfl
           refine pure_ (i := 7) (N := some 74) (v := ?_) (a' := ?_) #[false, true, false, true, false, false, false, true, false, false, false, false] rfl rfl (any_of HT_.out (by kernel_rfl)) (fun _ _ _ h => h) (Or.inl ⟨by rfl, ?_⟩) ?_ ?_
           rotate_left
           ·intro w'
            go_simp
            with_reducible rfl
           rotate_left
           ·simp only [Act.put, List.setIfInBounds_toArray, List.set_cons_zero, List.set_cons_succ, i64_w, i32_w]
            rfl
           refine take_ (i := 0) (N := some 67) (v := ?_) (a' := ?_) #[true, true, false, true, false, false, false, true, false, false, false, false] rfl rfl (take_ofW HT_.out HW_.out (by kernel_rfl)) (fun _ _ _ h => h) (Or.inl ⟨by rfl, ?_⟩) hHeld ?_ ?_
           rotate_left
           ·rintro w' ⟨s0, s1, s2⟩
            go_simp
            with_reducible rfl
           rotate_left
           ·simp only [Act.put, List.setIfInBounds_toArray, List.set_cons_zero, List.set_cons_succ, i64_w, i32_w]
            rfl
           refine take_ (i := 2) (N := some 69) (v := ?_) (a' := ?_) #[true, true, true, true, false, false, false, true, false, false, false, false] rfl rfl (take_ofW HT_.out HW_.out (by kernel_rfl)) (fun _ _ _ h => h) (Or.inl ⟨by rfl, ?_⟩) hHeld ?_ ?_
           rotate_left
           ·rintro w' ⟨s0, s1, s2⟩
            go_simp
            with_reducible rfl
           rotate_left
           ·simp only [Act.put, List.setIfInBounds_toArray, List.set_cons_zero, List.set_cons_succ, i64_w, i32_w]
            rfl
           refine take_ (i := 4) (N := some 71) (v := ?_) (a' := ?_) #[true, true, true, true, true, false, false, true, false, false, false, false] rfl rfl (take_ofW HT_.out HW_.out (by kernel_rfl)) (fun _ _ _ h => h) (Or.inl ⟨by rfl, ?_⟩) hHeld ?_ ?_
           rotate_left
           ·rintro w' ⟨s0, s1, s2⟩
            go_simp
            with_reducible rfl
           rotate_left
           ·simp only [Act.put, List.setIfInBounds_toArray, List.set_cons_zero, List.set_cons_succ, i64_w, i32_w]
            rfl
           refine pure_ (i := 5) (N := some 72) (v := ?_) (a' := ?_) #[true, true, true, true, true, true, false, true, false, false, false, false] rfl rfl (any_of HT_.out (by kernel_rfl)) (fun _ _ _ h => h) (Or.inl ⟨by rfl, ?_⟩) ?_ ?_
           rotate_left
           ·intro w'
            go_simp
            with_reducible rfl
           rotate_left
           ·simp only [Act.put, List.setIfInBounds_toArray, List.set_cons_zero, List.set_cons_succ, i64_w, i32_w]
            rfl
           refine one_ (i := 6) (N := some 73) #[true, true, true, true, true, true, true, true, false, false, false, false] rfl rfl (one_of HT_.out (by kernel_rfl)) (by decide) (fun K hK => ?_)
           refine goes_ Try.func47 (by kernel_rfl) rfl #[.int .i64 a0_2, .int .i64 (wrap64 ((wrap64 (a0_1 + 1)) - 1))] (by rfl) rfl rfl (by (try simp only [List.map_toArray, List.map_cons, List.map_nil]); first | done | rfl | (simp only [List.length_drop, List.length_take]; rfl)) ?_
           with_reducible refine (spec_l10Emit.calls a0_2 (wrap64 ((wrap64 (a0_1 + 1)) - 1)) t135 t136 t137 _ A73.out).mono ?_
           rintro e w87 ⟨rfl, hb⟩
           refine ⟨_, rfl, ?_⟩
           have n0_ := Aside0.mk (rB (by (with_reducible repeat (first | apply rA | apply rN | apply rD)); exact HO_108000.out) hb)
           have n1_ := Aside0.mk (rB (by (with_reducible repeat (first | apply rA | apply rN | apply rD)); exact HO134.out) hb)
           have n2_ := Aside0.mk (blk_below (g := gb107) (o := .cells #[.slice Ao83 y132.length co83, .int .i64 (wrap64 (a0_1 + 1)), .int .i64 a0_2] 29 (0, 0)) (by (with_reducible repeat (first | refine lN ?_ _ | refine lD ?_ | refine lA ?_ _)); exact BK107.out) hb)
           have n3_ := Aside0.mk (blk_below (g := gb108) (o := .cells #[.int .i64 a1_0, .string a1_1] 35 (0, 0)) (by (with_reducible repeat (first | refine lN ?_ _ | refine lD ?_ | refine lA ?_ _)); exact BK108.out) hb)
           have n4_ := Aside0.mk (blk_below (g := gb109) (o := .cells #[.slice none 0 0, .int .i64 0, .int .i64 0] 29 (0, 0)) (by (with_reducible repeat (first | refine lN ?_ _ | refine lD ?_ | refine lA ?_ _)); exact BK109.out) hb)
           have n5_ := Aside0.mk (blk_below (g := gb110) (o := .cells #[.int .i64 0, .int .i64 0, .int .i64 0] 31 (0, 0)) (by (with_reducible repeat (first | refine lN ?_ _ | refine lD ?_ | refine lA ?_ _)); exact BK110.out) hb)
           have n6_ := Aside0.mk (Kept.below (S := (fun k_ => P0_0_ k_)) (by repeat (first | (with_reducible first | exact HK.out | apply kA | apply kN | apply kD | refine Kept.setCell ?_ (.inr GW107.out) _ | refine Kept.setCell ?_ (.inr GW108.out) _ | refine Kept.setCell ?_ (.inr GW109.out) _ | refine Kept.setCell ?_ (.inr GW110.out) _) | exact HK.out)) hb)
           have n7_ := Aside0.mk (below_step (by repeat (first | (with_reducible first | exact HB.out | apply bA | apply bN | apply bD | refine bS ?_ GE107.out | refine bS ?_ GE108.out | refine bS ?_ GE109.out | refine bS ?_ GE110.out) | exact HB.out)) hb)
           clear HO_108000
           clear HO134
           clear BK107
           clear BK108
           clear BK109
           clear BK110
           clear HK
           clear HB
           have HO_108000 := n0_
           have HO134 := n1_
           have BK107 := n2_
           have BK108 := n3_
           have BK109 := n4_
           have BK110 := n5_
           have HK := n6_
           have HB := n7_
           clear n0_ n1_ n2_ n3_ n4_ n5_ n6_ n7_
           (try clear hb)
           (try clear hb2)
           (try clear hk)
           (try clear hi)
           refine hK.out _ _ ⟨(lC BK107.out 0).trans rfl, (lC BK107.out 1).trans rfl, (lC BK107.out 2).trans rfl⟩ (fun hHeld => ?_)
           clear hK K
           refine norm_ (a' := ?_) ?_ ?_
           rotate_left
           ·show Act.put _ (some 73) _ = _
            simp only [Act.put, List.setIfInBounds_toArray, List.set_cons_zero, List.set_cons_succ, i64_w, i32_w]
            rfl
           refine one_ (i := 8) (N := none) #[true, true, true, true, true, true, true, true, true, false, false, false] rfl rfl (one_of HT_.out (by kernel_rfl)) (by decide) (fun K hK => ?_)
           have hs88 : w87.cell? ⟨gb109, 0, none⟩ = some (.slice none 0 0) := (lC BK109.out 0).trans rfl
           have hfs88 := lF BK109.out 0
           have hns88_0 := NB107_109.out
           have hns88_1 := NB108_109.out
           have hns88_3 := NB110_109.out
           have hms88_0 := NB109_107.out
           have hms88_1 := NB109_108.out
           have hms88_3 := NB109_110.out
           have hs89 : w87.cell? ⟨gb109, 1, none⟩ = some (.int .i64 0) := (lC BK109.out 1).trans rfl
           have hfs89 := lF BK109.out 1
           have hns89_0 := NB107_109.out
           have hns89_1 := NB108_109.out
           have hns89_3 := NB110_109.out
           have hms89_0 := NB109_107.out
           have hms89_1 := NB109_108.out
           have hms89_3 := NB109_110.out
           have hs90 : w87.cell? ⟨gb109, 2, none⟩ = some (.int .i64 0) := (lC BK109.out 2).trans rfl
           have hfs90 := lF BK109.out 2
           have hns90_0 := NB107_109.out
           have hns90_1 := NB108_109.out
           have hns90_3 := NB110_109.out
           have hms90_0 := NB109_107.out
           have hms90_1 := NB109_108.out
           have hms90_3 := NB109_110.out
           refine skip_ (w1 := ?_) (by rfl) rfl ?_ ?_
           rotate_left
           ·go_simp
            rfl
           refine hK.out _ _ ⟨((cell_far (p := ⟨gb109, _, none⟩) NB107_109.out _).trans (((cell_far (p := ⟨gb109, _, none⟩) NB107_109.out _).trans (((cell_far (p := ⟨gb109, _, none⟩) NB107_109.out _).trans (hHeld.1)))))), ((cell_far (p := ⟨gb109, _, none⟩) NB107_109.out _).trans (((cell_far (p := ⟨gb109, _, none⟩) NB107_109.out _).trans (((cell_far (p := ⟨gb109, _, none⟩) NB107_109.out _).trans (hHeld.2.1)))))), ((cell_far (p := ⟨gb109, _, none⟩) NB107_109.out _).trans (((cell_far (p := ⟨gb109, _, none⟩) NB107_109.out _).trans (((cell_far (p := ⟨gb109, _, none⟩) NB107_109.out _).trans (hHeld.2.2))))))⟩ (fun hHeld => ?_)
           clear hK K
           refine one_ (i := 9) (N := none) #[true, true, true, true, true, true, true, true, true, true, false, false] rfl rfl (one_of HT_.out (by kernel_rfl)) (by decide) (fun K hK => ?_)
           have hs91 : w87.cell? ⟨gb110, 0, none⟩ = some (.int .i64 0) := (lC BK110.out 0).trans rfl
           have hfs91 := lF BK110.out 0
           have hns91_0 := NB107_110.out
           have hns91_1 := NB108_110.out
           have hns91_2 := NB109_110.out
           have hms91_0 := NB110_107.out
           have hms91_1 := NB110_108.out
           have hms91_2 := NB110_109.out
           have hs92 : w87.cell? ⟨gb110, 1, none⟩ = some (.int .i64 0) := (lC BK110.out 1).trans rfl
           have hfs92 := lF BK110.out 1
           have hns92_0 := NB107_110.out
           have hns92_1 := NB108_110.out
           have hns92_2 := NB109_110.out
           have hms92_0 := NB110_107.out
           have hms92_1 := NB110_108.out
           have hms92_2 := NB110_109.out
           have hs93 : w87.cell? ⟨gb110, 2, none⟩ = some (.int .i64 0) := (lC BK110.out 2).trans rfl
           have hfs93 := lF BK110.out 2
           have hns93_0 := NB107_110.out
           have hns93_1 := NB108_110.out
           have hns93_2 := NB109_110.out
           have hms93_0 := NB110_107.out
           have hms93_1 := NB110_108.out
           have hms93_2 := NB110_109.out
           refine skip_ (w1 := ?_) (by rfl) rfl ?_ ?_
           rotate_left
           ·go_simp
            rfl
           refine hK.out _ _ ⟨((cell_far (p := ⟨gb110, _, none⟩) NB107_110.out _).trans (((cell_far (p := ⟨gb110, _, none⟩) NB107_110.out _).trans (((cell_far (p := ⟨gb110, _, none⟩) NB107_110.out _).trans (hHeld.1)))))), ((cell_far (p := ⟨gb110, _, none⟩) NB107_110.out _).trans (((cell_far (p := ⟨gb110, _, none⟩) NB107_110.out _).trans (((cell_far (p := ⟨gb110, _, none⟩) NB107_110.out _).trans (hHeld.2.1)))))), ((cell_far (p := ⟨gb110, _, none⟩) NB107_110.out _).trans (((cell_far (p := ⟨gb110, _, none⟩) NB107_110.out _).trans (((cell_far (p := ⟨gb110, _, none⟩) NB107_110.out _).trans (hHeld.2.2))))))⟩ (fun hHeld => ?_)
           clear hK K
           refine pure_ (i := 10) (N := some 6) (v := ?_) (a' := ?_) #[true, true, true, true, true, true, true, true, true, true, true, false] rfl rfl (any_of HT_.out (by kernel_rfl)) (fun _ _ _ h => h) (Or.inl ⟨by rfl, ?_⟩) ?_ ?_
           rotate_left
           ·intro w'
            go_simp
            with_reducible rfl
           rotate_left
           ·simp only [Act.put, List.setIfInBounds_toArray, List.set_cons_zero, List.set_cons_succ, i64_w, i32_w]
            rfl
           refine pure_ (i := 11) (N := some 7) (v := ?_) (a' := ?_) #[true, true, true, true, true, true, true, true, true, true, true, true] rfl rfl (any_of HT_.out (by kernel_rfl)) (fun _ _ _ h => h) (Or.inl ⟨by rfl, ?_⟩) ?_ ?_
           rotate_left
           ·intro w'
            go_simp
            with_reducible rfl
           rotate_left
           ·simp only [Act.put, List.setIfInBounds_toArray, List.set_cons_zero, List.set_cons_succ, i64_w, i32_w]
            rfl
           refine done_ (done_of HT_.out (by kernel_rfl)) ?_
           try go_wp2
           refine bodyPost_ret (results_list (rs := [.cell 4 29, .cell 5 31, .tmp 6, .tmp 7]) rfl (by simp) (.cell gb109 29 #[.slice Ao83 y132.length co83, .int .i64 (wrap64 (a0_1 + 1)), .int .i64 a0_2] (0, 0) _ rfl (by (with_reducible repeat (first | refine lN ?_ _ | refine lD ?_ | refine lA ?_ _)); refine lX ?_ NB109_110.out _; (with_reducible repeat (first | refine lN ?_ _ | refine lD ?_ | refine lA ?_ _)); refine lX ?_ NB109_110.out _; (with_reducible repeat (first | refine lN ?_ _ | refine lD ?_ | refine lA ?_ _)); refine lX ?_ NB109_110.out _; (with_reducible repeat (first | refine lN ?_ _ | refine lD ?_ | refine lA ?_ _)); refine lP (cs := #[.slice Ao83 y132.length co83, .int .i64 (wrap64 (a0_1 + 1)), .int .i64 0]) ?_ 2 _ rfl; (with_reducible repeat (first | refine lN ?_ _ | refine lD ?_ | refine lA ?_ _)); refine lP (cs := #[.slice Ao83 y132.length co83, .int .i64 0, .int .i64 0]) ?_ 1 _ rfl; (with_reducible repeat (first | refine lN ?_ _ | refine lD ?_ | refine lA ?_ _)); refine lP (cs := #[.slice none 0 0, .int .i64 0, .int .i64 0]) ?_ 0 _ rfl; (with_reducible repeat (first | refine lN ?_ _ | refine lD ?_ | refine lA ?_ _)); exact BK109.out) Try.underlying29 rfl (by kernel_rfl) (.cell gb110 31 #[.int .i64 t135, .int .i64 t136, .int .i64 t137] (0, 0) _ rfl (by (with_reducible repeat (first | refine lN ?_ _ | refine lD ?_ | refine lA ?_ _)); refine lP (cs := #[.int .i64 t135, .int .i64 t136, .int .i64 0]) ?_ 2 _ rfl; (with_reducible repeat (first | refine lN ?_ _ | refine lD ?_ | refine lA ?_ _)); refine lP (cs := #[.int .i64 t135, .int .i64 0, .int .i64 0]) ?_ 1 _ rfl; (with_reducible repeat (first | refine lN ?_ _ | refine lD ?_ | refine lA ?_ _)); refine lP (cs := #[.int .i64 0, .int .i64 0, .int .i64 0]) ?_ 0 _ rfl; (with_reducible repeat (first | refine lN ?_ _ | refine lD ?_ | refine lA ?_ _)); refine lX ?_ NB110_109.out _; (with_reducible repeat (first | refine lN ?_ _ | refine lD ?_ | refine lA ?_ _)); refine lX ?_ NB110_109.out _; (with_reducible repeat (first | refine lN ?_ _ | refine lD ?_ | refine lA ?_ _)); refine lX ?_ NB110_109.out _; (with_reducible repeat (first | refine lN ?_ _ | refine lD ?_ | refine lA ?_ _)); exact BK110.out) Try.underlying31 rfl (by kernel_rfl) (.tmp (.tmp .nil))))) rfl ?_
           exact ⟨_, by first | rfl | (simp [errW_none, errW_some] <;> rfl) | (simp [*, errW_none, errW_some] <;> rfl), by (with_reducible repeat (first | apply rA | apply rN | apply rD)); exact rM (Kd.R_far (p := ⟨gb110, 2, none⟩) (Kd.R_far (p := ⟨gb110, 1, none⟩) (Kd.R_far (p := ⟨gb110, 0, none⟩) (Kd.R_far (p := ⟨gb109, 2, none⟩) (Kd.R_far (p := ⟨gb109, 1, none⟩) (Kd.R_far (p := ⟨gb109, 0, none⟩) (Kd.R_types (Kd.R_types HO134.out BK109.out (by decide)) BK110.out (by decide)) (fun _ hk => hk.1.2) (.slice Ao83 y132.length co83)) (fun _ hk => hk.1.2) (.int .i64 (wrap64 (a0_1 + 1)))) (fun _ hk => hk.1.2) (.int .i64 a0_2)) (fun _ hk => hk.2) (.int .i64 t135)) (fun _ hk => hk.2) (.int .i64 t136)) (fun _ hk => hk.2) (.int .i64 t137)) (fun _ hk => hk.1.1.1), by repeat (first | (with_reducible first | exact HB.out | apply bA | apply bN | apply bD | refine bS ?_ GE107.out | refine bS ?_ GE108.out | refine bS ?_ GE109.out | refine bS ?_ GE110.out) | exact HB.out), by repeat (first | (with_reducible first | exact HK.out | apply kA | apply kN | apply kD | refine Kept.setCell ?_ (.inr GW107.out) _ | refine Kept.setCell ?_ (.inr GW108.out) _ | refine Kept.setCell ?_ (.inr GW109.out) _ | refine Kept.setCell ?_ (.inr GW110.out) _) | exact HK.out)⟩
          ·rw [if_neg c72] at H
           exact absurd H (by simp)
         ·rw [if_neg c71] at H
          exact absurd H (by simp)
        ·rw [if_neg c70] at H
         exact absurd H (by simp)
       ·rw [if_neg c69] at H
        have c69b0 : decide (0 < (l0_0.length : Int)) = false := decide_eq_false c69
        have c69b1 : decide (0 < l0_0.length) = false := decide_eq_false (by omega)
        clear c69
        replace H := oB H
        obtain ⟨⟨t138, t139, t140⟩, A940, H⟩ := H
        replace H : (some (l0_0, wrap64 (a0_1 + 1), a0_2, t138, t139, t140, (⟨#[]⟩ : ByteArray), true)) = some (r1, r2, r3, r4, r5, r6, r7, r8) := H
        have A94 := Aside0.mk A940
        clear A940
        simp only [Option.some.injEq, Prod.mk.injEq] at H
        obtain ⟨rfl, rfl, rfl, rfl, rfl, rfl, rfl, rfl⟩ := H
        have hnb95 := NB107_108.out
        have hnc95 := NB108_107.out
        have hnb96 := NB107_109.out
        have hnc96 := NB109_107.out
        have hnb97 := NB107_110.out
        have hnc97 := NB110_107.out
        have hcz98_0 : wc.cell? ⟨gb107, 0, none⟩ = some (.slice Ao4 l0_0.length co4) := (lC BK107.out 0).trans rfl
        have hcz98_1 : wc.cell? ⟨gb107, 1, none⟩ = some (.int .i64 a0_1) := (lC BK107.out 1).trans rfl
        have hcz98_2 : wc.cell? ⟨gb107, 2, none⟩ = some (.int .i64 a0_2) := (lC BK107.out 2).trans rfl
        have hfz98_0 := lF BK107.out 0
        have hfz98_1 := lF BK107.out 1
        have hfz98_2 := lF BK107.out 2
        try go_wp2
        have n0_ : Aside0 (Kd.R Kd.string 9 (wc.setCell ⟨gb107, 1, none⟩ (.int .i64 (wrap64 (a0_1 + 1)))) w0.heap.size (fun k_ => (P0_0_ k_ ∨ w.heap.size ≤ k_)) (.slice Ao4 l0_0.length co4) l0_0) := ⟨by (with_reducible repeat (first | apply rA | apply rN | apply rD)); exact rM (Kd.R_far (p := ⟨gb107, 1, none⟩) (Kd.R_types HO_108000.out BK107.out (by decide)) (fun _ hk => hk.2) (.int .i64 (wrap64 (a0_1 + 1)))) (fun _ hk => hk.1)⟩
        have n1_ : Aside0 ((wc.setCell ⟨gb107, 1, none⟩ (.int .i64 (wrap64 (a0_1 + 1)))).heap[gb107]? = some (.cells #[.slice Ao4 l0_0.length co4, .int .i64 (wrap64 (a0_1 + 1)), .int .i64 a0_2] 29 (0, 0))) := ⟨by (with_reducible repeat (first | refine lN ?_ _ | refine lD ?_ | refine lA ?_ _)); refine lP (cs := #[.slice Ao4 l0_0.length co4, .int .i64 a0_1, .int .i64 a0_2]) ?_ 1 _ rfl; (with_reducible repeat (first | refine lN ?_ _ | refine lD ?_ | refine lA ?_ _)); exact BK107.out⟩
        have n2_ : Aside0 ((wc.setCell ⟨gb107, 1, none⟩ (.int .i64 (wrap64 (a0_1 + 1)))).heap[gb108]? = some (.cells #[.int .i64 a1_0, .string a1_1] 35 (0, 0))) := ⟨by (with_reducible repeat (first | refine lN ?_ _ | refine lD ?_ | refine lA ?_ _)); refine lX ?_ NB108_107.out _; (with_reducible repeat (first | refine lN ?_ _ | refine lD ?_ | refine lA ?_ _)); exact BK108.out⟩
        have n3_ : Aside0 ((wc.setCell ⟨gb107, 1, none⟩ (.int .i64 (wrap64 (a0_1 + 1)))).heap[gb109]? = some (.cells #[.slice none 0 0, .int .i64 0, .int .i64 0] 29 (0, 0))) := ⟨by (with_reducible repeat (first | refine lN ?_ _ | refine lD ?_ | refine lA ?_ _)); refine lX ?_ NB109_107.out _; (with_reducible repeat (first | refine lN ?_ _ | refine lD ?_ | refine lA ?_ _)); exact BK109.out⟩
        have n4_ : Aside0 ((wc.setCell ⟨gb107, 1, none⟩ (.int .i64 (wrap64 (a0_1 + 1)))).heap[gb110]? = some (.cells #[.int .i64 0, .int .i64 0, .int .i64 0] 31 (0, 0))) := ⟨by (with_reducible repeat (first | refine lN ?_ _ | refine lD ?_ | refine lA ?_ _)); refine lX ?_ NB110_107.out _; (with_reducible repeat (first | refine lN ?_ _ | refine lD ?_ | refine lA ?_ _)); exact BK110.out⟩
        have n5_ : Aside0 (Kept w (wc.setCell ⟨gb107, 1, none⟩ (.int .i64 (wrap64 (a0_1 + 1)))) (fun k_ => P0_0_ k_)) := ⟨by repeat (first | (with_reducible first | exact HK.out | apply kA | apply kN | apply kD | refine Kept.setCell ?_ (.inr GW107.out) _ | refine Kept.setCell ?_ (.inr GW108.out) _ | refine Kept.setCell ?_ (.inr GW109.out) _ | refine Kept.setCell ?_ (.inr GW110.out) _) | exact HK.out)⟩
        have n6_ : Aside0 (Below w0.heap.size w0 (wc.setCell ⟨gb107, 1, none⟩ (.int .i64 (wrap64 (a0_1 + 1))))) := ⟨by repeat (first | (with_reducible first | exact HB.out | apply bA | apply bN | apply bD | refine bS ?_ GE107.out | refine bS ?_ GE108.out | refine bS ?_ GE109.out | refine bS ?_ GE110.out) | exact HB.out)⟩
        (try clear HO_108000)
        (try clear BK107)
        (try clear BK108)
        (try clear BK109)
        (try clear BK110)
        (try clear HK)
        (try clear HB)
        have sd_ : ∀ (w_ : World) (n_ : Nat) (a_ : Addr) (v_ : Value), (w_.drewN n_).setCell a_ v_ = (w_.setCell a_ v_).drewN n_ := fun _ _ _ _ => rfl
        (repeat rw [sd_])
        clear sd_
        generalize (wc.setCell ⟨gb107, 1, none⟩ (.int .i64 (wrap64 (a0_1 + 1)))) = w99 at n0_ n1_ n2_ n3_ n4_ n5_ n6_ ⊢
        have HO_108000 := n0_
        have BK107 := n1_
        have BK108 := n2_
        have BK109 := n3_
        have BK110 := n4_
        have HK := n5_
        have HB := n6_
        clear n0_ n1_ n2_ n3_ n4_ n5_ n6_
        have n0_ := Aside0.mk (rD HO_108000.out)
        have n1_ := Aside0.mk (lD BK107.out)
        have n2_ := Aside0.mk (lD BK108.out)
        have n3_ := Aside0.mk (lD BK109.out)
        have n4_ := Aside0.mk (lD BK110.out)
        have n5_ := Aside0.mk (kD HK.out)
        have n6_ := Aside0.mk (bD HB.out)
        clear HO_108000
        clear BK107
        clear BK108
        clear BK109
        clear BK110
        clear HK
        clear HB
        have HO_108000 := n0_
        have BK107 := n1_
        have BK108 := n2_
        have BK109 := n3_
        have BK110 := n4_
        have HK := n5_
        have HB := n6_
        clear n0_ n1_ n2_ n3_ n4_ n5_ n6_
        refine start_ (n := 12) (S := fun w' => w'.cell? ⟨gb107, 0, none⟩ = some (.slice Ao4 l0_0.length co4) ∧ w'.cell? ⟨gb107, 1, none⟩ = some (.int .i64 (wrap64 (a0_1 + 1))) ∧ w'.cell? ⟨gb107, 2, none⟩ = some (.int .i64 a0_2)) (ds := []) #[false, false, false, false, false, false, false, false, false, false, false, false] (by kernel_rfl) rfl rfl ⟨(lC BK107.out 0).trans rfl, (lC BK107.out 1).trans rfl, (lC BK107.out 2).trans rfl⟩ (fun hHeld => ?_); refine with_tabW spec_l10Step.tab10 spec_l10Step.bits10 (fun HT_ HW_ => ?_)
        generalize w99.drew = w100 at HO_108000 BK107 BK108 BK109 BK110 HK HB hHeld ⊢
        refine pure_ (i := 1) (N := some 68) (v := ?_) (a' := ?_) #[false, true, false, false, false, false, false, false, false, false, false, false] rfl rfl (any_of HT_.out (by kernel_rfl)) (fun _ _ _ h => h) (Or.inl ⟨by rfl, ?_⟩) ?_ ?_
        rotate_left
        ·intro w'
         go_simp
         with_reducible rfl
        rotate_left
        ·simp only [Act.put, List.setIfInBounds_toArray, List.set_cons_zero, List.set_cons_succ, i64_w, i32_w]
         rfl
        refine pure_ (i := 3) (N := some 70) (v := ?_) (a' := ?_) #[false, true, false, true, false, false, false, false, false, false, false, false] rfl rfl (any_of HT_.out (by kernel_rfl)) (fun _ _ _ h => h) (Or.inl ⟨by rfl, ?_⟩) ?_ ?_
        rotate_left
        ·intro w'
         go_simp
         with_reducible rfl
        rotate_left
        ·simp only [Act.put, List.setIfInBounds_toArray, List.set_cons_zero, List.set_cons_succ, i64_w, i32_w]
         rfl
        refine pure_ (i := 7) (N := some 74) (v := ?_) (a' := ?_) #[false, true, false, true, false, false, false, true, false, false, false, false] rfl rfl (any_of HT_.out (by kernel_rfl)) (fun _ _ _ h => h) (Or.inl ⟨by rfl, ?_⟩) ?_ ?_
        rotate_left
        ·intro w'
         go_simp
         with_reducible rfl
        rotate_left
        ·simp only [Act.put, List.setIfInBounds_toArray, List.set_cons_zero, List.set_cons_succ, i64_w, i32_w]
         rfl
        refine take_ (i := 0) (N := some 67) (v := ?_) (a' := ?_) #[true, true, false, true, false, false, false, true, false, false, false, false] rfl rfl (take_ofW HT_.out HW_.out (by kernel_rfl)) (fun _ _ _ h => h) (Or.inl ⟨by rfl, ?_⟩) hHeld ?_ ?_
        rotate_left
        ·rintro w' ⟨s0, s1, s2⟩
         go_simp
         with_reducible rfl
        rotate_left
        ·simp only [Act.put, List.setIfInBounds_toArray, List.set_cons_zero, List.set_cons_succ, i64_w, i32_w]
         rfl
        refine take_ (i := 2) (N := some 69) (v := ?_) (a' := ?_) #[true, true, true, true, false, false, false, true, false, false, false, false] rfl rfl (take_ofW HT_.out HW_.out (by kernel_rfl)) (fun _ _ _ h => h) (Or.inl ⟨by rfl, ?_⟩) hHeld ?_ ?_
        rotate_left
        ·rintro w' ⟨s0, s1, s2⟩
         go_simp
         with_reducible rfl
        rotate_left
        ·simp only [Act.put, List.setIfInBounds_toArray, List.set_cons_zero, List.set_cons_succ, i64_w, i32_w]
         rfl
        refine take_ (i := 4) (N := some 71) (v := ?_) (a' := ?_) #[true, true, true, true, true, false, false, true, false, false, false, false] rfl rfl (take_ofW HT_.out HW_.out (by kernel_rfl)) (fun _ _ _ h => h) (Or.inl ⟨by rfl, ?_⟩) hHeld ?_ ?_
        rotate_left
        ·rintro w' ⟨s0, s1, s2⟩
         go_simp
         with_reducible rfl
        rotate_left
        ·simp only [Act.put, List.setIfInBounds_toArray, List.set_cons_zero, List.set_cons_succ, i64_w, i32_w]
         rfl
        refine pure_ (i := 5) (N := some 72) (v := ?_) (a' := ?_) #[true, true, true, true, true, true, false, true, false, false, false, false] rfl rfl (any_of HT_.out (by kernel_rfl)) (fun _ _ _ h => h) (Or.inl ⟨by rfl, ?_⟩) ?_ ?_
        rotate_left
        ·intro w'
         go_simp
         with_reducible rfl
        rotate_left
        ·simp only [Act.put, List.setIfInBounds_toArray, List.set_cons_zero, List.set_cons_succ, i64_w, i32_w]
         rfl
        refine one_ (i := 6) (N := some 73) #[true, true, true, true, true, true, true, true, false, false, false, false] rfl rfl (one_of HT_.out (by kernel_rfl)) (by decide) (fun K hK => ?_)
        refine goes_ Try.func47 (by kernel_rfl) rfl #[.int .i64 a0_2, .int .i64 (wrap64 ((wrap64 (a0_1 + 1)) - 1))] (by rfl) rfl rfl (by (try simp only [List.map_toArray, List.map_cons, List.map_nil]); first | done | rfl | (simp only [List.length_drop, List.length_take]; rfl)) ?_
        with_reducible refine (spec_l10Emit.calls a0_2 (wrap64 ((wrap64 (a0_1 + 1)) - 1)) t138 t139 t140 _ A94.out).mono ?_
        rintro e w101 ⟨rfl, hb⟩
        refine ⟨_, rfl, ?_⟩
        have n0_ := Aside0.mk (rB (by (with_reducible repeat (first | apply rA | apply rN | apply rD)); exact HO_108000.out) hb)
        have n1_ := Aside0.mk (blk_below (g := gb107) (o := .cells #[.slice Ao4 l0_0.length co4, .int .i64 (wrap64 (a0_1 + 1)), .int .i64 a0_2] 29 (0, 0)) (by (with_reducible repeat (first | refine lN ?_ _ | refine lD ?_ | refine lA ?_ _)); exact BK107.out) hb)
        have n2_ := Aside0.mk (blk_below (g := gb108) (o := .cells #[.int .i64 a1_0, .string a1_1] 35 (0, 0)) (by (with_reducible repeat (first | refine lN ?_ _ | refine lD ?_ | refine lA ?_ _)); exact BK108.out) hb)
        have n3_ := Aside0.mk (blk_below (g := gb109) (o := .cells #[.slice none 0 0, .int .i64 0, .int .i64 0] 29 (0, 0)) (by (with_reducible repeat (first | refine lN ?_ _ | refine lD ?_ | refine lA ?_ _)); exact BK109.out) hb)
        have n4_ := Aside0.mk (blk_below (g := gb110) (o := .cells #[.int .i64 0, .int .i64 0, .int .i64 0] 31 (0, 0)) (by (with_reducible repeat (first | refine lN ?_ _ | refine lD ?_ | refine lA ?_ _)); exact BK110.out) hb)
        have n5_ := Aside0.mk (Kept.below (S := (fun k_ => P0_0_ k_)) (by repeat (first | (with_reducible first | exact HK.out | apply kA | apply kN | apply kD | refine Kept.setCell ?_ (.inr GW107.out) _ | refine Kept.setCell ?_ (.inr GW108.out) _ | refine Kept.setCell ?_ (.inr GW109.out) _ | refine Kept.setCell ?_ (.inr GW110.out) _) | exact HK.out)) hb)
        have n6_ := Aside0.mk (below_step (by repeat (first | (with_reducible first | exact HB.out | apply bA | apply bN | apply bD | refine bS ?_ GE107.out | refine bS ?_ GE108.out | refine bS ?_ GE109.out | refine bS ?_ GE110.out) | exact HB.out)) hb)
        clear HO_108000
        clear BK107
        clear BK108
        clear BK109
        clear BK110
        clear HK
        clear HB
        have HO_108000 := n0_
        have BK107 := n1_
        have BK108 := n2_
        have BK109 := n3_
        have BK110 := n4_
        have HK := n5_
        have HB := n6_
        clear n0_ n1_ n2_ n3_ n4_ n5_ n6_
        (try clear hb)
        (try clear hb2)
        (try clear hk)
        (try clear hi)
        refine hK.out _ _ ⟨(lC BK107.out 0).trans rfl, (lC BK107.out 1).trans rfl, (lC BK107.out 2).trans rfl⟩ (fun hHeld => ?_)
        clear hK K
        refine norm_ (a' := ?_) ?_ ?_
        rotate_left
        ·show Act.put _ (some 73) _ = _
         simp only [Act.put, List.setIfInBounds_toArray, List.set_cons_zero, List.set_cons_succ, i64_w, i32_w]
         rfl
        refine one_ (i := 8) (N := none) #[true, true, true, true, true, true, true, true, true, false, false, false] rfl rfl (one_of HT_.out (by kernel_rfl)) (by decide) (fun K hK => ?_)
        have hs102 : w101.cell? ⟨gb109, 0, none⟩ = some (.slice none 0 0) := (lC BK109.out 0).trans rfl
        have hfs102 := lF BK109.out 0
        have hns102_0 := NB107_109.out
        have hns102_1 := NB108_109.out
        have hns102_3 := NB110_109.out
        have hms102_0 := NB109_107.out
        have hms102_1 := NB109_108.out
        have hms102_3 := NB109_110.out
        have hs103 : w101.cell? ⟨gb109, 1, none⟩ = some (.int .i64 0) := (lC BK109.out 1).trans rfl
        have hfs103 := lF BK109.out 1
        have hns103_0 := NB107_109.out
        have hns103_1 := NB108_109.out
        have hns103_3 := NB110_109.out
        have hms103_0 := NB109_107.out
        have hms103_1 := NB109_108.out
        have hms103_3 := NB109_110.out
        have hs104 : w101.cell? ⟨gb109, 2, none⟩ = some (.int .i64 0) := (lC BK109.out 2).trans rfl
        have hfs104 := lF BK109.out 2
        have hns104_0 := NB107_109.out
        have hns104_1 := NB108_109.out
        have hns104_3 := NB110_109.out
        have hms104_0 := NB109_107.out
        have hms104_1 := NB109_108.out
        have hms104_3 := NB109_110.out
        refine skip_ (w1 := ?_) (by rfl) rfl ?_ ?_
        rotate_left
        ·go_simp
         rfl
        refine hK.out _ _ ⟨((cell_far (p := ⟨gb109, _, none⟩) NB107_109.out _).trans (((cell_far (p := ⟨gb109, _, none⟩) NB107_109.out _).trans (((cell_far (p := ⟨gb109, _, none⟩) NB107_109.out _).trans (hHeld.1)))))), ((cell_far (p := ⟨gb109, _, none⟩) NB107_109.out _).trans (((cell_far (p := ⟨gb109, _, none⟩) NB107_109.out _).trans (((cell_far (p := ⟨gb109, _, none⟩) NB107_109.out _).trans (hHeld.2.1)))))), ((cell_far (p := ⟨gb109, _, none⟩) NB107_109.out _).trans (((cell_far (p := ⟨gb109, _, none⟩) NB107_109.out _).trans (((cell_far (p := ⟨gb109, _, none⟩) NB107_109.out _).trans (hHeld.2.2))))))⟩ (fun hHeld => ?_)
        clear hK K
        refine one_ (i := 9) (N := none) #[true, true, true, true, true, true, true, true, true, true, false, false] rfl rfl (one_of HT_.out (by kernel_rfl)) (by decide) (fun K hK => ?_)
        have hs105 : w101.cell? ⟨gb110, 0, none⟩ = some (.int .i64 0) := (lC BK110.out 0).trans rfl
        have hfs105 := lF BK110.out 0
        have hns105_0 := NB107_110.out
        have hns105_1 := NB108_110.out
        have hns105_2 := NB109_110.out
        have hms105_0 := NB110_107.out
        have hms105_1 := NB110_108.out
        have hms105_2 := NB110_109.out
        have hs106 : w101.cell? ⟨gb110, 1, none⟩ = some (.int .i64 0) := (lC BK110.out 1).trans rfl
        have hfs106 := lF BK110.out 1
        have hns106_0 := NB107_110.out
        have hns106_1 := NB108_110.out
        have hns106_2 := NB109_110.out
        have hms106_0 := NB110_107.out
        have hms106_1 := NB110_108.out
        have hms106_2 := NB110_109.out
        have hs107 : w101.cell? ⟨gb110, 2, none⟩ = some (.int .i64 0) := (lC BK110.out 2).trans rfl
        have hfs107 := lF BK110.out 2
        have hns107_0 := NB107_110.out
        have hns107_1 := NB108_110.out
        have hns107_2 := NB109_110.out
        have hms107_0 := NB110_107.out
        have hms107_1 := NB110_108.out
        have hms107_2 := NB110_109.out
        refine skip_ (w1 := ?_) (by rfl) rfl ?_ ?_
        rotate_left
        ·go_simp
         rfl
        refine hK.out _ _ ⟨((cell_far (p := ⟨gb110, _, none⟩) NB107_110.out _).trans (((cell_far (p := ⟨gb110, _, none⟩) NB107_110.out _).trans (((cell_far (p := ⟨gb110, _, none⟩) NB107_110.out _).trans (hHeld.1)))))), ((cell_far (p := ⟨gb110, _, none⟩) NB107_110.out _).trans (((cell_far (p := ⟨gb110, _, none⟩) NB107_110.out _).trans (((cell_far (p := ⟨gb110, _, none⟩) NB107_110.out _).trans (hHeld.2.1)))))), ((cell_far (p := ⟨gb110, _, none⟩) NB107_110.out _).trans (((cell_far (p := ⟨gb110, _, none⟩) NB107_110.out _).trans (((cell_far (p := ⟨gb110, _, none⟩) NB107_110.out _).trans (hHeld.2.2))))))⟩ (fun hHeld => ?_)
        clear hK K
        refine pure_ (i := 10) (N := some 6) (v := ?_) (a' := ?_) #[true, true, true, true, true, true, true, true, true, true, true, false] rfl rfl (any_of HT_.out (by kernel_rfl)) (fun _ _ _ h => h) (Or.inl ⟨by rfl, ?_⟩) ?_ ?_
        rotate_left
        ·intro w'
         go_simp
         with_reducible rfl
        rotate_left
        ·simp only [Act.put, List.setIfInBounds_toArray, List.set_cons_zero, List.set_cons_succ, i64_w, i32_w]
         rfl
        refine pure_ (i := 11) (N := some 7) (v := ?_) (a' := ?_) #[true, true, true, true, true, true, true, true, true, true, true, true] rfl rfl (any_of HT_.out (by kernel_rfl)) (fun _ _ _ h => h) (Or.inl ⟨by rfl, ?_⟩) ?_ ?_
        rotate_left
        ·intro w'
         go_simp
         with_reducible rfl
        rotate_left
        ·simp only [Act.put, List.setIfInBounds_toArray, List.set_cons_zero, List.set_cons_succ, i64_w, i32_w]
         rfl
        refine done_ (done_of HT_.out (by kernel_rfl)) ?_
        try go_wp2
        refine bodyPost_ret (results_list (rs := [.cell 4 29, .cell 5 31, .tmp 6, .tmp 7]) rfl (by simp) (.cell gb109 29 #[.slice Ao4 l0_0.length co4, .int .i64 (wrap64 (a0_1 + 1)), .int .i64 a0_2] (0, 0) _ rfl (by (with_reducible repeat (first | refine lN ?_ _ | refine lD ?_ | refine lA ?_ _)); refine lX ?_ NB109_110.out _; (with_reducible repeat (first | refine lN ?_ _ | refine lD ?_ | refine lA ?_ _)); refine lX ?_ NB109_110.out _; (with_reducible repeat (first | refine lN ?_ _ | refine lD ?_ | refine lA ?_ _)); refine lX ?_ NB109_110.out _; (with_reducible repeat (first | refine lN ?_ _ | refine lD ?_ | refine lA ?_ _)); refine lP (cs := #[.slice Ao4 l0_0.length co4, .int .i64 (wrap64 (a0_1 + 1)), .int .i64 0]) ?_ 2 _ rfl; (with_reducible repeat (first | refine lN ?_ _ | refine lD ?_ | refine lA ?_ _)); refine lP (cs := #[.slice Ao4 l0_0.length co4, .int .i64 0, .int .i64 0]) ?_ 1 _ rfl; (with_reducible repeat (first | refine lN ?_ _ | refine lD ?_ | refine lA ?_ _)); refine lP (cs := #[.slice none 0 0, .int .i64 0, .int .i64 0]) ?_ 0 _ rfl; (with_reducible repeat (first | refine lN ?_ _ | refine lD ?_ | refine lA ?_ _)); exact BK109.out) Try.underlying29 rfl (by kernel_rfl) (.cell gb110 31 #[.int .i64 t138, .int .i64 t139, .int .i64 t140] (0, 0) _ rfl (by (with_reducible repeat (first | refine lN ?_ _ | refine lD ?_ | refine lA ?_ _)); refine lP (cs := #[.int .i64 t138, .int .i64 t139, .int .i64 0]) ?_ 2 _ rfl; (with_reducible repeat (first | refine lN ?_ _ | refine lD ?_ | refine lA ?_ _)); refine lP (cs := #[.int .i64 t138, .int .i64 0, .int .i64 0]) ?_ 1 _ rfl; (with_reducible repeat (first | refine lN ?_ _ | refine lD ?_ | refine lA ?_ _)); refine lP (cs := #[.int .i64 0, .int .i64 0, .int .i64 0]) ?_ 0 _ rfl; (with_reducible repeat (first | refine lN ?_ _ | refine lD ?_ | refine lA ?_ _)); refine lX ?_ NB110_109.out _; (with_reducible repeat (first | refine lN ?_ _ | refine lD ?_ | refine lA ?_ _)); refine lX ?_ NB110_109.out _; (with_reducible repeat (first | refine lN ?_ _ | refine lD ?_ | refine lA ?_ _)); refine lX ?_ NB110_109.out _; (with_reducible repeat (first | refine lN ?_ _ | refine lD ?_ | refine lA ?_ _)); exact BK110.out) Try.underlying31 rfl (by kernel_rfl) (.tmp (.tmp .nil))))) rfl ?_
        exact ⟨_, by first | rfl | (simp [errW_none, errW_some] <;> rfl) | (simp [*, errW_none, errW_some] <;> rfl), by (with_reducible repeat (first | apply rA | apply rN | apply rD)); exact rM (Kd.R_far (p := ⟨gb110, 2, none⟩) (Kd.R_far (p := ⟨gb110, 1, none⟩) (Kd.R_far (p := ⟨gb110, 0, none⟩) (Kd.R_far (p := ⟨gb109, 2, none⟩) (Kd.R_far (p := ⟨gb109, 1, none⟩) (Kd.R_far (p := ⟨gb109, 0, none⟩) (Kd.R_types (Kd.R_types HO_108000.out BK109.out (by decide)) BK110.out (by decide)) (fun _ hk => hk.1.2) (.slice Ao4 l0_0.length co4)) (fun _ hk => hk.1.2) (.int .i64 (wrap64 (a0_1 + 1)))) (fun _ hk => hk.1.2) (.int .i64 a0_2)) (fun _ hk => hk.2) (.int .i64 t138)) (fun _ hk => hk.2) (.int .i64 t139)) (fun _ hk => hk.2) (.int .i64 t140)) (fun _ hk => hk.1.1), by repeat (first | (with_reducible first | exact HB.out | apply bA | apply bN | apply bD | refine bS ?_ GE107.out | refine bS ?_ GE108.out | refine bS ?_ GE109.out | refine bS ?_ GE110.out) | exact HB.out), by repeat (first | (with_reducible first | exact HK.out | apply kA | apply kN | apply kD | refine Kept.setCell ?_ (.inr GW107.out) _ | refine Kept.setCell ?_ (.inr GW108.out) _ | refine Kept.setCell ?_ (.inr GW109.out) _ | refine Kept.setCell ?_ (.inr GW110.out) _) | exact HK.out)⟩
      ·replace c68 := fB c68
       subst c68
       have H1 : (some (l0_0, a0_1, a0_2, 0, 0, 0, (⟨#[]⟩ : ByteArray), false)) = some (r1, r2, r3, r4, r5, r6, r7, r8) := by rw [if_neg (show ¬ (false = true) by decide)] at H; exact H
       clear H
       have H := H1
       clear H1
       simp only [Option.some.injEq, Prod.mk.injEq] at H
       obtain ⟨rfl, rfl, rfl, rfl, rfl, rfl, rfl, rfl⟩ := H
       have hnb108 := NB107_108.out
       have hnc108 := NB108_107.out
       have hnb109 := NB107_109.out
       have hnc109 := NB109_107.out
       have hnb110 := NB107_110.out
       have hnc110 := NB110_107.out
       have hcz111_0 : wc.cell? ⟨gb107, 0, none⟩ = some (.slice Ao4 l0_0.length co4) := (lC BK107.out 0).trans rfl
       have hcz111_1 : wc.cell? ⟨gb107, 1, none⟩ = some (.int .i64 a0_1) := (lC BK107.out 1).trans rfl
       have hcz111_2 : wc.cell? ⟨gb107, 2, none⟩ = some (.int .i64 a0_2) := (lC BK107.out 2).trans rfl
       have hfz111_0 := lF BK107.out 0
       have hfz111_1 := lF BK107.out 1
       have hfz111_2 := lF BK107.out 2
       have hnb112 := NB109_108.out
       have hnc112 := NB108_109.out
       have hnb113 := NB109_110.out
       have hnc113 := NB110_109.out
       have hcz114_0 : wc.cell? ⟨gb109, 0, none⟩ = some (.slice none 0 0) := (lC BK109.out 0).trans rfl
       have hcz114_1 : wc.cell? ⟨gb109, 1, none⟩ = some (.int .i64 0) := (lC BK109.out 1).trans rfl
       have hcz114_2 : wc.cell? ⟨gb109, 2, none⟩ = some (.int .i64 0) := (lC BK109.out 2).trans rfl
       have hfz114_0 := lF BK109.out 0
       have hfz114_1 := lF BK109.out 1
       have hfz114_2 := lF BK109.out 2
       have hnb115 := NB110_108.out
       have hnc115 := NB108_110.out
       have hcz116_0 : wc.cell? ⟨gb110, 0, none⟩ = some (.int .i64 0) := (lC BK110.out 0).trans rfl
       have hcz116_1 : wc.cell? ⟨gb110, 1, none⟩ = some (.int .i64 0) := (lC BK110.out 1).trans rfl
       have hcz116_2 : wc.cell? ⟨gb110, 2, none⟩ = some (.int .i64 0) := (lC BK110.out 2).trans rfl
       have hfz116_0 := lF BK110.out 0
       have hfz116_1 := lF BK110.out 1
       have hfz116_2 := lF BK110.out 2
       go_wp2
       refine bodyPost_ret (results_list (rs := [.cell 4 29, .cell 5 31, .tmp 6, .tmp 7]) rfl (by simp) (.cell gb109 29 #[.slice Ao4 l0_0.length co4, .int .i64 a0_1, .int .i64 a0_2] (0, 0) _ rfl (by (with_reducible repeat (first | refine lN ?_ _ | refine lD ?_ | refine lA ?_ _)); refine lX ?_ NB109_110.out _; (with_reducible repeat (first | refine lN ?_ _ | refine lD ?_ | refine lA ?_ _)); refine lX ?_ NB109_110.out _; (with_reducible repeat (first | refine lN ?_ _ | refine lD ?_ | refine lA ?_ _)); refine lX ?_ NB109_110.out _; (with_reducible repeat (first | refine lN ?_ _ | refine lD ?_ | refine lA ?_ _)); refine lP (cs := #[.slice Ao4 l0_0.length co4, .int .i64 a0_1, .int .i64 0]) ?_ 2 _ rfl; (with_reducible repeat (first | refine lN ?_ _ | refine lD ?_ | refine lA ?_ _)); refine lP (cs := #[.slice Ao4 l0_0.length co4, .int .i64 0, .int .i64 0]) ?_ 1 _ rfl; (with_reducible repeat (first | refine lN ?_ _ | refine lD ?_ | refine lA ?_ _)); refine lP (cs := #[.slice none 0 0, .int .i64 0, .int .i64 0]) ?_ 0 _ rfl; (with_reducible repeat (first | refine lN ?_ _ | refine lD ?_ | refine lA ?_ _)); exact BK109.out) Try.underlying29 rfl (by kernel_rfl) (.cell gb110 31 #[.int .i64 0, .int .i64 0, .int .i64 0] (0, 0) _ rfl (by (with_reducible repeat (first | refine lN ?_ _ | refine lD ?_ | refine lA ?_ _)); refine lP (cs := #[.int .i64 0, .int .i64 0, .int .i64 0]) ?_ 2 _ rfl; (with_reducible repeat (first | refine lN ?_ _ | refine lD ?_ | refine lA ?_ _)); refine lP (cs := #[.int .i64 0, .int .i64 0, .int .i64 0]) ?_ 1 _ rfl; (with_reducible repeat (first | refine lN ?_ _ | refine lD ?_ | refine lA ?_ _)); refine lP (cs := #[.int .i64 0, .int .i64 0, .int .i64 0]) ?_ 0 _ rfl; (with_reducible repeat (first | refine lN ?_ _ | refine lD ?_ | refine lA ?_ _)); refine lX ?_ NB110_109.out _; (with_reducible repeat (first | refine lN ?_ _ | refine lD ?_ | refine lA ?_ _)); refine lX ?_ NB110_109.out _; (with_reducible repeat (first | refine lN ?_ _ | refine lD ?_ | refine lA ?_ _)); refine lX ?_ NB110_109.out _; (with_reducible repeat (first | refine lN ?_ _ | refine lD ?_ | refine lA ?_ _)); exact BK110.out) Try.underlying31 rfl (by kernel_rfl) (.tmp (.tmp .nil))))) rfl ?_
       exact ⟨_, by first | rfl | (simp [errW_none, errW_some] <;> rfl) | (simp [*, errW_none, errW_some] <;> rfl), by (with_reducible repeat (first | apply rA | apply rN | apply rD)); exact rM (Kd.R_far (p := ⟨gb110, 2, none⟩) (Kd.R_far (p := ⟨gb110, 1, none⟩) (Kd.R_far (p := ⟨gb110, 0, none⟩) (Kd.R_far (p := ⟨gb109, 2, none⟩) (Kd.R_far (p := ⟨gb109, 1, none⟩) (Kd.R_far (p := ⟨gb109, 0, none⟩) (Kd.R_types (Kd.R_types HO_108000.out BK109.out (by decide)) BK110.out (by decide)) (fun _ hk => hk.1.2) (.slice Ao4 l0_0.length co4)) (fun _ hk => hk.1.2) (.int .i64 a0_1)) (fun _ hk => hk.1.2) (.int .i64 a0_2)) (fun _ hk => hk.2) (.int .i64 0)) (fun _ hk => hk.2) (.int .i64 0)) (fun _ hk => hk.2) (.int .i64 0)) (fun _ hk => hk.1.1), by repeat (first | (with_reducible first | exact HB.out | apply bA | apply bN | apply bD | refine bS ?_ GE107.out | refine bS ?_ GE108.out | refine bS ?_ GE109.out | refine bS ?_ GE110.out) | exact HB.out), by repeat (first | (with_reducible first | exact HK.out | apply kA | apply kN | apply kD | refine Kept.setCell ?_ (.inr GW107.out) _ | refine Kept.setCell ?_ (.inr GW108.out) _ | refine Kept.setCell ?_ (.inr GW109.out) _ | refine Kept.setCell ?_ (.inr GW110.out) _) | exact HK.out)⟩
end Go.Proofs.Ytodhogegjkfemaa.PFnQueue
