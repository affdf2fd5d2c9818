-- Written by a program of this session, after the kit's print (changed in some places; see NOTES.md). Lean checks it.
import Derived.Test.YtodhogegjkfemaaAbb
import Derived.Test.YtodhogegjkfemaaPFnExactStepClientx0
import Derived.Test.YtodhogegjkfemaaPFnExactStepClientx1
import Derived.Test.YtodhogegjkfemaaPFnExactStepClientx4
import Derived.Test.YtodhogegjkfemaaPFnExactStepClientx5
import Derived.Test.YtodhogegjkfemaaPFnExactStepClientx6
import Derived.Test.YtodhogegjkfemaaPFnExactStepClientx7
import Derived.Test.YtodhogegjkfemaaPFnExactStepClientx8
namespace Go.Proofs.Ytodhogegjkfemaa.PFnExactStepClient
open Go.Proofs.Ytodhogegjkfemaa.Abb Go.RowKit Go.Proofs.YtodhogegjkfemaaW.PrintWords Go.Proofs.YtodhogegjkfemaaW.PrintLast Go.Proofs.YtodhogegjkfemaaW.PrintMore
attribute [local go_sem] max2_int min2_int max_two min_two max_three min_three max_four min_four   -- for this text's walks alone
set_option linter.unusedVariables false
set_option linter.unusedSimpArgs false
def laws_FnExactStepClient.f (k : Nat) (l0_0 : List ByteArray) (a0_1 : Int) (a0_2 : Int) (a1_0 : Int) (a1_1 : ByteArray) : Option (Bool) := (laws_szClient.f k l0_0 a0_1 a0_2 1048576).bind fun t245 => (if t245 < 0 then (some true) else ((laws_szCoverStep.f a1_0 a1_1 t245).bind fun t246 => (if t246 < 0 then (some true) else ((laws_toClient.f k l0_0 a0_1 a0_2).bind fun bt249 => ((laws_toCoverStep.f a1_0 a1_1).bind fun bt254 => ((spec_StepClient.f k bt249.1 bt249.2.1 bt249.2.2 bt254.1 bt254.2).bind fun bt256 => ((laws_toClient.f k l0_0 a0_1 a0_2).bind fun bt266 => ((laws_toCoverStep.f a1_0 a1_1).bind fun bt274 => ((impl_StepClient.f k bt266.1 bt266.2.1 bt266.2.2 bt274.1 bt274.2).bind fun bt276 => ((laws_eqClient.f k bt276.1 bt276.2.1 bt276.2.2.1 bt256.1 bt256.2.1 bt256.2.2.1).bind fun t286 => (if t286 = true then ((laws_eqEmit.f bt276.2.2.2.1 bt276.2.2.2.2.1 bt276.2.2.2.2.2.1 bt256.2.2.2.1 bt256.2.2.2.2.1 bt256.2.2.2.2.2.1).bind fun t287 => (if t287 = true then (if bt276.2.2.2.2.2.2.1.toList = bt256.2.2.2.2.2.2.1.toList then (if (bt276.2.2.2.2.2.2.2 != bt256.2.2.2.2.2.2.2) = true then (some false) else ((laws_toClient.f k l0_0 a0_1 a0_2).bind fun bt288 => ((laws_eqClient.f k bt266.1 bt266.2.1 bt266.2.2 bt288.1 bt288.2.1 bt288.2.2).bind fun t293 => (if t293 = true then ((laws_markClient.f k bt266.1 bt266.2.1 bt266.2.2 1).bind fun bt294 => (if bt294.1 < 0 then (some false) else ((laws_eqClient.f k bt276.1 bt276.2.1 bt276.2.2.1 bt256.1 bt256.2.1 bt256.2.2.1).bind fun t296 => (if t296 = true then ((laws_eqEmit.f bt276.2.2.2.1 bt276.2.2.2.2.1 bt276.2.2.2.2.2.1 bt256.2.2.2.1 bt256.2.2.2.2.1 bt256.2.2.2.2.2.1).bind fun t297 => (if t297 = true then ((laws_markClient.f k bt276.1 bt276.2.1 bt276.2.2.1 1).bind fun bt298 => ((laws_heldClient.f k bt298.2 bt276.2.1 bt276.2.2.1 1).bind fun t300 => (if t300 < 0 then (some false) else (if t300 = bt298.1 then ((laws_toClient.f k l0_0 a0_1 a0_2).bind fun bt303 => ((laws_toCoverStep.f a1_0 a1_1).bind fun bt308 => ((impl_StepClient.f k bt303.1 bt303.2.1 bt303.2.2 bt308.1 bt308.2).bind fun bt310 => ((laws_eqClient.f k bt310.1 bt310.2.1 bt310.2.2.1 bt256.1 bt256.2.1 bt256.2.2.1).bind fun t320 => (if t320 = true then ((laws_eqEmit.f bt310.2.2.2.1 bt310.2.2.2.2.1 bt310.2.2.2.2.2.1 bt256.2.2.2.1 bt256.2.2.2.2.1 bt256.2.2.2.2.2.1).bind fun t321 => (if t321 = true then (if bt310.2.2.2.2.2.2.1.toList = bt256.2.2.2.2.2.2.1.toList then (if (bt310.2.2.2.2.2.2.2 != bt256.2.2.2.2.2.2.2) = true then (some false) else ((laws_heldClient.f k bt298.2 bt276.2.1 bt276.2.2.1 1).bind fun t322 => (if t322 < 0 then (some false) else (if t322 = bt298.1 then (some true) else (some false))))) else (some false)) else (some false))) else (some false)))))) else (some false))))) else (some false))) else (some false))))) else (some false))))) else (some false)) else (some false))) else (some false))))))))))))
theorem laws_FnExactStepClient.mono : ∀ a0 a1 a2 a3 a4 k, LeO (laws_FnExactStepClient.f k a0 a1 a2 a3 a4) (laws_FnExactStepClient.f (k + 1) a0 a1 a2 a3 a4) := by
 intro a0 a1 a2 a3 a4 k
 unfold laws_FnExactStepClient.f
 repeat' first
   | (with_reducible exact impl_StepClient.mono _ _ _ _ _ _)
   | (with_reducible exact laws_eqClient.mono _ _ _ _ _ _ _)
   | (with_reducible exact laws_heldClient.mono _ _ _ _ _)
   | (with_reducible exact laws_markClient.mono _ _ _ _ _)
   | (with_reducible exact laws_szClient.mono _ _ _ _ _)
   | (with_reducible exact laws_toClient.mono _ _ _ _)
   | (with_reducible exact spec_StepClient.mono _ _ _ _ _ _)
   | (with_reducible exact LeO.refl _)
   | (with_reducible exact LeO.none _)
   | (with_reducible refine LeO.ite ?_ ?_)
   | (with_reducible refine LeO.bind ?_ (fun _ => ?_))
   | exact impl_StepClient.mono _ _ _ _ _ _
   | exact laws_eqClient.mono _ _ _ _ _ _ _
   | exact laws_heldClient.mono _ _ _ _ _
   | exact laws_markClient.mono _ _ _ _ _
   | exact laws_szClient.mono _ _ _ _ _
   | exact laws_toClient.mono _ _ _ _
   | exact spec_StepClient.mono _ _ _ _ _ _
   | exact LeO.none _
   | refine LeO.ite ?_ ?_
   | refine LeO.bind ?_ (fun _ => ?_)
def laws_FnExactStepClient.T8 : Bool × List (List Nat × List Nat) := (true, [([], []), ([0], [0]), ([], []), ([2, 1], [2]), ([1, 3, 3], [1, 3]), ([4], [4]), ([5], [5]), ([5], [5]), ([5], [5]), ([5], [5]), ([], []), ([], []), ([10, 6, 4, 0, 1, 2, 3, 4, 5, 6, 10, 11], [6, 10]), ([11, 7, 12, 0, 1, 2, 3, 4, 5, 6, 7, 10, 11, 12], [7, 11]), ([8, 13, 0, 1, 2, 3, 4, 5, 6, 7, 8, 10, 11, 12, 13], [8]), ([9, 14, 0, 1, 2, 3, 4, 5, 6, 7, 8, 9, 10, 11, 12, 13, 14], [9])])
def laws_FnExactStepClient.B8 : List Nat := [0, 1, 0, 7, 15, 31, 63, 63, 63, 63, 0, 0, 3199, 7423, 15871, 32767]
theorem laws_FnExactStepClient.tab8 : rtab .any (opsOf Try.f3 8) = laws_FnExactStepClient.T8 := by kernel_rfl
theorem laws_FnExactStepClient.bits8 : waitsOk laws_FnExactStepClient.T8.2 laws_FnExactStepClient.B8 = true := by kernel_rfl
def laws_FnExactStepClient.T10 : Bool × List (List Nat × List Nat) := (true, [([], []), ([], []), ([1], [1]), ([0, 2, 2], [0, 2]), ([3], [3]), ([4], [4]), ([4], [4]), ([4], [4]), ([4], [4]), ([], []), ([], []), ([9, 5, 3, 0, 1, 2, 3, 4, 5, 9, 10], [5, 9]), ([10, 6, 11, 0, 1, 2, 3, 4, 5, 6, 9, 10, 11], [6, 10]), ([7, 12, 0, 1, 2, 3, 4, 5, 6, 7, 9, 10, 11, 12], [7]), ([8, 13, 0, 1, 2, 3, 4, 5, 6, 7, 8, 9, 10, 11, 12, 13], [8])])
def laws_FnExactStepClient.B10 : List Nat := [0, 0, 2, 7, 15, 31, 31, 31, 31, 0, 0, 1599, 3711, 7935, 16383]
theorem laws_FnExactStepClient.tab10 : rtab .any (opsOf Try.f3 10) = laws_FnExactStepClient.T10 := by kernel_rfl
theorem laws_FnExactStepClient.bits10 : waitsOk laws_FnExactStepClient.T10.2 laws_FnExactStepClient.B10 = true := by kernel_rfl
def laws_FnExactStepClient.T27 : Bool × List (List Nat × List Nat) := (true, [([], []), ([0], [0]), ([], []), ([2, 1], [2]), ([1, 3, 3], [1, 3]), ([4], [4]), ([5], [5]), ([5], [5]), ([5], [5]), ([5], [5]), ([], []), ([], []), ([10, 6, 4, 0, 1, 2, 3, 4, 5, 6, 10, 11], [6, 10]), ([11, 7, 12, 0, 1, 2, 3, 4, 5, 6, 7, 10, 11, 12], [7, 11]), ([8, 13, 0, 1, 2, 3, 4, 5, 6, 7, 8, 10, 11, 12, 13], [8]), ([9, 14, 0, 1, 2, 3, 4, 5, 6, 7, 8, 9, 10, 11, 12, 13, 14], [9])])
def laws_FnExactStepClient.B27 : List Nat := [0, 1, 0, 7, 15, 31, 63, 63, 63, 63, 0, 0, 3199, 7423, 15871, 32767]
theorem laws_FnExactStepClient.tab27 : rtab .any (opsOf Try.f3 27) = laws_FnExactStepClient.T27 := by kernel_rfl
theorem laws_FnExactStepClient.bits27 : waitsOk laws_FnExactStepClient.T27.2 laws_FnExactStepClient.B27 = true := by kernel_rfl
set_option maxHeartbeats 8000000 in
set_option maxRecDepth 100000 in
theorem laws_FnExactStepClient.calls (k : Nat) (A0_0 : Option Addr) (c0_0 : Nat) (l0_0 : List ByteArray) (a0_1 : Int) (a0_2 : Int) (a1_0 : Int) (a1_1 : ByteArray) (r : Bool) (w : World) (hr0_0 : Kd.C Kd.string w A0_0 l0_0.length l0_0) (hc0_0 : l0_0.length ≤ c0_0) (h : laws_FnExactStepClient.f k l0_0 a0_1 a0_2 a1_0 a1_1 = some r) (hr_ : Aside0 (r = true)) :
  Calls Try.prog 3 #[.agg #[.slice A0_0 l0_0.length c0_0, .int .i64 a0_1, .int .i64 a0_2], .agg #[.int .i64 a1_0, .string a1_1]] w fun e w' => e = .returned (.bool r) ∧ Below w.heap.size w w' := by
 have hu24 := Try.underlying24
 have hu26 := Try.underlying26
 have hu29 := Try.underlying29
 have hu31 := Try.underlying31
 have HR0_0 := Aside0.mk hr0_0
 have HC0_0 := Aside0.mk hc0_0
 clear hr0_0 hc0_0
 have HB := Aside0.mk (Below.refl w.heap.size w)
 have H : ((laws_szClient.f k l0_0 a0_1 a0_2 1048576).bind fun t245 => (if t245 < 0 then (some true) else ((laws_szCoverStep.f a1_0 a1_1 t245).bind fun t246 => (if t246 < 0 then (some true) else ((laws_toClient.f k l0_0 a0_1 a0_2).bind fun bt249 => ((laws_toCoverStep.f a1_0 a1_1).bind fun bt254 => ((spec_StepClient.f k bt249.1 bt249.2.1 bt249.2.2 bt254.1 bt254.2).bind fun bt256 => ((laws_toClient.f k l0_0 a0_1 a0_2).bind fun bt266 => ((laws_toCoverStep.f a1_0 a1_1).bind fun bt274 => ((impl_StepClient.f k bt266.1 bt266.2.1 bt266.2.2 bt274.1 bt274.2).bind fun bt276 => ((laws_eqClient.f k bt276.1 bt276.2.1 bt276.2.2.1 bt256.1 bt256.2.1 bt256.2.2.1).bind fun t286 => (if t286 = true then ((laws_eqEmit.f bt276.2.2.2.1 bt276.2.2.2.2.1 bt276.2.2.2.2.2.1 bt256.2.2.2.1 bt256.2.2.2.2.1 bt256.2.2.2.2.2.1).bind fun t287 => (if t287 = true then (if bt276.2.2.2.2.2.2.1.toList = bt256.2.2.2.2.2.2.1.toList then (if (bt276.2.2.2.2.2.2.2 != bt256.2.2.2.2.2.2.2) = true then (some false) else ((laws_toClient.f k l0_0 a0_1 a0_2).bind fun bt288 => ((laws_eqClient.f k bt266.1 bt266.2.1 bt266.2.2 bt288.1 bt288.2.1 bt288.2.2).bind fun t293 => (if t293 = true then ((laws_markClient.f k bt266.1 bt266.2.1 bt266.2.2 1).bind fun bt294 => (if bt294.1 < 0 then (some false) else ((laws_eqClient.f k bt276.1 bt276.2.1 bt276.2.2.1 bt256.1 bt256.2.1 bt256.2.2.1).bind fun t296 => (if t296 = true then ((laws_eqEmit.f bt276.2.2.2.1 bt276.2.2.2.2.1 bt276.2.2.2.2.2.1 bt256.2.2.2.1 bt256.2.2.2.2.1 bt256.2.2.2.2.2.1).bind fun t297 => (if t297 = true then ((laws_markClient.f k bt276.1 bt276.2.1 bt276.2.2.1 1).bind fun bt298 => ((laws_heldClient.f k bt298.2 bt276.2.1 bt276.2.2.1 1).bind fun t300 => (if t300 < 0 then (some false) else (if t300 = bt298.1 then ((laws_toClient.f k l0_0 a0_1 a0_2).bind fun bt303 => ((laws_toCoverStep.f a1_0 a1_1).bind fun bt308 => ((impl_StepClient.f k bt303.1 bt303.2.1 bt303.2.2 bt308.1 bt308.2).bind fun bt310 => ((laws_eqClient.f k bt310.1 bt310.2.1 bt310.2.2.1 bt256.1 bt256.2.1 bt256.2.2.1).bind fun t320 => (if t320 = true then ((laws_eqEmit.f bt310.2.2.2.1 bt310.2.2.2.2.1 bt310.2.2.2.2.2.1 bt256.2.2.2.1 bt256.2.2.2.2.1 bt256.2.2.2.2.2.1).bind fun t321 => (if t321 = true then (if bt310.2.2.2.2.2.2.1.toList = bt256.2.2.2.2.2.2.1.toList then (if (bt310.2.2.2.2.2.2.2 != bt256.2.2.2.2.2.2.2) = true then (some false) else ((laws_heldClient.f k bt298.2 bt276.2.1 bt276.2.2.1 1).bind fun t322 => (if t322 < 0 then (some false) else (if t322 = bt298.1 then (some true) else (some false))))) else (some false)) else (some false))) else (some false)))))) else (some false))))) else (some false))) else (some false))))) else (some false))))) else (some false)) else (some false))) else (some false))))))))))))) = some r := h
 clear h
 replace H := oB H
 obtain ⟨t245, A30, H⟩ := H
 replace H : (if t245 < 0 then (some true) else ((laws_szCoverStep.f a1_0 a1_1 t245).bind fun t246 => (if t246 < 0 then (some true) else ((laws_toClient.f k l0_0 a0_1 a0_2).bind fun bt249 => ((laws_toCoverStep.f a1_0 a1_1).bind fun bt254 => ((spec_StepClient.f k bt249.1 bt249.2.1 bt249.2.2 bt254.1 bt254.2).bind fun bt256 => ((laws_toClient.f k l0_0 a0_1 a0_2).bind fun bt266 => ((laws_toCoverStep.f a1_0 a1_1).bind fun bt274 => ((impl_StepClient.f k bt266.1 bt266.2.1 bt266.2.2 bt274.1 bt274.2).bind fun bt276 => ((laws_eqClient.f k bt276.1 bt276.2.1 bt276.2.2.1 bt256.1 bt256.2.1 bt256.2.2.1).bind fun t286 => (if t286 = true then ((laws_eqEmit.f bt276.2.2.2.1 bt276.2.2.2.2.1 bt276.2.2.2.2.2.1 bt256.2.2.2.1 bt256.2.2.2.2.1 bt256.2.2.2.2.2.1).bind fun t287 => (if t287 = true then (if bt276.2.2.2.2.2.2.1.toList = bt256.2.2.2.2.2.2.1.toList then (if (bt276.2.2.2.2.2.2.2 != bt256.2.2.2.2.2.2.2) = true then (some false) else ((laws_toClient.f k l0_0 a0_1 a0_2).bind fun bt288 => ((laws_eqClient.f k bt266.1 bt266.2.1 bt266.2.2 bt288.1 bt288.2.1 bt288.2.2).bind fun t293 => (if t293 = true then ((laws_markClient.f k bt266.1 bt266.2.1 bt266.2.2 1).bind fun bt294 => (if bt294.1 < 0 then (some false) else ((laws_eqClient.f k bt276.1 bt276.2.1 bt276.2.2.1 bt256.1 bt256.2.1 bt256.2.2.1).bind fun t296 => (if t296 = true then ((laws_eqEmit.f bt276.2.2.2.1 bt276.2.2.2.2.1 bt276.2.2.2.2.2.1 bt256.2.2.2.1 bt256.2.2.2.2.1 bt256.2.2.2.2.2.1).bind fun t297 => (if t297 = true then ((laws_markClient.f k bt276.1 bt276.2.1 bt276.2.2.1 1).bind fun bt298 => ((laws_heldClient.f k bt298.2 bt276.2.1 bt276.2.2.1 1).bind fun t300 => (if t300 < 0 then (some false) else (if t300 = bt298.1 then ((laws_toClient.f k l0_0 a0_1 a0_2).bind fun bt303 => ((laws_toCoverStep.f a1_0 a1_1).bind fun bt308 => ((impl_StepClient.f k bt303.1 bt303.2.1 bt303.2.2 bt308.1 bt308.2).bind fun bt310 => ((laws_eqClient.f k bt310.1 bt310.2.1 bt310.2.2.1 bt256.1 bt256.2.1 bt256.2.2.1).bind fun t320 => (if t320 = true then ((laws_eqEmit.f bt310.2.2.2.1 bt310.2.2.2.2.1 bt310.2.2.2.2.2.1 bt256.2.2.2.1 bt256.2.2.2.2.1 bt256.2.2.2.2.2.1).bind fun t321 => (if t321 = true then (if bt310.2.2.2.2.2.2.1.toList = bt256.2.2.2.2.2.2.1.toList then (if (bt310.2.2.2.2.2.2.2 != bt256.2.2.2.2.2.2.2) = true then (some false) else ((laws_heldClient.f k bt298.2 bt276.2.1 bt276.2.2.1 1).bind fun t322 => (if t322 < 0 then (some false) else (if t322 = bt298.1 then (some true) else (some false))))) else (some false)) else (some false))) else (some false)))))) else (some false))))) else (some false))) else (some false))))) else (some false))))) else (some false)) else (some false))) else (some false)))))))))))) = some r := H
 have A3 := Aside0.mk A30
 clear A30
 by_cases c4 : t245 < 0
 ·rw [if_pos c4] at H
  have c4b0 : decide (t245 < 0) = true := decide_eq_true c4
  clear c4
  obtain rfl := Option.some.inj H
  simp only [Option.some.injEq, Prod.mk.injEq] at H
  obtain ⟨rfl⟩ := H
  go_enter Try.func3, Try.ntmps3
  go_wp2_with (first | ((with_reducible refine gate_dst (N := 2) rfl ?_); refine box_event ?hg (N := 2) ?hd (cs := #[.slice A0_0 l0_0.length c0_0, .int .i64 a0_1, .int .i64 a0_2]) (t := 24) ?hr ?_; (case hd => rfl); (case hg => rfl); (case hr => first | (go_simp; done) | (go_simp; rfl)); intro gb243 hg w5 hbox hb; have n0_ := Aside0.mk (below_step (by repeat (first | (with_reducible first | exact HB.out | apply bA | apply bN | apply bD) | exact HB.out)) hb); have n1_ := Aside0.mk (hbox); have n2_ := Aside0.mk ((by rw [hg]; exact (below_size (by repeat (first | (with_reducible first | exact HB.out | apply bA | apply bN | apply bD) | exact HB.out))) : w.heap.size ≤ gb243)); have n3_ := Aside0.mk ((by rw [hg]; exact (below_size (by repeat (first | (with_reducible first | exact HB.out | apply bA | apply bN | apply bD) | exact HB.out))) : w.heap.size ≤ gb243)); clear HB; have HB := n0_; have BK243 := n1_; have GW243 := n2_; have GE243 := n3_; clear n0_ n1_ n2_ n3_; clear hb hbox hg) | ((with_reducible refine gate_dst (N := 3) rfl ?_); refine box_event ?hg (N := 3) ?hd (cs := #[.int .i64 a1_0, .string a1_1]) (t := 26) ?hr ?_; (case hd => rfl); (case hg => rfl); (case hr => first | (go_simp; done) | (go_simp; rfl)); intro gb244 hg w6 hbox hb; have n0_ := Aside0.mk (blk_below (g := gb243) (o := .cells #[.slice A0_0 l0_0.length c0_0, .int .i64 a0_1, .int .i64 a0_2] 24 (0, 0)) (by (with_reducible repeat (first | refine lN ?_ _ | refine lD ?_ | refine lA ?_ _)); exact BK243.out) hb); have n1_ := Aside0.mk (below_step (by repeat (first | (with_reducible first | exact HB.out | apply bA | apply bN | apply bD | refine bS ?_ GE243.out) | exact HB.out)) hb); have n2_ := Aside0.mk (hbox); have n3_ := Aside0.mk ((by rw [hg]; exact (below_size (by repeat (first | (with_reducible first | exact HB.out | apply bA | apply bN | apply bD | refine bS ?_ GE243.out) | exact HB.out))) : w.heap.size ≤ gb244)); have n4_ := Aside0.mk ((by rw [hg]; exact (below_size (by repeat (first | (with_reducible first | exact HB.out | apply bA | apply bN | apply bD | refine bS ?_ GE243.out) | exact HB.out))) : w.heap.size ≤ gb244)); have n5_ := Aside0.mk ((by rw [hg]; exact Nat.ne_of_lt (blk_lt (g := gb243) (o := .cells #[.slice A0_0 l0_0.length c0_0, .int .i64 a0_1, .int .i64 a0_2] 24 (0, 0)) (by (with_reducible repeat (first | refine lN ?_ _ | refine lD ?_ | refine lA ?_ _)); exact BK243.out)) : gb243 ≠ gb244)); have n6_ := Aside0.mk ((by rw [hg]; exact Nat.ne_of_gt (blk_lt (g := gb243) (o := .cells #[.slice A0_0 l0_0.length c0_0, .int .i64 a0_1, .int .i64 a0_2] 24 (0, 0)) (by (with_reducible repeat (first | refine lN ?_ _ | refine lD ?_ | refine lA ?_ _)); exact BK243.out)) : gb244 ≠ gb243)); clear BK243; clear HB; have BK243 := n0_; have HB := n1_; have BK244 := n2_; have GW244 := n3_; have GE244 := n4_; have NB243_244 := n5_; have NB244_243 := n6_; clear n0_ n1_ n2_ n3_ n4_ n5_ n6_; clear hb hbox hg; have hnb7 := NB243_244.out; have hnc7 := NB244_243.out; have hcz8_0 : w6.cell? ⟨gb243, 0, none⟩ = some (.slice A0_0 l0_0.length c0_0) := (lC BK243.out 0).trans rfl; have hcz8_1 : w6.cell? ⟨gb243, 1, none⟩ = some (.int .i64 a0_1) := (lC BK243.out 1).trans rfl; have hcz8_2 : w6.cell? ⟨gb243, 2, none⟩ = some (.int .i64 a0_2) := (lC BK243.out 2).trans rfl; have hfz8_0 := lF BK243.out 0; have hfz8_1 := lF BK243.out 1; have hfz8_2 := lF BK243.out 2) | ((with_reducible refine gate_callee (f := 5) rfl ?_); refine goesL_ (some 24) rfl rfl Try.func5 (by kernel_rfl) rfl #[.agg #[.slice A0_0 l0_0.length c0_0, .int .i64 a0_1, .int .i64 a0_2], .int .i64 1048576] rfl (by (try simp only [List.map_toArray, List.map_cons, List.map_nil]); first | done | rfl | (simp only [List.length_drop, List.length_take]; rfl)) ?_; (with_reducible refine (laws_szClient.calls k _ _ l0_0 a0_1 a0_2 1048576 t245 _ ?side1 ?side2 A3.out).mono ?_); (case side1 => repeat (first | exact (Kd.C_below HR0_0.out HB.out) | (with_reducible first | refine cA ?_ _ | refine cN ?_ _ | refine cD ?_))); (case side2 => exact HC0_0.out); rintro e w9 ⟨rfl, hb⟩; refine ⟨_, rfl, ?_⟩; have n0_ := Aside0.mk (blk_below (g := gb243) (o := .cells #[.slice A0_0 l0_0.length c0_0, .int .i64 a0_1, .int .i64 a0_2] 24 (0, 0)) (by (with_reducible repeat (first | refine lN ?_ _ | refine lD ?_ | refine lA ?_ _)); exact BK243.out) hb); have n1_ := Aside0.mk (blk_below (g := gb244) (o := .cells #[.int .i64 a1_0, .string a1_1] 26 (0, 0)) (by (with_reducible repeat (first | refine lN ?_ _ | refine lD ?_ | refine lA ?_ _)); exact BK244.out) hb); have n2_ := Aside0.mk (below_step (by repeat (first | (with_reducible first | exact HB.out | apply bA | apply bN | apply bD | refine bS ?_ GE243.out | refine bS ?_ GE244.out) | exact HB.out)) hb); clear BK243; clear BK244; clear HB; have BK243 := n0_; have BK244 := n1_; have HB := n2_; clear n0_ n1_ n2_; (try clear hb); (try clear hb2); (try clear hk); (try clear hi)))
  go_ret
  exact ⟨by first | rfl | (simp [errW_none, errW_some] <;> rfl) | (simp [*, errW_none, errW_some] <;> rfl), by repeat (first | (with_reducible first | exact HB.out | apply bA | apply bN | apply bD | refine bS ?_ GE243.out | refine bS ?_ GE244.out) | exact HB.out)⟩
 ·rw [if_neg c4] at H
  have c4b0 : decide (t245 < 0) = false := decide_eq_false c4
  clear c4
  replace H := oB H
  obtain ⟨t246, A100, H⟩ := H
  replace H : (if t246 < 0 then (some true) else ((laws_toClient.f k l0_0 a0_1 a0_2).bind fun bt249 => ((laws_toCoverStep.f a1_0 a1_1).bind fun bt254 => ((spec_StepClient.f k bt249.1 bt249.2.1 bt249.2.2 bt254.1 bt254.2).bind fun bt256 => ((laws_toClient.f k l0_0 a0_1 a0_2).bind fun bt266 => ((laws_toCoverStep.f a1_0 a1_1).bind fun bt274 => ((impl_StepClient.f k bt266.1 bt266.2.1 bt266.2.2 bt274.1 bt274.2).bind fun bt276 => ((laws_eqClient.f k bt276.1 bt276.2.1 bt276.2.2.1 bt256.1 bt256.2.1 bt256.2.2.1).bind fun t286 => (if t286 = true then ((laws_eqEmit.f bt276.2.2.2.1 bt276.2.2.2.2.1 bt276.2.2.2.2.2.1 bt256.2.2.2.1 bt256.2.2.2.2.1 bt256.2.2.2.2.2.1).bind fun t287 => (if t287 = true then (if bt276.2.2.2.2.2.2.1.toList = bt256.2.2.2.2.2.2.1.toList then (if (bt276.2.2.2.2.2.2.2 != bt256.2.2.2.2.2.2.2) = true then (some false) else ((laws_toClient.f k l0_0 a0_1 a0_2).bind fun bt288 => ((laws_eqClient.f k bt266.1 bt266.2.1 bt266.2.2 bt288.1 bt288.2.1 bt288.2.2).bind fun t293 => (if t293 = true then ((laws_markClient.f k bt266.1 bt266.2.1 bt266.2.2 1).bind fun bt294 => (if bt294.1 < 0 then (some false) else ((laws_eqClient.f k bt276.1 bt276.2.1 bt276.2.2.1 bt256.1 bt256.2.1 bt256.2.2.1).bind fun t296 => (if t296 = true then ((laws_eqEmit.f bt276.2.2.2.1 bt276.2.2.2.2.1 bt276.2.2.2.2.2.1 bt256.2.2.2.1 bt256.2.2.2.2.1 bt256.2.2.2.2.2.1).bind fun t297 => (if t297 = true then ((laws_markClient.f k bt276.1 bt276.2.1 bt276.2.2.1 1).bind fun bt298 => ((laws_heldClient.f k bt298.2 bt276.2.1 bt276.2.2.1 1).bind fun t300 => (if t300 < 0 then (some false) else (if t300 = bt298.1 then ((laws_toClient.f k l0_0 a0_1 a0_2).bind fun bt303 => ((laws_toCoverStep.f a1_0 a1_1).bind fun bt308 => ((impl_StepClient.f k bt303.1 bt303.2.1 bt303.2.2 bt308.1 bt308.2).bind fun bt310 => ((laws_eqClient.f k bt310.1 bt310.2.1 bt310.2.2.1 bt256.1 bt256.2.1 bt256.2.2.1).bind fun t320 => (if t320 = true then ((laws_eqEmit.f bt310.2.2.2.1 bt310.2.2.2.2.1 bt310.2.2.2.2.2.1 bt256.2.2.2.1 bt256.2.2.2.2.1 bt256.2.2.2.2.2.1).bind fun t321 => (if t321 = true then (if bt310.2.2.2.2.2.2.1.toList = bt256.2.2.2.2.2.2.1.toList then (if (bt310.2.2.2.2.2.2.2 != bt256.2.2.2.2.2.2.2) = true then (some false) else ((laws_heldClient.f k bt298.2 bt276.2.1 bt276.2.2.1 1).bind fun t322 => (if t322 < 0 then (some false) else (if t322 = bt298.1 then (some true) else (some false))))) else (some false)) else (some false))) else (some false)))))) else (some false))))) else (some false))) else (some false))))) else (some false))))) else (some false)) else (some false))) else (some false)))))))))) = some r := H
  have A10 := Aside0.mk A100
  clear A100
  by_cases c11 : t246 < 0
  ·rw [if_pos c11] at H
   have c11b0 : decide (t246 < 0) = true := decide_eq_true c11
   clear c11
   obtain rfl := Option.some.inj H
   simp only [Option.some.injEq, Prod.mk.injEq] at H
   obtain ⟨rfl⟩ := H
   go_enter Try.func3, Try.ntmps3
   go_wp2_with (first | ((with_reducible refine gate_dst (N := 2) rfl ?_); refine box_event ?hg (N := 2) ?hd (cs := #[.slice A0_0 l0_0.length c0_0, .int .i64 a0_1, .int .i64 a0_2]) (t := 24) ?hr ?_; (case hd => rfl); (case hg => rfl); (case hr => first | (go_simp; done) | (go_simp; rfl)); intro gb243 hg w12 hbox hb; have n0_ := Aside0.mk (below_step (by repeat (first | (with_reducible first | exact HB.out | apply bA | apply bN | apply bD) | exact HB.out)) hb); have n1_ := Aside0.mk (hbox); have n2_ := Aside0.mk ((by rw [hg]; exact (below_size (by repeat (first | (with_reducible first | exact HB.out | apply bA | apply bN | apply bD) | exact HB.out))) : w.heap.size ≤ gb243)); have n3_ := Aside0.mk ((by rw [hg]; exact (below_size (by repeat (first | (with_reducible first | exact HB.out | apply bA | apply bN | apply bD) | exact HB.out))) : w.heap.size ≤ gb243)); clear HB; have HB := n0_; have BK243 := n1_; have GW243 := n2_; have GE243 := n3_; clear n0_ n1_ n2_ n3_; clear hb hbox hg) | ((with_reducible refine gate_dst (N := 3) rfl ?_); refine box_event ?hg (N := 3) ?hd (cs := #[.int .i64 a1_0, .string a1_1]) (t := 26) ?hr ?_; (case hd => rfl); (case hg => rfl); (case hr => first | (go_simp; done) | (go_simp; rfl)); intro gb244 hg w13 hbox hb; have n0_ := Aside0.mk (blk_below (g := gb243) (o := .cells #[.slice A0_0 l0_0.length c0_0, .int .i64 a0_1, .int .i64 a0_2] 24 (0, 0)) (by (with_reducible repeat (first | refine lN ?_ _ | refine lD ?_ | refine lA ?_ _)); exact BK243.out) hb); have n1_ := Aside0.mk (below_step (by repeat (first | (with_reducible first | exact HB.out | apply bA | apply bN | apply bD | refine bS ?_ GE243.out) | exact HB.out)) hb); have n2_ := Aside0.mk (hbox); have n3_ := Aside0.mk ((by rw [hg]; exact (below_size (by repeat (first | (with_reducible first | exact HB.out | apply bA | apply bN | apply bD | refine bS ?_ GE243.out) | exact HB.out))) : w.heap.size ≤ gb244)); have n4_ := Aside0.mk ((by rw [hg]; exact (below_size (by repeat (first | (with_reducible first | exact HB.out | apply bA | apply bN | apply bD | refine bS ?_ GE243.out) | exact HB.out))) : w.heap.size ≤ gb244)); have n5_ := Aside0.mk ((by rw [hg]; exact Nat.ne_of_lt (blk_lt (g := gb243) (o := .cells #[.slice A0_0 l0_0.length c0_0, .int .i64 a0_1, .int .i64 a0_2] 24 (0, 0)) (by (with_reducible repeat (first | refine lN ?_ _ | refine lD ?_ | refine lA ?_ _)); exact BK243.out)) : gb243 ≠ gb244)); have n6_ := Aside0.mk ((by rw [hg]; exact Nat.ne_of_gt (blk_lt (g := gb243) (o := .cells #[.slice A0_0 l0_0.length c0_0, .int .i64 a0_1, .int .i64 a0_2] 24 (0, 0)) (by (with_reducible repeat (first | refine lN ?_ _ | refine lD ?_ | refine lA ?_ _)); exact BK243.out)) : gb244 ≠ gb243)); clear BK243; clear HB; have BK243 := n0_; have HB := n1_; have BK244 := n2_; have GW244 := n3_; have GE244 := n4_; have NB243_244 := n5_; have NB244_243 := n6_; clear n0_ n1_ n2_ n3_ n4_ n5_ n6_; clear hb hbox hg; have hnb14 := NB243_244.out; have hnc14 := NB244_243.out; have hcz15_0 : w13.cell? ⟨gb243, 0, none⟩ = some (.slice A0_0 l0_0.length c0_0) := (lC BK243.out 0).trans rfl; have hcz15_1 : w13.cell? ⟨gb243, 1, none⟩ = some (.int .i64 a0_1) := (lC BK243.out 1).trans rfl; have hcz15_2 : w13.cell? ⟨gb243, 2, none⟩ = some (.int .i64 a0_2) := (lC BK243.out 2).trans rfl; have hfz15_0 := lF BK243.out 0; have hfz15_1 := lF BK243.out 1; have hfz15_2 := lF BK243.out 2) | ((with_reducible refine gate_callee (f := 5) rfl ?_); refine goesL_ (some 24) rfl rfl Try.func5 (by kernel_rfl) rfl #[.agg #[.slice A0_0 l0_0.length c0_0, .int .i64 a0_1, .int .i64 a0_2], .int .i64 1048576] rfl (by (try simp only [List.map_toArray, List.map_cons, List.map_nil]); first | done | rfl | (simp only [List.length_drop, List.length_take]; rfl)) ?_; (with_reducible refine (laws_szClient.calls k _ _ l0_0 a0_1 a0_2 1048576 t245 _ ?side1 ?side2 A3.out).mono ?_); (case side1 => repeat (first | exact (Kd.C_below HR0_0.out HB.out) | (with_reducible first | refine cA ?_ _ | refine cN ?_ _ | refine cD ?_))); (case side2 => exact HC0_0.out); rintro e w16 ⟨rfl, hb⟩; refine ⟨_, rfl, ?_⟩; have n0_ := Aside0.mk (blk_below (g := gb243) (o := .cells #[.slice A0_0 l0_0.length c0_0, .int .i64 a0_1, .int .i64 a0_2] 24 (0, 0)) (by (with_reducible repeat (first | refine lN ?_ _ | refine lD ?_ | refine lA ?_ _)); exact BK243.out) hb); have n1_ := Aside0.mk (blk_below (g := gb244) (o := .cells #[.int .i64 a1_0, .string a1_1] 26 (0, 0)) (by (with_reducible repeat (first | refine lN ?_ _ | refine lD ?_ | refine lA ?_ _)); exact BK244.out) hb); have n2_ := Aside0.mk (below_step (by repeat (first | (with_reducible first | exact HB.out | apply bA | apply bN | apply bD | refine bS ?_ GE243.out | refine bS ?_ GE244.out) | exact HB.out)) hb); clear BK243; clear BK244; clear HB; have BK243 := n0_; have BK244 := n1_; have HB := n2_; clear n0_ n1_ n2_; (try clear hb); (try clear hb2); (try clear hk); (try clear hi); have hcz17_0 : w16.cell? ⟨gb244, 0, none⟩ = some (.int .i64 a1_0) := (lC BK244.out 0).trans rfl; have hcz17_1 : w16.cell? ⟨gb244, 1, none⟩ = some (.string a1_1) := (lC BK244.out 1).trans rfl; have hfz17_0 := lF BK244.out 0; have hfz17_1 := lF BK244.out 1) | ((with_reducible refine gate_callee (f := 6) rfl ?_); refine goesL_ (some 29) rfl rfl Try.func6 (by kernel_rfl) rfl #[.agg #[.int .i64 a1_0, .string a1_1], .int .i64 t245] rfl (by (try simp only [List.map_toArray, List.map_cons, List.map_nil]); first | done | rfl | (simp only [List.length_drop, List.length_take]; rfl)) ?_; (with_reducible refine (laws_szCoverStep.calls a1_0 a1_1 t245 t246 _ A10.out).mono ?_); rintro e w18 ⟨rfl, hb⟩; refine ⟨_, rfl, ?_⟩; have n0_ := Aside0.mk (blk_below (g := gb243) (o := .cells #[.slice A0_0 l0_0.length c0_0, .int .i64 a0_1, .int .i64 a0_2] 24 (0, 0)) (by (with_reducible repeat (first | refine lN ?_ _ | refine lD ?_ | refine lA ?_ _)); exact BK243.out) hb); have n1_ := Aside0.mk (blk_below (g := gb244) (o := .cells #[.int .i64 a1_0, .string a1_1] 26 (0, 0)) (by (with_reducible repeat (first | refine lN ?_ _ | refine lD ?_ | refine lA ?_ _)); exact BK244.out) hb); have n2_ := Aside0.mk (below_step (by repeat (first | (with_reducible first | exact HB.out | apply bA | apply bN | apply bD | refine bS ?_ GE243.out | refine bS ?_ GE244.out) | exact HB.out)) hb); clear BK243; clear BK244; clear HB; have BK243 := n0_; have BK244 := n1_; have HB := n2_; clear n0_ n1_ n2_; (try clear hb); (try clear hb2); (try clear hk); (try clear hi)))
   go_ret
   exact ⟨by first | rfl | (simp [errW_none, errW_some] <;> rfl) | (simp [*, errW_none, errW_some] <;> rfl), by repeat (first | (with_reducible first | exact HB.out | apply bA | apply bN | apply bD | refine bS ?_ GE243.out | refine bS ?_ GE244.out) | exact HB.out)⟩
  ·rw [if_neg c11] at H
   have c11b0 : decide (t246 < 0) = false := decide_eq_false c11
   clear c11
   replace H := oB H
   obtain ⟨⟨t249, t252, t253⟩, A190, H⟩ := H
   replace H : ((laws_toCoverStep.f a1_0 a1_1).bind fun bt254 => ((spec_StepClient.f k t249 t252 t253 bt254.1 bt254.2).bind fun bt256 => ((laws_toClient.f k l0_0 a0_1 a0_2).bind fun bt266 => ((laws_toCoverStep.f a1_0 a1_1).bind fun bt274 => ((impl_StepClient.f k bt266.1 bt266.2.1 bt266.2.2 bt274.1 bt274.2).bind fun bt276 => ((laws_eqClient.f k bt276.1 bt276.2.1 bt276.2.2.1 bt256.1 bt256.2.1 bt256.2.2.1).bind fun t286 => (if t286 = true then ((laws_eqEmit.f bt276.2.2.2.1 bt276.2.2.2.2.1 bt276.2.2.2.2.2.1 bt256.2.2.2.1 bt256.2.2.2.2.1 bt256.2.2.2.2.2.1).bind fun t287 => (if t287 = true then (if bt276.2.2.2.2.2.2.1.toList = bt256.2.2.2.2.2.2.1.toList then (if (bt276.2.2.2.2.2.2.2 != bt256.2.2.2.2.2.2.2) = true then (some false) else ((laws_toClient.f k l0_0 a0_1 a0_2).bind fun bt288 => ((laws_eqClient.f k bt266.1 bt266.2.1 bt266.2.2 bt288.1 bt288.2.1 bt288.2.2).bind fun t293 => (if t293 = true then ((laws_markClient.f k bt266.1 bt266.2.1 bt266.2.2 1).bind fun bt294 => (if bt294.1 < 0 then (some false) else ((laws_eqClient.f k bt276.1 bt276.2.1 bt276.2.2.1 bt256.1 bt256.2.1 bt256.2.2.1).bind fun t296 => (if t296 = true then ((laws_eqEmit.f bt276.2.2.2.1 bt276.2.2.2.2.1 bt276.2.2.2.2.2.1 bt256.2.2.2.1 bt256.2.2.2.2.1 bt256.2.2.2.2.2.1).bind fun t297 => (if t297 = true then ((laws_markClient.f k bt276.1 bt276.2.1 bt276.2.2.1 1).bind fun bt298 => ((laws_heldClient.f k bt298.2 bt276.2.1 bt276.2.2.1 1).bind fun t300 => (if t300 < 0 then (some false) else (if t300 = bt298.1 then ((laws_toClient.f k l0_0 a0_1 a0_2).bind fun bt303 => ((laws_toCoverStep.f a1_0 a1_1).bind fun bt308 => ((impl_StepClient.f k bt303.1 bt303.2.1 bt303.2.2 bt308.1 bt308.2).bind fun bt310 => ((laws_eqClient.f k bt310.1 bt310.2.1 bt310.2.2.1 bt256.1 bt256.2.1 bt256.2.2.1).bind fun t320 => (if t320 = true then ((laws_eqEmit.f bt310.2.2.2.1 bt310.2.2.2.2.1 bt310.2.2.2.2.2.1 bt256.2.2.2.1 bt256.2.2.2.2.1 bt256.2.2.2.2.2.1).bind fun t321 => (if t321 = true then (if bt310.2.2.2.2.2.2.1.toList = bt256.2.2.2.2.2.2.1.toList then (if (bt310.2.2.2.2.2.2.2 != bt256.2.2.2.2.2.2.2) = true then (some false) else ((laws_heldClient.f k bt298.2 bt276.2.1 bt276.2.2.1 1).bind fun t322 => (if t322 < 0 then (some false) else (if t322 = bt298.1 then (some true) else (some false))))) else (some false)) else (some false))) else (some false)))))) else (some false))))) else (some false))) else (some false))))) else (some false))))) else (some false)) else (some false))) else (some false)))))))) = some r := H
   have A19 := Aside0.mk A190
   clear A190
   replace H := oB H
   obtain ⟨⟨t254, t255⟩, A200, H⟩ := H
   replace H : ((spec_StepClient.f k t249 t252 t253 t254 t255).bind fun bt256 => ((laws_toClient.f k l0_0 a0_1 a0_2).bind fun bt266 => ((laws_toCoverStep.f a1_0 a1_1).bind fun bt274 => ((impl_StepClient.f k bt266.1 bt266.2.1 bt266.2.2 bt274.1 bt274.2).bind fun bt276 => ((laws_eqClient.f k bt276.1 bt276.2.1 bt276.2.2.1 bt256.1 bt256.2.1 bt256.2.2.1).bind fun t286 => (if t286 = true then ((laws_eqEmit.f bt276.2.2.2.1 bt276.2.2.2.2.1 bt276.2.2.2.2.2.1 bt256.2.2.2.1 bt256.2.2.2.2.1 bt256.2.2.2.2.2.1).bind fun t287 => (if t287 = true then (if bt276.2.2.2.2.2.2.1.toList = bt256.2.2.2.2.2.2.1.toList then (if (bt276.2.2.2.2.2.2.2 != bt256.2.2.2.2.2.2.2) = true then (some false) else ((laws_toClient.f k l0_0 a0_1 a0_2).bind fun bt288 => ((laws_eqClient.f k bt266.1 bt266.2.1 bt266.2.2 bt288.1 bt288.2.1 bt288.2.2).bind fun t293 => (if t293 = true then ((laws_markClient.f k bt266.1 bt266.2.1 bt266.2.2 1).bind fun bt294 => (if bt294.1 < 0 then (some false) else ((laws_eqClient.f k bt276.1 bt276.2.1 bt276.2.2.1 bt256.1 bt256.2.1 bt256.2.2.1).bind fun t296 => (if t296 = true then ((laws_eqEmit.f bt276.2.2.2.1 bt276.2.2.2.2.1 bt276.2.2.2.2.2.1 bt256.2.2.2.1 bt256.2.2.2.2.1 bt256.2.2.2.2.2.1).bind fun t297 => (if t297 = true then ((laws_markClient.f k bt276.1 bt276.2.1 bt276.2.2.1 1).bind fun bt298 => ((laws_heldClient.f k bt298.2 bt276.2.1 bt276.2.2.1 1).bind fun t300 => (if t300 < 0 then (some false) else (if t300 = bt298.1 then ((laws_toClient.f k l0_0 a0_1 a0_2).bind fun bt303 => ((laws_toCoverStep.f a1_0 a1_1).bind fun bt308 => ((impl_StepClient.f k bt303.1 bt303.2.1 bt303.2.2 bt308.1 bt308.2).bind fun bt310 => ((laws_eqClient.f k bt310.1 bt310.2.1 bt310.2.2.1 bt256.1 bt256.2.1 bt256.2.2.1).bind fun t320 => (if t320 = true then ((laws_eqEmit.f bt310.2.2.2.1 bt310.2.2.2.2.1 bt310.2.2.2.2.2.1 bt256.2.2.2.1 bt256.2.2.2.2.1 bt256.2.2.2.2.2.1).bind fun t321 => (if t321 = true then (if bt310.2.2.2.2.2.2.1.toList = bt256.2.2.2.2.2.2.1.toList then (if (bt310.2.2.2.2.2.2.2 != bt256.2.2.2.2.2.2.2) = true then (some false) else ((laws_heldClient.f k bt298.2 bt276.2.1 bt276.2.2.1 1).bind fun t322 => (if t322 < 0 then (some false) else (if t322 = bt298.1 then (some true) else (some false))))) else (some false)) else (some false))) else (some false)))))) else (some false))))) else (some false))) else (some false))))) else (some false))))) else (some false)) else (some false))) else (some false))))))) = some r := H
   have A20 := Aside0.mk A200
   clear A200
   replace H := oB H
   obtain ⟨⟨t256, t259, t260, t261, t262, t263, t264, t265⟩, A210, H⟩ := H
   replace H : ((laws_toClient.f k l0_0 a0_1 a0_2).bind fun bt266 => ((laws_toCoverStep.f a1_0 a1_1).bind fun bt274 => ((impl_StepClient.f k bt266.1 bt266.2.1 bt266.2.2 bt274.1 bt274.2).bind fun bt276 => ((laws_eqClient.f k bt276.1 bt276.2.1 bt276.2.2.1 t256 t259 t260).bind fun t286 => (if t286 = true then ((laws_eqEmit.f bt276.2.2.2.1 bt276.2.2.2.2.1 bt276.2.2.2.2.2.1 t261 t262 t263).bind fun t287 => (if t287 = true then (if bt276.2.2.2.2.2.2.1.toList = t264.toList then (if (bt276.2.2.2.2.2.2.2 != t265) = true then (some false) else ((laws_toClient.f k l0_0 a0_1 a0_2).bind fun bt288 => ((laws_eqClient.f k bt266.1 bt266.2.1 bt266.2.2 bt288.1 bt288.2.1 bt288.2.2).bind fun t293 => (if t293 = true then ((laws_markClient.f k bt266.1 bt266.2.1 bt266.2.2 1).bind fun bt294 => (if bt294.1 < 0 then (some false) else ((laws_eqClient.f k bt276.1 bt276.2.1 bt276.2.2.1 t256 t259 t260).bind fun t296 => (if t296 = true then ((laws_eqEmit.f bt276.2.2.2.1 bt276.2.2.2.2.1 bt276.2.2.2.2.2.1 t261 t262 t263).bind fun t297 => (if t297 = true then ((laws_markClient.f k bt276.1 bt276.2.1 bt276.2.2.1 1).bind fun bt298 => ((laws_heldClient.f k bt298.2 bt276.2.1 bt276.2.2.1 1).bind fun t300 => (if t300 < 0 then (some false) else (if t300 = bt298.1 then ((laws_toClient.f k l0_0 a0_1 a0_2).bind fun bt303 => ((laws_toCoverStep.f a1_0 a1_1).bind fun bt308 => ((impl_StepClient.f k bt303.1 bt303.2.1 bt303.2.2 bt308.1 bt308.2).bind fun bt310 => ((laws_eqClient.f k bt310.1 bt310.2.1 bt310.2.2.1 t256 t259 t260).bind fun t320 => (if t320 = true then ((laws_eqEmit.f bt310.2.2.2.1 bt310.2.2.2.2.1 bt310.2.2.2.2.2.1 t261 t262 t263).bind fun t321 => (if t321 = true then (if bt310.2.2.2.2.2.2.1.toList = t264.toList then (if (bt310.2.2.2.2.2.2.2 != t265) = true then (some false) else ((laws_heldClient.f k bt298.2 bt276.2.1 bt276.2.2.1 1).bind fun t322 => (if t322 < 0 then (some false) else (if t322 = bt298.1 then (some true) else (some false))))) else (some false)) else (some false))) else (some false)))))) else (some false))))) else (some false))) else (some false))))) else (some false))))) else (some false)) else (some false))) else (some false)))))) = some r := H
   have A21 := Aside0.mk A210
   clear A210
   replace H := oB H
   obtain ⟨⟨t266, t269, t270⟩, A220, H⟩ := H
   replace H : ((laws_toCoverStep.f a1_0 a1_1).bind fun bt274 => ((impl_StepClient.f k t266 t269 t270 bt274.1 bt274.2).bind fun bt276 => ((laws_eqClient.f k bt276.1 bt276.2.1 bt276.2.2.1 t256 t259 t260).bind fun t286 => (if t286 = true then ((laws_eqEmit.f bt276.2.2.2.1 bt276.2.2.2.2.1 bt276.2.2.2.2.2.1 t261 t262 t263).bind fun t287 => (if t287 = true then (if bt276.2.2.2.2.2.2.1.toList = t264.toList then (if (bt276.2.2.2.2.2.2.2 != t265) = true then (some false) else ((laws_toClient.f k l0_0 a0_1 a0_2).bind fun bt288 => ((laws_eqClient.f k t266 t269 t270 bt288.1 bt288.2.1 bt288.2.2).bind fun t293 => (if t293 = true then ((laws_markClient.f k t266 t269 t270 1).bind fun bt294 => (if bt294.1 < 0 then (some false) else ((laws_eqClient.f k bt276.1 bt276.2.1 bt276.2.2.1 t256 t259 t260).bind fun t296 => (if t296 = true then ((laws_eqEmit.f bt276.2.2.2.1 bt276.2.2.2.2.1 bt276.2.2.2.2.2.1 t261 t262 t263).bind fun t297 => (if t297 = true then ((laws_markClient.f k bt276.1 bt276.2.1 bt276.2.2.1 1).bind fun bt298 => ((laws_heldClient.f k bt298.2 bt276.2.1 bt276.2.2.1 1).bind fun t300 => (if t300 < 0 then (some false) else (if t300 = bt298.1 then ((laws_toClient.f k l0_0 a0_1 a0_2).bind fun bt303 => ((laws_toCoverStep.f a1_0 a1_1).bind fun bt308 => ((impl_StepClient.f k bt303.1 bt303.2.1 bt303.2.2 bt308.1 bt308.2).bind fun bt310 => ((laws_eqClient.f k bt310.1 bt310.2.1 bt310.2.2.1 t256 t259 t260).bind fun t320 => (if t320 = true then ((laws_eqEmit.f bt310.2.2.2.1 bt310.2.2.2.2.1 bt310.2.2.2.2.2.1 t261 t262 t263).bind fun t321 => (if t321 = true then (if bt310.2.2.2.2.2.2.1.toList = t264.toList then (if (bt310.2.2.2.2.2.2.2 != t265) = true then (some false) else ((laws_heldClient.f k bt298.2 bt276.2.1 bt276.2.2.1 1).bind fun t322 => (if t322 < 0 then (some false) else (if t322 = bt298.1 then (some true) else (some false))))) else (some false)) else (some false))) else (some false)))))) else (some false))))) else (some false))) else (some false))))) else (some false))))) else (some false)) else (some false))) else (some false))))) = some r := H
   have A22 := Aside0.mk A220
   clear A220
   replace H := oB H
   obtain ⟨⟨t274, t275⟩, A230, H⟩ := H
   replace H : ((impl_StepClient.f k t266 t269 t270 t274 t275).bind fun bt276 => ((laws_eqClient.f k bt276.1 bt276.2.1 bt276.2.2.1 t256 t259 t260).bind fun t286 => (if t286 = true then ((laws_eqEmit.f bt276.2.2.2.1 bt276.2.2.2.2.1 bt276.2.2.2.2.2.1 t261 t262 t263).bind fun t287 => (if t287 = true then (if bt276.2.2.2.2.2.2.1.toList = t264.toList then (if (bt276.2.2.2.2.2.2.2 != t265) = true then (some false) else ((laws_toClient.f k l0_0 a0_1 a0_2).bind fun bt288 => ((laws_eqClient.f k t266 t269 t270 bt288.1 bt288.2.1 bt288.2.2).bind fun t293 => (if t293 = true then ((laws_markClient.f k t266 t269 t270 1).bind fun bt294 => (if bt294.1 < 0 then (some false) else ((laws_eqClient.f k bt276.1 bt276.2.1 bt276.2.2.1 t256 t259 t260).bind fun t296 => (if t296 = true then ((laws_eqEmit.f bt276.2.2.2.1 bt276.2.2.2.2.1 bt276.2.2.2.2.2.1 t261 t262 t263).bind fun t297 => (if t297 = true then ((laws_markClient.f k bt276.1 bt276.2.1 bt276.2.2.1 1).bind fun bt298 => ((laws_heldClient.f k bt298.2 bt276.2.1 bt276.2.2.1 1).bind fun t300 => (if t300 < 0 then (some false) else (if t300 = bt298.1 then ((laws_toClient.f k l0_0 a0_1 a0_2).bind fun bt303 => ((laws_toCoverStep.f a1_0 a1_1).bind fun bt308 => ((impl_StepClient.f k bt303.1 bt303.2.1 bt303.2.2 bt308.1 bt308.2).bind fun bt310 => ((laws_eqClient.f k bt310.1 bt310.2.1 bt310.2.2.1 t256 t259 t260).bind fun t320 => (if t320 = true then ((laws_eqEmit.f bt310.2.2.2.1 bt310.2.2.2.2.1 bt310.2.2.2.2.2.1 t261 t262 t263).bind fun t321 => (if t321 = true then (if bt310.2.2.2.2.2.2.1.toList = t264.toList then (if (bt310.2.2.2.2.2.2.2 != t265) = true then (some false) else ((laws_heldClient.f k bt298.2 bt276.2.1 bt276.2.2.1 1).bind fun t322 => (if t322 < 0 then (some false) else (if t322 = bt298.1 then (some true) else (some false))))) else (some false)) else (some false))) else (some false)))))) else (some false))))) else (some false))) else (some false))))) else (some false))))) else (some false)) else (some false))) else (some false)))) = some r := H
   have A23 := Aside0.mk A230
   clear A230
   replace H := oB H
   obtain ⟨⟨t276, t279, t280, t281, t282, t283, t284, t285⟩, A240, H⟩ := H
   replace H : ((laws_eqClient.f k t276 t279 t280 t256 t259 t260).bind fun t286 => (if t286 = true then ((laws_eqEmit.f t281 t282 t283 t261 t262 t263).bind fun t287 => (if t287 = true then (if t284.toList = t264.toList then (if (t285 != t265) = true then (some false) else ((laws_toClient.f k l0_0 a0_1 a0_2).bind fun bt288 => ((laws_eqClient.f k t266 t269 t270 bt288.1 bt288.2.1 bt288.2.2).bind fun t293 => (if t293 = true then ((laws_markClient.f k t266 t269 t270 1).bind fun bt294 => (if bt294.1 < 0 then (some false) else ((laws_eqClient.f k t276 t279 t280 t256 t259 t260).bind fun t296 => (if t296 = true then ((laws_eqEmit.f t281 t282 t283 t261 t262 t263).bind fun t297 => (if t297 = true then ((laws_markClient.f k t276 t279 t280 1).bind fun bt298 => ((laws_heldClient.f k bt298.2 t279 t280 1).bind fun t300 => (if t300 < 0 then (some false) else (if t300 = bt298.1 then ((laws_toClient.f k l0_0 a0_1 a0_2).bind fun bt303 => ((laws_toCoverStep.f a1_0 a1_1).bind fun bt308 => ((impl_StepClient.f k bt303.1 bt303.2.1 bt303.2.2 bt308.1 bt308.2).bind fun bt310 => ((laws_eqClient.f k bt310.1 bt310.2.1 bt310.2.2.1 t256 t259 t260).bind fun t320 => (if t320 = true then ((laws_eqEmit.f bt310.2.2.2.1 bt310.2.2.2.2.1 bt310.2.2.2.2.2.1 t261 t262 t263).bind fun t321 => (if t321 = true then (if bt310.2.2.2.2.2.2.1.toList = t264.toList then (if (bt310.2.2.2.2.2.2.2 != t265) = true then (some false) else ((laws_heldClient.f k bt298.2 t279 t280 1).bind fun t322 => (if t322 < 0 then (some false) else (if t322 = bt298.1 then (some true) else (some false))))) else (some false)) else (some false))) else (some false)))))) else (some false))))) else (some false))) else (some false))))) else (some false))))) else (some false)) else (some false))) else (some false))) = some r := H
   have A24 := Aside0.mk A240
   clear A240
   replace H := oB H
   obtain ⟨t286, A250, H⟩ := H
   replace H : (if t286 = true then ((laws_eqEmit.f t281 t282 t283 t261 t262 t263).bind fun t287 => (if t287 = true then (if t284.toList = t264.toList then (if (t285 != t265) = true then (some false) else ((laws_toClient.f k l0_0 a0_1 a0_2).bind fun bt288 => ((laws_eqClient.f k t266 t269 t270 bt288.1 bt288.2.1 bt288.2.2).bind fun t293 => (if t293 = true then ((laws_markClient.f k t266 t269 t270 1).bind fun bt294 => (if bt294.1 < 0 then (some false) else ((laws_eqClient.f k t276 t279 t280 t256 t259 t260).bind fun t296 => (if t296 = true then ((laws_eqEmit.f t281 t282 t283 t261 t262 t263).bind fun t297 => (if t297 = true then ((laws_markClient.f k t276 t279 t280 1).bind fun bt298 => ((laws_heldClient.f k bt298.2 t279 t280 1).bind fun t300 => (if t300 < 0 then (some false) else (if t300 = bt298.1 then ((laws_toClient.f k l0_0 a0_1 a0_2).bind fun bt303 => ((laws_toCoverStep.f a1_0 a1_1).bind fun bt308 => ((impl_StepClient.f k bt303.1 bt303.2.1 bt303.2.2 bt308.1 bt308.2).bind fun bt310 => ((laws_eqClient.f k bt310.1 bt310.2.1 bt310.2.2.1 t256 t259 t260).bind fun t320 => (if t320 = true then ((laws_eqEmit.f bt310.2.2.2.1 bt310.2.2.2.2.1 bt310.2.2.2.2.2.1 t261 t262 t263).bind fun t321 => (if t321 = true then (if bt310.2.2.2.2.2.2.1.toList = t264.toList then (if (bt310.2.2.2.2.2.2.2 != t265) = true then (some false) else ((laws_heldClient.f k bt298.2 t279 t280 1).bind fun t322 => (if t322 < 0 then (some false) else (if t322 = bt298.1 then (some true) else (some false))))) else (some false)) else (some false))) else (some false)))))) else (some false))))) else (some false))) else (some false))))) else (some false))))) else (some false)) else (some false))) else (some false)) = some r := H
   have A25 := Aside0.mk A250
   clear A250
   by_cases c26 : t286 = true
   ·subst c26
    have H1 : ((laws_eqEmit.f t281 t282 t283 t261 t262 t263).bind fun t287 => (if t287 = true then (if t284.toList = t264.toList then (if (t285 != t265) = true then (some false) else ((laws_toClient.f k l0_0 a0_1 a0_2).bind fun bt288 => ((laws_eqClient.f k t266 t269 t270 bt288.1 bt288.2.1 bt288.2.2).bind fun t293 => (if t293 = true then ((laws_markClient.f k t266 t269 t270 1).bind fun bt294 => (if bt294.1 < 0 then (some false) else ((laws_eqClient.f k t276 t279 t280 t256 t259 t260).bind fun t296 => (if t296 = true then ((laws_eqEmit.f t281 t282 t283 t261 t262 t263).bind fun t297 => (if t297 = true then ((laws_markClient.f k t276 t279 t280 1).bind fun bt298 => ((laws_heldClient.f k bt298.2 t279 t280 1).bind fun t300 => (if t300 < 0 then (some false) else (if t300 = bt298.1 then ((laws_toClient.f k l0_0 a0_1 a0_2).bind fun bt303 => ((laws_toCoverStep.f a1_0 a1_1).bind fun bt308 => ((impl_StepClient.f k bt303.1 bt303.2.1 bt303.2.2 bt308.1 bt308.2).bind fun bt310 => ((laws_eqClient.f k bt310.1 bt310.2.1 bt310.2.2.1 t256 t259 t260).bind fun t320 => (if t320 = true then ((laws_eqEmit.f bt310.2.2.2.1 bt310.2.2.2.2.1 bt310.2.2.2.2.2.1 t261 t262 t263).bind fun t321 => (if t321 = true then (if bt310.2.2.2.2.2.2.1.toList = t264.toList then (if (bt310.2.2.2.2.2.2.2 != t265) = true then (some false) else ((laws_heldClient.f k bt298.2 t279 t280 1).bind fun t322 => (if t322 < 0 then (some false) else (if t322 = bt298.1 then (some true) else (some false))))) else (some false)) else (some false))) else (some false)))))) else (some false))))) else (some false))) else (some false))))) else (some false))))) else (some false)) else (some false))) = some r := by rw [if_pos rfl] at H; exact H
    clear H
    have H := H1
    clear H1
    replace H := oB H
    obtain ⟨t287, A270, H⟩ := H
    replace H : (if t287 = true then (if t284.toList = t264.toList then (if (t285 != t265) = true then (some false) else ((laws_toClient.f k l0_0 a0_1 a0_2).bind fun bt288 => ((laws_eqClient.f k t266 t269 t270 bt288.1 bt288.2.1 bt288.2.2).bind fun t293 => (if t293 = true then ((laws_markClient.f k t266 t269 t270 1).bind fun bt294 => (if bt294.1 < 0 then (some false) else ((laws_eqClient.f k t276 t279 t280 t256 t259 t260).bind fun t296 => (if t296 = true then ((laws_eqEmit.f t281 t282 t283 t261 t262 t263).bind fun t297 => (if t297 = true then ((laws_markClient.f k t276 t279 t280 1).bind fun bt298 => ((laws_heldClient.f k bt298.2 t279 t280 1).bind fun t300 => (if t300 < 0 then (some false) else (if t300 = bt298.1 then ((laws_toClient.f k l0_0 a0_1 a0_2).bind fun bt303 => ((laws_toCoverStep.f a1_0 a1_1).bind fun bt308 => ((impl_StepClient.f k bt303.1 bt303.2.1 bt303.2.2 bt308.1 bt308.2).bind fun bt310 => ((laws_eqClient.f k bt310.1 bt310.2.1 bt310.2.2.1 t256 t259 t260).bind fun t320 => (if t320 = true then ((laws_eqEmit.f bt310.2.2.2.1 bt310.2.2.2.2.1 bt310.2.2.2.2.2.1 t261 t262 t263).bind fun t321 => (if t321 = true then (if bt310.2.2.2.2.2.2.1.toList = t264.toList then (if (bt310.2.2.2.2.2.2.2 != t265) = true then (some false) else ((laws_heldClient.f k bt298.2 t279 t280 1).bind fun t322 => (if t322 < 0 then (some false) else (if t322 = bt298.1 then (some true) else (some false))))) else (some false)) else (some false))) else (some false)))))) else (some false))))) else (some false))) else (some false))))) else (some false))))) else (some false)) else (some false)) = some r := H
    have A27 := Aside0.mk A270
    clear A270
    by_cases c28 : t287 = true
    ·subst c28
     have H1 : (if t284.toList = t264.toList then (if (t285 != t265) = true then (some false) else ((laws_toClient.f k l0_0 a0_1 a0_2).bind fun bt288 => ((laws_eqClient.f k t266 t269 t270 bt288.1 bt288.2.1 bt288.2.2).bind fun t293 => (if t293 = true then ((laws_markClient.f k t266 t269 t270 1).bind fun bt294 => (if bt294.1 < 0 then (some false) else ((laws_eqClient.f k t276 t279 t280 t256 t259 t260).bind fun t296 => (if t296 = true then ((laws_eqEmit.f t281 t282 t283 t261 t262 t263).bind fun t297 => (if t297 = true then ((laws_markClient.f k t276 t279 t280 1).bind fun bt298 => ((laws_heldClient.f k bt298.2 t279 t280 1).bind fun t300 => (if t300 < 0 then (some false) else (if t300 = bt298.1 then ((laws_toClient.f k l0_0 a0_1 a0_2).bind fun bt303 => ((laws_toCoverStep.f a1_0 a1_1).bind fun bt308 => ((impl_StepClient.f k bt303.1 bt303.2.1 bt303.2.2 bt308.1 bt308.2).bind fun bt310 => ((laws_eqClient.f k bt310.1 bt310.2.1 bt310.2.2.1 t256 t259 t260).bind fun t320 => (if t320 = true then ((laws_eqEmit.f bt310.2.2.2.1 bt310.2.2.2.2.1 bt310.2.2.2.2.2.1 t261 t262 t263).bind fun t321 => (if t321 = true then (if bt310.2.2.2.2.2.2.1.toList = t264.toList then (if (bt310.2.2.2.2.2.2.2 != t265) = true then (some false) else ((laws_heldClient.f k bt298.2 t279 t280 1).bind fun t322 => (if t322 < 0 then (some false) else (if t322 = bt298.1 then (some true) else (some false))))) else (some false)) else (some false))) else (some false)))))) else (some false))))) else (some false))) else (some false))))) else (some false))))) else (some false)) = some r := by rw [if_pos rfl] at H; exact H
     clear H
     have H := H1
     clear H1
     by_cases c29 : t284.toList = t264.toList
     ·rw [if_pos c29] at H
      have c29b0 : (t284.toList == t264.toList) = true := beq_iff_eq.mpr c29
      have c29b1 : (t284.toList != t264.toList) = false := bne_eq_false_iff_eq.mpr c29
      clear c29
      by_cases c30 : (t285 != t265) = true
      ·rw [if_pos c30] at H
       have c30b0 : (t285 != t265) = true := c30
       (try (have c30b1 : decide (t285 = t265) = false := by simpa using c30))
       (try (have c30b2 : (t285 == t265) = false := by simpa using c30))
       (try (have c30b3 : ¬ (t285 = t265) := by simpa using c30))
       clear c30
       obtain rfl := Option.some.inj H
       exact absurd hr_.out (by simp)
      ·rw [if_neg c30] at H
       have c30b0 : (t285 != t265) = false := by simpa using c30
       (try (have c30b1 : decide (t285 = t265) = true := by simpa using c30))
       (try (have c30b2 : (t285 == t265) = true := by simpa using c30))
       clear c30
       replace H := oB H
       obtain ⟨⟨t288, t291, t292⟩, A310, H⟩ := H
       replace H : ((laws_eqClient.f k t266 t269 t270 t288 t291 t292).bind fun t293 => (if t293 = true then ((laws_markClient.f k t266 t269 t270 1).bind fun bt294 => (if bt294.1 < 0 then (some false) else ((laws_eqClient.f k t276 t279 t280 t256 t259 t260).bind fun t296 => (if t296 = true then ((laws_eqEmit.f t281 t282 t283 t261 t262 t263).bind fun t297 => (if t297 = true then ((laws_markClient.f k t276 t279 t280 1).bind fun bt298 => ((laws_heldClient.f k bt298.2 t279 t280 1).bind fun t300 => (if t300 < 0 then (some false) else (if t300 = bt298.1 then ((laws_toClient.f k l0_0 a0_1 a0_2).bind fun bt303 => ((laws_toCoverStep.f a1_0 a1_1).bind fun bt308 => ((impl_StepClient.f k bt303.1 bt303.2.1 bt303.2.2 bt308.1 bt308.2).bind fun bt310 => ((laws_eqClient.f k bt310.1 bt310.2.1 bt310.2.2.1 t256 t259 t260).bind fun t320 => (if t320 = true then ((laws_eqEmit.f bt310.2.2.2.1 bt310.2.2.2.2.1 bt310.2.2.2.2.2.1 t261 t262 t263).bind fun t321 => (if t321 = true then (if bt310.2.2.2.2.2.2.1.toList = t264.toList then (if (bt310.2.2.2.2.2.2.2 != t265) = true then (some false) else ((laws_heldClient.f k bt298.2 t279 t280 1).bind fun t322 => (if t322 < 0 then (some false) else (if t322 = bt298.1 then (some true) else (some false))))) else (some false)) else (some false))) else (some false)))))) else (some false))))) else (some false))) else (some false))))) else (some false))) = some r := H
       have A31 := Aside0.mk A310
       clear A310
       replace H := oB H
       obtain ⟨t293, A320, H⟩ := H
       replace H : (if t293 = true then ((laws_markClient.f k t266 t269 t270 1).bind fun bt294 => (if bt294.1 < 0 then (some false) else ((laws_eqClient.f k t276 t279 t280 t256 t259 t260).bind fun t296 => (if t296 = true then ((laws_eqEmit.f t281 t282 t283 t261 t262 t263).bind fun t297 => (if t297 = true then ((laws_markClient.f k t276 t279 t280 1).bind fun bt298 => ((laws_heldClient.f k bt298.2 t279 t280 1).bind fun t300 => (if t300 < 0 then (some false) else (if t300 = bt298.1 then ((laws_toClient.f k l0_0 a0_1 a0_2).bind fun bt303 => ((laws_toCoverStep.f a1_0 a1_1).bind fun bt308 => ((impl_StepClient.f k bt303.1 bt303.2.1 bt303.2.2 bt308.1 bt308.2).bind fun bt310 => ((laws_eqClient.f k bt310.1 bt310.2.1 bt310.2.2.1 t256 t259 t260).bind fun t320 => (if t320 = true then ((laws_eqEmit.f bt310.2.2.2.1 bt310.2.2.2.2.1 bt310.2.2.2.2.2.1 t261 t262 t263).bind fun t321 => (if t321 = true then (if bt310.2.2.2.2.2.2.1.toList = t264.toList then (if (bt310.2.2.2.2.2.2.2 != t265) = true then (some false) else ((laws_heldClient.f k bt298.2 t279 t280 1).bind fun t322 => (if t322 < 0 then (some false) else (if t322 = bt298.1 then (some true) else (some false))))) else (some false)) else (some false))) else (some false)))))) else (some false))))) else (some false))) else (some false))))) else (some false)) = some r := H
       have A32 := Aside0.mk A320
       clear A320
       by_cases c33 : t293 = true
       ·subst c33
        have H1 : ((laws_markClient.f k t266 t269 t270 1).bind fun bt294 => (if bt294.1 < 0 then (some false) else ((laws_eqClient.f k t276 t279 t280 t256 t259 t260).bind fun t296 => (if t296 = true then ((laws_eqEmit.f t281 t282 t283 t261 t262 t263).bind fun t297 => (if t297 = true then ((laws_markClient.f k t276 t279 t280 1).bind fun bt298 => ((laws_heldClient.f k bt298.2 t279 t280 1).bind fun t300 => (if t300 < 0 then (some false) else (if t300 = bt298.1 then ((laws_toClient.f k l0_0 a0_1 a0_2).bind fun bt303 => ((laws_toCoverStep.f a1_0 a1_1).bind fun bt308 => ((impl_StepClient.f k bt303.1 bt303.2.1 bt303.2.2 bt308.1 bt308.2).bind fun bt310 => ((laws_eqClient.f k bt310.1 bt310.2.1 bt310.2.2.1 t256 t259 t260).bind fun t320 => (if t320 = true then ((laws_eqEmit.f bt310.2.2.2.1 bt310.2.2.2.2.1 bt310.2.2.2.2.2.1 t261 t262 t263).bind fun t321 => (if t321 = true then (if bt310.2.2.2.2.2.2.1.toList = t264.toList then (if (bt310.2.2.2.2.2.2.2 != t265) = true then (some false) else ((laws_heldClient.f k bt298.2 t279 t280 1).bind fun t322 => (if t322 < 0 then (some false) else (if t322 = bt298.1 then (some true) else (some false))))) else (some false)) else (some false))) else (some false)))))) else (some false))))) else (some false))) else (some false))))) = some r := by rw [if_pos rfl] at H; exact H
        clear H
        have H := H1
        clear H1
        replace H := oB H
        obtain ⟨⟨t294, t295⟩, A340, H⟩ := H
        replace H : (if t294 < 0 then (some false) else ((laws_eqClient.f k t276 t279 t280 t256 t259 t260).bind fun t296 => (if t296 = true then ((laws_eqEmit.f t281 t282 t283 t261 t262 t263).bind fun t297 => (if t297 = true then ((laws_markClient.f k t276 t279 t280 1).bind fun bt298 => ((laws_heldClient.f k bt298.2 t279 t280 1).bind fun t300 => (if t300 < 0 then (some false) else (if t300 = bt298.1 then ((laws_toClient.f k l0_0 a0_1 a0_2).bind fun bt303 => ((laws_toCoverStep.f a1_0 a1_1).bind fun bt308 => ((impl_StepClient.f k bt303.1 bt303.2.1 bt303.2.2 bt308.1 bt308.2).bind fun bt310 => ((laws_eqClient.f k bt310.1 bt310.2.1 bt310.2.2.1 t256 t259 t260).bind fun t320 => (if t320 = true then ((laws_eqEmit.f bt310.2.2.2.1 bt310.2.2.2.2.1 bt310.2.2.2.2.2.1 t261 t262 t263).bind fun t321 => (if t321 = true then (if bt310.2.2.2.2.2.2.1.toList = t264.toList then (if (bt310.2.2.2.2.2.2.2 != t265) = true then (some false) else ((laws_heldClient.f k bt298.2 t279 t280 1).bind fun t322 => (if t322 < 0 then (some false) else (if t322 = bt298.1 then (some true) else (some false))))) else (some false)) else (some false))) else (some false)))))) else (some false))))) else (some false))) else (some false)))) = some r := H
        have A34 := Aside0.mk A340
        clear A340
        by_cases c35 : t294 < 0
        ·rw [if_pos c35] at H
         have c35b0 : decide (t294 < 0) = true := decide_eq_true c35
         clear c35
         obtain rfl := Option.some.inj H
         exact absurd hr_.out (by simp)
        ·rw [if_neg c35] at H
         have c35b0 : decide (t294 < 0) = false := decide_eq_false c35
         clear c35
         replace H := oB H
         obtain ⟨t296, A360, H⟩ := H
         replace H : (if t296 = true then ((laws_eqEmit.f t281 t282 t283 t261 t262 t263).bind fun t297 => (if t297 = true then ((laws_markClient.f k t276 t279 t280 1).bind fun bt298 => ((laws_heldClient.f k bt298.2 t279 t280 1).bind fun t300 => (if t300 < 0 then (some false) else (if t300 = bt298.1 then ((laws_toClient.f k l0_0 a0_1 a0_2).bind fun bt303 => ((laws_toCoverStep.f a1_0 a1_1).bind fun bt308 => ((impl_StepClient.f k bt303.1 bt303.2.1 bt303.2.2 bt308.1 bt308.2).bind fun bt310 => ((laws_eqClient.f k bt310.1 bt310.2.1 bt310.2.2.1 t256 t259 t260).bind fun t320 => (if t320 = true then ((laws_eqEmit.f bt310.2.2.2.1 bt310.2.2.2.2.1 bt310.2.2.2.2.2.1 t261 t262 t263).bind fun t321 => (if t321 = true then (if bt310.2.2.2.2.2.2.1.toList = t264.toList then (if (bt310.2.2.2.2.2.2.2 != t265) = true then (some false) else ((laws_heldClient.f k bt298.2 t279 t280 1).bind fun t322 => (if t322 < 0 then (some false) else (if t322 = bt298.1 then (some true) else (some false))))) else (some false)) else (some false))) else (some false)))))) else (some false))))) else (some false))) else (some false)) = some r := H
         have A36 := Aside0.mk A360
         clear A360
         by_cases c37 : t296 = true
         ·subst c37
          have H1 : ((laws_eqEmit.f t281 t282 t283 t261 t262 t263).bind fun t297 => (if t297 = true then ((laws_markClient.f k t276 t279 t280 1).bind fun bt298 => ((laws_heldClient.f k bt298.2 t279 t280 1).bind fun t300 => (if t300 < 0 then (some false) else (if t300 = bt298.1 then ((laws_toClient.f k l0_0 a0_1 a0_2).bind fun bt303 => ((laws_toCoverStep.f a1_0 a1_1).bind fun bt308 => ((impl_StepClient.f k bt303.1 bt303.2.1 bt303.2.2 bt308.1 bt308.2).bind fun bt310 => ((laws_eqClient.f k bt310.1 bt310.2.1 bt310.2.2.1 t256 t259 t260).bind fun t320 => (if t320 = true then ((laws_eqEmit.f bt310.2.2.2.1 bt310.2.2.2.2.1 bt310.2.2.2.2.2.1 t261 t262 t263).bind fun t321 => (if t321 = true then (if bt310.2.2.2.2.2.2.1.toList = t264.toList then (if (bt310.2.2.2.2.2.2.2 != t265) = true then (some false) else ((laws_heldClient.f k bt298.2 t279 t280 1).bind fun t322 => (if t322 < 0 then (some false) else (if t322 = bt298.1 then (some true) else (some false))))) else (some false)) else (some false))) else (some false)))))) else (some false))))) else (some false))) = some r := by rw [if_pos rfl] at H; exact H
          clear H
          have H := H1
          clear H1
          replace H := oB H
          obtain ⟨t297, A380, H⟩ := H
          replace H : (if t297 = true then ((laws_markClient.f k t276 t279 t280 1).bind fun bt298 => ((laws_heldClient.f k bt298.2 t279 t280 1).bind fun t300 => (if t300 < 0 then (some false) else (if t300 = bt298.1 then ((laws_toClient.f k l0_0 a0_1 a0_2).bind fun bt303 => ((laws_toCoverStep.f a1_0 a1_1).bind fun bt308 => ((impl_StepClient.f k bt303.1 bt303.2.1 bt303.2.2 bt308.1 bt308.2).bind fun bt310 => ((laws_eqClient.f k bt310.1 bt310.2.1 bt310.2.2.1 t256 t259 t260).bind fun t320 => (if t320 = true then ((laws_eqEmit.f bt310.2.2.2.1 bt310.2.2.2.2.1 bt310.2.2.2.2.2.1 t261 t262 t263).bind fun t321 => (if t321 = true then (if bt310.2.2.2.2.2.2.1.toList = t264.toList then (if (bt310.2.2.2.2.2.2.2 != t265) = true then (some false) else ((laws_heldClient.f k bt298.2 t279 t280 1).bind fun t322 => (if t322 < 0 then (some false) else (if t322 = bt298.1 then (some true) else (some false))))) else (some false)) else (some false))) else (some false)))))) else (some false))))) else (some false)) = some r := H
          have A38 := Aside0.mk A380
          clear A380
          by_cases c39 : t297 = true
          ·subst c39
           have H1 : ((laws_markClient.f k t276 t279 t280 1).bind fun bt298 => ((laws_heldClient.f k bt298.2 t279 t280 1).bind fun t300 => (if t300 < 0 then (some false) else (if t300 = bt298.1 then ((laws_toClient.f k l0_0 a0_1 a0_2).bind fun bt303 => ((laws_toCoverStep.f a1_0 a1_1).bind fun bt308 => ((impl_StepClient.f k bt303.1 bt303.2.1 bt303.2.2 bt308.1 bt308.2).bind fun bt310 => ((laws_eqClient.f k bt310.1 bt310.2.1 bt310.2.2.1 t256 t259 t260).bind fun t320 => (if t320 = true then ((laws_eqEmit.f bt310.2.2.2.1 bt310.2.2.2.2.1 bt310.2.2.2.2.2.1 t261 t262 t263).bind fun t321 => (if t321 = true then (if bt310.2.2.2.2.2.2.1.toList = t264.toList then (if (bt310.2.2.2.2.2.2.2 != t265) = true then (some false) else ((laws_heldClient.f k bt298.2 t279 t280 1).bind fun t322 => (if t322 < 0 then (some false) else (if t322 = bt298.1 then (some true) else (some false))))) else (some false)) else (some false))) else (some false)))))) else (some false))))) = some r := by rw [if_pos rfl] at H; exact H
           clear H
           have H := H1
           clear H1
           replace H := oB H
           obtain ⟨⟨t298, t299⟩, A400, H⟩ := H
           replace H : ((laws_heldClient.f k t299 t279 t280 1).bind fun t300 => (if t300 < 0 then (some false) else (if t300 = t298 then ((laws_toClient.f k l0_0 a0_1 a0_2).bind fun bt303 => ((laws_toCoverStep.f a1_0 a1_1).bind fun bt308 => ((impl_StepClient.f k bt303.1 bt303.2.1 bt303.2.2 bt308.1 bt308.2).bind fun bt310 => ((laws_eqClient.f k bt310.1 bt310.2.1 bt310.2.2.1 t256 t259 t260).bind fun t320 => (if t320 = true then ((laws_eqEmit.f bt310.2.2.2.1 bt310.2.2.2.2.1 bt310.2.2.2.2.2.1 t261 t262 t263).bind fun t321 => (if t321 = true then (if bt310.2.2.2.2.2.2.1.toList = t264.toList then (if (bt310.2.2.2.2.2.2.2 != t265) = true then (some false) else ((laws_heldClient.f k t299 t279 t280 1).bind fun t322 => (if t322 < 0 then (some false) else (if t322 = t298 then (some true) else (some false))))) else (some false)) else (some false))) else (some false)))))) else (some false)))) = some r := H
           have A40 := Aside0.mk A400
           clear A400
           replace H := oB H
           obtain ⟨t300, A410, H⟩ := H
           replace H : (if t300 < 0 then (some false) else (if t300 = t298 then ((laws_toClient.f k l0_0 a0_1 a0_2).bind fun bt303 => ((laws_toCoverStep.f a1_0 a1_1).bind fun bt308 => ((impl_StepClient.f k bt303.1 bt303.2.1 bt303.2.2 bt308.1 bt308.2).bind fun bt310 => ((laws_eqClient.f k bt310.1 bt310.2.1 bt310.2.2.1 t256 t259 t260).bind fun t320 => (if t320 = true then ((laws_eqEmit.f bt310.2.2.2.1 bt310.2.2.2.2.1 bt310.2.2.2.2.2.1 t261 t262 t263).bind fun t321 => (if t321 = true then (if bt310.2.2.2.2.2.2.1.toList = t264.toList then (if (bt310.2.2.2.2.2.2.2 != t265) = true then (some false) else ((laws_heldClient.f k t299 t279 t280 1).bind fun t322 => (if t322 < 0 then (some false) else (if t322 = t298 then (some true) else (some false))))) else (some false)) else (some false))) else (some false)))))) else (some false))) = some r := H
           have A41 := Aside0.mk A410
           clear A410
           by_cases c42 : t300 < 0
           ·rw [if_pos c42] at H
            have c42b0 : decide (t300 < 0) = true := decide_eq_true c42
            clear c42
            obtain rfl := Option.some.inj H
            exact absurd hr_.out (by simp)
           ·rw [if_neg c42] at H
            have c42b0 : decide (t300 < 0) = false := decide_eq_false c42
            clear c42
            by_cases c43 : t300 = t298
            ·rw [if_pos c43] at H
             have c43b0 : (t300 == t298) = true := beq_iff_eq.mpr c43
             have c43b1 : (t300 != t298) = false := bne_eq_false_iff_eq.mpr c43
             clear c43
             replace H := oB H
             obtain ⟨⟨t303, t306, t307⟩, A440, H⟩ := H
             replace H : ((laws_toCoverStep.f a1_0 a1_1).bind fun bt308 => ((impl_StepClient.f k t303 t306 t307 bt308.1 bt308.2).bind fun bt310 => ((laws_eqClient.f k bt310.1 bt310.2.1 bt310.2.2.1 t256 t259 t260).bind fun t320 => (if t320 = true then ((laws_eqEmit.f bt310.2.2.2.1 bt310.2.2.2.2.1 bt310.2.2.2.2.2.1 t261 t262 t263).bind fun t321 => (if t321 = true then (if bt310.2.2.2.2.2.2.1.toList = t264.toList then (if (bt310.2.2.2.2.2.2.2 != t265) = true then (some false) else ((laws_heldClient.f k t299 t279 t280 1).bind fun t322 => (if t322 < 0 then (some false) else (if t322 = t298 then (some true) else (some false))))) else (some false)) else (some false))) else (some false))))) = some r := H
             have A44 := Aside0.mk A440
             clear A440
             replace H := oB H
             obtain ⟨⟨t308, t309⟩, A450, H⟩ := H
             replace H : ((impl_StepClient.f k t303 t306 t307 t308 t309).bind fun bt310 => ((laws_eqClient.f k bt310.1 bt310.2.1 bt310.2.2.1 t256 t259 t260).bind fun t320 => (if t320 = true then ((laws_eqEmit.f bt310.2.2.2.1 bt310.2.2.2.2.1 bt310.2.2.2.2.2.1 t261 t262 t263).bind fun t321 => (if t321 = true then (if bt310.2.2.2.2.2.2.1.toList = t264.toList then (if (bt310.2.2.2.2.2.2.2 != t265) = true then (some false) else ((laws_heldClient.f k t299 t279 t280 1).bind fun t322 => (if t322 < 0 then (some false) else (if t322 = t298 then (some true) else (some false))))) else (some false)) else (some false))) else (some false)))) = some r := H
             have A45 := Aside0.mk A450
             clear A450
             replace H := oB H
             obtain ⟨⟨t310, t313, t314, t315, t316, t317, t318, t319⟩, A460, H⟩ := H
             replace H : ((laws_eqClient.f k t310 t313 t314 t256 t259 t260).bind fun t320 => (if t320 = true then ((laws_eqEmit.f t315 t316 t317 t261 t262 t263).bind fun t321 => (if t321 = true then (if t318.toList = t264.toList then (if (t319 != t265) = true then (some false) else ((laws_heldClient.f k t299 t279 t280 1).bind fun t322 => (if t322 < 0 then (some false) else (if t322 = t298 then (some true) else (some false))))) else (some false)) else (some false))) else (some false))) = some r := H
             have A46 := Aside0.mk A460
             clear A460
             replace H := oB H
             obtain ⟨t320, A470, H⟩ := H
             replace H : (if t320 = true then ((laws_eqEmit.f t315 t316 t317 t261 t262 t263).bind fun t321 => (if t321 = true then (if t318.toList = t264.toList then (if (t319 != t265) = true then (some false) else ((laws_heldClient.f k t299 t279 t280 1).bind fun t322 => (if t322 < 0 then (some false) else (if t322 = t298 then (some true) else (some false))))) else (some false)) else (some false))) else (some false)) = some r := H
             have A47 := Aside0.mk A470
             clear A470
             by_cases c48 : t320 = true
             ·subst c48
              have H1 : ((laws_eqEmit.f t315 t316 t317 t261 t262 t263).bind fun t321 => (if t321 = true then (if t318.toList = t264.toList then (if (t319 != t265) = true then (some false) else ((laws_heldClient.f k t299 t279 t280 1).bind fun t322 => (if t322 < 0 then (some false) else (if t322 = t298 then (some true) else (some false))))) else (some false)) else (some false))) = some r := by rw [if_pos rfl] at H; exact H
              clear H
              have H := H1
              clear H1
              replace H := oB H
              obtain ⟨t321, A490, H⟩ := H
              replace H : (if t321 = true then (if t318.toList = t264.toList then (if (t319 != t265) = true then (some false) else ((laws_heldClient.f k t299 t279 t280 1).bind fun t322 => (if t322 < 0 then (some false) else (if t322 = t298 then (some true) else (some false))))) else (some false)) else (some false)) = some r := H
              have A49 := Aside0.mk A490
              clear A490
              by_cases c50 : t321 = true
              ·subst c50
               have H1 : (if t318.toList = t264.toList then (if (t319 != t265) = true then (some false) else ((laws_heldClient.f k t299 t279 t280 1).bind fun t322 => (if t322 < 0 then (some false) else (if t322 = t298 then (some true) else (some false))))) else (some false)) = some r := by rw [if_pos rfl] at H; exact H
               clear H
               have H := H1
               clear H1
               by_cases c51 : t318.toList = t264.toList
               ·rw [if_pos c51] at H
                have c51b0 : (t318.toList == t264.toList) = true := beq_iff_eq.mpr c51
                have c51b1 : (t318.toList != t264.toList) = false := bne_eq_false_iff_eq.mpr c51
                clear c51
                by_cases c52 : (t319 != t265) = true
                ·rw [if_pos c52] at H
                 have c52b0 : (t319 != t265) = true := c52
                 (try (have c52b1 : decide (t319 = t265) = false := by simpa using c52))
                 (try (have c52b2 : (t319 == t265) = false := by simpa using c52))
                 (try (have c52b3 : ¬ (t319 = t265) := by simpa using c52))
                 clear c52
                 obtain rfl := Option.some.inj H
                 exact absurd hr_.out (by simp)
                ·rw [if_neg c52] at H
                 have c52b0 : (t319 != t265) = false := by simpa using c52
                 (try (have c52b1 : decide (t319 = t265) = true := by simpa using c52))
                 (try (have c52b2 : (t319 == t265) = true := by simpa using c52))
                 clear c52
                 replace H := oB H
                 obtain ⟨t322, A530, H⟩ := H
                 replace H : (if t322 < 0 then (some false) else (if t322 = t298 then (some true) else (some false))) = some r := H
                 have A53 := Aside0.mk A530
                 clear A530
                 by_cases c54 : t322 < 0
                 ·rw [if_pos c54] at H
                  have c54b0 : decide (t322 < 0) = true := decide_eq_true c54
                  clear c54
                  obtain rfl := Option.some.inj H
                  exact absurd hr_.out (by simp)
                 ·rw [if_neg c54] at H
                  have c54b0 : decide (t322 < 0) = false := decide_eq_false c54
                  clear c54
                  by_cases c55 : t322 = t298
                  ·rw [if_pos c55] at H
                   have c55b0 : (t322 == t298) = true := beq_iff_eq.mpr c55
                   have c55b1 : (t322 != t298) = false := bne_eq_false_iff_eq.mpr c55
                   clear c55
                   obtain rfl := Option.some.inj H
                   simp only [Option.some.injEq, Prod.mk.injEq] at H
                   obtain ⟨rfl⟩ := H
                   go_enter Try.func3, Try.ntmps3
                   try go_wp2_with (first | ((with_reducible refine gate_dst (N := 2) rfl ?_); refine box_event ?hg (N := 2) ?hd (cs := #[.slice A0_0 l0_0.length c0_0, .int .i64 a0_1, .int .i64 a0_2]) (t := 24) ?hr ?_; (case hd => rfl); (case hg => rfl); (case hr => first | (go_simp; done) | (go_simp; rfl)); intro gb243 hg w56 hbox hb; have n0_ := Aside0.mk (below_step (by repeat (first | (with_reducible first | exact HB.out | apply bA | apply bN | apply bD) | exact HB.out)) hb); have n1_ := Aside0.mk (hbox); have n2_ := Aside0.mk ((by rw [hg]; exact (below_size (by repeat (first | (with_reducible first | exact HB.out | apply bA | apply bN | apply bD) | exact HB.out))) : w.heap.size ≤ gb243)); have n3_ := Aside0.mk ((by rw [hg]; exact (below_size (by repeat (first | (with_reducible first | exact HB.out | apply bA | apply bN | apply bD) | exact HB.out))) : w.heap.size ≤ gb243)); clear HB; have HB := n0_; have BK243 := n1_; have GW243 := n2_; have GE243 := n3_; clear n0_ n1_ n2_ n3_; clear hb hbox hg) | ((with_reducible refine gate_dst (N := 3) rfl ?_); refine box_event ?hg (N := 3) ?hd (cs := #[.int .i64 a1_0, .string a1_1]) (t := 26) ?hr ?_; (case hd => rfl); (case hg => rfl); (case hr => first | (go_simp; done) | (go_simp; rfl)); intro gb244 hg w57 hbox hb; have n0_ := Aside0.mk (blk_below (g := gb243) (o := .cells #[.slice A0_0 l0_0.length c0_0, .int .i64 a0_1, .int .i64 a0_2] 24 (0, 0)) (by (with_reducible repeat (first | refine lN ?_ _ | refine lD ?_ | refine lA ?_ _)); exact BK243.out) hb); have n1_ := Aside0.mk (below_step (by repeat (first | (with_reducible first | exact HB.out | apply bA | apply bN | apply bD | refine bS ?_ GE243.out) | exact HB.out)) hb); have n2_ := Aside0.mk (hbox); have n3_ := Aside0.mk ((by rw [hg]; exact (below_size (by repeat (first | (with_reducible first | exact HB.out | apply bA | apply bN | apply bD | refine bS ?_ GE243.out) | exact HB.out))) : w.heap.size ≤ gb244)); have n4_ := Aside0.mk ((by rw [hg]; exact (below_size (by repeat (first | (with_reducible first | exact HB.out | apply bA | apply bN | apply bD | refine bS ?_ GE243.out) | exact HB.out))) : w.heap.size ≤ gb244)); have n5_ := Aside0.mk ((by rw [hg]; exact Nat.ne_of_lt (blk_lt (g := gb243) (o := .cells #[.slice A0_0 l0_0.length c0_0, .int .i64 a0_1, .int .i64 a0_2] 24 (0, 0)) (by (with_reducible repeat (first | refine lN ?_ _ | refine lD ?_ | refine lA ?_ _)); exact BK243.out)) : gb243 ≠ gb244)); have n6_ := Aside0.mk ((by rw [hg]; exact Nat.ne_of_gt (blk_lt (g := gb243) (o := .cells #[.slice A0_0 l0_0.length c0_0, .int .i64 a0_1, .int .i64 a0_2] 24 (0, 0)) (by (with_reducible repeat (first | refine lN ?_ _ | refine lD ?_ | refine lA ?_ _)); exact BK243.out)) : gb244 ≠ gb243)); clear BK243; clear HB; have BK243 := n0_; have HB := n1_; have BK244 := n2_; have GW244 := n3_; have GE244 := n4_; have NB243_244 := n5_; have NB244_243 := n6_; clear n0_ n1_ n2_ n3_ n4_ n5_ n6_; clear hb hbox hg; have hnb58 := NB243_244.out; have hnc58 := NB244_243.out; have hcz59_0 : w57.cell? ⟨gb243, 0, none⟩ = some (.slice A0_0 l0_0.length c0_0) := (lC BK243.out 0).trans rfl; have hcz59_1 : w57.cell? ⟨gb243, 1, none⟩ = some (.int .i64 a0_1) := (lC BK243.out 1).trans rfl; have hcz59_2 : w57.cell? ⟨gb243, 2, none⟩ = some (.int .i64 a0_2) := (lC BK243.out 2).trans rfl; have hfz59_0 := lF BK243.out 0; have hfz59_1 := lF BK243.out 1; have hfz59_2 := lF BK243.out 2) | ((with_reducible refine gate_callee (f := 5) rfl ?_); refine goesL_ (some 24) rfl rfl Try.func5 (by kernel_rfl) rfl #[.agg #[.slice A0_0 l0_0.length c0_0, .int .i64 a0_1, .int .i64 a0_2], .int .i64 1048576] rfl (by (try simp only [List.map_toArray, List.map_cons, List.map_nil]); first | done | rfl | (simp only [List.length_drop, List.length_take]; rfl)) ?_; (with_reducible refine (laws_szClient.calls k _ _ l0_0 a0_1 a0_2 1048576 t245 _ ?side1 ?side2 A3.out).mono ?_); (case side1 => repeat (first | exact (Kd.C_below HR0_0.out HB.out) | (with_reducible first | refine cA ?_ _ | refine cN ?_ _ | refine cD ?_))); (case side2 => exact HC0_0.out); rintro e w60 ⟨rfl, hb⟩; refine ⟨_, rfl, ?_⟩; have n0_ := Aside0.mk (blk_below (g := gb243) (o := .cells #[.slice A0_0 l0_0.length c0_0, .int .i64 a0_1, .int .i64 a0_2] 24 (0, 0)) (by (with_reducible repeat (first | refine lN ?_ _ | refine lD ?_ | refine lA ?_ _)); exact BK243.out) hb); have n1_ := Aside0.mk (blk_below (g := gb244) (o := .cells #[.int .i64 a1_0, .string a1_1] 26 (0, 0)) (by (with_reducible repeat (first | refine lN ?_ _ | refine lD ?_ | refine lA ?_ _)); exact BK244.out) hb); have n2_ := Aside0.mk (below_step (by repeat (first | (with_reducible first | exact HB.out | apply bA | apply bN | apply bD | refine bS ?_ GE243.out | refine bS ?_ GE244.out) | exact HB.out)) hb); clear BK243; clear BK244; clear HB; have BK243 := n0_; have BK244 := n1_; have HB := n2_; clear n0_ n1_ n2_; (try clear hb); (try clear hb2); (try clear hk); (try clear hi); have hcz61_0 : w60.cell? ⟨gb244, 0, none⟩ = some (.int .i64 a1_0) := (lC BK244.out 0).trans rfl; have hcz61_1 : w60.cell? ⟨gb244, 1, none⟩ = some (.string a1_1) := (lC BK244.out 1).trans rfl; have hfz61_0 := lF BK244.out 0; have hfz61_1 := lF BK244.out 1) | ((with_reducible refine gate_callee (f := 6) rfl ?_); refine goesL_ (some 29) rfl rfl Try.func6 (by kernel_rfl) rfl #[.agg #[.int .i64 a1_0, .string a1_1], .int .i64 t245] rfl (by (try simp only [List.map_toArray, List.map_cons, List.map_nil]); first | done | rfl | (simp only [List.length_drop, List.length_take]; rfl)) ?_; (with_reducible refine (laws_szCoverStep.calls a1_0 a1_1 t245 t246 _ A10.out).mono ?_); rintro e w62 ⟨rfl, hb⟩; refine ⟨_, rfl, ?_⟩; have n0_ := Aside0.mk (blk_below (g := gb243) (o := .cells #[.slice A0_0 l0_0.length c0_0, .int .i64 a0_1, .int .i64 a0_2] 24 (0, 0)) (by (with_reducible repeat (first | refine lN ?_ _ | refine lD ?_ | refine lA ?_ _)); exact BK243.out) hb); have n1_ := Aside0.mk (blk_below (g := gb244) (o := .cells #[.int .i64 a1_0, .string a1_1] 26 (0, 0)) (by (with_reducible repeat (first | refine lN ?_ _ | refine lD ?_ | refine lA ?_ _)); exact BK244.out) hb); have n2_ := Aside0.mk (below_step (by repeat (first | (with_reducible first | exact HB.out | apply bA | apply bN | apply bD | refine bS ?_ GE243.out | refine bS ?_ GE244.out) | exact HB.out)) hb); clear BK243; clear BK244; clear HB; have BK243 := n0_; have BK244 := n1_; have HB := n2_; clear n0_ n1_ n2_; (try clear hb); (try clear hb2); (try clear hk); (try clear hi)))
                   have n0_ := Aside0.mk (lD BK243.out)
                   have n1_ := Aside0.mk (lD BK244.out)
                   have n4_ := Aside0.mk (bD HB.out)
                   clear BK243
                   clear BK244
                   clear HB
                   have BK243 := n0_
                   have BK244 := n1_
                   have HB := n4_
                   clear n0_ n1_ n4_
                   refine start_ (n := 16) (S := fun w' => w'.cell? ⟨gb243, 0, none⟩ = some (.slice A0_0 l0_0.length c0_0) ∧ w'.cell? ⟨gb243, 1, none⟩ = some (.int .i64 a0_1) ∧ w'.cell? ⟨gb243, 2, none⟩ = some (.int .i64 a0_2) ∧ w'.cell? ⟨gb244, 0, none⟩ = some (.int .i64 a1_0) ∧ w'.cell? ⟨gb244, 1, none⟩ = some (.string a1_1)) (ds := []) #[false, false, false, false, false, false, false, false, false, false, false, false, false, false, false, false] (by kernel_rfl) rfl rfl ⟨(lC BK243.out 0).trans rfl, (lC BK243.out 1).trans rfl, (lC BK243.out 2).trans rfl, (lC BK244.out 0).trans rfl, (lC BK244.out 1).trans rfl⟩ (fun hHeld => ?_); refine with_tabW laws_FnExactStepClient.tab8 laws_FnExactStepClient.bits8 (fun HT_ HW_ => ?_)
                   generalize World.drew _ = w65 at BK243 BK244 HB hHeld ⊢
                   refine take_ (i := 0) (N := some 33) (v := ?_) (a' := ?_) #[true, false, false, false, false, false, false, false, false, false, false, false, false, false, false, false] rfl rfl (take_ofW HT_.out HW_.out (by kernel_rfl)) (fun _ _ _ h => h) (Or.inl ⟨by rfl, ?_⟩) hHeld ?_ ?_
                   rotate_left
                   ·rintro w' ⟨s0, s1, s2, s3, s4⟩
                    go_simp
                    with_reducible rfl
                   rotate_left
                   ·simp only [Act.put, List.setIfInBounds_toArray, List.set_cons_zero, List.set_cons_succ, i64_w, i32_w]
                    rfl
                   refine take_ (i := 2) (N := some 35) (v := ?_) (a' := ?_) #[true, false, true, false, false, false, false, false, false, false, false, false, false, false, false, false] rfl rfl (take_ofW HT_.out HW_.out (by kernel_rfl)) (fun _ _ _ h => h) (Or.inl ⟨by rfl, ?_⟩) hHeld ?_ ?_
                   rotate_left
                   ·rintro w' ⟨s0, s1, s2, s3, s4⟩
                    go_simp
                    with_reducible rfl
                   rotate_left
                   ·simp only [Act.put, List.setIfInBounds_toArray, List.set_cons_zero, List.set_cons_succ, i64_w, i32_w]
                    rfl
                   have hlo_ := Aside0.mk (below_size HB.out)
                   have hlt243_ := Aside0.mk (blk_lt BK243.out)
                   have hlt244_ := Aside0.mk (blk_lt BK244.out)
                   refine Go.Proofs.Ytodhogegjkfemaa.Bx.boxes_ (i := 10) (j := 11) (N1 := 6) (N2 := 7) (cs1 := #[.slice none 0 0, .int .i64 0, .int .i64 0]) (cs2 := #[.int .i64 0, .int .i64 0, .int .i64 0]) (t1 := 29) (t2 := 31) 4 #[true, true, true, true, true, true, true, true, true, true, true, true, false, false, false, false] #[true, false, true, false, false, false, false, false, false, false, true, true, false, false, false, false] [.call 1, .call 3, .call 4, .pure 5, .pure 6, .pure 7, .pure 8, .pure 9] rfl rfl rfl rfl rfl rfl (by kernel_rfl) (by simp only [Go.Proofs.Ytodhogegjkfemaa.Bx.ba, Act.put, List.setIfInBounds_toArray, List.set_cons_zero, List.set_cons_succ]) ?_ ?_ ?_ (fun _ _ _ _ _ => Iff.rfl) hHeld ?_
                   ·intro a_ w_
                    first | (go_simp; done) | (go_simp; rfl)
                   ·intro a_ w_
                    first | (go_simp; done) | (go_simp; rfl)
                   ·rintro w_ w2_ hb_ ⟨s0, s1, s2, s3, s4⟩
                    exact ⟨pw_cell_below hb_ s0, pw_cell_below hb_ s1, pw_cell_below hb_ s2, pw_cell_below hb_ s3, pw_cell_below hb_ s4⟩
                   refine Go.Proofs.Ytodhogegjkfemaa.Bx.env_call (i := 1) (N := some 34) rfl rfl (fun w65 hE_ hHeld K hK => ?_)
                   have n0_ := Aside0.mk (blk_below BK243.out hE_)
                   have n1_ := Aside0.mk (blk_below BK244.out hE_)
                   have n2_ := Aside0.mk (below_step HB.out hE_)
                   clear hE_ BK243 BK244 HB
                   have BK243 := n0_
                   have BK244 := n1_
                   have HB := n2_
                   clear n0_ n1_ n2_
                   refine goes_ Try.func8 (by kernel_rfl) rfl #[.agg #[.slice A0_0 l0_0.length c0_0, .int .i64 a0_1, .int .i64 a0_2]] (by rfl) rfl rfl (by (try simp only [List.map_toArray, List.map_cons, List.map_nil]); first | done | rfl | (simp only [List.length_drop, List.length_take]; rfl)) ?_
                   with_reducible refine (laws_toClient.callsQ k _ _ l0_0 a0_1 a0_2 t249 t252 t253 _ ?side1 ?side2 A19.out).mono ?_
                   (case side1 => repeat (first | exact (Kd.C_below HR0_0.out HB.out) | (with_reducible first | refine cA ?_ _ | refine cN ?_ _ | refine cD ?_)))
                   (case side2 => exact HC0_0.out)
                   rintro e w66 ⟨v250, rfl, ho0, hb⟩
                   refine ⟨_, rfl, ?_⟩
                   have hkb_ := Aside0.mk (Go.Proofs.Ytodhogegjkfemaa.Bx.keep_b (t1 := 29) (t2 := 31) hb)
                   have hsz_ := Aside0.mk hb.size
                   have n0_ := Aside0.mk (Kd.Q_lower ho0 (below_size (by repeat (first | (with_reducible first | exact HB.out | apply bA | apply bN | apply bD | refine bS ?_ GE243.out | refine bS ?_ GE244.out) | exact HB.out))))
                   have n1_ := Aside0.mk (blk_below (g := gb243) (o := .cells #[.slice A0_0 l0_0.length c0_0, .int .i64 a0_1, .int .i64 a0_2] 24 (0, 0)) (by (with_reducible repeat (first | refine lN ?_ _ | refine lD ?_ | refine lA ?_ _)); exact BK243.out) hb)
                   have n2_ := Aside0.mk (blk_below (g := gb244) (o := .cells #[.int .i64 a1_0, .string a1_1] 26 (0, 0)) (by (with_reducible repeat (first | refine lN ?_ _ | refine lD ?_ | refine lA ?_ _)); exact BK244.out) hb)
                   have n5_ := Aside0.mk (below_step (by repeat (first | (with_reducible first | exact HB.out | apply bA | apply bN | apply bD | refine bS ?_ GE243.out | refine bS ?_ GE244.out) | exact HB.out)) hb)
                   clear BK243
                   clear BK244
                   clear HB
                   have HO251 := n0_
                   have BK243 := n1_
                   have BK244 := n2_
                   have HB := n5_
                   clear n0_ n1_ n2_ n5_
                   (try clear hb)
                   (try clear hb2)
                   (try clear hk)
                   (try clear hi)
                   (try clear ho0)
                   refine hK.out _ _ ⟨(lC BK243.out 0).trans rfl, (lC BK243.out 1).trans rfl, (lC BK243.out 2).trans rfl, (lC BK244.out 0).trans rfl, (lC BK244.out 1).trans rfl⟩ hkb_.out hsz_.out (fun hHeld => ?_)
                   clear hK K hkb_ hsz_
                   refine Go.Proofs.Ytodhogegjkfemaa.Bx.env_norm (a' := ?_) ?_ ?_
                   rotate_left
                   ·show Act.put _ (some 34) _ = _
                    simp only [Act.put, List.setIfInBounds_toArray, List.set_cons_zero, List.set_cons_succ, i64_w, i32_w]
                    rfl
                   refine Go.Proofs.Ytodhogegjkfemaa.Bx.env_call (i := 3) (N := some 36) rfl rfl (fun w66 hE_ hHeld K hK => ?_)
                   have n0_ := Aside0.mk (blk_below BK243.out hE_)
                   have n1_ := Aside0.mk (blk_below BK244.out hE_)
                   have n2_ := Aside0.mk (below_step HB.out hE_)
                   have n3_ := Aside0.mk (Kd.Q_below HO251.out hE_)
                   clear hE_ BK243 BK244 HB HO251
                   have BK243 := n0_
                   have BK244 := n1_
                   have HB := n2_
                   have HO251 := n3_
                   clear n0_ n1_ n2_ n3_
                   refine goes_ Try.func9 (by kernel_rfl) rfl #[.agg #[.int .i64 a1_0, .string a1_1]] (by rfl) rfl rfl (by (try simp only [List.map_toArray, List.map_cons, List.map_nil]); first | done | rfl | (simp only [List.length_drop, List.length_take]; rfl)) ?_
                   with_reducible refine (laws_toCoverStep.calls a1_0 a1_1 t254 t255 _ A20.out).mono ?_
                   rintro e w67 ⟨rfl, hb⟩
                   refine ⟨_, rfl, ?_⟩
                   have hkb_ := Aside0.mk (Go.Proofs.Ytodhogegjkfemaa.Bx.keep_b (t1 := 29) (t2 := 31) hb)
                   have hsz_ := Aside0.mk hb.size
                   have n0_ := Aside0.mk (Kd.Q_below (by (with_reducible repeat (first | apply qA | apply qN | apply qD)); exact HO251.out) hb)
                   have n1_ := Aside0.mk (blk_below (g := gb243) (o := .cells #[.slice A0_0 l0_0.length c0_0, .int .i64 a0_1, .int .i64 a0_2] 24 (0, 0)) (by (with_reducible repeat (first | refine lN ?_ _ | refine lD ?_ | refine lA ?_ _)); exact BK243.out) hb)
                   have n2_ := Aside0.mk (blk_below (g := gb244) (o := .cells #[.int .i64 a1_0, .string a1_1] 26 (0, 0)) (by (with_reducible repeat (first | refine lN ?_ _ | refine lD ?_ | refine lA ?_ _)); exact BK244.out) hb)
                   have n5_ := Aside0.mk (below_step (by repeat (first | (with_reducible first | exact HB.out | apply bA | apply bN | apply bD | refine bS ?_ GE243.out | refine bS ?_ GE244.out) | exact HB.out)) hb)
                   clear HO251
                   clear BK243
                   clear BK244
                   clear HB
                   have HO251 := n0_
                   have BK243 := n1_
                   have BK244 := n2_
                   have HB := n5_
                   clear n0_ n1_ n2_ n5_
                   (try clear hb)
                   (try clear hb2)
                   (try clear hk)
                   (try clear hi)
                   obtain ⟨Ao68, co68, eo68, _⟩ := Kd.Q_slice HO251.out
                   (first | subst eo68 | (injection eo68 with f1_ f2_ f3_; have f4_ := f1_.symm; have f5_ := f3_.symm; clear f1_ f2_ f3_; subst f4_; subst f5_))
                   refine hK.out _ _ ⟨(lC BK243.out 0).trans rfl, (lC BK243.out 1).trans rfl, (lC BK243.out 2).trans rfl, (lC BK244.out 0).trans rfl, (lC BK244.out 1).trans rfl⟩ hkb_.out hsz_.out (fun hHeld => ?_)
                   clear hK K hkb_ hsz_
                   refine Go.Proofs.Ytodhogegjkfemaa.Bx.env_norm (a' := ?_) ?_ ?_
                   rotate_left
                   ·show Act.put _ (some 36) _ = _
                    simp only [Act.put, List.setIfInBounds_toArray, List.set_cons_zero, List.set_cons_succ, i64_w, i32_w]
                    rfl
                   refine Go.Proofs.Ytodhogegjkfemaa.Bx.env_call (i := 4) (N := some 37) rfl rfl (fun w67 hE_ hHeld K hK => ?_)
                   have n0_ := Aside0.mk (blk_below BK243.out hE_)
                   have n1_ := Aside0.mk (blk_below BK244.out hE_)
                   have n2_ := Aside0.mk (below_step HB.out hE_)
                   have n3_ := Aside0.mk (Kd.Q_below HO251.out hE_)
                   clear hE_ BK243 BK244 HB HO251
                   have BK243 := n0_
                   have BK244 := n1_
                   have HB := n2_
                   have HO251 := n3_
                   clear n0_ n1_ n2_ n3_
                   refine goes_ Try.func7 (by kernel_rfl) rfl #[.agg #[.slice Ao68 t249.length co68, .int .i64 t252, .int .i64 t253], .agg #[.int .i64 t254, .string t255]] (by rfl) rfl rfl (by (try simp only [List.map_toArray, List.map_cons, List.map_nil]); first | done | rfl | (simp only [List.length_drop, List.length_take]; rfl)) ?_
                   with_reducible refine (spec_StepClient.callsQ k _ _ t249 t252 t253 t254 t255 t256 t259 t260 t261 t262 t263 t264 t265 _ ?side1 ?side2 A21.out).mono ?_
                   (case side1 => repeat (first | exact (Kd.Q_reads' HO251.out).2.2 | (with_reducible first | refine cA ?_ _ | refine cN ?_ _ | refine cD ?_)))
                   (case side2 => exact (Kd.Q_reads' HO251.out).2.1)
                   rintro e w69 ⟨v257, rfl, ho0, hb⟩
                   refine ⟨_, rfl, ?_⟩
                   have hkb_ := Aside0.mk (Go.Proofs.Ytodhogegjkfemaa.Bx.keep_b (t1 := 29) (t2 := 31) hb)
                   have hsz_ := Aside0.mk hb.size
                   have n0_ := Aside0.mk (Kd.Q_elder' (by (with_reducible repeat (first | apply qA | apply qN | apply qD)); exact HO251.out) (Kd.Q_base ho0) hb)
                   have n1_ := Aside0.mk (Kd.Q_lower (Kd.Q_new' ho0 (Kd.Q_lt (by (with_reducible repeat (first | apply qA | apply qN | apply qD)); exact HO251.out))) (below_size (by repeat (first | (with_reducible first | exact HB.out | apply bA | apply bN | apply bD | refine bS ?_ GE243.out | refine bS ?_ GE244.out) | exact HB.out))))
                   have n2_ := Aside0.mk (blk_below (g := gb243) (o := .cells #[.slice A0_0 l0_0.length c0_0, .int .i64 a0_1, .int .i64 a0_2] 24 (0, 0)) (by (with_reducible repeat (first | refine lN ?_ _ | refine lD ?_ | refine lA ?_ _)); exact BK243.out) hb)
                   have n3_ := Aside0.mk (blk_below (g := gb244) (o := .cells #[.int .i64 a1_0, .string a1_1] 26 (0, 0)) (by (with_reducible repeat (first | refine lN ?_ _ | refine lD ?_ | refine lA ?_ _)); exact BK244.out) hb)
                   have n6_ := Aside0.mk (below_step (by repeat (first | (with_reducible first | exact HB.out | apply bA | apply bN | apply bD | refine bS ?_ GE243.out | refine bS ?_ GE244.out) | exact HB.out)) hb)
                   clear HO251
                   clear BK243
                   clear BK244
                   clear HB
                   have HO251 := n0_
                   have HO258 := n1_
                   have BK243 := n2_
                   have BK244 := n3_
                   have HB := n6_
                   clear n0_ n1_ n2_ n3_ n6_
                   (try clear hb)
                   (try clear hb2)
                   (try clear hk)
                   (try clear hi)
                   (try clear ho0)
                   obtain ⟨Ao70, co70, eo70, _⟩ := Kd.Q_slice HO258.out
                   (first | subst eo70 | (injection eo70 with f1_ f2_ f3_; have f4_ := f1_.symm; have f5_ := f3_.symm; clear f1_ f2_ f3_; subst f4_; subst f5_))
                   refine hK.out _ _ ⟨(lC BK243.out 0).trans rfl, (lC BK243.out 1).trans rfl, (lC BK243.out 2).trans rfl, (lC BK244.out 0).trans rfl, (lC BK244.out 1).trans rfl⟩ hkb_.out hsz_.out (fun hHeld => ?_)
                   clear hK K hkb_ hsz_
                   refine Go.Proofs.Ytodhogegjkfemaa.Bx.env_norm (a' := ?_) ?_ ?_
                   rotate_left
                   ·show Act.put _ (some 37) _ = _
                    simp only [Act.put, List.setIfInBounds_toArray, List.set_cons_zero, List.set_cons_succ, i64_w, i32_w]
                    rfl
                   refine Go.Proofs.Ytodhogegjkfemaa.Bx.env_pure (i := 5) (N := some 32) (v := ?_) (a' := ?_) rfl rfl (Or.inl ⟨by rfl, ?_⟩) ?_ ?_
                   rotate_left
                   ·intro w'
                    go_simp
                    with_reducible rfl
                   rotate_left
                   ·simp only [Act.put, List.setIfInBounds_toArray, List.set_cons_zero, List.set_cons_succ, i64_w, i32_w]
                    rfl
                   refine Go.Proofs.Ytodhogegjkfemaa.Bx.env_pure (i := 6) (N := some 38) (v := ?_) (a' := ?_) rfl rfl (Or.inl ⟨by rfl, ?_⟩) ?_ ?_
                   rotate_left
                   ·intro w'
                    go_simp
                    with_reducible rfl
                   rotate_left
                   ·simp only [Act.put, List.setIfInBounds_toArray, List.set_cons_zero, List.set_cons_succ, i64_w, i32_w]
                    rfl
                   refine Go.Proofs.Ytodhogegjkfemaa.Bx.env_pure (i := 7) (N := some 39) (v := ?_) (a' := ?_) rfl rfl (Or.inl ⟨by rfl, ?_⟩) ?_ ?_
                   rotate_left
                   ·intro w'
                    go_simp
                    with_reducible rfl
                   rotate_left
                   ·simp only [Act.put, List.setIfInBounds_toArray, List.set_cons_zero, List.set_cons_succ, i64_w, i32_w]
                    rfl
                   refine Go.Proofs.Ytodhogegjkfemaa.Bx.env_pure (i := 8) (N := some 40) (v := ?_) (a' := ?_) rfl rfl (Or.inl ⟨by rfl, ?_⟩) ?_ ?_
                   rotate_left
                   ·intro w'
                    go_simp
                    with_reducible rfl
                   rotate_left
                   ·simp only [Act.put, List.setIfInBounds_toArray, List.set_cons_zero, List.set_cons_succ, i64_w, i32_w]
                    rfl
                   refine Go.Proofs.Ytodhogegjkfemaa.Bx.env_pure (i := 9) (N := some 41) (v := ?_) (a' := ?_) rfl rfl (Or.inl ⟨by rfl, ?_⟩) ?_ ?_
                   rotate_left
                   ·intro w'
                    go_simp
                    with_reducible rfl
                   rotate_left
                   ·simp only [Act.put, List.setIfInBounds_toArray, List.set_cons_zero, List.set_cons_succ, i64_w, i32_w]
                    rfl
                   intro w69 hE_ hHeld gb247 gb248 BKa_ BKb_ GEa_ GEb_ NBab_
                   have n0_ := Aside0.mk (blk_below BK243.out hE_)
                   have n1_ := Aside0.mk (blk_below BK244.out hE_)
                   have n2_ := Aside0.mk (Kd.Q_below HO251.out hE_)
                   have n3_ := Aside0.mk (Kd.Q_below HO258.out hE_)
                   have n4_ := Aside0.mk (below_step HB.out hE_)
                   clear hE_ BK243 BK244 HO251 HO258 HB
                   have BK243 := n0_
                   have BK244 := n1_
                   have HO251 := n2_
                   have HO258 := n3_
                   have HB := n4_
                   clear n0_ n1_ n2_ n3_ n4_
                   have BK247 := Aside0.mk BKa_
                   have BK248 := Aside0.mk BKb_
                   have GW247 := Aside0.mk (Nat.le_trans hlo_.out GEa_)
                   have GW248 := Aside0.mk (Nat.le_trans hlo_.out GEb_)
                   have GE247 := Aside0.mk (Nat.le_trans hlo_.out GEa_)
                   have GE248 := Aside0.mk (Nat.le_trans hlo_.out GEb_)
                   have NB243_247 := Aside0.mk (Nat.ne_of_lt (Nat.lt_of_lt_of_le hlt243_.out GEa_))
                   have NB247_243 := Aside0.mk (Nat.ne_of_gt (Nat.lt_of_lt_of_le hlt243_.out GEa_))
                   have NB243_248 := Aside0.mk (Nat.ne_of_lt (Nat.lt_of_lt_of_le hlt243_.out GEb_))
                   have NB248_243 := Aside0.mk (Nat.ne_of_gt (Nat.lt_of_lt_of_le hlt243_.out GEb_))
                   have NB244_247 := Aside0.mk (Nat.ne_of_lt (Nat.lt_of_lt_of_le hlt244_.out GEa_))
                   have NB247_244 := Aside0.mk (Nat.ne_of_gt (Nat.lt_of_lt_of_le hlt244_.out GEa_))
                   have NB244_248 := Aside0.mk (Nat.ne_of_lt (Nat.lt_of_lt_of_le hlt244_.out GEb_))
                   have NB248_244 := Aside0.mk (Nat.ne_of_gt (Nat.lt_of_lt_of_le hlt244_.out GEb_))
                   have NB247_248 := Aside0.mk NBab_
                   have NB248_247 := Aside0.mk (Ne.symm NBab_)
                   clear hlo_ BKa_ BKb_ GEa_ GEb_ NBab_ hlt243_ hlt244_
                   refine norm_ (a' := ?_) ?_ ?_
                   rotate_left
                   ·simp only [Go.Proofs.Ytodhogegjkfemaa.Bx.ba, Act.put, List.setIfInBounds_toArray, List.set_cons_zero, List.set_cons_succ]
                    rfl
                   refine one_ (i := 12) (N := none) #[true, true, true, true, true, true, true, true, true, true, true, true, true, false, false, false] rfl rfl (one_of HT_.out (by kernel_rfl)) (by decide) (fun K hK => ?_)
                   have hs71 : w69.cell? ⟨gb247, 0, none⟩ = some (.slice none 0 0) := (lC BK247.out 0).trans rfl
                   have hfs71 := lF BK247.out 0
                   have hns71_0 := NB243_247.out
                   have hns71_1 := NB244_247.out
                   have hns71_3 := NB248_247.out
                   have hms71_0 := NB247_243.out
                   have hms71_1 := NB247_244.out
                   have hms71_3 := NB247_248.out
                   have hs72 : w69.cell? ⟨gb247, 1, none⟩ = some (.int .i64 0) := (lC BK247.out 1).trans rfl
                   have hfs72 := lF BK247.out 1
                   have hns72_0 := NB243_247.out
                   have hns72_1 := NB244_247.out
                   have hns72_3 := NB248_247.out
                   have hms72_0 := NB247_243.out
                   have hms72_1 := NB247_244.out
                   have hms72_3 := NB247_248.out
                   have hs73 : w69.cell? ⟨gb247, 2, none⟩ = some (.int .i64 0) := (lC BK247.out 2).trans rfl
                   have hfs73 := lF BK247.out 2
                   have hns73_0 := NB243_247.out
                   have hns73_1 := NB244_247.out
                   have hns73_3 := NB248_247.out
                   have hms73_0 := NB247_243.out
                   have hms73_1 := NB247_244.out
                   have hms73_3 := NB247_248.out
                   refine skip_ (w1 := ?_) (by rfl) rfl ?_ ?_
                   rotate_left
                   ·go_simp
                    rfl
                   refine hK.out _ _ ⟨((cell_far (p := ⟨gb247, _, none⟩) NB243_247.out _).trans (((cell_far (p := ⟨gb247, _, none⟩) NB243_247.out _).trans (((cell_far (p := ⟨gb247, _, none⟩) NB243_247.out _).trans (hHeld.1)))))), ((cell_far (p := ⟨gb247, _, none⟩) NB243_247.out _).trans (((cell_far (p := ⟨gb247, _, none⟩) NB243_247.out _).trans (((cell_far (p := ⟨gb247, _, none⟩) NB243_247.out _).trans (hHeld.2.1)))))), ((cell_far (p := ⟨gb247, _, none⟩) NB243_247.out _).trans (((cell_far (p := ⟨gb247, _, none⟩) NB243_247.out _).trans (((cell_far (p := ⟨gb247, _, none⟩) NB243_247.out _).trans (hHeld.2.2.1)))))), ((cell_far (p := ⟨gb247, _, none⟩) NB244_247.out _).trans (((cell_far (p := ⟨gb247, _, none⟩) NB244_247.out _).trans (((cell_far (p := ⟨gb247, _, none⟩) NB244_247.out _).trans (hHeld.2.2.2.1)))))), ((cell_far (p := ⟨gb247, _, none⟩) NB244_247.out _).trans (((cell_far (p := ⟨gb247, _, none⟩) NB244_247.out _).trans (((cell_far (p := ⟨gb247, _, none⟩) NB244_247.out _).trans (hHeld.2.2.2.2))))))⟩ (fun hHeld => ?_)
                   clear hK K
                   refine one_ (i := 13) (N := none) #[true, true, true, true, true, true, true, true, true, true, true, true, true, true, false, false] rfl rfl (one_of HT_.out (by kernel_rfl)) (by decide) (fun K hK => ?_)
                   have hs74 : w69.cell? ⟨gb248, 0, none⟩ = some (.int .i64 0) := (lC BK248.out 0).trans rfl
                   have hfs74 := lF BK248.out 0
                   have hns74_0 := NB243_248.out
                   have hns74_1 := NB244_248.out
                   have hns74_2 := NB247_248.out
                   have hms74_0 := NB248_243.out
                   have hms74_1 := NB248_244.out
                   have hms74_2 := NB248_247.out
                   have hs75 : w69.cell? ⟨gb248, 1, none⟩ = some (.int .i64 0) := (lC BK248.out 1).trans rfl
                   have hfs75 := lF BK248.out 1
                   have hns75_0 := NB243_248.out
                   have hns75_1 := NB244_248.out
                   have hns75_2 := NB247_248.out
                   have hms75_0 := NB248_243.out
                   have hms75_1 := NB248_244.out
                   have hms75_2 := NB248_247.out
                   have hs76 : w69.cell? ⟨gb248, 2, none⟩ = some (.int .i64 0) := (lC BK248.out 2).trans rfl
                   have hfs76 := lF BK248.out 2
                   have hns76_0 := NB243_248.out
                   have hns76_1 := NB244_248.out
                   have hns76_2 := NB247_248.out
                   have hms76_0 := NB248_243.out
                   have hms76_1 := NB248_244.out
                   have hms76_2 := NB248_247.out
                   refine skip_ (w1 := ?_) (by rfl) rfl ?_ ?_
                   rotate_left
                   ·go_simp
                    rfl
                   refine hK.out _ _ ⟨((cell_far (p := ⟨gb248, _, none⟩) NB243_248.out _).trans (((cell_far (p := ⟨gb248, _, none⟩) NB243_248.out _).trans (((cell_far (p := ⟨gb248, _, none⟩) NB243_248.out _).trans (hHeld.1)))))), ((cell_far (p := ⟨gb248, _, none⟩) NB243_248.out _).trans (((cell_far (p := ⟨gb248, _, none⟩) NB243_248.out _).trans (((cell_far (p := ⟨gb248, _, none⟩) NB243_248.out _).trans (hHeld.2.1)))))), ((cell_far (p := ⟨gb248, _, none⟩) NB243_248.out _).trans (((cell_far (p := ⟨gb248, _, none⟩) NB243_248.out _).trans (((cell_far (p := ⟨gb248, _, none⟩) NB243_248.out _).trans (hHeld.2.2.1)))))), ((cell_far (p := ⟨gb248, _, none⟩) NB244_248.out _).trans (((cell_far (p := ⟨gb248, _, none⟩) NB244_248.out _).trans (((cell_far (p := ⟨gb248, _, none⟩) NB244_248.out _).trans (hHeld.2.2.2.1)))))), ((cell_far (p := ⟨gb248, _, none⟩) NB244_248.out _).trans (((cell_far (p := ⟨gb248, _, none⟩) NB244_248.out _).trans (((cell_far (p := ⟨gb248, _, none⟩) NB244_248.out _).trans (hHeld.2.2.2.2))))))⟩ (fun hHeld => ?_)
                   clear hK K
                   refine pure_ (i := 14) (N := some 8) (v := ?_) (a' := ?_) #[true, true, true, true, true, true, true, true, true, true, true, true, true, true, true, false] rfl rfl (any_of HT_.out (by kernel_rfl)) (fun _ _ _ h => h) (Or.inl ⟨by rfl, ?_⟩) ?_ ?_
                   rotate_left
                   ·intro w'
                    go_simp
                    with_reducible rfl
                   rotate_left
                   ·simp only [Act.put, List.setIfInBounds_toArray, List.set_cons_zero, List.set_cons_succ, i64_w, i32_w]
                    rfl
                   refine pure_ (i := 15) (N := some 9) (v := ?_) (a' := ?_) #[true, true, true, true, true, true, true, true, true, true, true, true, true, true, true, true] rfl rfl (any_of HT_.out (by kernel_rfl)) (fun _ _ _ h => h) (Or.inl ⟨by rfl, ?_⟩) ?_ ?_
                   rotate_left
                   ·intro w'
                    go_simp
                    with_reducible rfl
                   rotate_left
                   ·simp only [Act.put, List.setIfInBounds_toArray, List.set_cons_zero, List.set_cons_succ, i64_w, i32_w]
                    rfl
                   refine done_ (done_of HT_.out (by kernel_rfl)) ?_
                   have hnb77 := NB243_247.out
                   have hnc77 := NB247_243.out
                   have hnb78 := NB243_248.out
                   have hnc78 := NB248_243.out
                   have hcz79_0 : w69.cell? ⟨gb243, 0, none⟩ = some (.slice A0_0 l0_0.length c0_0) := (lC BK243.out 0).trans rfl
                   have hcz79_1 : w69.cell? ⟨gb243, 1, none⟩ = some (.int .i64 a0_1) := (lC BK243.out 1).trans rfl
                   have hcz79_2 : w69.cell? ⟨gb243, 2, none⟩ = some (.int .i64 a0_2) := (lC BK243.out 2).trans rfl
                   have hfz79_0 := lF BK243.out 0
                   have hfz79_1 := lF BK243.out 1
                   have hfz79_2 := lF BK243.out 2
                   try go_wp2_with (first | ((with_reducible refine gate_callee (f := 8) rfl ?_); refine goesL_ (some 43) rfl rfl Try.func8 (by kernel_rfl) rfl #[.agg #[.slice A0_0 l0_0.length c0_0, .int .i64 a0_1, .int .i64 a0_2]] rfl (by (try simp only [List.map_toArray, List.map_cons, List.map_nil]); first | done | rfl | (simp only [List.length_drop, List.length_take]; rfl)) ?_; (with_reducible refine (laws_toClient.callsQ k _ _ l0_0 a0_1 a0_2 t266 t269 t270 _ ?side1 ?side2 A22.out).mono ?_); (case side1 => exact Kd.C_below HR0_0.out (by repeat (first | (with_reducible first | exact HB.out | apply bA | apply bN | apply bD | refine bS ?_ GE243.out | refine bS ?_ GE244.out | refine bS ?_ GE247.out | refine bS ?_ GE248.out) | exact HB.out))); (case side2 => exact HC0_0.out); rintro e w80 ⟨v267, rfl, ho0, hb⟩; refine ⟨_, rfl, ?_⟩; have n0_ := Aside0.mk (Kd.Q_elder' (by (with_reducible repeat (first | apply qA | apply qN | apply qD)); exact (Kd.Q_mono (Kd.Q_mono (Kd.Q_far (p := ⟨gb248, 2, none⟩) (Kd.Q_far (p := ⟨gb248, 1, none⟩) (Kd.Q_far (p := ⟨gb248, 0, none⟩) (Kd.Q_far (p := ⟨gb247, 2, none⟩) (Kd.Q_far (p := ⟨gb247, 1, none⟩) (Kd.Q_far (p := ⟨gb247, 0, none⟩) (Kd.Q_types (Kd.Q_types HO251.out BK247.out (by decide)) BK248.out (by decide)) (fun _ hk => hk.1.2) (.slice Ao70 t256.length co70)) (fun _ hk => hk.1.2) (.int .i64 t259)) (fun _ hk => hk.1.2) (.int .i64 t260)) (fun _ hk => hk.2) (.int .i64 t261)) (fun _ hk => hk.2) (.int .i64 t262)) (fun _ hk => hk.2) (.int .i64 t263)) (fun _ h_ => h_.1)) (fun _ h_ => h_.1))) (Kd.Q_base ho0) hb); have n1_ := Aside0.mk (Kd.Q_elder' (by (with_reducible repeat (first | apply qA | apply qN | apply qD)); exact (Kd.Q_mono (Kd.Q_mono (Kd.Q_far (p := ⟨gb248, 2, none⟩) (Kd.Q_far (p := ⟨gb248, 1, none⟩) (Kd.Q_far (p := ⟨gb248, 0, none⟩) (Kd.Q_far (p := ⟨gb247, 2, none⟩) (Kd.Q_far (p := ⟨gb247, 1, none⟩) (Kd.Q_far (p := ⟨gb247, 0, none⟩) (Kd.Q_types (Kd.Q_types HO258.out BK247.out (by decide)) BK248.out (by decide)) (fun _ hk => hk.1.2) (.slice Ao70 t256.length co70)) (fun _ hk => hk.1.2) (.int .i64 t259)) (fun _ hk => hk.1.2) (.int .i64 t260)) (fun _ hk => hk.2) (.int .i64 t261)) (fun _ hk => hk.2) (.int .i64 t262)) (fun _ hk => hk.2) (.int .i64 t263)) (fun _ h_ => h_.1)) (fun _ h_ => h_.1))) (Kd.Q_base ho0) hb); have n2_ := Aside0.mk (Kd.Q_lower (Kd.Q_new' (Kd.Q_new' ho0 (Kd.Q_lt (by (with_reducible repeat (first | apply qA | apply qN | apply qD)); exact (Kd.Q_mono (Kd.Q_mono (Kd.Q_far (p := ⟨gb248, 2, none⟩) (Kd.Q_far (p := ⟨gb248, 1, none⟩) (Kd.Q_far (p := ⟨gb248, 0, none⟩) (Kd.Q_far (p := ⟨gb247, 2, none⟩) (Kd.Q_far (p := ⟨gb247, 1, none⟩) (Kd.Q_far (p := ⟨gb247, 0, none⟩) (Kd.Q_types (Kd.Q_types HO251.out BK247.out (by decide)) BK248.out (by decide)) (fun _ hk => hk.1.2) (.slice Ao70 t256.length co70)) (fun _ hk => hk.1.2) (.int .i64 t259)) (fun _ hk => hk.1.2) (.int .i64 t260)) (fun _ hk => hk.2) (.int .i64 t261)) (fun _ hk => hk.2) (.int .i64 t262)) (fun _ hk => hk.2) (.int .i64 t263)) (fun _ h_ => h_.1)) (fun _ h_ => h_.1))))) (Kd.Q_lt (by (with_reducible repeat (first | apply qA | apply qN | apply qD)); exact (Kd.Q_mono (Kd.Q_mono (Kd.Q_far (p := ⟨gb248, 2, none⟩) (Kd.Q_far (p := ⟨gb248, 1, none⟩) (Kd.Q_far (p := ⟨gb248, 0, none⟩) (Kd.Q_far (p := ⟨gb247, 2, none⟩) (Kd.Q_far (p := ⟨gb247, 1, none⟩) (Kd.Q_far (p := ⟨gb247, 0, none⟩) (Kd.Q_types (Kd.Q_types HO258.out BK247.out (by decide)) BK248.out (by decide)) (fun _ hk => hk.1.2) (.slice Ao70 t256.length co70)) (fun _ hk => hk.1.2) (.int .i64 t259)) (fun _ hk => hk.1.2) (.int .i64 t260)) (fun _ hk => hk.2) (.int .i64 t261)) (fun _ hk => hk.2) (.int .i64 t262)) (fun _ hk => hk.2) (.int .i64 t263)) (fun _ h_ => h_.1)) (fun _ h_ => h_.1))))) (below_size (by repeat (first | (with_reducible first | exact HB.out | apply bA | apply bN | apply bD | refine bS ?_ GE243.out | refine bS ?_ GE244.out | refine bS ?_ GE247.out | refine bS ?_ GE248.out) | exact HB.out)))); have n3_ := Aside0.mk (blk_below (g := gb243) (o := .cells #[.slice A0_0 l0_0.length c0_0, .int .i64 a0_1, .int .i64 a0_2] 24 (0, 0)) (by (with_reducible repeat (first | refine lN ?_ _ | refine lD ?_ | refine lA ?_ _)); refine lX ?_ NB243_248.out _; (with_reducible repeat (first | refine lN ?_ _ | refine lD ?_ | refine lA ?_ _)); refine lX ?_ NB243_248.out _; (with_reducible repeat (first | refine lN ?_ _ | refine lD ?_ | refine lA ?_ _)); refine lX ?_ NB243_248.out _; (with_reducible repeat (first | refine lN ?_ _ | refine lD ?_ | refine lA ?_ _)); refine lX ?_ NB243_247.out _; (with_reducible repeat (first | refine lN ?_ _ | refine lD ?_ | refine lA ?_ _)); refine lX ?_ NB243_247.out _; (with_reducible repeat (first | refine lN ?_ _ | refine lD ?_ | refine lA ?_ _)); refine lX ?_ NB243_247.out _; (with_reducible repeat (first | refine lN ?_ _ | refine lD ?_ | refine lA ?_ _)); exact BK243.out) hb); have n4_ := Aside0.mk (blk_below (g := gb244) (o := .cells #[.int .i64 a1_0, .string a1_1] 26 (0, 0)) (by (with_reducible repeat (first | refine lN ?_ _ | refine lD ?_ | refine lA ?_ _)); refine lX ?_ NB244_248.out _; (with_reducible repeat (first | refine lN ?_ _ | refine lD ?_ | refine lA ?_ _)); refine lX ?_ NB244_248.out _; (with_reducible repeat (first | refine lN ?_ _ | refine lD ?_ | refine lA ?_ _)); refine lX ?_ NB244_248.out _; (with_reducible repeat (first | refine lN ?_ _ | refine lD ?_ | refine lA ?_ _)); refine lX ?_ NB244_247.out _; (with_reducible repeat (first | refine lN ?_ _ | refine lD ?_ | refine lA ?_ _)); refine lX ?_ NB244_247.out _; (with_reducible repeat (first | refine lN ?_ _ | refine lD ?_ | refine lA ?_ _)); refine lX ?_ NB244_247.out _; (with_reducible repeat (first | refine lN ?_ _ | refine lD ?_ | refine lA ?_ _)); exact BK244.out) hb); have n5_ := Aside0.mk (blk_below (g := gb247) (o := .cells #[.slice Ao70 t256.length co70, .int .i64 t259, .int .i64 t260] 29 (0, 0)) (by (with_reducible repeat (first | refine lN ?_ _ | refine lD ?_ | refine lA ?_ _)); refine lX ?_ NB247_248.out _; (with_reducible repeat (first | refine lN ?_ _ | refine lD ?_ | refine lA ?_ _)); refine lX ?_ NB247_248.out _; (with_reducible repeat (first | refine lN ?_ _ | refine lD ?_ | refine lA ?_ _)); refine lX ?_ NB247_248.out _; (with_reducible repeat (first | refine lN ?_ _ | refine lD ?_ | refine lA ?_ _)); refine lP (cs := #[.slice Ao70 t256.length co70, .int .i64 t259, .int .i64 0]) ?_ 2 _ rfl; (with_reducible repeat (first | refine lN ?_ _ | refine lD ?_ | refine lA ?_ _)); refine lP (cs := #[.slice Ao70 t256.length co70, .int .i64 0, .int .i64 0]) ?_ 1 _ rfl; (with_reducible repeat (first | refine lN ?_ _ | refine lD ?_ | refine lA ?_ _)); refine lP (cs := #[.slice none 0 0, .int .i64 0, .int .i64 0]) ?_ 0 _ rfl; (with_reducible repeat (first | refine lN ?_ _ | refine lD ?_ | refine lA ?_ _)); exact BK247.out) hb); have n6_ := Aside0.mk (blk_below (g := gb248) (o := .cells #[.int .i64 t261, .int .i64 t262, .int .i64 t263] 31 (0, 0)) (by (with_reducible repeat (first | refine lN ?_ _ | refine lD ?_ | refine lA ?_ _)); refine lP (cs := #[.int .i64 t261, .int .i64 t262, .int .i64 0]) ?_ 2 _ rfl; (with_reducible repeat (first | refine lN ?_ _ | refine lD ?_ | refine lA ?_ _)); refine lP (cs := #[.int .i64 t261, .int .i64 0, .int .i64 0]) ?_ 1 _ rfl; (with_reducible repeat (first | refine lN ?_ _ | refine lD ?_ | refine lA ?_ _)); refine lP (cs := #[.int .i64 0, .int .i64 0, .int .i64 0]) ?_ 0 _ rfl; (with_reducible repeat (first | refine lN ?_ _ | refine lD ?_ | refine lA ?_ _)); refine lX ?_ NB248_247.out _; (with_reducible repeat (first | refine lN ?_ _ | refine lD ?_ | refine lA ?_ _)); refine lX ?_ NB248_247.out _; (with_reducible repeat (first | refine lN ?_ _ | refine lD ?_ | refine lA ?_ _)); refine lX ?_ NB248_247.out _; (with_reducible repeat (first | refine lN ?_ _ | refine lD ?_ | refine lA ?_ _)); exact BK248.out) hb); have n7_ := Aside0.mk (below_step (by repeat (first | (with_reducible first | exact HB.out | apply bA | apply bN | apply bD | refine bS ?_ GE243.out | refine bS ?_ GE244.out | refine bS ?_ GE247.out | refine bS ?_ GE248.out) | exact HB.out)) hb); clear HO251; clear HO258; clear BK243; clear BK244; clear BK247; clear BK248; clear HB; have HO251 := n0_; have HO258 := n1_; have HO268 := n2_; have BK243 := n3_; have BK244 := n4_; have BK247 := n5_; have BK248 := n6_; have HB := n7_; clear n0_ n1_ n2_ n3_ n4_ n5_ n6_ n7_; (try clear hb); (try clear hb2); (try clear hk); (try clear hi); (try clear ho0)) | ((with_reducible refine gate_dst (N := 10) rfl ?_); refine box_event ?hg (N := 10) ?hd (cs := #[.slice none 0 0, .int .i64 0, .int .i64 0]) (t := 29) ?hr ?_; (case hd => rfl); (case hg => rfl); (case hr => first | (go_simp; done) | (go_simp; rfl)); intro gb271 hg w81 hbox hb; have n0_ := Aside0.mk (Kd.Q_below (by (with_reducible repeat (first | apply qA | apply qN | apply qD)); exact HO251.out) hb); have n1_ := Aside0.mk (Kd.Q_below (by (with_reducible repeat (first | apply qA | apply qN | apply qD)); exact HO258.out) hb); have n2_ := Aside0.mk (Kd.Q_below (by (with_reducible repeat (first | apply qA | apply qN | apply qD)); exact HO268.out) hb); have n3_ := Aside0.mk (blk_below (g := gb243) (o := .cells #[.slice A0_0 l0_0.length c0_0, .int .i64 a0_1, .int .i64 a0_2] 24 (0, 0)) (by (with_reducible repeat (first | refine lN ?_ _ | refine lD ?_ | refine lA ?_ _)); exact BK243.out) hb); have n4_ := Aside0.mk (blk_below (g := gb244) (o := .cells #[.int .i64 a1_0, .string a1_1] 26 (0, 0)) (by (with_reducible repeat (first | refine lN ?_ _ | refine lD ?_ | refine lA ?_ _)); exact BK244.out) hb); have n5_ := Aside0.mk (blk_below (g := gb247) (o := .cells #[.slice Ao70 t256.length co70, .int .i64 t259, .int .i64 t260] 29 (0, 0)) (by (with_reducible repeat (first | refine lN ?_ _ | refine lD ?_ | refine lA ?_ _)); exact BK247.out) hb); have n6_ := Aside0.mk (blk_below (g := gb248) (o := .cells #[.int .i64 t261, .int .i64 t262, .int .i64 t263] 31 (0, 0)) (by (with_reducible repeat (first | refine lN ?_ _ | refine lD ?_ | refine lA ?_ _)); exact BK248.out) hb); have n7_ := Aside0.mk (below_step (by repeat (first | (with_reducible first | exact HB.out | apply bA | apply bN | apply bD | refine bS ?_ GE243.out | refine bS ?_ GE244.out | refine bS ?_ GE247.out | refine bS ?_ GE248.out) | exact HB.out)) hb); have n8_ := Aside0.mk (hbox); have n9_ := Aside0.mk ((by rw [hg]; exact (below_size (by repeat (first | (with_reducible first | exact HB.out | apply bA | apply bN | apply bD | refine bS ?_ GE243.out | refine bS ?_ GE244.out | refine bS ?_ GE247.out | refine bS ?_ GE248.out) | exact HB.out))) : w.heap.size ≤ gb271)); have n10_ := Aside0.mk ((by rw [hg]; exact (below_size (by repeat (first | (with_reducible first | exact HB.out | apply bA | apply bN | apply bD | refine bS ?_ GE243.out | refine bS ?_ GE244.out | refine bS ?_ GE247.out | refine bS ?_ GE248.out) | exact HB.out))) : w.heap.size ≤ gb271)); have n11_ := Aside0.mk ((by rw [hg]; exact Nat.ne_of_lt (blk_lt (g := gb243) (o := .cells #[.slice A0_0 l0_0.length c0_0, .int .i64 a0_1, .int .i64 a0_2] 24 (0, 0)) (by (with_reducible repeat (first | refine lN ?_ _ | refine lD ?_ | refine lA ?_ _)); exact BK243.out)) : gb243 ≠ gb271)); have n12_ := Aside0.mk ((by rw [hg]; exact Nat.ne_of_gt (blk_lt (g := gb243) (o := .cells #[.slice A0_0 l0_0.length c0_0, .int .i64 a0_1, .int .i64 a0_2] 24 (0, 0)) (by (with_reducible repeat (first | refine lN ?_ _ | refine lD ?_ | refine lA ?_ _)); exact BK243.out)) : gb271 ≠ gb243)); have n13_ := Aside0.mk ((by rw [hg]; exact Nat.ne_of_lt (blk_lt (g := gb244) (o := .cells #[.int .i64 a1_0, .string a1_1] 26 (0, 0)) (by (with_reducible repeat (first | refine lN ?_ _ | refine lD ?_ | refine lA ?_ _)); exact BK244.out)) : gb244 ≠ gb271)); have n14_ := Aside0.mk ((by rw [hg]; exact Nat.ne_of_gt (blk_lt (g := gb244) (o := .cells #[.int .i64 a1_0, .string a1_1] 26 (0, 0)) (by (with_reducible repeat (first | refine lN ?_ _ | refine lD ?_ | refine lA ?_ _)); exact BK244.out)) : gb271 ≠ gb244)); have n15_ := Aside0.mk ((by rw [hg]; exact Nat.ne_of_lt (blk_lt (g := gb247) (o := .cells #[.slice Ao70 t256.length co70, .int .i64 t259, .int .i64 t260] 29 (0, 0)) (by (with_reducible repeat (first | refine lN ?_ _ | refine lD ?_ | refine lA ?_ _)); exact BK247.out)) : gb247 ≠ gb271)); have n16_ := Aside0.mk ((by rw [hg]; exact Nat.ne_of_gt (blk_lt (g := gb247) (o := .cells #[.slice Ao70 t256.length co70, .int .i64 t259, .int .i64 t260] 29 (0, 0)) (by (with_reducible repeat (first | refine lN ?_ _ | refine lD ?_ | refine lA ?_ _)); exact BK247.out)) : gb271 ≠ gb247)); have n17_ := Aside0.mk ((by rw [hg]; exact Nat.ne_of_lt (blk_lt (g := gb248) (o := .cells #[.int .i64 t261, .int .i64 t262, .int .i64 t263] 31 (0, 0)) (by (with_reducible repeat (first | refine lN ?_ _ | refine lD ?_ | refine lA ?_ _)); exact BK248.out)) : gb248 ≠ gb271)); have n18_ := Aside0.mk ((by rw [hg]; exact Nat.ne_of_gt (blk_lt (g := gb248) (o := .cells #[.int .i64 t261, .int .i64 t262, .int .i64 t263] 31 (0, 0)) (by (with_reducible repeat (first | refine lN ?_ _ | refine lD ?_ | refine lA ?_ _)); exact BK248.out)) : gb271 ≠ gb248)); clear HO251; clear HO258; clear HO268; clear BK243; clear BK244; clear BK247; clear BK248; clear HB; have HO251 := n0_; have HO258 := n1_; have HO268 := n2_; have BK243 := n3_; have BK244 := n4_; have BK247 := n5_; have BK248 := n6_; have HB := n7_; have BK271 := n8_; have GW271 := n9_; have GE271 := n10_; have NB243_271 := n11_; have NB271_243 := n12_; have NB244_271 := n13_; have NB271_244 := n14_; have NB247_271 := n15_; have NB271_247 := n16_; have NB248_271 := n17_; have NB271_248 := n18_; clear n0_ n1_ n2_ n3_ n4_ n5_ n6_ n7_ n8_ n9_ n10_ n11_ n12_ n13_ n14_ n15_ n16_ n17_ n18_; clear hb hbox hg; obtain ⟨Ao82, co82, eo82, _⟩ := Kd.Q_slice HO268.out; subst eo82; have hnb83 := NB271_243.out; have hnc83 := NB243_271.out; have hnb84 := NB271_244.out; have hnc84 := NB244_271.out; have hnb85 := NB271_247.out; have hnc85 := NB247_271.out; have hnb86 := NB271_248.out; have hnc86 := NB248_271.out; have hcz87_0 : w81.cell? ⟨gb271, 0, none⟩ = some (.slice none 0 0) := (lC BK271.out 0).trans rfl; have hcz87_1 : w81.cell? ⟨gb271, 1, none⟩ = some (.int .i64 0) := (lC BK271.out 1).trans rfl; have hcz87_2 : w81.cell? ⟨gb271, 2, none⟩ = some (.int .i64 0) := (lC BK271.out 2).trans rfl; have hfz87_0 := lF BK271.out 0; have hfz87_1 := lF BK271.out 1; have hfz87_2 := lF BK271.out 2))
                   refine Go.Proofs.Ytodhogegjkfemaa.Bx.here_ (fun hb => ?_)
                   have n0_ := Aside0.mk (Kd.Q_below (by (with_reducible repeat (first | apply qA | apply qN | apply qD)); exact (Kd.Q_mono (Kd.Q_far (p := ⟨gb271, 2, none⟩) (Kd.Q_far (p := ⟨gb271, 1, none⟩) (Kd.Q_far (p := ⟨gb271, 0, none⟩) (Kd.Q_types HO251.out BK271.out (by decide)) (fun _ hk => hk.2) (.slice Ao82 t266.length co82)) (fun _ hk => hk.2) (.int .i64 t269)) (fun _ hk => hk.2) (.int .i64 t270)) (fun _ h_ => h_.1))) hb)
                   have n1_ := Aside0.mk (Kd.Q_below (by (with_reducible repeat (first | apply qA | apply qN | apply qD)); exact (Kd.Q_mono (Kd.Q_far (p := ⟨gb271, 2, none⟩) (Kd.Q_far (p := ⟨gb271, 1, none⟩) (Kd.Q_far (p := ⟨gb271, 0, none⟩) (Kd.Q_types HO258.out BK271.out (by decide)) (fun _ hk => hk.2) (.slice Ao82 t266.length co82)) (fun _ hk => hk.2) (.int .i64 t269)) (fun _ hk => hk.2) (.int .i64 t270)) (fun _ h_ => h_.1))) hb)
                   have n2_ := Aside0.mk (Kd.Q_below (by (with_reducible repeat (first | apply qA | apply qN | apply qD)); exact (Kd.Q_mono (Kd.Q_far (p := ⟨gb271, 2, none⟩) (Kd.Q_far (p := ⟨gb271, 1, none⟩) (Kd.Q_far (p := ⟨gb271, 0, none⟩) (Kd.Q_types HO268.out BK271.out (by decide)) (fun _ hk => hk.2) (.slice Ao82 t266.length co82)) (fun _ hk => hk.2) (.int .i64 t269)) (fun _ hk => hk.2) (.int .i64 t270)) (fun _ h_ => h_.1))) hb)
                   have n3_ := Aside0.mk (blk_below (g := gb243) (o := .cells #[.slice A0_0 l0_0.length c0_0, .int .i64 a0_1, .int .i64 a0_2] 24 (0, 0)) (by (with_reducible repeat (first | refine lN ?_ _ | refine lD ?_ | refine lA ?_ _)); refine lX ?_ NB243_271.out _; (with_reducible repeat (first | refine lN ?_ _ | refine lD ?_ | refine lA ?_ _)); refine lX ?_ NB243_271.out _; (with_reducible repeat (first | refine lN ?_ _ | refine lD ?_ | refine lA ?_ _)); refine lX ?_ NB243_271.out _; (with_reducible repeat (first | refine lN ?_ _ | refine lD ?_ | refine lA ?_ _)); exact BK243.out) hb)
                   have n4_ := Aside0.mk (blk_below (g := gb244) (o := .cells #[.int .i64 a1_0, .string a1_1] 26 (0, 0)) (by (with_reducible repeat (first | refine lN ?_ _ | refine lD ?_ | refine lA ?_ _)); refine lX ?_ NB244_271.out _; (with_reducible repeat (first | refine lN ?_ _ | refine lD ?_ | refine lA ?_ _)); refine lX ?_ NB244_271.out _; (with_reducible repeat (first | refine lN ?_ _ | refine lD ?_ | refine lA ?_ _)); refine lX ?_ NB244_271.out _; (with_reducible repeat (first | refine lN ?_ _ | refine lD ?_ | refine lA ?_ _)); exact BK244.out) hb)
                   have n5_ := Aside0.mk (blk_below (g := gb247) (o := .cells #[.slice Ao70 t256.length co70, .int .i64 t259, .int .i64 t260] 29 (0, 0)) (by (with_reducible repeat (first | refine lN ?_ _ | refine lD ?_ | refine lA ?_ _)); refine lX ?_ NB247_271.out _; (with_reducible repeat (first | refine lN ?_ _ | refine lD ?_ | refine lA ?_ _)); refine lX ?_ NB247_271.out _; (with_reducible repeat (first | refine lN ?_ _ | refine lD ?_ | refine lA ?_ _)); refine lX ?_ NB247_271.out _; (with_reducible repeat (first | refine lN ?_ _ | refine lD ?_ | refine lA ?_ _)); exact BK247.out) hb)
                   have n6_ := Aside0.mk (blk_below (g := gb248) (o := .cells #[.int .i64 t261, .int .i64 t262, .int .i64 t263] 31 (0, 0)) (by (with_reducible repeat (first | refine lN ?_ _ | refine lD ?_ | refine lA ?_ _)); refine lX ?_ NB248_271.out _; (with_reducible repeat (first | refine lN ?_ _ | refine lD ?_ | refine lA ?_ _)); refine lX ?_ NB248_271.out _; (with_reducible repeat (first | refine lN ?_ _ | refine lD ?_ | refine lA ?_ _)); refine lX ?_ NB248_271.out _; (with_reducible repeat (first | refine lN ?_ _ | refine lD ?_ | refine lA ?_ _)); exact BK248.out) hb)
                   have n7_ := Aside0.mk (blk_below (g := gb271) (o := .cells #[.slice Ao82 t266.length co82, .int .i64 t269, .int .i64 t270] 29 (0, 0)) (by (with_reducible repeat (first | refine lN ?_ _ | refine lD ?_ | refine lA ?_ _)); refine lP (cs := #[.slice Ao82 t266.length co82, .int .i64 t269, .int .i64 0]) ?_ 2 _ rfl; (with_reducible repeat (first | refine lN ?_ _ | refine lD ?_ | refine lA ?_ _)); refine lP (cs := #[.slice Ao82 t266.length co82, .int .i64 0, .int .i64 0]) ?_ 1 _ rfl; (with_reducible repeat (first | refine lN ?_ _ | refine lD ?_ | refine lA ?_ _)); refine lP (cs := #[.slice none 0 0, .int .i64 0, .int .i64 0]) ?_ 0 _ rfl; (with_reducible repeat (first | refine lN ?_ _ | refine lD ?_ | refine lA ?_ _)); exact BK271.out) hb)
                   have n8_ := Aside0.mk (below_step (by repeat (first | (with_reducible first | exact HB.out | apply bA | apply bN | apply bD | refine bS ?_ GE243.out | refine bS ?_ GE244.out | refine bS ?_ GE247.out | refine bS ?_ GE248.out | refine bS ?_ GE271.out) | exact HB.out)) hb)
                   clear HO251
                   clear HO258
                   clear HO268
                   clear BK243
                   clear BK244
                   clear BK247
                   clear BK248
                   clear BK271
                   clear HB
                   have HO251 := n0_
                   have HO258 := n1_
                   have HO268 := n2_
                   have BK243 := n3_
                   have BK244 := n4_
                   have BK247 := n5_
                   have BK248 := n6_
                   have BK271 := n7_
                   have HB := n8_
                   clear n0_ n1_ n2_ n3_ n4_ n5_ n6_ n7_ n8_
                   clear hb
                   have n0_ := Aside0.mk (qD HO251.out)
                   have n1_ := Aside0.mk (qD HO258.out)
                   have n2_ := Aside0.mk (qD HO268.out)
                   have n3_ := Aside0.mk (lD BK243.out)
                   have n4_ := Aside0.mk (lD BK244.out)
                   have n5_ := Aside0.mk (lD BK247.out)
                   have n6_ := Aside0.mk (lD BK248.out)
                   have n7_ := Aside0.mk (lD BK271.out)
                   have n10_ := Aside0.mk (bD HB.out)
                   clear HO251
                   clear HO258
                   clear HO268
                   clear BK243
                   clear BK244
                   clear BK247
                   clear BK248
                   clear BK271
                   clear HB
                   have HO251 := n0_
                   have HO258 := n1_
                   have HO268 := n2_
                   have BK243 := n3_
                   have BK244 := n4_
                   have BK247 := n5_
                   have BK248 := n6_
                   have BK271 := n7_
                   have HB := n10_
                   clear n0_ n1_ n2_ n3_ n4_ n5_ n6_ n7_ n10_
                   refine start_ (n := 15) (S := fun w' => w'.cell? ⟨gb271, 0, none⟩ = some (.slice Ao82 t266.length co82) ∧ w'.cell? ⟨gb271, 1, none⟩ = some (.int .i64 t269) ∧ w'.cell? ⟨gb271, 2, none⟩ = some (.int .i64 t270) ∧ w'.cell? ⟨gb244, 0, none⟩ = some (.int .i64 a1_0) ∧ w'.cell? ⟨gb244, 1, none⟩ = some (.string a1_1)) (ds := []) #[false, false, false, false, false, false, false, false, false, false, false, false, false, false, false] (by kernel_rfl) rfl rfl ⟨(lC BK271.out 0).trans rfl, (lC BK271.out 1).trans rfl, (lC BK271.out 2).trans rfl, (lC BK244.out 0).trans rfl, (lC BK244.out 1).trans rfl⟩ (fun hHeld => ?_); refine with_tabW laws_FnExactStepClient.tab10 laws_FnExactStepClient.bits10 (fun HT_ HW_ => ?_)
                   generalize World.drew _ = w90 at HO251 HO258 HO268 BK243 BK244 BK247 BK248 BK271 HB hHeld ⊢
                   refine take_ (i := 0) (N := some 45) (v := ?_) (a' := ?_) #[true, false, false, false, false, false, false, false, false, false, false, false, false, false, false] rfl rfl (take_ofW HT_.out HW_.out (by kernel_rfl)) (fun _ _ _ h => h) (Or.inl ⟨by rfl, ?_⟩) hHeld ?_ ?_
                   rotate_left
                   ·rintro w' ⟨s0, s1, s2, s3, s4⟩
                    go_simp
                    with_reducible rfl
                   rotate_left
                   ·simp only [Act.put, List.setIfInBounds_toArray, List.set_cons_zero, List.set_cons_succ, i64_w, i32_w]
                    rfl
                   refine take_ (i := 1) (N := some 46) (v := ?_) (a' := ?_) #[true, true, false, false, false, false, false, false, false, false, false, false, false, false, false] rfl rfl (take_ofW HT_.out HW_.out (by kernel_rfl)) (fun _ _ _ h => h) (Or.inl ⟨by rfl, ?_⟩) hHeld ?_ ?_
                   rotate_left
                   ·rintro w' ⟨s0, s1, s2, s3, s4⟩
                    go_simp
                    with_reducible rfl
                   rotate_left
                   ·simp only [Act.put, List.setIfInBounds_toArray, List.set_cons_zero, List.set_cons_succ, i64_w, i32_w]
                    rfl
                   have hlo_ := Aside0.mk (below_size HB.out)
                   have hlt243_ := Aside0.mk (blk_lt BK243.out)
                   have hlt244_ := Aside0.mk (blk_lt BK244.out)
                   have hlt247_ := Aside0.mk (blk_lt BK247.out)
                   have hlt248_ := Aside0.mk (blk_lt BK248.out)
                   have hlt271_ := Aside0.mk (blk_lt BK271.out)
                   refine Go.Proofs.Ytodhogegjkfemaa.Bx.boxes_ (i := 9) (j := 10) (N1 := 11) (N2 := 12) (cs1 := #[.slice none 0 0, .int .i64 0, .int .i64 0]) (cs2 := #[.int .i64 0, .int .i64 0, .int .i64 0]) (t1 := 29) (t2 := 31) 4 #[true, true, true, true, true, true, true, true, true, true, true, false, false, false, false] #[true, true, false, false, false, false, false, false, false, true, true, false, false, false, false] [.call 2, .call 3, .pure 4, .pure 5, .pure 6, .pure 7, .pure 8] rfl rfl rfl rfl rfl rfl (by kernel_rfl) (by simp only [Go.Proofs.Ytodhogegjkfemaa.Bx.ba, Act.put, List.setIfInBounds_toArray, List.set_cons_zero, List.set_cons_succ]) ?_ ?_ ?_ (fun _ _ _ _ _ => Iff.rfl) hHeld ?_
                   ·intro a_ w_
                    first | (go_simp; done) | (go_simp; rfl)
                   ·intro a_ w_
                    first | (go_simp; done) | (go_simp; rfl)
                   ·rintro w_ w2_ hb_ ⟨s0, s1, s2, s3, s4⟩
                    exact ⟨pw_cell_below hb_ s0, pw_cell_below hb_ s1, pw_cell_below hb_ s2, pw_cell_below hb_ s3, pw_cell_below hb_ s4⟩
                   refine Go.Proofs.Ytodhogegjkfemaa.Bx.env_call (i := 2) (N := some 47) rfl rfl (fun w90 hE_ hHeld K hK => ?_)
                   have n0_ := Aside0.mk (Kd.Q_below HO251.out hE_)
                   have n1_ := Aside0.mk (Kd.Q_below HO258.out hE_)
                   have n2_ := Aside0.mk (Kd.Q_below HO268.out hE_)
                   have n3_ := Aside0.mk (blk_below BK243.out hE_)
                   have n4_ := Aside0.mk (blk_below BK244.out hE_)
                   have n5_ := Aside0.mk (blk_below BK247.out hE_)
                   have n6_ := Aside0.mk (blk_below BK248.out hE_)
                   have n7_ := Aside0.mk (blk_below BK271.out hE_)
                   have n8_ := Aside0.mk (below_step HB.out hE_)
                   clear hE_ HO251 HO258 HO268 BK243 BK244 BK247 BK248 BK271 HB
                   have HO251 := n0_
                   have HO258 := n1_
                   have HO268 := n2_
                   have BK243 := n3_
                   have BK244 := n4_
                   have BK247 := n5_
                   have BK248 := n6_
                   have BK271 := n7_
                   have HB := n8_
                   clear n0_ n1_ n2_ n3_ n4_ n5_ n6_ n7_ n8_
                   refine goes_ Try.func9 (by kernel_rfl) rfl #[.agg #[.int .i64 a1_0, .string a1_1]] (by rfl) rfl rfl (by (try simp only [List.map_toArray, List.map_cons, List.map_nil]); first | done | rfl | (simp only [List.length_drop, List.length_take]; rfl)) ?_
                   with_reducible refine (laws_toCoverStep.calls a1_0 a1_1 t274 t275 _ A23.out).mono ?_
                   rintro e w91 ⟨rfl, hb⟩
                   refine ⟨_, rfl, ?_⟩
                   have hkb_ := Aside0.mk (Go.Proofs.Ytodhogegjkfemaa.Bx.keep_b (t1 := 29) (t2 := 31) hb)
                   have hsz_ := Aside0.mk hb.size
                   have n0_ := Aside0.mk (Kd.Q_below (by (with_reducible repeat (first | apply qA | apply qN | apply qD)); exact HO251.out) hb)
                   have n1_ := Aside0.mk (Kd.Q_below (by (with_reducible repeat (first | apply qA | apply qN | apply qD)); exact HO258.out) hb)
                   have n2_ := Aside0.mk (Kd.Q_below (by (with_reducible repeat (first | apply qA | apply qN | apply qD)); exact HO268.out) hb)
                   have n3_ := Aside0.mk (blk_below (g := gb243) (o := .cells #[.slice A0_0 l0_0.length c0_0, .int .i64 a0_1, .int .i64 a0_2] 24 (0, 0)) (by (with_reducible repeat (first | refine lN ?_ _ | refine lD ?_ | refine lA ?_ _)); exact BK243.out) hb)
                   have n4_ := Aside0.mk (blk_below (g := gb244) (o := .cells #[.int .i64 a1_0, .string a1_1] 26 (0, 0)) (by (with_reducible repeat (first | refine lN ?_ _ | refine lD ?_ | refine lA ?_ _)); exact BK244.out) hb)
                   have n5_ := Aside0.mk (blk_below (g := gb247) (o := .cells #[.slice Ao70 t256.length co70, .int .i64 t259, .int .i64 t260] 29 (0, 0)) (by (with_reducible repeat (first | refine lN ?_ _ | refine lD ?_ | refine lA ?_ _)); exact BK247.out) hb)
                   have n6_ := Aside0.mk (blk_below (g := gb248) (o := .cells #[.int .i64 t261, .int .i64 t262, .int .i64 t263] 31 (0, 0)) (by (with_reducible repeat (first | refine lN ?_ _ | refine lD ?_ | refine lA ?_ _)); exact BK248.out) hb)
                   have n7_ := Aside0.mk (blk_below (g := gb271) (o := .cells #[.slice Ao82 t266.length co82, .int .i64 t269, .int .i64 t270] 29 (0, 0)) (by (with_reducible repeat (first | refine lN ?_ _ | refine lD ?_ | refine lA ?_ _)); exact BK271.out) hb)
                   have n10_ := Aside0.mk (below_step (by repeat (first | (with_reducible first | exact HB.out | apply bA | apply bN | apply bD | refine bS ?_ GE243.out | refine bS ?_ GE244.out | refine bS ?_ GE247.out | refine bS ?_ GE248.out | refine bS ?_ GE271.out) | exact HB.out)) hb)
                   clear HO251
                   clear HO258
                   clear HO268
                   clear BK243
                   clear BK244
                   clear BK247
                   clear BK248
                   clear BK271
                   clear HB
                   have HO251 := n0_
                   have HO258 := n1_
                   have HO268 := n2_
                   have BK243 := n3_
                   have BK244 := n4_
                   have BK247 := n5_
                   have BK248 := n6_
                   have BK271 := n7_
                   have HB := n10_
                   clear n0_ n1_ n2_ n3_ n4_ n5_ n6_ n7_ n10_
                   (try clear hb)
                   (try clear hb2)
                   (try clear hk)
                   (try clear hi)
                   refine hK.out _ _ ⟨(lC BK271.out 0).trans rfl, (lC BK271.out 1).trans rfl, (lC BK271.out 2).trans rfl, (lC BK244.out 0).trans rfl, (lC BK244.out 1).trans rfl⟩ hkb_.out hsz_.out (fun hHeld => ?_)
                   clear hK K hkb_ hsz_
                   refine Go.Proofs.Ytodhogegjkfemaa.Bx.env_norm (a' := ?_) ?_ ?_
                   rotate_left
                   ·show Act.put _ (some 47) _ = _
                    simp only [Act.put, List.setIfInBounds_toArray, List.set_cons_zero, List.set_cons_succ, i64_w, i32_w]
                    rfl
                   refine Go.Proofs.Ytodhogegjkfemaa.Bx.env_call (i := 3) (N := some 48) rfl rfl (fun w91 hE_ hHeld K hK => ?_)
                   have n0_ := Aside0.mk (Kd.Q_below HO251.out hE_)
                   have n1_ := Aside0.mk (Kd.Q_below HO258.out hE_)
                   have n2_ := Aside0.mk (Kd.Q_below HO268.out hE_)
                   have n3_ := Aside0.mk (blk_below BK243.out hE_)
                   have n4_ := Aside0.mk (blk_below BK244.out hE_)
                   have n5_ := Aside0.mk (blk_below BK247.out hE_)
                   have n6_ := Aside0.mk (blk_below BK248.out hE_)
                   have n7_ := Aside0.mk (blk_below BK271.out hE_)
                   have n8_ := Aside0.mk (below_step HB.out hE_)
                   clear hE_ HO251 HO258 HO268 BK243 BK244 BK247 BK248 BK271 HB
                   have HO251 := n0_
                   have HO258 := n1_
                   have HO268 := n2_
                   have BK243 := n3_
                   have BK244 := n4_
                   have BK247 := n5_
                   have BK248 := n6_
                   have BK271 := n7_
                   have HB := n8_
                   clear n0_ n1_ n2_ n3_ n4_ n5_ n6_ n7_ n8_
                   refine goes_ Try.func10 (by kernel_rfl) rfl #[.agg #[.slice Ao82 t266.length co82, .int .i64 t269, .int .i64 t270], .agg #[.int .i64 t274, .string t275]] (by rfl) rfl rfl (by (try simp only [List.map_toArray, List.map_cons, List.map_nil]); first | done | rfl | (simp only [List.length_drop, List.length_take]; rfl)) ?_
                   with_reducible refine (impl_StepClient.calls k _ _ t266 t269 t270 t274 t275 t276 t279 t280 t281 t282 t283 t284 t285 _ ?side1 ?side2 A24.out).mono ?_
                   (case side1 => repeat (first | exact (Kd.Q_reads' HO268.out).2.2 | (with_reducible first | refine cA ?_ _ | refine cN ?_ _ | refine cD ?_)))
                   (case side2 => exact (Kd.Q_reads' HO268.out).2.1)
                   rintro e w92 ⟨v277, rfl, ho0, hb⟩
                   refine ⟨_, rfl, ?_⟩
                   have hkb_ := Aside0.mk (Go.Proofs.Ytodhogegjkfemaa.Bx.keep_b (t1 := 29) (t2 := 31) hb)
                   have hsz_ := Aside0.mk hb.size
                   have n0_ := Aside0.mk (Kd.Q_elder' (by (with_reducible repeat (first | apply qA | apply qN | apply qD)); exact HO251.out) (Kd.Q_base ho0) hb)
                   have n1_ := Aside0.mk (Kd.Q_elder' (by (with_reducible repeat (first | apply qA | apply qN | apply qD)); exact HO258.out) (Kd.Q_base ho0) hb)
                   have n2_ := Aside0.mk (Kd.Q_elder' (by (with_reducible repeat (first | apply qA | apply qN | apply qD)); exact HO268.out) (Kd.Q_base ho0) hb)
                   have n3_ := Aside0.mk (Kd.Q_lower (Kd.Q_new' (Kd.Q_new' (Kd.Q_new' ho0 (Kd.Q_lt (by (with_reducible repeat (first | apply qA | apply qN | apply qD)); exact HO251.out))) (Kd.Q_lt (by (with_reducible repeat (first | apply qA | apply qN | apply qD)); exact HO258.out))) (Kd.Q_lt (by (with_reducible repeat (first | apply qA | apply qN | apply qD)); exact HO268.out))) (below_size (by repeat (first | (with_reducible first | exact HB.out | apply bA | apply bN | apply bD | refine bS ?_ GE243.out | refine bS ?_ GE244.out | refine bS ?_ GE247.out | refine bS ?_ GE248.out | refine bS ?_ GE271.out) | exact HB.out))))
                   have n4_ := Aside0.mk (blk_below (g := gb243) (o := .cells #[.slice A0_0 l0_0.length c0_0, .int .i64 a0_1, .int .i64 a0_2] 24 (0, 0)) (by (with_reducible repeat (first | refine lN ?_ _ | refine lD ?_ | refine lA ?_ _)); exact BK243.out) hb)
                   have n5_ := Aside0.mk (blk_below (g := gb244) (o := .cells #[.int .i64 a1_0, .string a1_1] 26 (0, 0)) (by (with_reducible repeat (first | refine lN ?_ _ | refine lD ?_ | refine lA ?_ _)); exact BK244.out) hb)
                   have n6_ := Aside0.mk (blk_below (g := gb247) (o := .cells #[.slice Ao70 t256.length co70, .int .i64 t259, .int .i64 t260] 29 (0, 0)) (by (with_reducible repeat (first | refine lN ?_ _ | refine lD ?_ | refine lA ?_ _)); exact BK247.out) hb)
                   have n7_ := Aside0.mk (blk_below (g := gb248) (o := .cells #[.int .i64 t261, .int .i64 t262, .int .i64 t263] 31 (0, 0)) (by (with_reducible repeat (first | refine lN ?_ _ | refine lD ?_ | refine lA ?_ _)); exact BK248.out) hb)
                   have n8_ := Aside0.mk (blk_below (g := gb271) (o := .cells #[.slice Ao82 t266.length co82, .int .i64 t269, .int .i64 t270] 29 (0, 0)) (by (with_reducible repeat (first | refine lN ?_ _ | refine lD ?_ | refine lA ?_ _)); exact BK271.out) hb)
                   have n11_ := Aside0.mk (below_step (by repeat (first | (with_reducible first | exact HB.out | apply bA | apply bN | apply bD | refine bS ?_ GE243.out | refine bS ?_ GE244.out | refine bS ?_ GE247.out | refine bS ?_ GE248.out | refine bS ?_ GE271.out) | exact HB.out)) hb)
                   clear HO251
                   clear HO258
                   clear HO268
                   clear BK243
                   clear BK244
                   clear BK247
                   clear BK248
                   clear BK271
                   clear HB
                   have HO251 := n0_
                   have HO258 := n1_
                   have HO268 := n2_
                   have HO278 := n3_
                   have BK243 := n4_
                   have BK244 := n5_
                   have BK247 := n6_
                   have BK248 := n7_
                   have BK271 := n8_
                   have HB := n11_
                   clear n0_ n1_ n2_ n3_ n4_ n5_ n6_ n7_ n8_ n11_
                   (try clear hb)
                   (try clear hb2)
                   (try clear hk)
                   (try clear hi)
                   (try clear ho0)
                   obtain ⟨Ao93, co93, eo93, _⟩ := Kd.Q_slice HO278.out
                   (first | subst eo93 | (injection eo93 with f1_ f2_ f3_; have f4_ := f1_.symm; have f5_ := f3_.symm; clear f1_ f2_ f3_; subst f4_; subst f5_))
                   refine hK.out _ _ ⟨(lC BK271.out 0).trans rfl, (lC BK271.out 1).trans rfl, (lC BK271.out 2).trans rfl, (lC BK244.out 0).trans rfl, (lC BK244.out 1).trans rfl⟩ hkb_.out hsz_.out (fun hHeld => ?_)
                   clear hK K hkb_ hsz_
                   refine Go.Proofs.Ytodhogegjkfemaa.Bx.env_norm (a' := ?_) ?_ ?_
                   rotate_left
                   ·show Act.put _ (some 48) _ = _
                    simp only [Act.put, List.setIfInBounds_toArray, List.set_cons_zero, List.set_cons_succ, i64_w, i32_w]
                    rfl
                   refine Go.Proofs.Ytodhogegjkfemaa.Bx.env_pure (i := 4) (N := some 44) (v := ?_) (a' := ?_) rfl rfl (Or.inl ⟨by rfl, ?_⟩) ?_ ?_
                   rotate_left
                   ·intro w'
                    go_simp
                    with_reducible rfl
                   rotate_left
                   ·simp only [Act.put, List.setIfInBounds_toArray, List.set_cons_zero, List.set_cons_succ, i64_w, i32_w]
                    rfl
                   refine Go.Proofs.Ytodhogegjkfemaa.Bx.env_pure (i := 5) (N := some 49) (v := ?_) (a' := ?_) rfl rfl (Or.inl ⟨by rfl, ?_⟩) ?_ ?_
                   rotate_left
                   ·intro w'
                    go_simp
                    with_reducible rfl
                   rotate_left
                   ·simp only [Act.put, List.setIfInBounds_toArray, List.set_cons_zero, List.set_cons_succ, i64_w, i32_w]
                    rfl
                   refine Go.Proofs.Ytodhogegjkfemaa.Bx.env_pure (i := 6) (N := some 50) (v := ?_) (a' := ?_) rfl rfl (Or.inl ⟨by rfl, ?_⟩) ?_ ?_
                   rotate_left
                   ·intro w'
                    go_simp
                    with_reducible rfl
                   rotate_left
                   ·simp only [Act.put, List.setIfInBounds_toArray, List.set_cons_zero, List.set_cons_succ, i64_w, i32_w]
                    rfl
                   refine Go.Proofs.Ytodhogegjkfemaa.Bx.env_pure (i := 7) (N := some 51) (v := ?_) (a' := ?_) rfl rfl (Or.inl ⟨by rfl, ?_⟩) ?_ ?_
                   rotate_left
                   ·intro w'
                    go_simp
                    with_reducible rfl
                   rotate_left
                   ·simp only [Act.put, List.setIfInBounds_toArray, List.set_cons_zero, List.set_cons_succ, i64_w, i32_w]
                    rfl
                   refine Go.Proofs.Ytodhogegjkfemaa.Bx.env_pure (i := 8) (N := some 52) (v := ?_) (a' := ?_) rfl rfl (Or.inl ⟨by rfl, ?_⟩) ?_ ?_
                   rotate_left
                   ·intro w'
                    go_simp
                    with_reducible rfl
                   rotate_left
                   ·simp only [Act.put, List.setIfInBounds_toArray, List.set_cons_zero, List.set_cons_succ, i64_w, i32_w]
                    rfl
                   intro w92 hE_ hHeld gb272 gb273 BKa_ BKb_ GEa_ GEb_ NBab_
                   have n0_ := Aside0.mk (Kd.Q_below HO251.out hE_)
                   have n1_ := Aside0.mk (Kd.Q_below HO258.out hE_)
                   have n2_ := Aside0.mk (Kd.Q_below HO268.out hE_)
                   have n3_ := Aside0.mk (blk_below BK243.out hE_)
                   have n4_ := Aside0.mk (blk_below BK244.out hE_)
                   have n5_ := Aside0.mk (blk_below BK247.out hE_)
                   have n6_ := Aside0.mk (blk_below BK248.out hE_)
                   have n7_ := Aside0.mk (blk_below BK271.out hE_)
                   have n8_ := Aside0.mk (Kd.Q_below HO278.out hE_)
                   have n9_ := Aside0.mk (below_step HB.out hE_)
                   clear hE_ HO251 HO258 HO268 BK243 BK244 BK247 BK248 BK271 HO278 HB
                   have HO251 := n0_
                   have HO258 := n1_
                   have HO268 := n2_
                   have BK243 := n3_
                   have BK244 := n4_
                   have BK247 := n5_
                   have BK248 := n6_
                   have BK271 := n7_
                   have HO278 := n8_
                   have HB := n9_
                   clear n0_ n1_ n2_ n3_ n4_ n5_ n6_ n7_ n8_ n9_
                   have BK272 := Aside0.mk BKa_
                   have BK273 := Aside0.mk BKb_
                   have GW272 := Aside0.mk (Nat.le_trans hlo_.out GEa_)
                   have GW273 := Aside0.mk (Nat.le_trans hlo_.out GEb_)
                   have GE272 := Aside0.mk (Nat.le_trans hlo_.out GEa_)
                   have GE273 := Aside0.mk (Nat.le_trans hlo_.out GEb_)
                   have NB243_272 := Aside0.mk (Nat.ne_of_lt (Nat.lt_of_lt_of_le hlt243_.out GEa_))
                   have NB272_243 := Aside0.mk (Nat.ne_of_gt (Nat.lt_of_lt_of_le hlt243_.out GEa_))
                   have NB243_273 := Aside0.mk (Nat.ne_of_lt (Nat.lt_of_lt_of_le hlt243_.out GEb_))
                   have NB273_243 := Aside0.mk (Nat.ne_of_gt (Nat.lt_of_lt_of_le hlt243_.out GEb_))
                   have NB244_272 := Aside0.mk (Nat.ne_of_lt (Nat.lt_of_lt_of_le hlt244_.out GEa_))
                   have NB272_244 := Aside0.mk (Nat.ne_of_gt (Nat.lt_of_lt_of_le hlt244_.out GEa_))
                   have NB244_273 := Aside0.mk (Nat.ne_of_lt (Nat.lt_of_lt_of_le hlt244_.out GEb_))
                   have NB273_244 := Aside0.mk (Nat.ne_of_gt (Nat.lt_of_lt_of_le hlt244_.out GEb_))
                   have NB247_272 := Aside0.mk (Nat.ne_of_lt (Nat.lt_of_lt_of_le hlt247_.out GEa_))
                   have NB272_247 := Aside0.mk (Nat.ne_of_gt (Nat.lt_of_lt_of_le hlt247_.out GEa_))
                   have NB247_273 := Aside0.mk (Nat.ne_of_lt (Nat.lt_of_lt_of_le hlt247_.out GEb_))
                   have NB273_247 := Aside0.mk (Nat.ne_of_gt (Nat.lt_of_lt_of_le hlt247_.out GEb_))
                   have NB248_272 := Aside0.mk (Nat.ne_of_lt (Nat.lt_of_lt_of_le hlt248_.out GEa_))
                   have NB272_248 := Aside0.mk (Nat.ne_of_gt (Nat.lt_of_lt_of_le hlt248_.out GEa_))
                   have NB248_273 := Aside0.mk (Nat.ne_of_lt (Nat.lt_of_lt_of_le hlt248_.out GEb_))
                   have NB273_248 := Aside0.mk (Nat.ne_of_gt (Nat.lt_of_lt_of_le hlt248_.out GEb_))
                   have NB271_272 := Aside0.mk (Nat.ne_of_lt (Nat.lt_of_lt_of_le hlt271_.out GEa_))
                   have NB272_271 := Aside0.mk (Nat.ne_of_gt (Nat.lt_of_lt_of_le hlt271_.out GEa_))
                   have NB271_273 := Aside0.mk (Nat.ne_of_lt (Nat.lt_of_lt_of_le hlt271_.out GEb_))
                   have NB273_271 := Aside0.mk (Nat.ne_of_gt (Nat.lt_of_lt_of_le hlt271_.out GEb_))
                   have NB272_273 := Aside0.mk NBab_
                   have NB273_272 := Aside0.mk (Ne.symm NBab_)
                   clear hlo_ BKa_ BKb_ GEa_ GEb_ NBab_ hlt243_ hlt244_ hlt247_ hlt248_ hlt271_
                   refine norm_ (a' := ?_) ?_ ?_
                   rotate_left
                   ·simp only [Go.Proofs.Ytodhogegjkfemaa.Bx.ba, Act.put, List.setIfInBounds_toArray, List.set_cons_zero, List.set_cons_succ]
                    rfl
                   refine one_ (i := 11) (N := none) #[true, true, true, true, true, true, true, true, true, true, true, true, false, false, false] rfl rfl (one_of HT_.out (by kernel_rfl)) (by decide) (fun K hK => ?_)
                   have hs94 : w92.cell? ⟨gb272, 0, none⟩ = some (.slice none 0 0) := (lC BK272.out 0).trans rfl
                   have hfs94 := lF BK272.out 0
                   have hns94_0 := NB243_272.out
                   have hns94_1 := NB244_272.out
                   have hns94_2 := NB247_272.out
                   have hns94_3 := NB248_272.out
                   have hns94_4 := NB271_272.out
                   have hns94_6 := NB273_272.out
                   have hms94_0 := NB272_243.out
                   have hms94_1 := NB272_244.out
                   have hms94_2 := NB272_247.out
                   have hms94_3 := NB272_248.out
                   have hms94_4 := NB272_271.out
                   have hms94_6 := NB272_273.out
                   have hs95 : w92.cell? ⟨gb272, 1, none⟩ = some (.int .i64 0) := (lC BK272.out 1).trans rfl
                   have hfs95 := lF BK272.out 1
                   have hns95_0 := NB243_272.out
                   have hns95_1 := NB244_272.out
                   have hns95_2 := NB247_272.out
                   have hns95_3 := NB248_272.out
                   have hns95_4 := NB271_272.out
                   have hns95_6 := NB273_272.out
                   have hms95_0 := NB272_243.out
                   have hms95_1 := NB272_244.out
                   have hms95_2 := NB272_247.out
                   have hms95_3 := NB272_248.out
                   have hms95_4 := NB272_271.out
                   have hms95_6 := NB272_273.out
                   have hs96 : w92.cell? ⟨gb272, 2, none⟩ = some (.int .i64 0) := (lC BK272.out 2).trans rfl
                   have hfs96 := lF BK272.out 2
                   have hns96_0 := NB243_272.out
                   have hns96_1 := NB244_272.out
                   have hns96_2 := NB247_272.out
                   have hns96_3 := NB248_272.out
                   have hns96_4 := NB271_272.out
                   have hns96_6 := NB273_272.out
                   have hms96_0 := NB272_243.out
                   have hms96_1 := NB272_244.out
                   have hms96_2 := NB272_247.out
                   have hms96_3 := NB272_248.out
                   have hms96_4 := NB272_271.out
                   have hms96_6 := NB272_273.out
                   refine skip_ (w1 := ?_) (by rfl) rfl ?_ ?_
                   rotate_left
                   ·go_simp
                    rfl
                   refine hK.out _ _ ⟨((cell_far (p := ⟨gb272, _, none⟩) NB271_272.out _).trans (((cell_far (p := ⟨gb272, _, none⟩) NB271_272.out _).trans (((cell_far (p := ⟨gb272, _, none⟩) NB271_272.out _).trans (hHeld.1)))))), ((cell_far (p := ⟨gb272, _, none⟩) NB271_272.out _).trans (((cell_far (p := ⟨gb272, _, none⟩) NB271_272.out _).trans (((cell_far (p := ⟨gb272, _, none⟩) NB271_272.out _).trans (hHeld.2.1)))))), ((cell_far (p := ⟨gb272, _, none⟩) NB271_272.out _).trans (((cell_far (p := ⟨gb272, _, none⟩) NB271_272.out _).trans (((cell_far (p := ⟨gb272, _, none⟩) NB271_272.out _).trans (hHeld.2.2.1)))))), ((cell_far (p := ⟨gb272, _, none⟩) NB244_272.out _).trans (((cell_far (p := ⟨gb272, _, none⟩) NB244_272.out _).trans (((cell_far (p := ⟨gb272, _, none⟩) NB244_272.out _).trans (hHeld.2.2.2.1)))))), ((cell_far (p := ⟨gb272, _, none⟩) NB244_272.out _).trans (((cell_far (p := ⟨gb272, _, none⟩) NB244_272.out _).trans (((cell_far (p := ⟨gb272, _, none⟩) NB244_272.out _).trans (hHeld.2.2.2.2))))))⟩ (fun hHeld => ?_)
                   clear hK K
                   refine one_ (i := 12) (N := none) #[true, true, true, true, true, true, true, true, true, true, true, true, true, false, false] rfl rfl (one_of HT_.out (by kernel_rfl)) (by decide) (fun K hK => ?_)
                   have hs97 : w92.cell? ⟨gb273, 0, none⟩ = some (.int .i64 0) := (lC BK273.out 0).trans rfl
                   have hfs97 := lF BK273.out 0
                   have hns97_0 := NB243_273.out
                   have hns97_1 := NB244_273.out
                   have hns97_2 := NB247_273.out
                   have hns97_3 := NB248_273.out
                   have hns97_4 := NB271_273.out
                   have hns97_5 := NB272_273.out
                   have hms97_0 := NB273_243.out
                   have hms97_1 := NB273_244.out
                   have hms97_2 := NB273_247.out
                   have hms97_3 := NB273_248.out
                   have hms97_4 := NB273_271.out
                   have hms97_5 := NB273_272.out
                   have hs98 : w92.cell? ⟨gb273, 1, none⟩ = some (.int .i64 0) := (lC BK273.out 1).trans rfl
                   have hfs98 := lF BK273.out 1
                   have hns98_0 := NB243_273.out
                   have hns98_1 := NB244_273.out
                   have hns98_2 := NB247_273.out
                   have hns98_3 := NB248_273.out
                   have hns98_4 := NB271_273.out
                   have hns98_5 := NB272_273.out
                   have hms98_0 := NB273_243.out
                   have hms98_1 := NB273_244.out
                   have hms98_2 := NB273_247.out
                   have hms98_3 := NB273_248.out
                   have hms98_4 := NB273_271.out
                   have hms98_5 := NB273_272.out
                   have hs99 : w92.cell? ⟨gb273, 2, none⟩ = some (.int .i64 0) := (lC BK273.out 2).trans rfl
                   have hfs99 := lF BK273.out 2
                   have hns99_0 := NB243_273.out
                   have hns99_1 := NB244_273.out
                   have hns99_2 := NB247_273.out
                   have hns99_3 := NB248_273.out
                   have hns99_4 := NB271_273.out
                   have hns99_5 := NB272_273.out
                   have hms99_0 := NB273_243.out
                   have hms99_1 := NB273_244.out
                   have hms99_2 := NB273_247.out
                   have hms99_3 := NB273_248.out
                   have hms99_4 := NB273_271.out
                   have hms99_5 := NB273_272.out
                   refine skip_ (w1 := ?_) (by rfl) rfl ?_ ?_
                   rotate_left
                   ·go_simp
                    rfl
                   refine hK.out _ _ ⟨((cell_far (p := ⟨gb273, _, none⟩) NB271_273.out _).trans (((cell_far (p := ⟨gb273, _, none⟩) NB271_273.out _).trans (((cell_far (p := ⟨gb273, _, none⟩) NB271_273.out _).trans (hHeld.1)))))), ((cell_far (p := ⟨gb273, _, none⟩) NB271_273.out _).trans (((cell_far (p := ⟨gb273, _, none⟩) NB271_273.out _).trans (((cell_far (p := ⟨gb273, _, none⟩) NB271_273.out _).trans (hHeld.2.1)))))), ((cell_far (p := ⟨gb273, _, none⟩) NB271_273.out _).trans (((cell_far (p := ⟨gb273, _, none⟩) NB271_273.out _).trans (((cell_far (p := ⟨gb273, _, none⟩) NB271_273.out _).trans (hHeld.2.2.1)))))), ((cell_far (p := ⟨gb273, _, none⟩) NB244_273.out _).trans (((cell_far (p := ⟨gb273, _, none⟩) NB244_273.out _).trans (((cell_far (p := ⟨gb273, _, none⟩) NB244_273.out _).trans (hHeld.2.2.2.1)))))), ((cell_far (p := ⟨gb273, _, none⟩) NB244_273.out _).trans (((cell_far (p := ⟨gb273, _, none⟩) NB244_273.out _).trans (((cell_far (p := ⟨gb273, _, none⟩) NB244_273.out _).trans (hHeld.2.2.2.2))))))⟩ (fun hHeld => ?_)
                   clear hK K
                   refine pure_ (i := 13) (N := some 13) (v := ?_) (a' := ?_) #[true, true, true, true, true, true, true, true, true, true, true, true, true, true, false] rfl rfl (any_of HT_.out (by kernel_rfl)) (fun _ _ _ h => h) (Or.inl ⟨by rfl, ?_⟩) ?_ ?_
                   rotate_left
                   ·intro w'
                    go_simp
                    with_reducible rfl
                   rotate_left
                   ·simp only [Act.put, List.setIfInBounds_toArray, List.set_cons_zero, List.set_cons_succ, i64_w, i32_w]
                    rfl
                   refine pure_ (i := 14) (N := some 14) (v := ?_) (a' := ?_) #[true, true, true, true, true, true, true, true, true, true, true, true, true, true, true] rfl rfl (any_of HT_.out (by kernel_rfl)) (fun _ _ _ h => h) (Or.inl ⟨by rfl, ?_⟩) ?_ ?_
                   rotate_left
                   ·intro w'
                    go_simp
                    with_reducible rfl
                   rotate_left
                   ·simp only [Act.put, List.setIfInBounds_toArray, List.set_cons_zero, List.set_cons_succ, i64_w, i32_w]
                    rfl
                   refine done_ (done_of HT_.out (by kernel_rfl)) ?_
                   have hnb100 := NB272_243.out
                   have hnc100 := NB243_272.out
                   have hnb101 := NB272_244.out
                   have hnc101 := NB244_272.out
                   have hnb102 := NB272_247.out
                   have hnc102 := NB247_272.out
                   have hnb103 := NB272_248.out
                   have hnc103 := NB248_272.out
                   have hnb104 := NB272_271.out
                   have hnc104 := NB271_272.out
                   have hnb105 := NB272_273.out
                   have hnc105 := NB273_272.out
                   have hcz106_0 : w92.cell? ⟨gb272, 0, none⟩ = some (.slice none 0 0) := (lC BK272.out 0).trans rfl
                   have hcz106_1 : w92.cell? ⟨gb272, 1, none⟩ = some (.int .i64 0) := (lC BK272.out 1).trans rfl
                   have hcz106_2 : w92.cell? ⟨gb272, 2, none⟩ = some (.int .i64 0) := (lC BK272.out 2).trans rfl
                   have hfz106_0 := lF BK272.out 0
                   have hfz106_1 := lF BK272.out 1
                   have hfz106_2 := lF BK272.out 2
                   have hnb107 := NB247_244.out
                   have hnc107 := NB244_247.out
                   have hnb108 := NB247_248.out
                   have hnc108 := NB248_247.out
                   have hnb109 := NB247_273.out
                   have hnc109 := NB273_247.out
                   have hcz110_0 : w92.cell? ⟨gb247, 0, none⟩ = some (.slice Ao70 t256.length co70) := (lC BK247.out 0).trans rfl
                   have hcz110_1 : w92.cell? ⟨gb247, 1, none⟩ = some (.int .i64 t259) := (lC BK247.out 1).trans rfl
                   have hcz110_2 : w92.cell? ⟨gb247, 2, none⟩ = some (.int .i64 t260) := (lC BK247.out 2).trans rfl
                   have hfz110_0 := lF BK247.out 0
                   have hfz110_1 := lF BK247.out 1
                   have hfz110_2 := lF BK247.out 2
                   try go_wp2_with (first | ((with_reducible refine gate_callee (f := 11) rfl ?_); refine goesL_ (some 55) rfl rfl Try.func11 (by kernel_rfl) rfl #[.agg #[.slice Ao93 t276.length co93, .int .i64 t279, .int .i64 t280], .agg #[.slice Ao70 t256.length co70, .int .i64 t259, .int .i64 t260]] rfl (by (try simp only [List.map_toArray, List.map_cons, List.map_nil]); first | done | rfl | (simp only [List.length_drop, List.length_take]; rfl)) ?_; (with_reducible refine (laws_eqClient.calls k _ _ t276 t279 t280 _ _ t256 t259 t260 true _ ?side1 ?side2 ?side3 ?side4 A25.out).mono ?_); (case side1 => refine (Kd.Q_reads' (e := 9) (base := w.heap.size) (ok := fun k_ => (((True ∧ some k_ ≠ (.slice Ao68 t249.length co68 : Value).ownBlock) ∧ some k_ ≠ (.slice Ao70 t256.length co70 : Value).ownBlock) ∧ some k_ ≠ (.slice Ao82 t266.length co82 : Value).ownBlock)) (n := t276.length) (c := co93) ?_).2.2; exact (by (with_reducible repeat (first | apply qA | apply qN | apply qD)); exact (Kd.Q_mono (Kd.Q_mono (Kd.Q_far (p := ⟨gb273, 2, none⟩) (Kd.Q_far (p := ⟨gb273, 1, none⟩) (Kd.Q_far (p := ⟨gb273, 0, none⟩) (Kd.Q_far (p := ⟨gb272, 2, none⟩) (Kd.Q_far (p := ⟨gb272, 1, none⟩) (Kd.Q_far (p := ⟨gb272, 0, none⟩) (Kd.Q_types (Kd.Q_types HO278.out BK272.out (by decide)) BK273.out (by decide)) (fun _ hk => hk.1.2) (.slice Ao93 t276.length co93)) (fun _ hk => hk.1.2) (.int .i64 t279)) (fun _ hk => hk.1.2) (.int .i64 t280)) (fun _ hk => hk.2) (.int .i64 t281)) (fun _ hk => hk.2) (.int .i64 t282)) (fun _ hk => hk.2) (.int .i64 t283)) (fun _ h_ => h_.1)) (fun _ h_ => h_.1)))); (case side2 => exact (Kd.Q_reads' HO278.out).2.1); (case side3 => refine (Kd.Q_reads' (e := 9) (base := w.heap.size) (ok := fun k_ => (((True ∧ some k_ ≠ (.slice Ao68 t249.length co68 : Value).ownBlock) ∧ some k_ ≠ (.slice Ao82 t266.length co82 : Value).ownBlock) ∧ some k_ ≠ (.slice Ao93 t276.length co93 : Value).ownBlock)) (n := t256.length) (c := co70) ?_).2.2; exact (by (with_reducible repeat (first | apply qA | apply qN | apply qD)); exact (Kd.Q_mono (Kd.Q_mono (Kd.Q_far (p := ⟨gb273, 2, none⟩) (Kd.Q_far (p := ⟨gb273, 1, none⟩) (Kd.Q_far (p := ⟨gb273, 0, none⟩) (Kd.Q_far (p := ⟨gb272, 2, none⟩) (Kd.Q_far (p := ⟨gb272, 1, none⟩) (Kd.Q_far (p := ⟨gb272, 0, none⟩) (Kd.Q_types (Kd.Q_types HO258.out BK272.out (by decide)) BK273.out (by decide)) (fun _ hk => hk.1.2) (.slice Ao93 t276.length co93)) (fun _ hk => hk.1.2) (.int .i64 t279)) (fun _ hk => hk.1.2) (.int .i64 t280)) (fun _ hk => hk.2) (.int .i64 t281)) (fun _ hk => hk.2) (.int .i64 t282)) (fun _ hk => hk.2) (.int .i64 t283)) (fun _ h_ => h_.1)) (fun _ h_ => h_.1)))); (case side4 => exact (Kd.Q_reads' HO258.out).2.1); rintro e w111 ⟨rfl, hb⟩; refine ⟨_, rfl, ?_⟩; have n0_ := Aside0.mk (Kd.Q_below (by (with_reducible repeat (first | apply qA | apply qN | apply qD)); exact (Kd.Q_mono (Kd.Q_mono (Kd.Q_far (p := ⟨gb273, 2, none⟩) (Kd.Q_far (p := ⟨gb273, 1, none⟩) (Kd.Q_far (p := ⟨gb273, 0, none⟩) (Kd.Q_far (p := ⟨gb272, 2, none⟩) (Kd.Q_far (p := ⟨gb272, 1, none⟩) (Kd.Q_far (p := ⟨gb272, 0, none⟩) (Kd.Q_types (Kd.Q_types HO251.out BK272.out (by decide)) BK273.out (by decide)) (fun _ hk => hk.1.2) (.slice Ao93 t276.length co93)) (fun _ hk => hk.1.2) (.int .i64 t279)) (fun _ hk => hk.1.2) (.int .i64 t280)) (fun _ hk => hk.2) (.int .i64 t281)) (fun _ hk => hk.2) (.int .i64 t282)) (fun _ hk => hk.2) (.int .i64 t283)) (fun _ h_ => h_.1)) (fun _ h_ => h_.1))) hb); have n1_ := Aside0.mk (Kd.Q_below (by (with_reducible repeat (first | apply qA | apply qN | apply qD)); exact (Kd.Q_mono (Kd.Q_mono (Kd.Q_far (p := ⟨gb273, 2, none⟩) (Kd.Q_far (p := ⟨gb273, 1, none⟩) (Kd.Q_far (p := ⟨gb273, 0, none⟩) (Kd.Q_far (p := ⟨gb272, 2, none⟩) (Kd.Q_far (p := ⟨gb272, 1, none⟩) (Kd.Q_far (p := ⟨gb272, 0, none⟩) (Kd.Q_types (Kd.Q_types HO258.out BK272.out (by decide)) BK273.out (by decide)) (fun _ hk => hk.1.2) (.slice Ao93 t276.length co93)) (fun _ hk => hk.1.2) (.int .i64 t279)) (fun _ hk => hk.1.2) (.int .i64 t280)) (fun _ hk => hk.2) (.int .i64 t281)) (fun _ hk => hk.2) (.int .i64 t282)) (fun _ hk => hk.2) (.int .i64 t283)) (fun _ h_ => h_.1)) (fun _ h_ => h_.1))) hb); have n2_ := Aside0.mk (Kd.Q_below (by (with_reducible repeat (first | apply qA | apply qN | apply qD)); exact (Kd.Q_mono (Kd.Q_mono (Kd.Q_far (p := ⟨gb273, 2, none⟩) (Kd.Q_far (p := ⟨gb273, 1, none⟩) (Kd.Q_far (p := ⟨gb273, 0, none⟩) (Kd.Q_far (p := ⟨gb272, 2, none⟩) (Kd.Q_far (p := ⟨gb272, 1, none⟩) (Kd.Q_far (p := ⟨gb272, 0, none⟩) (Kd.Q_types (Kd.Q_types HO268.out BK272.out (by decide)) BK273.out (by decide)) (fun _ hk => hk.1.2) (.slice Ao93 t276.length co93)) (fun _ hk => hk.1.2) (.int .i64 t279)) (fun _ hk => hk.1.2) (.int .i64 t280)) (fun _ hk => hk.2) (.int .i64 t281)) (fun _ hk => hk.2) (.int .i64 t282)) (fun _ hk => hk.2) (.int .i64 t283)) (fun _ h_ => h_.1)) (fun _ h_ => h_.1))) hb); have n3_ := Aside0.mk (Kd.Q_below (by (with_reducible repeat (first | apply qA | apply qN | apply qD)); exact (Kd.Q_mono (Kd.Q_mono (Kd.Q_far (p := ⟨gb273, 2, none⟩) (Kd.Q_far (p := ⟨gb273, 1, none⟩) (Kd.Q_far (p := ⟨gb273, 0, none⟩) (Kd.Q_far (p := ⟨gb272, 2, none⟩) (Kd.Q_far (p := ⟨gb272, 1, none⟩) (Kd.Q_far (p := ⟨gb272, 0, none⟩) (Kd.Q_types (Kd.Q_types HO278.out BK272.out (by decide)) BK273.out (by decide)) (fun _ hk => hk.1.2) (.slice Ao93 t276.length co93)) (fun _ hk => hk.1.2) (.int .i64 t279)) (fun _ hk => hk.1.2) (.int .i64 t280)) (fun _ hk => hk.2) (.int .i64 t281)) (fun _ hk => hk.2) (.int .i64 t282)) (fun _ hk => hk.2) (.int .i64 t283)) (fun _ h_ => h_.1)) (fun _ h_ => h_.1))) hb); have n4_ := Aside0.mk (blk_below (g := gb243) (o := .cells #[.slice A0_0 l0_0.length c0_0, .int .i64 a0_1, .int .i64 a0_2] 24 (0, 0)) (by (with_reducible repeat (first | refine lN ?_ _ | refine lD ?_ | refine lA ?_ _)); refine lX ?_ NB243_273.out _; (with_reducible repeat (first | refine lN ?_ _ | refine lD ?_ | refine lA ?_ _)); refine lX ?_ NB243_273.out _; (with_reducible repeat (first | refine lN ?_ _ | refine lD ?_ | refine lA ?_ _)); refine lX ?_ NB243_273.out _; (with_reducible repeat (first | refine lN ?_ _ | refine lD ?_ | refine lA ?_ _)); refine lX ?_ NB243_272.out _; (with_reducible repeat (first | refine lN ?_ _ | refine lD ?_ | refine lA ?_ _)); refine lX ?_ NB243_272.out _; (with_reducible repeat (first | refine lN ?_ _ | refine lD ?_ | refine lA ?_ _)); refine lX ?_ NB243_272.out _; (with_reducible repeat (first | refine lN ?_ _ | refine lD ?_ | refine lA ?_ _)); exact BK243.out) hb); have n5_ := Aside0.mk (blk_below (g := gb244) (o := .cells #[.int .i64 a1_0, .string a1_1] 26 (0, 0)) (by (with_reducible repeat (first | refine lN ?_ _ | refine lD ?_ | refine lA ?_ _)); refine lX ?_ NB244_273.out _; (with_reducible repeat (first | refine lN ?_ _ | refine lD ?_ | refine lA ?_ _)); refine lX ?_ NB244_273.out _; (with_reducible repeat (first | refine lN ?_ _ | refine lD ?_ | refine lA ?_ _)); refine lX ?_ NB244_273.out _; (with_reducible repeat (first | refine lN ?_ _ | refine lD ?_ | refine lA ?_ _)); refine lX ?_ NB244_272.out _; (with_reducible repeat (first | refine lN ?_ _ | refine lD ?_ | refine lA ?_ _)); refine lX ?_ NB244_272.out _; (with_reducible repeat (first | refine lN ?_ _ | refine lD ?_ | refine lA ?_ _)); refine lX ?_ NB244_272.out _; (with_reducible repeat (first | refine lN ?_ _ | refine lD ?_ | refine lA ?_ _)); exact BK244.out) hb); have n6_ := Aside0.mk (blk_below (g := gb247) (o := .cells #[.slice Ao70 t256.length co70, .int .i64 t259, .int .i64 t260] 29 (0, 0)) (by (with_reducible repeat (first | refine lN ?_ _ | refine lD ?_ | refine lA ?_ _)); refine lX ?_ NB247_273.out _; (with_reducible repeat (first | refine lN ?_ _ | refine lD ?_ | refine lA ?_ _)); refine lX ?_ NB247_273.out _; (with_reducible repeat (first | refine lN ?_ _ | refine lD ?_ | refine lA ?_ _)); refine lX ?_ NB247_273.out _; (with_reducible repeat (first | refine lN ?_ _ | refine lD ?_ | refine lA ?_ _)); refine lX ?_ NB247_272.out _; (with_reducible repeat (first | refine lN ?_ _ | refine lD ?_ | refine lA ?_ _)); refine lX ?_ NB247_272.out _; (with_reducible repeat (first | refine lN ?_ _ | refine lD ?_ | refine lA ?_ _)); refine lX ?_ NB247_272.out _; (with_reducible repeat (first | refine lN ?_ _ | refine lD ?_ | refine lA ?_ _)); exact BK247.out) hb); have n7_ := Aside0.mk (blk_below (g := gb248) (o := .cells #[.int .i64 t261, .int .i64 t262, .int .i64 t263] 31 (0, 0)) (by (with_reducible repeat (first | refine lN ?_ _ | refine lD ?_ | refine lA ?_ _)); refine lX ?_ NB248_273.out _; (with_reducible repeat (first | refine lN ?_ _ | refine lD ?_ | refine lA ?_ _)); refine lX ?_ NB248_273.out _; (with_reducible repeat (first | refine lN ?_ _ | refine lD ?_ | refine lA ?_ _)); refine lX ?_ NB248_273.out _; (with_reducible repeat (first | refine lN ?_ _ | refine lD ?_ | refine lA ?_ _)); refine lX ?_ NB248_272.out _; (with_reducible repeat (first | refine lN ?_ _ | refine lD ?_ | refine lA ?_ _)); refine lX ?_ NB248_272.out _; (with_reducible repeat (first | refine lN ?_ _ | refine lD ?_ | refine lA ?_ _)); refine lX ?_ NB248_272.out _; (with_reducible repeat (first | refine lN ?_ _ | refine lD ?_ | refine lA ?_ _)); exact BK248.out) hb); have n8_ := Aside0.mk (blk_below (g := gb271) (o := .cells #[.slice Ao82 t266.length co82, .int .i64 t269, .int .i64 t270] 29 (0, 0)) (by (with_reducible repeat (first | refine lN ?_ _ | refine lD ?_ | refine lA ?_ _)); refine lX ?_ NB271_273.out _; (with_reducible repeat (first | refine lN ?_ _ | refine lD ?_ | refine lA ?_ _)); refine lX ?_ NB271_273.out _; (with_reducible repeat (first | refine lN ?_ _ | refine lD ?_ | refine lA ?_ _)); refine lX ?_ NB271_273.out _; (with_reducible repeat (first | refine lN ?_ _ | refine lD ?_ | refine lA ?_ _)); refine lX ?_ NB271_272.out _; (with_reducible repeat (first | refine lN ?_ _ | refine lD ?_ | refine lA ?_ _)); refine lX ?_ NB271_272.out _; (with_reducible repeat (first | refine lN ?_ _ | refine lD ?_ | refine lA ?_ _)); refine lX ?_ NB271_272.out _; (with_reducible repeat (first | refine lN ?_ _ | refine lD ?_ | refine lA ?_ _)); exact BK271.out) hb); have n9_ := Aside0.mk (blk_below (g := gb272) (o := .cells #[.slice Ao93 t276.length co93, .int .i64 t279, .int .i64 t280] 29 (0, 0)) (by (with_reducible repeat (first | refine lN ?_ _ | refine lD ?_ | refine lA ?_ _)); refine lX ?_ NB272_273.out _; (with_reducible repeat (first | refine lN ?_ _ | refine lD ?_ | refine lA ?_ _)); refine lX ?_ NB272_273.out _; (with_reducible repeat (first | refine lN ?_ _ | refine lD ?_ | refine lA ?_ _)); refine lX ?_ NB272_273.out _; (with_reducible repeat (first | refine lN ?_ _ | refine lD ?_ | refine lA ?_ _)); refine lP (cs := #[.slice Ao93 t276.length co93, .int .i64 t279, .int .i64 0]) ?_ 2 _ rfl; (with_reducible repeat (first | refine lN ?_ _ | refine lD ?_ | refine lA ?_ _)); refine lP (cs := #[.slice Ao93 t276.length co93, .int .i64 0, .int .i64 0]) ?_ 1 _ rfl; (with_reducible repeat (first | refine lN ?_ _ | refine lD ?_ | refine lA ?_ _)); refine lP (cs := #[.slice none 0 0, .int .i64 0, .int .i64 0]) ?_ 0 _ rfl; (with_reducible repeat (first | refine lN ?_ _ | refine lD ?_ | refine lA ?_ _)); exact BK272.out) hb); have n10_ := Aside0.mk (blk_below (g := gb273) (o := .cells #[.int .i64 t281, .int .i64 t282, .int .i64 t283] 31 (0, 0)) (by (with_reducible repeat (first | refine lN ?_ _ | refine lD ?_ | refine lA ?_ _)); refine lP (cs := #[.int .i64 t281, .int .i64 t282, .int .i64 0]) ?_ 2 _ rfl; (with_reducible repeat (first | refine lN ?_ _ | refine lD ?_ | refine lA ?_ _)); refine lP (cs := #[.int .i64 t281, .int .i64 0, .int .i64 0]) ?_ 1 _ rfl; (with_reducible repeat (first | refine lN ?_ _ | refine lD ?_ | refine lA ?_ _)); refine lP (cs := #[.int .i64 0, .int .i64 0, .int .i64 0]) ?_ 0 _ rfl; (with_reducible repeat (first | refine lN ?_ _ | refine lD ?_ | refine lA ?_ _)); refine lX ?_ NB273_272.out _; (with_reducible repeat (first | refine lN ?_ _ | refine lD ?_ | refine lA ?_ _)); refine lX ?_ NB273_272.out _; (with_reducible repeat (first | refine lN ?_ _ | refine lD ?_ | refine lA ?_ _)); refine lX ?_ NB273_272.out _; (with_reducible repeat (first | refine lN ?_ _ | refine lD ?_ | refine lA ?_ _)); exact BK273.out) hb); have n11_ := Aside0.mk (below_step (by repeat (first | (with_reducible first | exact HB.out | apply bA | apply bN | apply bD | refine bS ?_ GE243.out | refine bS ?_ GE244.out | refine bS ?_ GE247.out | refine bS ?_ GE248.out | refine bS ?_ GE271.out | refine bS ?_ GE272.out | refine bS ?_ GE273.out) | exact HB.out)) hb); clear HO251; clear HO258; clear HO268; clear HO278; clear BK243; clear BK244; clear BK247; clear BK248; clear BK271; clear BK272; clear BK273; clear HB; have HO251 := n0_; have HO258 := n1_; have HO268 := n2_; have HO278 := n3_; have BK243 := n4_; have BK244 := n5_; have BK247 := n6_; have BK248 := n7_; have BK271 := n8_; have BK272 := n9_; have BK273 := n10_; have HB := n11_; clear n0_ n1_ n2_ n3_ n4_ n5_ n6_ n7_ n8_ n9_ n10_ n11_; (try clear hb); (try clear hb2); (try clear hk); (try clear hi); have hnb112 := NB273_243.out; have hnc112 := NB243_273.out; have hnb113 := NB273_244.out; have hnc113 := NB244_273.out; have hnb114 := NB273_248.out; have hnc114 := NB248_273.out; have hnb115 := NB273_271.out; have hnc115 := NB271_273.out; have hcz116_0 : w111.cell? ⟨gb273, 0, none⟩ = some (.int .i64 t281) := (lC BK273.out 0).trans rfl; have hcz116_1 : w111.cell? ⟨gb273, 1, none⟩ = some (.int .i64 t282) := (lC BK273.out 1).trans rfl; have hcz116_2 : w111.cell? ⟨gb273, 2, none⟩ = some (.int .i64 t283) := (lC BK273.out 2).trans rfl; have hfz116_0 := lF BK273.out 0; have hfz116_1 := lF BK273.out 1; have hfz116_2 := lF BK273.out 2; have hnb117 := NB248_244.out; have hnc117 := NB244_248.out; have hcz118_0 : w111.cell? ⟨gb248, 0, none⟩ = some (.int .i64 t261) := (lC BK248.out 0).trans rfl; have hcz118_1 : w111.cell? ⟨gb248, 1, none⟩ = some (.int .i64 t262) := (lC BK248.out 1).trans rfl; have hcz118_2 : w111.cell? ⟨gb248, 2, none⟩ = some (.int .i64 t263) := (lC BK248.out 2).trans rfl; have hfz118_0 := lF BK248.out 0; have hfz118_1 := lF BK248.out 1; have hfz118_2 := lF BK248.out 2) | (go_at_call 12; (with_reducible refine (laws_eqEmit.calls t281 t282 t283 t261 t262 t263 true _ A27.out).mono ?_); rintro e w119 ⟨rfl, hb⟩; have n0_ := Aside0.mk (Kd.Q_below (by (with_reducible repeat (first | apply qA | apply qN | apply qD)); exact HO251.out) hb); have n1_ := Aside0.mk (Kd.Q_below (by (with_reducible repeat (first | apply qA | apply qN | apply qD)); exact HO258.out) hb); have n2_ := Aside0.mk (Kd.Q_below (by (with_reducible repeat (first | apply qA | apply qN | apply qD)); exact HO268.out) hb); have n3_ := Aside0.mk (Kd.Q_below (by (with_reducible repeat (first | apply qA | apply qN | apply qD)); exact HO278.out) hb); have n4_ := Aside0.mk (blk_below (g := gb243) (o := .cells #[.slice A0_0 l0_0.length c0_0, .int .i64 a0_1, .int .i64 a0_2] 24 (0, 0)) (by (with_reducible repeat (first | refine lN ?_ _ | refine lD ?_ | refine lA ?_ _)); exact BK243.out) hb); have n5_ := Aside0.mk (blk_below (g := gb244) (o := .cells #[.int .i64 a1_0, .string a1_1] 26 (0, 0)) (by (with_reducible repeat (first | refine lN ?_ _ | refine lD ?_ | refine lA ?_ _)); exact BK244.out) hb); have n6_ := Aside0.mk (blk_below (g := gb247) (o := .cells #[.slice Ao70 t256.length co70, .int .i64 t259, .int .i64 t260] 29 (0, 0)) (by (with_reducible repeat (first | refine lN ?_ _ | refine lD ?_ | refine lA ?_ _)); exact BK247.out) hb); have n7_ := Aside0.mk (blk_below (g := gb248) (o := .cells #[.int .i64 t261, .int .i64 t262, .int .i64 t263] 31 (0, 0)) (by (with_reducible repeat (first | refine lN ?_ _ | refine lD ?_ | refine lA ?_ _)); exact BK248.out) hb); have n8_ := Aside0.mk (blk_below (g := gb271) (o := .cells #[.slice Ao82 t266.length co82, .int .i64 t269, .int .i64 t270] 29 (0, 0)) (by (with_reducible repeat (first | refine lN ?_ _ | refine lD ?_ | refine lA ?_ _)); exact BK271.out) hb); have n9_ := Aside0.mk (blk_below (g := gb272) (o := .cells #[.slice Ao93 t276.length co93, .int .i64 t279, .int .i64 t280] 29 (0, 0)) (by (with_reducible repeat (first | refine lN ?_ _ | refine lD ?_ | refine lA ?_ _)); exact BK272.out) hb); have n10_ := Aside0.mk (blk_below (g := gb273) (o := .cells #[.int .i64 t281, .int .i64 t282, .int .i64 t283] 31 (0, 0)) (by (with_reducible repeat (first | refine lN ?_ _ | refine lD ?_ | refine lA ?_ _)); exact BK273.out) hb); have n11_ := Aside0.mk (below_step (by repeat (first | (with_reducible first | exact HB.out | apply bA | apply bN | apply bD | refine bS ?_ GE243.out | refine bS ?_ GE244.out | refine bS ?_ GE247.out | refine bS ?_ GE248.out | refine bS ?_ GE271.out | refine bS ?_ GE272.out | refine bS ?_ GE273.out) | exact HB.out)) hb); clear HO251; clear HO258; clear HO268; clear HO278; clear BK243; clear BK244; clear BK247; clear BK248; clear BK271; clear BK272; clear BK273; clear HB; have HO251 := n0_; have HO258 := n1_; have HO268 := n2_; have HO278 := n3_; have BK243 := n4_; have BK244 := n5_; have BK247 := n6_; have BK248 := n7_; have BK271 := n8_; have BK272 := n9_; have BK273 := n10_; have HB := n11_; clear n0_ n1_ n2_ n3_ n4_ n5_ n6_ n7_ n8_ n9_ n10_ n11_; (try clear hb); (try clear hb2); (try clear hk); (try clear hi)))
                   have n0_ := Aside0.mk (qD HO251.out)
                   have n1_ := Aside0.mk (qD HO258.out)
                   have n2_ := Aside0.mk (qD HO268.out)
                   have n3_ := Aside0.mk (qD HO278.out)
                   have n4_ := Aside0.mk (lD BK243.out)
                   have n5_ := Aside0.mk (lD BK244.out)
                   have n6_ := Aside0.mk (lD BK247.out)
                   have n7_ := Aside0.mk (lD BK248.out)
                   have n8_ := Aside0.mk (lD BK271.out)
                   have n9_ := Aside0.mk (lD BK272.out)
                   have n10_ := Aside0.mk (lD BK273.out)
                   have n11_ := Aside0.mk (bD HB.out)
                   clear HO251
                   clear HO258
                   clear HO268
                   clear HO278
                   clear BK243
                   clear BK244
                   clear BK247
                   clear BK248
                   clear BK271
                   clear BK272
                   clear BK273
                   clear HB
                   have HO251 := n0_
                   have HO258 := n1_
                   have HO268 := n2_
                   have HO278 := n3_
                   have BK243 := n4_
                   have BK244 := n5_
                   have BK247 := n6_
                   have BK248 := n7_
                   have BK271 := n8_
                   have BK272 := n9_
                   have BK273 := n10_
                   have HB := n11_
                   clear n0_ n1_ n2_ n3_ n4_ n5_ n6_ n7_ n8_ n9_ n10_ n11_
                   refine start_ (n := 5) (S := fun w' => w'.cell? ⟨gb271, 0, none⟩ = some (.slice Ao82 t266.length co82) ∧ w'.cell? ⟨gb271, 1, none⟩ = some (.int .i64 t269) ∧ w'.cell? ⟨gb271, 2, none⟩ = some (.int .i64 t270) ∧ w'.cell? ⟨gb243, 0, none⟩ = some (.slice A0_0 l0_0.length c0_0) ∧ w'.cell? ⟨gb243, 1, none⟩ = some (.int .i64 a0_1) ∧ w'.cell? ⟨gb243, 2, none⟩ = some (.int .i64 a0_2)) (ds := []) #[false, false, false, false, false] (by kernel_rfl) rfl rfl ⟨(lC BK271.out 0).trans rfl, (lC BK271.out 1).trans rfl, (lC BK271.out 2).trans rfl, (lC BK243.out 0).trans rfl, (lC BK243.out 1).trans rfl, (lC BK243.out 2).trans rfl⟩ (fun hHeld => ?_)
                   generalize w119.drew = w120 at HO251 HO258 HO268 HO278 BK243 BK244 BK247 BK248 BK271 BK272 BK273 HB hHeld ⊢
                   refine take_ (i := 0) (N := some 73) (v := ?_) (a' := ?_) #[true, false, false, false, false] rfl rfl (by kernel_rfl) (fun _ _ _ h => h) (Or.inl ⟨by rfl, ?_⟩) hHeld ?_ ?_
                   rotate_left
                   ·rintro w' ⟨s0, s1, s2, s3, s4, s5⟩
                    go_simp
                    with_reducible rfl
                   rotate_left
                   ·simp only [Act.put, List.setIfInBounds_toArray, List.set_cons_zero, List.set_cons_succ, i64_w, i32_w]
                    rfl
                   refine take_ (i := 1) (N := some 74) (v := ?_) (a' := ?_) #[true, true, false, false, false] rfl rfl (by kernel_rfl) (fun _ _ _ h => h) (Or.inl ⟨by rfl, ?_⟩) hHeld ?_ ?_
                   rotate_left
                   ·rintro w' ⟨s0, s1, s2, s3, s4, s5⟩
                    go_simp
                    with_reducible rfl
                   rotate_left
                   ·simp only [Act.put, List.setIfInBounds_toArray, List.set_cons_zero, List.set_cons_succ, i64_w, i32_w]
                    rfl
                   refine one_ (i := 2) (N := some 75) #[true, true, true, false, false] rfl rfl (by kernel_rfl) (by decide) (fun K hK => ?_)
                   refine goes_ Try.func8 (by kernel_rfl) rfl #[.agg #[.slice A0_0 l0_0.length c0_0, .int .i64 a0_1, .int .i64 a0_2]] (by rfl) rfl rfl (by (try simp only [List.map_toArray, List.map_cons, List.map_nil]); first | done | rfl | (simp only [List.length_drop, List.length_take]; rfl)) ?_
                   with_reducible refine (laws_toClient.callsQ k _ _ l0_0 a0_1 a0_2 t288 t291 t292 _ ?side1 ?side2 A31.out).mono ?_
                   (case side1 => repeat (first | exact (Kd.C_below HR0_0.out HB.out) | (with_reducible first | refine cA ?_ _ | refine cN ?_ _ | refine cD ?_)))
                   (case side2 => exact HC0_0.out)
                   rintro e w121 ⟨v289, rfl, ho0, hb⟩
                   refine ⟨_, rfl, ?_⟩
                   have n0_ := Aside0.mk (Kd.Q_elder' (by (with_reducible repeat (first | apply qA | apply qN | apply qD)); exact HO251.out) (Kd.Q_base ho0) hb)
                   have n1_ := Aside0.mk (Kd.Q_elder' (by (with_reducible repeat (first | apply qA | apply qN | apply qD)); exact HO258.out) (Kd.Q_base ho0) hb)
                   have n2_ := Aside0.mk (Kd.Q_elder' (by (with_reducible repeat (first | apply qA | apply qN | apply qD)); exact HO268.out) (Kd.Q_base ho0) hb)
                   have n3_ := Aside0.mk (Kd.Q_elder' (by (with_reducible repeat (first | apply qA | apply qN | apply qD)); exact HO278.out) (Kd.Q_base ho0) hb)
                   have n4_ := Aside0.mk (Kd.Q_lower (Kd.Q_new' (Kd.Q_new' (Kd.Q_new' (Kd.Q_new' ho0 (Kd.Q_lt (by (with_reducible repeat (first | apply qA | apply qN | apply qD)); exact HO251.out))) (Kd.Q_lt (by (with_reducible repeat (first | apply qA | apply qN | apply qD)); exact HO258.out))) (Kd.Q_lt (by (with_reducible repeat (first | apply qA | apply qN | apply qD)); exact HO268.out))) (Kd.Q_lt (by (with_reducible repeat (first | apply qA | apply qN | apply qD)); exact HO278.out))) (below_size (by repeat (first | (with_reducible first | exact HB.out | apply bA | apply bN | apply bD | refine bS ?_ GE243.out | refine bS ?_ GE244.out | refine bS ?_ GE247.out | refine bS ?_ GE248.out | refine bS ?_ GE271.out | refine bS ?_ GE272.out | refine bS ?_ GE273.out) | exact HB.out))))
                   have n5_ := Aside0.mk (blk_below (g := gb243) (o := .cells #[.slice A0_0 l0_0.length c0_0, .int .i64 a0_1, .int .i64 a0_2] 24 (0, 0)) (by (with_reducible repeat (first | refine lN ?_ _ | refine lD ?_ | refine lA ?_ _)); exact BK243.out) hb)
                   have n6_ := Aside0.mk (blk_below (g := gb244) (o := .cells #[.int .i64 a1_0, .string a1_1] 26 (0, 0)) (by (with_reducible repeat (first | refine lN ?_ _ | refine lD ?_ | refine lA ?_ _)); exact BK244.out) hb)
                   have n7_ := Aside0.mk (blk_below (g := gb247) (o := .cells #[.slice Ao70 t256.length co70, .int .i64 t259, .int .i64 t260] 29 (0, 0)) (by (with_reducible repeat (first | refine lN ?_ _ | refine lD ?_ | refine lA ?_ _)); exact BK247.out) hb)
                   have n8_ := Aside0.mk (blk_below (g := gb248) (o := .cells #[.int .i64 t261, .int .i64 t262, .int .i64 t263] 31 (0, 0)) (by (with_reducible repeat (first | refine lN ?_ _ | refine lD ?_ | refine lA ?_ _)); exact BK248.out) hb)
                   have n9_ := Aside0.mk (blk_below (g := gb271) (o := .cells #[.slice Ao82 t266.length co82, .int .i64 t269, .int .i64 t270] 29 (0, 0)) (by (with_reducible repeat (first | refine lN ?_ _ | refine lD ?_ | refine lA ?_ _)); exact BK271.out) hb)
                   have n10_ := Aside0.mk (blk_below (g := gb272) (o := .cells #[.slice Ao93 t276.length co93, .int .i64 t279, .int .i64 t280] 29 (0, 0)) (by (with_reducible repeat (first | refine lN ?_ _ | refine lD ?_ | refine lA ?_ _)); exact BK272.out) hb)
                   have n11_ := Aside0.mk (blk_below (g := gb273) (o := .cells #[.int .i64 t281, .int .i64 t282, .int .i64 t283] 31 (0, 0)) (by (with_reducible repeat (first | refine lN ?_ _ | refine lD ?_ | refine lA ?_ _)); exact BK273.out) hb)
                   have n12_ := Aside0.mk (below_step (by repeat (first | (with_reducible first | exact HB.out | apply bA | apply bN | apply bD | refine bS ?_ GE243.out | refine bS ?_ GE244.out | refine bS ?_ GE247.out | refine bS ?_ GE248.out | refine bS ?_ GE271.out | refine bS ?_ GE272.out | refine bS ?_ GE273.out) | exact HB.out)) hb)
                   clear HO251
                   clear HO258
                   clear HO268
                   clear HO278
                   clear BK243
                   clear BK244
                   clear BK247
                   clear BK248
                   clear BK271
                   clear BK272
                   clear BK273
                   clear HB
                   have HO251 := n0_
                   have HO258 := n1_
                   have HO268 := n2_
                   have HO278 := n3_
                   have HO290 := n4_
                   have BK243 := n5_
                   have BK244 := n6_
                   have BK247 := n7_
                   have BK248 := n8_
                   have BK271 := n9_
                   have BK272 := n10_
                   have BK273 := n11_
                   have HB := n12_
                   clear n0_ n1_ n2_ n3_ n4_ n5_ n6_ n7_ n8_ n9_ n10_ n11_ n12_
                   (try clear hb)
                   (try clear hb2)
                   (try clear hk)
                   (try clear hi)
                   (try clear ho0)
                   obtain ⟨Ao122, co122, eo122, _⟩ := Kd.Q_slice HO290.out
                   (first | subst eo122 | (injection eo122 with f1_ f2_ f3_; have f4_ := f1_.symm; have f5_ := f3_.symm; clear f1_ f2_ f3_; subst f4_; subst f5_))
                   refine hK.out _ _ ⟨(lC BK271.out 0).trans rfl, (lC BK271.out 1).trans rfl, (lC BK271.out 2).trans rfl, (lC BK243.out 0).trans rfl, (lC BK243.out 1).trans rfl, (lC BK243.out 2).trans rfl⟩ (fun hHeld => ?_)
                   clear hK K
                   refine norm_ (a' := ?_) ?_ ?_
                   rotate_left
                   ·show Act.put _ (some 75) _ = _
                    simp only [Act.put, List.setIfInBounds_toArray, List.set_cons_zero, List.set_cons_succ, i64_w, i32_w]
                    rfl
                   refine one_ (i := 3) (N := some 76) #[true, true, true, true, false] rfl rfl (by kernel_rfl) (by decide) (fun K hK => ?_)
                   refine goes_ Try.func11 (by kernel_rfl) rfl #[.agg #[.slice Ao82 t266.length co82, .int .i64 t269, .int .i64 t270], .agg #[.slice Ao122 t288.length co122, .int .i64 t291, .int .i64 t292]] (by rfl) rfl rfl (by (try simp only [List.map_toArray, List.map_cons, List.map_nil]); first | done | rfl | (simp only [List.length_drop, List.length_take]; rfl)) ?_
                   with_reducible refine (laws_eqClient.calls k _ _ t266 t269 t270 _ _ t288 t291 t292 true _ ?side1 ?side2 ?side3 ?side4 A32.out).mono ?_
                   (case side1 => repeat (first | exact (Kd.Q_reads' HO268.out).2.2 | (with_reducible first | refine cA ?_ _ | refine cN ?_ _ | refine cD ?_)))
                   (case side2 => exact (Kd.Q_reads' HO268.out).2.1)
                   (case side3 => repeat (first | exact (Kd.Q_reads' HO290.out).2.2 | (with_reducible first | refine cA ?_ _ | refine cN ?_ _ | refine cD ?_)))
                   (case side4 => exact (Kd.Q_reads' HO290.out).2.1)
                   rintro e w123 ⟨rfl, hb⟩
                   refine ⟨_, rfl, ?_⟩
                   have n0_ := Aside0.mk (Kd.Q_below (by (with_reducible repeat (first | apply qA | apply qN | apply qD)); exact HO251.out) hb)
                   have n1_ := Aside0.mk (Kd.Q_below (by (with_reducible repeat (first | apply qA | apply qN | apply qD)); exact HO258.out) hb)
                   have n2_ := Aside0.mk (Kd.Q_below (by (with_reducible repeat (first | apply qA | apply qN | apply qD)); exact HO268.out) hb)
                   have n3_ := Aside0.mk (Kd.Q_below (by (with_reducible repeat (first | apply qA | apply qN | apply qD)); exact HO278.out) hb)
                   have n4_ := Aside0.mk (Kd.Q_below (by (with_reducible repeat (first | apply qA | apply qN | apply qD)); exact HO290.out) hb)
                   have n5_ := Aside0.mk (blk_below (g := gb243) (o := .cells #[.slice A0_0 l0_0.length c0_0, .int .i64 a0_1, .int .i64 a0_2] 24 (0, 0)) (by (with_reducible repeat (first | refine lN ?_ _ | refine lD ?_ | refine lA ?_ _)); exact BK243.out) hb)
                   have n6_ := Aside0.mk (blk_below (g := gb244) (o := .cells #[.int .i64 a1_0, .string a1_1] 26 (0, 0)) (by (with_reducible repeat (first | refine lN ?_ _ | refine lD ?_ | refine lA ?_ _)); exact BK244.out) hb)
                   have n7_ := Aside0.mk (blk_below (g := gb247) (o := .cells #[.slice Ao70 t256.length co70, .int .i64 t259, .int .i64 t260] 29 (0, 0)) (by (with_reducible repeat (first | refine lN ?_ _ | refine lD ?_ | refine lA ?_ _)); exact BK247.out) hb)
                   have n8_ := Aside0.mk (blk_below (g := gb248) (o := .cells #[.int .i64 t261, .int .i64 t262, .int .i64 t263] 31 (0, 0)) (by (with_reducible repeat (first | refine lN ?_ _ | refine lD ?_ | refine lA ?_ _)); exact BK248.out) hb)
                   have n9_ := Aside0.mk (blk_below (g := gb271) (o := .cells #[.slice Ao82 t266.length co82, .int .i64 t269, .int .i64 t270] 29 (0, 0)) (by (with_reducible repeat (first | refine lN ?_ _ | refine lD ?_ | refine lA ?_ _)); exact BK271.out) hb)
                   have n10_ := Aside0.mk (blk_below (g := gb272) (o := .cells #[.slice Ao93 t276.length co93, .int .i64 t279, .int .i64 t280] 29 (0, 0)) (by (with_reducible repeat (first | refine lN ?_ _ | refine lD ?_ | refine lA ?_ _)); exact BK272.out) hb)
                   have n11_ := Aside0.mk (blk_below (g := gb273) (o := .cells #[.int .i64 t281, .int .i64 t282, .int .i64 t283] 31 (0, 0)) (by (with_reducible repeat (first | refine lN ?_ _ | refine lD ?_ | refine lA ?_ _)); exact BK273.out) hb)
                   have n12_ := Aside0.mk (below_step (by repeat (first | (with_reducible first | exact HB.out | apply bA | apply bN | apply bD | refine bS ?_ GE243.out | refine bS ?_ GE244.out | refine bS ?_ GE247.out | refine bS ?_ GE248.out | refine bS ?_ GE271.out | refine bS ?_ GE272.out | refine bS ?_ GE273.out) | exact HB.out)) hb)
                   clear HO251
                   clear HO258
                   clear HO268
                   clear HO278
                   clear HO290
                   clear BK243
                   clear BK244
                   clear BK247
                   clear BK248
                   clear BK271
                   clear BK272
                   clear BK273
                   clear HB
                   have HO251 := n0_
                   have HO258 := n1_
                   have HO268 := n2_
                   have HO278 := n3_
                   have HO290 := n4_
                   have BK243 := n5_
                   have BK244 := n6_
                   have BK247 := n7_
                   have BK248 := n8_
                   have BK271 := n9_
                   have BK272 := n10_
                   have BK273 := n11_
                   have HB := n12_
                   clear n0_ n1_ n2_ n3_ n4_ n5_ n6_ n7_ n8_ n9_ n10_ n11_ n12_
                   (try clear hb)
                   (try clear hb2)
                   (try clear hk)
                   (try clear hi)
                   refine hK.out _ _ ⟨(lC BK271.out 0).trans rfl, (lC BK271.out 1).trans rfl, (lC BK271.out 2).trans rfl, (lC BK243.out 0).trans rfl, (lC BK243.out 1).trans rfl, (lC BK243.out 2).trans rfl⟩ (fun hHeld => ?_)
                   clear hK K
                   refine norm_ (a' := ?_) ?_ ?_
                   rotate_left
                   ·show Act.put _ (some 76) _ = _
                    simp only [Act.put, List.setIfInBounds_toArray, List.set_cons_zero, List.set_cons_succ, i64_w, i32_w]
                    rfl
                   refine pure_ (i := 4) (N := some 77) (v := ?_) (a' := ?_) #[true, true, true, true, true] rfl rfl (by kernel_rfl) (fun _ _ _ h => h) (Or.inl ⟨by rfl, ?_⟩) ?_ ?_
                   rotate_left
                   ·intro w'
                    go_simp
                    with_reducible rfl
                   rotate_left
                   ·simp only [Act.put, List.setIfInBounds_toArray, List.set_cons_zero, List.set_cons_succ, i64_w, i32_w]
                    rfl
                   refine done_ (by kernel_rfl) ?_
                   have hcz124_0 : w123.cell? ⟨gb271, 0, none⟩ = some (.slice Ao82 t266.length co82) := (lC BK271.out 0).trans rfl
                   have hcz124_1 : w123.cell? ⟨gb271, 1, none⟩ = some (.int .i64 t269) := (lC BK271.out 1).trans rfl
                   have hcz124_2 : w123.cell? ⟨gb271, 2, none⟩ = some (.int .i64 t270) := (lC BK271.out 2).trans rfl
                   have hfz124_0 := lF BK271.out 0
                   have hfz124_1 := lF BK271.out 1
                   have hfz124_2 := lF BK271.out 2
                   try go_wp2_with (first | ((with_reducible refine gate_callee (f := 13) rfl ?_); refine goesL_ (some 80) rfl rfl Try.func13 (by kernel_rfl) rfl #[.agg #[.slice Ao82 t266.length co82, .int .i64 t269, .int .i64 t270], .int .i64 1] rfl (by (try simp only [List.map_toArray, List.map_cons, List.map_nil]); first | done | rfl | (simp only [List.length_drop, List.length_take]; rfl)) ?_; (with_reducible refine (laws_markClient.callsQ k (fun k_ => some k_ = (.slice Ao82 t266.length co82 : Value).ownBlock) (.slice Ao82 t266.length co82) t266 t269 t270 1 t294 t295 w _ ?side1 ?side2 A34.out).mono ?_); (case side1 => repeat (first | (with_reducible first | exact HB.out | apply bA | apply bN | apply bD | refine bS ?_ GE243.out | refine bS ?_ GE244.out | refine bS ?_ GE247.out | refine bS ?_ GE248.out | refine bS ?_ GE271.out | refine bS ?_ GE272.out | refine bS ?_ GE273.out) | exact HB.out)); (case side2 => exact Kd.Q_tight rfl HO268.out); rintro e w125 ⟨rfl, hy0, hb, hkp⟩; refine ⟨_, rfl, ?_⟩; have n0_ := Aside0.mk (blk_kept (by (with_reducible repeat (first | refine lN ?_ _ | refine lD ?_ | refine lA ?_ _)); exact BK243.out) hkp (fun hs_ => (fun e_ => (Kd.Q_ne HO268.out BK243.out (by decide)) e_) hs_)); have n1_ := Aside0.mk (blk_kept (by (with_reducible repeat (first | refine lN ?_ _ | refine lD ?_ | refine lA ?_ _)); exact BK244.out) hkp (fun hs_ => (fun e_ => (Kd.Q_ne HO268.out BK244.out (by decide)) e_) hs_)); have n2_ := Aside0.mk (blk_kept (by (with_reducible repeat (first | refine lN ?_ _ | refine lD ?_ | refine lA ?_ _)); exact BK247.out) hkp (fun hs_ => (fun e_ => (Kd.Q_ne HO268.out BK247.out (by decide)) e_) hs_)); have n3_ := Aside0.mk (blk_kept (by (with_reducible repeat (first | refine lN ?_ _ | refine lD ?_ | refine lA ?_ _)); exact BK248.out) hkp (fun hs_ => (fun e_ => (Kd.Q_ne HO268.out BK248.out (by decide)) e_) hs_)); have n4_ := Aside0.mk (Kd.Q_mono (ok' := fun k_ => some k_ ≠ (.slice Ao70 t256.length co70 : Value).ownBlock ∧ some k_ ≠ (.slice Ao82 t266.length co82 : Value).ownBlock ∧ some k_ ≠ (.slice Ao93 t276.length co93 : Value).ownBlock ∧ some k_ ≠ (.slice Ao122 t288.length co122 : Value).ownBlock) (Kd.Q_keptB (HO251.out) hkp (fun k_ hk_ hs_ => (hk_.1.1.2) hs_)) (fun k_ hk_ => ⟨hk_.1.1.1.1.2, hk_.1.1.1.2, hk_.1.1.2, hk_.1.2⟩)); have n5_ := Aside0.mk (Kd.Q_mono (ok' := fun k_ => some k_ ≠ (.slice Ao68 t249.length co68 : Value).ownBlock ∧ some k_ ≠ (.slice Ao82 t266.length co82 : Value).ownBlock ∧ some k_ ≠ (.slice Ao93 t276.length co93 : Value).ownBlock ∧ some k_ ≠ (.slice Ao122 t288.length co122 : Value).ownBlock) (Kd.Q_keptB (HO258.out) hkp (fun k_ hk_ hs_ => (hk_.1.1.2) hs_)) (fun k_ hk_ => ⟨hk_.1.1.1.1.2, hk_.1.1.1.2, hk_.1.1.2, hk_.1.2⟩)); have n6_ := Aside0.mk (Go.Proofs.Ytodhogegjkfemaa.Bx.Q_reok rfl hy0 (fun k_ e_ => HO268.out.1 k_ e_)); have n7_ := Aside0.mk (blk_kept (by (with_reducible repeat (first | refine lN ?_ _ | refine lD ?_ | refine lA ?_ _)); exact BK271.out) hkp (fun hs_ => (fun e_ => (Kd.Q_ne HO268.out BK271.out (by decide)) e_) hs_)); have n8_ := Aside0.mk (blk_kept (by (with_reducible repeat (first | refine lN ?_ _ | refine lD ?_ | refine lA ?_ _)); exact BK272.out) hkp (fun hs_ => (fun e_ => (Kd.Q_ne HO268.out BK272.out (by decide)) e_) hs_)); have n9_ := Aside0.mk (blk_kept (by (with_reducible repeat (first | refine lN ?_ _ | refine lD ?_ | refine lA ?_ _)); exact BK273.out) hkp (fun hs_ => (fun e_ => (Kd.Q_ne HO268.out BK273.out (by decide)) e_) hs_)); have n10_ := Aside0.mk (Kd.Q_mono (ok' := fun k_ => some k_ ≠ (.slice Ao68 t249.length co68 : Value).ownBlock ∧ some k_ ≠ (.slice Ao70 t256.length co70 : Value).ownBlock ∧ some k_ ≠ (.slice Ao82 t266.length co82 : Value).ownBlock ∧ some k_ ≠ (.slice Ao122 t288.length co122 : Value).ownBlock) (Kd.Q_keptB (HO278.out) hkp (fun k_ hk_ hs_ => (hk_.1.2) hs_)) (fun k_ hk_ => ⟨hk_.1.1.1.1.2, hk_.1.1.1.2, hk_.1.1.2, hk_.1.2⟩)); have n11_ := Aside0.mk (Kd.Q_mono (ok' := fun k_ => some k_ ≠ (.slice Ao68 t249.length co68 : Value).ownBlock ∧ some k_ ≠ (.slice Ao70 t256.length co70 : Value).ownBlock ∧ some k_ ≠ (.slice Ao82 t266.length co82 : Value).ownBlock ∧ some k_ ≠ (.slice Ao93 t276.length co93 : Value).ownBlock) (Kd.Q_keptB (HO290.out) hkp (fun k_ hk_ hs_ => (hk_.1.2) hs_)) (fun k_ hk_ => ⟨hk_.1.1.1.1.2, hk_.1.1.1.2, hk_.1.1.2, hk_.1.2⟩)); have n12_ := Aside0.mk (hb); clear BK243; clear BK244; clear BK247; clear BK248; clear HO251; clear HO258; clear HO268; clear BK271; clear BK272; clear BK273; clear HO278; clear HO290; clear HB; have BK243 := n0_; have BK244 := n1_; have BK247 := n2_; have BK248 := n3_; have HO251 := n4_; have HO258 := n5_; have HO268 := n6_; have BK271 := n7_; have BK272 := n8_; have BK273 := n9_; have HO278 := n10_; have HO290 := n11_; have HB := n12_; clear n0_ n1_ n2_ n3_ n4_ n5_ n6_ n7_ n8_ n9_ n10_ n11_ n12_; (try clear hb); (try clear hkp); (try clear hy0); have hcz126_0 : w125.cell? ⟨gb272, 0, none⟩ = some (.slice Ao93 t276.length co93) := (lC BK272.out 0).trans rfl; have hcz126_1 : w125.cell? ⟨gb272, 1, none⟩ = some (.int .i64 t279) := (lC BK272.out 1).trans rfl; have hcz126_2 : w125.cell? ⟨gb272, 2, none⟩ = some (.int .i64 t280) := (lC BK272.out 2).trans rfl; have hfz126_0 := lF BK272.out 0; have hfz126_1 := lF BK272.out 1; have hfz126_2 := lF BK272.out 2; have hcz127_0 : w125.cell? ⟨gb247, 0, none⟩ = some (.slice Ao70 t256.length co70) := (lC BK247.out 0).trans rfl; have hcz127_1 : w125.cell? ⟨gb247, 1, none⟩ = some (.int .i64 t259) := (lC BK247.out 1).trans rfl; have hcz127_2 : w125.cell? ⟨gb247, 2, none⟩ = some (.int .i64 t260) := (lC BK247.out 2).trans rfl; have hfz127_0 := lF BK247.out 0; have hfz127_1 := lF BK247.out 1; have hfz127_2 := lF BK247.out 2) | (go_at_call 11; (with_reducible refine (laws_eqClient.calls k _ _ t276 t279 t280 _ _ t256 t259 t260 true _ ?side1 ?side2 ?side3 ?side4 A36.out).mono ?_); (case side1 => repeat (first | exact (Kd.Q_reads' HO278.out).2.2 | (with_reducible first | refine cA ?_ _ | refine cN ?_ _ | refine cD ?_))); (case side2 => exact (Kd.Q_reads' HO278.out).2.1); (case side3 => repeat (first | exact (Kd.Q_reads' HO258.out).2.2 | (with_reducible first | refine cA ?_ _ | refine cN ?_ _ | refine cD ?_))); (case side4 => exact (Kd.Q_reads' HO258.out).2.1); rintro e w128 ⟨rfl, hb⟩; have n0_ := Aside0.mk (Kd.Q_below (by (with_reducible repeat (first | apply qA | apply qN | apply qD)); exact HO251.out) hb); have n1_ := Aside0.mk (Kd.Q_below (by (with_reducible repeat (first | apply qA | apply qN | apply qD)); exact HO258.out) hb); have n2_ := Aside0.mk (Kd.Q_below (by (with_reducible repeat (first | apply qA | apply qN | apply qD)); exact HO268.out) hb); have n3_ := Aside0.mk (Kd.Q_below (by (with_reducible repeat (first | apply qA | apply qN | apply qD)); exact HO278.out) hb); have n4_ := Aside0.mk (Kd.Q_below (by (with_reducible repeat (first | apply qA | apply qN | apply qD)); exact HO290.out) hb); have n5_ := Aside0.mk (blk_below (g := gb243) (o := .cells #[.slice A0_0 l0_0.length c0_0, .int .i64 a0_1, .int .i64 a0_2] 24 (0, 0)) (by (with_reducible repeat (first | refine lN ?_ _ | refine lD ?_ | refine lA ?_ _)); exact BK243.out) hb); have n6_ := Aside0.mk (blk_below (g := gb244) (o := .cells #[.int .i64 a1_0, .string a1_1] 26 (0, 0)) (by (with_reducible repeat (first | refine lN ?_ _ | refine lD ?_ | refine lA ?_ _)); exact BK244.out) hb); have n7_ := Aside0.mk (blk_below (g := gb247) (o := .cells #[.slice Ao70 t256.length co70, .int .i64 t259, .int .i64 t260] 29 (0, 0)) (by (with_reducible repeat (first | refine lN ?_ _ | refine lD ?_ | refine lA ?_ _)); exact BK247.out) hb); have n8_ := Aside0.mk (blk_below (g := gb248) (o := .cells #[.int .i64 t261, .int .i64 t262, .int .i64 t263] 31 (0, 0)) (by (with_reducible repeat (first | refine lN ?_ _ | refine lD ?_ | refine lA ?_ _)); exact BK248.out) hb); have n9_ := Aside0.mk (blk_below (g := gb271) (o := .cells #[.slice Ao82 t266.length co82, .int .i64 t269, .int .i64 t270] 29 (0, 0)) (by (with_reducible repeat (first | refine lN ?_ _ | refine lD ?_ | refine lA ?_ _)); exact BK271.out) hb); have n10_ := Aside0.mk (blk_below (g := gb272) (o := .cells #[.slice Ao93 t276.length co93, .int .i64 t279, .int .i64 t280] 29 (0, 0)) (by (with_reducible repeat (first | refine lN ?_ _ | refine lD ?_ | refine lA ?_ _)); exact BK272.out) hb); have n11_ := Aside0.mk (blk_below (g := gb273) (o := .cells #[.int .i64 t281, .int .i64 t282, .int .i64 t283] 31 (0, 0)) (by (with_reducible repeat (first | refine lN ?_ _ | refine lD ?_ | refine lA ?_ _)); exact BK273.out) hb); have n12_ := Aside0.mk (below_step (by repeat (first | (with_reducible first | exact HB.out | apply bA | apply bN | apply bD | refine bS ?_ GE243.out | refine bS ?_ GE244.out | refine bS ?_ GE247.out | refine bS ?_ GE248.out | refine bS ?_ GE271.out | refine bS ?_ GE272.out | refine bS ?_ GE273.out) | exact HB.out)) hb); clear HO251; clear HO258; clear HO268; clear HO278; clear HO290; clear BK243; clear BK244; clear BK247; clear BK248; clear BK271; clear BK272; clear BK273; clear HB; have HO251 := n0_; have HO258 := n1_; have HO268 := n2_; have HO278 := n3_; have HO290 := n4_; have BK243 := n5_; have BK244 := n6_; have BK247 := n7_; have BK248 := n8_; have BK271 := n9_; have BK272 := n10_; have BK273 := n11_; have HB := n12_; clear n0_ n1_ n2_ n3_ n4_ n5_ n6_ n7_ n8_ n9_ n10_ n11_ n12_; (try clear hb); (try clear hb2); (try clear hk); (try clear hi); have hcz129_0 : w128.cell? ⟨gb273, 0, none⟩ = some (.int .i64 t281) := (lC BK273.out 0).trans rfl; have hcz129_1 : w128.cell? ⟨gb273, 1, none⟩ = some (.int .i64 t282) := (lC BK273.out 1).trans rfl; have hcz129_2 : w128.cell? ⟨gb273, 2, none⟩ = some (.int .i64 t283) := (lC BK273.out 2).trans rfl; have hfz129_0 := lF BK273.out 0; have hfz129_1 := lF BK273.out 1; have hfz129_2 := lF BK273.out 2; have hcz130_0 : w128.cell? ⟨gb248, 0, none⟩ = some (.int .i64 t261) := (lC BK248.out 0).trans rfl; have hcz130_1 : w128.cell? ⟨gb248, 1, none⟩ = some (.int .i64 t262) := (lC BK248.out 1).trans rfl; have hcz130_2 : w128.cell? ⟨gb248, 2, none⟩ = some (.int .i64 t263) := (lC BK248.out 2).trans rfl; have hfz130_0 := lF BK248.out 0; have hfz130_1 := lF BK248.out 1; have hfz130_2 := lF BK248.out 2) | (go_at_call 12; (with_reducible refine (laws_eqEmit.calls t281 t282 t283 t261 t262 t263 true _ A38.out).mono ?_); rintro e w131 ⟨rfl, hb⟩; have n0_ := Aside0.mk (Kd.Q_below (by (with_reducible repeat (first | apply qA | apply qN | apply qD)); exact HO251.out) hb); have n1_ := Aside0.mk (Kd.Q_below (by (with_reducible repeat (first | apply qA | apply qN | apply qD)); exact HO258.out) hb); have n2_ := Aside0.mk (Kd.Q_below (by (with_reducible repeat (first | apply qA | apply qN | apply qD)); exact HO268.out) hb); have n3_ := Aside0.mk (Kd.Q_below (by (with_reducible repeat (first | apply qA | apply qN | apply qD)); exact HO278.out) hb); have n4_ := Aside0.mk (Kd.Q_below (by (with_reducible repeat (first | apply qA | apply qN | apply qD)); exact HO290.out) hb); have n5_ := Aside0.mk (blk_below (g := gb243) (o := .cells #[.slice A0_0 l0_0.length c0_0, .int .i64 a0_1, .int .i64 a0_2] 24 (0, 0)) (by (with_reducible repeat (first | refine lN ?_ _ | refine lD ?_ | refine lA ?_ _)); exact BK243.out) hb); have n6_ := Aside0.mk (blk_below (g := gb244) (o := .cells #[.int .i64 a1_0, .string a1_1] 26 (0, 0)) (by (with_reducible repeat (first | refine lN ?_ _ | refine lD ?_ | refine lA ?_ _)); exact BK244.out) hb); have n7_ := Aside0.mk (blk_below (g := gb247) (o := .cells #[.slice Ao70 t256.length co70, .int .i64 t259, .int .i64 t260] 29 (0, 0)) (by (with_reducible repeat (first | refine lN ?_ _ | refine lD ?_ | refine lA ?_ _)); exact BK247.out) hb); have n8_ := Aside0.mk (blk_below (g := gb248) (o := .cells #[.int .i64 t261, .int .i64 t262, .int .i64 t263] 31 (0, 0)) (by (with_reducible repeat (first | refine lN ?_ _ | refine lD ?_ | refine lA ?_ _)); exact BK248.out) hb); have n9_ := Aside0.mk (blk_below (g := gb271) (o := .cells #[.slice Ao82 t266.length co82, .int .i64 t269, .int .i64 t270] 29 (0, 0)) (by (with_reducible repeat (first | refine lN ?_ _ | refine lD ?_ | refine lA ?_ _)); exact BK271.out) hb); have n10_ := Aside0.mk (blk_below (g := gb272) (o := .cells #[.slice Ao93 t276.length co93, .int .i64 t279, .int .i64 t280] 29 (0, 0)) (by (with_reducible repeat (first | refine lN ?_ _ | refine lD ?_ | refine lA ?_ _)); exact BK272.out) hb); have n11_ := Aside0.mk (blk_below (g := gb273) (o := .cells #[.int .i64 t281, .int .i64 t282, .int .i64 t283] 31 (0, 0)) (by (with_reducible repeat (first | refine lN ?_ _ | refine lD ?_ | refine lA ?_ _)); exact BK273.out) hb); have n12_ := Aside0.mk (below_step (by repeat (first | (with_reducible first | exact HB.out | apply bA | apply bN | apply bD | refine bS ?_ GE243.out | refine bS ?_ GE244.out | refine bS ?_ GE247.out | refine bS ?_ GE248.out | refine bS ?_ GE271.out | refine bS ?_ GE272.out | refine bS ?_ GE273.out) | exact HB.out)) hb); clear HO251; clear HO258; clear HO268; clear HO278; clear HO290; clear BK243; clear BK244; clear BK247; clear BK248; clear BK271; clear BK272; clear BK273; clear HB; have HO251 := n0_; have HO258 := n1_; have HO268 := n2_; have HO278 := n3_; have HO290 := n4_; have BK243 := n5_; have BK244 := n6_; have BK247 := n7_; have BK248 := n8_; have BK271 := n9_; have BK272 := n10_; have BK273 := n11_; have HB := n12_; clear n0_ n1_ n2_ n3_ n4_ n5_ n6_ n7_ n8_ n9_ n10_ n11_ n12_; (try clear hb); (try clear hb2); (try clear hk); (try clear hi); have hcz132_0 : w131.cell? ⟨gb272, 0, none⟩ = some (.slice Ao93 t276.length co93) := (lC BK272.out 0).trans rfl; have hcz132_1 : w131.cell? ⟨gb272, 1, none⟩ = some (.int .i64 t279) := (lC BK272.out 1).trans rfl; have hcz132_2 : w131.cell? ⟨gb272, 2, none⟩ = some (.int .i64 t280) := (lC BK272.out 2).trans rfl; have hfz132_0 := lF BK272.out 0; have hfz132_1 := lF BK272.out 1; have hfz132_2 := lF BK272.out 2) | ((with_reducible refine gate_callee (f := 13) rfl ?_); refine goesL_ (some 107) rfl rfl Try.func13 (by kernel_rfl) rfl #[.agg #[.slice Ao93 t276.length co93, .int .i64 t279, .int .i64 t280], .int .i64 1] rfl (by (try simp only [List.map_toArray, List.map_cons, List.map_nil]); first | done | rfl | (simp only [List.length_drop, List.length_take]; rfl)) ?_; (with_reducible refine (laws_markClient.callsQ k (fun k_ => some k_ = (.slice Ao93 t276.length co93 : Value).ownBlock) (.slice Ao93 t276.length co93) t276 t279 t280 1 t298 t299 w _ ?side1 ?side2 A40.out).mono ?_); (case side1 => repeat (first | (with_reducible first | exact HB.out | apply bA | apply bN | apply bD | refine bS ?_ GE243.out | refine bS ?_ GE244.out | refine bS ?_ GE247.out | refine bS ?_ GE248.out | refine bS ?_ GE271.out | refine bS ?_ GE272.out | refine bS ?_ GE273.out) | exact HB.out)); (case side2 => exact Kd.Q_tight rfl HO278.out); rintro e w133 ⟨rfl, hy0, hb, hkp⟩; refine ⟨_, rfl, ?_⟩; have n0_ := Aside0.mk (blk_kept (by (with_reducible repeat (first | refine lN ?_ _ | refine lD ?_ | refine lA ?_ _)); exact BK243.out) hkp (fun hs_ => (fun e_ => (Kd.Q_ne HO278.out BK243.out (by decide)) e_) hs_)); have n1_ := Aside0.mk (blk_kept (by (with_reducible repeat (first | refine lN ?_ _ | refine lD ?_ | refine lA ?_ _)); exact BK244.out) hkp (fun hs_ => (fun e_ => (Kd.Q_ne HO278.out BK244.out (by decide)) e_) hs_)); have n2_ := Aside0.mk (blk_kept (by (with_reducible repeat (first | refine lN ?_ _ | refine lD ?_ | refine lA ?_ _)); exact BK247.out) hkp (fun hs_ => (fun e_ => (Kd.Q_ne HO278.out BK247.out (by decide)) e_) hs_)); have n3_ := Aside0.mk (blk_kept (by (with_reducible repeat (first | refine lN ?_ _ | refine lD ?_ | refine lA ?_ _)); exact BK248.out) hkp (fun hs_ => (fun e_ => (Kd.Q_ne HO278.out BK248.out (by decide)) e_) hs_)); have n4_ := Aside0.mk (Kd.Q_mono (ok' := fun k_ => some k_ ≠ (.slice Ao70 t256.length co70 : Value).ownBlock ∧ some k_ ≠ (.slice Ao82 t266.length co82 : Value).ownBlock ∧ some k_ ≠ (.slice Ao93 t276.length co93 : Value).ownBlock ∧ some k_ ≠ (.slice Ao122 t288.length co122 : Value).ownBlock) (Kd.Q_keptB (HO251.out) hkp (fun k_ hk_ hs_ => (hk_.2.2.1) hs_)) (fun k_ hk_ => ⟨hk_.1.1, hk_.1.2.1, hk_.1.2.2.1, hk_.1.2.2.2⟩)); have n5_ := Aside0.mk (Kd.Q_mono (ok' := fun k_ => some k_ ≠ (.slice Ao68 t249.length co68 : Value).ownBlock ∧ some k_ ≠ (.slice Ao82 t266.length co82 : Value).ownBlock ∧ some k_ ≠ (.slice Ao93 t276.length co93 : Value).ownBlock ∧ some k_ ≠ (.slice Ao122 t288.length co122 : Value).ownBlock) (Kd.Q_keptB (HO258.out) hkp (fun k_ hk_ hs_ => (hk_.2.2.1) hs_)) (fun k_ hk_ => ⟨hk_.1.1, hk_.1.2.1, hk_.1.2.2.1, hk_.1.2.2.2⟩)); have n6_ := Aside0.mk (Kd.Q_mono (ok' := fun k_ => some k_ ≠ (.slice Ao68 t249.length co68 : Value).ownBlock ∧ some k_ ≠ (.slice Ao70 t256.length co70 : Value).ownBlock ∧ some k_ ≠ (.slice Ao93 t276.length co93 : Value).ownBlock ∧ some k_ ≠ (.slice Ao122 t288.length co122 : Value).ownBlock) (Kd.Q_keptB (HO268.out) hkp (fun k_ hk_ hs_ => (hk_.1.2) hs_)) (fun k_ hk_ => ⟨hk_.1.1.1.1.2, hk_.1.1.1.2, hk_.1.1.2, hk_.1.2⟩)); have n7_ := Aside0.mk (blk_kept (by (with_reducible repeat (first | refine lN ?_ _ | refine lD ?_ | refine lA ?_ _)); exact BK271.out) hkp (fun hs_ => (fun e_ => (Kd.Q_ne HO278.out BK271.out (by decide)) e_) hs_)); have n8_ := Aside0.mk (blk_kept (by (with_reducible repeat (first | refine lN ?_ _ | refine lD ?_ | refine lA ?_ _)); exact BK272.out) hkp (fun hs_ => (fun e_ => (Kd.Q_ne HO278.out BK272.out (by decide)) e_) hs_)); have n9_ := Aside0.mk (blk_kept (by (with_reducible repeat (first | refine lN ?_ _ | refine lD ?_ | refine lA ?_ _)); exact BK273.out) hkp (fun hs_ => (fun e_ => (Kd.Q_ne HO278.out BK273.out (by decide)) e_) hs_)); have n10_ := Aside0.mk (Go.Proofs.Ytodhogegjkfemaa.Bx.Q_reok rfl hy0 (fun k_ e_ => HO278.out.1 k_ e_)); have n11_ := Aside0.mk (Kd.Q_mono (ok' := fun k_ => some k_ ≠ (.slice Ao68 t249.length co68 : Value).ownBlock ∧ some k_ ≠ (.slice Ao70 t256.length co70 : Value).ownBlock ∧ some k_ ≠ (.slice Ao82 t266.length co82 : Value).ownBlock ∧ some k_ ≠ (.slice Ao93 t276.length co93 : Value).ownBlock) (Kd.Q_keptB (HO290.out) hkp (fun k_ hk_ hs_ => (hk_.2.2.2) hs_)) (fun k_ hk_ => ⟨hk_.1.1, hk_.1.2.1, hk_.1.2.2.1, hk_.1.2.2.2⟩)); have n12_ := Aside0.mk (hb); clear BK243; clear BK244; clear BK247; clear BK248; clear HO251; clear HO258; clear HO268; clear BK271; clear BK272; clear BK273; clear HO278; clear HO290; clear HB; have BK243 := n0_; have BK244 := n1_; have BK247 := n2_; have BK248 := n3_; have HO251 := n4_; have HO258 := n5_; have HO268 := n6_; have BK271 := n7_; have BK272 := n8_; have BK273 := n9_; have HO278 := n10_; have HO290 := n11_; have HB := n12_; clear n0_ n1_ n2_ n3_ n4_ n5_ n6_ n7_ n8_ n9_ n10_ n11_ n12_; (try clear hb); (try clear hkp); (try clear hy0); have hcz134_0 : w133.cell? ⟨gb272, 0, none⟩ = some (.slice Ao93 t276.length co93) := (lC BK272.out 0).trans rfl; have hcz134_1 : w133.cell? ⟨gb272, 1, none⟩ = some (.int .i64 t279) := (lC BK272.out 1).trans rfl; have hcz134_2 : w133.cell? ⟨gb272, 2, none⟩ = some (.int .i64 t280) := (lC BK272.out 2).trans rfl; have hfz134_0 := lF BK272.out 0; have hfz134_1 := lF BK272.out 1; have hfz134_2 := lF BK272.out 2) | ((with_reducible refine gate_callee (f := 14) rfl ?_); refine goesL_ (some 110) rfl rfl Try.func14 (by kernel_rfl) rfl #[.agg #[.slice Ao93 t299.length co93, .int .i64 t279, .int .i64 t280], .int .i64 1] rfl (by (try simp only [List.map_toArray, List.map_cons, List.map_nil]); first | done | (rw [show t299.length = t276.length from (Kd.Q_reads' HO278.out).1.symm] <;> rfl) | rfl | (simp only [List.length_drop, List.length_take]; rfl)) ?_; (with_reducible refine (laws_heldClient.calls k _ _ t299 t279 t280 1 t300 _ ?side1 ?side2 A41.out).mono ?_); (case side1 => repeat (first | exact (Kd.Q_reads' HO278.out).2.2 | (with_reducible first | refine cA ?_ _ | refine cN ?_ _ | refine cD ?_))); (case side2 => rw [show t299.length = t276.length from (Kd.Q_reads' HO278.out).1.symm]; exact (Kd.Q_reads' HO278.out).2.1); rintro e w135 ⟨rfl, hb⟩; refine ⟨_, rfl, ?_⟩; have n0_ := Aside0.mk (Kd.Q_below (by (with_reducible repeat (first | apply qA | apply qN | apply qD)); exact HO251.out) hb); have n1_ := Aside0.mk (Kd.Q_below (by (with_reducible repeat (first | apply qA | apply qN | apply qD)); exact HO258.out) hb); have n2_ := Aside0.mk (Kd.Q_below (by (with_reducible repeat (first | apply qA | apply qN | apply qD)); exact HO268.out) hb); have n3_ := Aside0.mk (Kd.Q_below (by (with_reducible repeat (first | apply qA | apply qN | apply qD)); exact HO278.out) hb); have n4_ := Aside0.mk (Kd.Q_below (by (with_reducible repeat (first | apply qA | apply qN | apply qD)); exact HO290.out) hb); have n5_ := Aside0.mk (blk_below (g := gb243) (o := .cells #[.slice A0_0 l0_0.length c0_0, .int .i64 a0_1, .int .i64 a0_2] 24 (0, 0)) (by (with_reducible repeat (first | refine lN ?_ _ | refine lD ?_ | refine lA ?_ _)); exact BK243.out) hb); have n6_ := Aside0.mk (blk_below (g := gb244) (o := .cells #[.int .i64 a1_0, .string a1_1] 26 (0, 0)) (by (with_reducible repeat (first | refine lN ?_ _ | refine lD ?_ | refine lA ?_ _)); exact BK244.out) hb); have n7_ := Aside0.mk (blk_below (g := gb247) (o := .cells #[.slice Ao70 t256.length co70, .int .i64 t259, .int .i64 t260] 29 (0, 0)) (by (with_reducible repeat (first | refine lN ?_ _ | refine lD ?_ | refine lA ?_ _)); exact BK247.out) hb); have n8_ := Aside0.mk (blk_below (g := gb248) (o := .cells #[.int .i64 t261, .int .i64 t262, .int .i64 t263] 31 (0, 0)) (by (with_reducible repeat (first | refine lN ?_ _ | refine lD ?_ | refine lA ?_ _)); exact BK248.out) hb); have n9_ := Aside0.mk (blk_below (g := gb271) (o := .cells #[.slice Ao82 t266.length co82, .int .i64 t269, .int .i64 t270] 29 (0, 0)) (by (with_reducible repeat (first | refine lN ?_ _ | refine lD ?_ | refine lA ?_ _)); exact BK271.out) hb); have n10_ := Aside0.mk (blk_below (g := gb272) (o := .cells #[.slice Ao93 t276.length co93, .int .i64 t279, .int .i64 t280] 29 (0, 0)) (by (with_reducible repeat (first | refine lN ?_ _ | refine lD ?_ | refine lA ?_ _)); exact BK272.out) hb); have n11_ := Aside0.mk (blk_below (g := gb273) (o := .cells #[.int .i64 t281, .int .i64 t282, .int .i64 t283] 31 (0, 0)) (by (with_reducible repeat (first | refine lN ?_ _ | refine lD ?_ | refine lA ?_ _)); exact BK273.out) hb); have n12_ := Aside0.mk (below_step (by repeat (first | (with_reducible first | exact HB.out | apply bA | apply bN | apply bD | refine bS ?_ GE243.out | refine bS ?_ GE244.out | refine bS ?_ GE247.out | refine bS ?_ GE248.out | refine bS ?_ GE271.out | refine bS ?_ GE272.out | refine bS ?_ GE273.out) | exact HB.out)) hb); clear HO251; clear HO258; clear HO268; clear HO278; clear HO290; clear BK243; clear BK244; clear BK247; clear BK248; clear BK271; clear BK272; clear BK273; clear HB; have HO251 := n0_; have HO258 := n1_; have HO268 := n2_; have HO278 := n3_; have HO290 := n4_; have BK243 := n5_; have BK244 := n6_; have BK247 := n7_; have BK248 := n8_; have BK271 := n9_; have BK272 := n10_; have BK273 := n11_; have HB := n12_; clear n0_ n1_ n2_ n3_ n4_ n5_ n6_ n7_ n8_ n9_ n10_ n11_ n12_; (try clear hb); (try clear hb2); (try clear hk); (try clear hi)))
                   have n0_ := Aside0.mk (qD HO251.out)
                   have n1_ := Aside0.mk (qD HO258.out)
                   have n2_ := Aside0.mk (qD HO268.out)
                   have n3_ := Aside0.mk (qD HO278.out)
                   have n4_ := Aside0.mk (qD HO290.out)
                   have n5_ := Aside0.mk (lD BK243.out)
                   have n6_ := Aside0.mk (lD BK244.out)
                   have n7_ := Aside0.mk (lD BK247.out)
                   have n8_ := Aside0.mk (lD BK248.out)
                   have n9_ := Aside0.mk (lD BK271.out)
                   have n10_ := Aside0.mk (lD BK272.out)
                   have n11_ := Aside0.mk (lD BK273.out)
                   have n14_ := Aside0.mk (bD HB.out)
                   clear HO251
                   clear HO258
                   clear HO268
                   clear HO278
                   clear HO290
                   clear BK243
                   clear BK244
                   clear BK247
                   clear BK248
                   clear BK271
                   clear BK272
                   clear BK273
                   clear HB
                   have HO251 := n0_
                   have HO258 := n1_
                   have HO268 := n2_
                   have HO278 := n3_
                   have HO290 := n4_
                   have BK243 := n5_
                   have BK244 := n6_
                   have BK247 := n7_
                   have BK248 := n8_
                   have BK271 := n9_
                   have BK272 := n10_
                   have BK273 := n11_
                   have HB := n14_
                   clear n0_ n1_ n2_ n3_ n4_ n5_ n6_ n7_ n8_ n9_ n10_ n11_ n14_
                   refine start_ (n := 16) (S := fun w' => w'.cell? ⟨gb243, 0, none⟩ = some (.slice A0_0 l0_0.length c0_0) ∧ w'.cell? ⟨gb243, 1, none⟩ = some (.int .i64 a0_1) ∧ w'.cell? ⟨gb243, 2, none⟩ = some (.int .i64 a0_2) ∧ w'.cell? ⟨gb244, 0, none⟩ = some (.int .i64 a1_0) ∧ w'.cell? ⟨gb244, 1, none⟩ = some (.string a1_1)) (ds := []) #[false, false, false, false, false, false, false, false, false, false, false, false, false, false, false, false] (by kernel_rfl) rfl rfl ⟨(lC BK243.out 0).trans rfl, (lC BK243.out 1).trans rfl, (lC BK243.out 2).trans rfl, (lC BK244.out 0).trans rfl, (lC BK244.out 1).trans rfl⟩ (fun hHeld => ?_); refine with_tabW laws_FnExactStepClient.tab27 laws_FnExactStepClient.bits27 (fun HT_ HW_ => ?_)
                   generalize World.drew _ = w138 at HO251 HO258 HO268 HO278 HO290 BK243 BK244 BK247 BK248 BK271 BK272 BK273 HB hHeld ⊢
                   refine take_ (i := 0) (N := some 117) (v := ?_) (a' := ?_) #[true, false, false, false, false, false, false, false, false, false, false, false, false, false, false, false] rfl rfl (take_ofW HT_.out HW_.out (by kernel_rfl)) (fun _ _ _ h => h) (Or.inl ⟨by rfl, ?_⟩) hHeld ?_ ?_
                   rotate_left
                   ·rintro w' ⟨s0, s1, s2, s3, s4⟩
                    go_simp
                    with_reducible rfl
                   rotate_left
                   ·simp only [Act.put, List.setIfInBounds_toArray, List.set_cons_zero, List.set_cons_succ, i64_w, i32_w]
                    rfl
                   refine take_ (i := 2) (N := some 119) (v := ?_) (a' := ?_) #[true, false, true, false, false, false, false, false, false, false, false, false, false, false, false, false] rfl rfl (take_ofW HT_.out HW_.out (by kernel_rfl)) (fun _ _ _ h => h) (Or.inl ⟨by rfl, ?_⟩) hHeld ?_ ?_
                   rotate_left
                   ·rintro w' ⟨s0, s1, s2, s3, s4⟩
                    go_simp
                    with_reducible rfl
                   rotate_left
                   ·simp only [Act.put, List.setIfInBounds_toArray, List.set_cons_zero, List.set_cons_succ, i64_w, i32_w]
                    rfl
                   have hlo_ := Aside0.mk (below_size HB.out)
                   have hlt243_ := Aside0.mk (blk_lt BK243.out)
                   have hlt244_ := Aside0.mk (blk_lt BK244.out)
                   have hlt247_ := Aside0.mk (blk_lt BK247.out)
                   have hlt248_ := Aside0.mk (blk_lt BK248.out)
                   have hlt271_ := Aside0.mk (blk_lt BK271.out)
                   have hlt272_ := Aside0.mk (blk_lt BK272.out)
                   have hlt273_ := Aside0.mk (blk_lt BK273.out)
                   refine Go.Proofs.Ytodhogegjkfemaa.Bx.boxes_ (i := 10) (j := 11) (N1 := 18) (N2 := 19) (cs1 := #[.slice none 0 0, .int .i64 0, .int .i64 0]) (cs2 := #[.int .i64 0, .int .i64 0, .int .i64 0]) (t1 := 29) (t2 := 31) 4 #[true, true, true, true, true, true, true, true, true, true, true, true, false, false, false, false] #[true, false, true, false, false, false, false, false, false, false, true, true, false, false, false, false] [.call 1, .call 3, .call 4, .pure 5, .pure 6, .pure 7, .pure 8, .pure 9] rfl rfl rfl rfl rfl rfl (by kernel_rfl) (by simp only [Go.Proofs.Ytodhogegjkfemaa.Bx.ba, Act.put, List.setIfInBounds_toArray, List.set_cons_zero, List.set_cons_succ]) ?_ ?_ ?_ (fun _ _ _ _ _ => Iff.rfl) hHeld ?_
                   ·intro a_ w_
                    first | (go_simp; done) | (go_simp; rfl)
                   ·intro a_ w_
                    first | (go_simp; done) | (go_simp; rfl)
                   ·rintro w_ w2_ hb_ ⟨s0, s1, s2, s3, s4⟩
                    exact ⟨pw_cell_below hb_ s0, pw_cell_below hb_ s1, pw_cell_below hb_ s2, pw_cell_below hb_ s3, pw_cell_below hb_ s4⟩
                   refine Go.Proofs.Ytodhogegjkfemaa.Bx.env_call (i := 1) (N := some 118) rfl rfl (fun w138 hE_ hHeld K hK => ?_)
                   have n0_ := Aside0.mk (Kd.Q_below HO251.out hE_)
                   have n1_ := Aside0.mk (Kd.Q_below HO258.out hE_)
                   have n2_ := Aside0.mk (Kd.Q_below HO268.out hE_)
                   have n3_ := Aside0.mk (Kd.Q_below HO278.out hE_)
                   have n4_ := Aside0.mk (Kd.Q_below HO290.out hE_)
                   have n5_ := Aside0.mk (blk_below BK243.out hE_)
                   have n6_ := Aside0.mk (blk_below BK244.out hE_)
                   have n7_ := Aside0.mk (blk_below BK247.out hE_)
                   have n8_ := Aside0.mk (blk_below BK248.out hE_)
                   have n9_ := Aside0.mk (blk_below BK271.out hE_)
                   have n10_ := Aside0.mk (blk_below BK272.out hE_)
                   have n11_ := Aside0.mk (blk_below BK273.out hE_)
                   have n12_ := Aside0.mk (below_step HB.out hE_)
                   clear hE_ HO251 HO258 HO268 HO278 HO290 BK243 BK244 BK247 BK248 BK271 BK272 BK273 HB
                   have HO251 := n0_
                   have HO258 := n1_
                   have HO268 := n2_
                   have HO278 := n3_
                   have HO290 := n4_
                   have BK243 := n5_
                   have BK244 := n6_
                   have BK247 := n7_
                   have BK248 := n8_
                   have BK271 := n9_
                   have BK272 := n10_
                   have BK273 := n11_
                   have HB := n12_
                   clear n0_ n1_ n2_ n3_ n4_ n5_ n6_ n7_ n8_ n9_ n10_ n11_ n12_
                   refine goes_ Try.func8 (by kernel_rfl) rfl #[.agg #[.slice A0_0 l0_0.length c0_0, .int .i64 a0_1, .int .i64 a0_2]] (by rfl) rfl rfl (by (try simp only [List.map_toArray, List.map_cons, List.map_nil]); first | done | rfl | (simp only [List.length_drop, List.length_take]; rfl)) ?_
                   with_reducible refine (laws_toClient.callsQ k _ _ l0_0 a0_1 a0_2 t303 t306 t307 _ ?side1 ?side2 A44.out).mono ?_
                   (case side1 => repeat (first | exact (Kd.C_below HR0_0.out HB.out) | (with_reducible first | refine cA ?_ _ | refine cN ?_ _ | refine cD ?_)))
                   (case side2 => exact HC0_0.out)
                   rintro e w139 ⟨v304, rfl, ho0, hb⟩
                   refine ⟨_, rfl, ?_⟩
                   have hkb_ := Aside0.mk (Go.Proofs.Ytodhogegjkfemaa.Bx.keep_b (t1 := 29) (t2 := 31) hb)
                   have hsz_ := Aside0.mk hb.size
                   have n0_ := Aside0.mk (Kd.Q_elder' (by (with_reducible repeat (first | apply qA | apply qN | apply qD)); exact HO251.out) (Kd.Q_base ho0) hb)
                   have n1_ := Aside0.mk (Kd.Q_elder' (by (with_reducible repeat (first | apply qA | apply qN | apply qD)); exact HO258.out) (Kd.Q_base ho0) hb)
                   have n2_ := Aside0.mk (Kd.Q_elder' (by (with_reducible repeat (first | apply qA | apply qN | apply qD)); exact HO268.out) (Kd.Q_base ho0) hb)
                   have n3_ := Aside0.mk (Kd.Q_elder' (by (with_reducible repeat (first | apply qA | apply qN | apply qD)); exact HO278.out) (Kd.Q_base ho0) hb)
                   have n4_ := Aside0.mk (Kd.Q_elder' (by (with_reducible repeat (first | apply qA | apply qN | apply qD)); exact HO290.out) (Kd.Q_base ho0) hb)
                   have n5_ := Aside0.mk (Kd.Q_lower (Kd.Q_new' (Kd.Q_new' (Kd.Q_new' (Kd.Q_new' (Kd.Q_new' ho0 (Kd.Q_lt (by (with_reducible repeat (first | apply qA | apply qN | apply qD)); exact HO251.out))) (Kd.Q_lt (by (with_reducible repeat (first | apply qA | apply qN | apply qD)); exact HO258.out))) (Kd.Q_lt (by (with_reducible repeat (first | apply qA | apply qN | apply qD)); exact HO268.out))) (Kd.Q_lt (by (with_reducible repeat (first | apply qA | apply qN | apply qD)); exact HO278.out))) (Kd.Q_lt (by (with_reducible repeat (first | apply qA | apply qN | apply qD)); exact HO290.out))) (below_size (by repeat (first | (with_reducible first | exact HB.out | apply bA | apply bN | apply bD | refine bS ?_ GE243.out | refine bS ?_ GE244.out | refine bS ?_ GE247.out | refine bS ?_ GE248.out | refine bS ?_ GE271.out | refine bS ?_ GE272.out | refine bS ?_ GE273.out) | exact HB.out))))
                   have n6_ := Aside0.mk (blk_below (g := gb243) (o := .cells #[.slice A0_0 l0_0.length c0_0, .int .i64 a0_1, .int .i64 a0_2] 24 (0, 0)) (by (with_reducible repeat (first | refine lN ?_ _ | refine lD ?_ | refine lA ?_ _)); exact BK243.out) hb)
                   have n7_ := Aside0.mk (blk_below (g := gb244) (o := .cells #[.int .i64 a1_0, .string a1_1] 26 (0, 0)) (by (with_reducible repeat (first | refine lN ?_ _ | refine lD ?_ | refine lA ?_ _)); exact BK244.out) hb)
                   have n8_ := Aside0.mk (blk_below (g := gb247) (o := .cells #[.slice Ao70 t256.length co70, .int .i64 t259, .int .i64 t260] 29 (0, 0)) (by (with_reducible repeat (first | refine lN ?_ _ | refine lD ?_ | refine lA ?_ _)); exact BK247.out) hb)
                   have n9_ := Aside0.mk (blk_below (g := gb248) (o := .cells #[.int .i64 t261, .int .i64 t262, .int .i64 t263] 31 (0, 0)) (by (with_reducible repeat (first | refine lN ?_ _ | refine lD ?_ | refine lA ?_ _)); exact BK248.out) hb)
                   have n10_ := Aside0.mk (blk_below (g := gb271) (o := .cells #[.slice Ao82 t266.length co82, .int .i64 t269, .int .i64 t270] 29 (0, 0)) (by (with_reducible repeat (first | refine lN ?_ _ | refine lD ?_ | refine lA ?_ _)); exact BK271.out) hb)
                   have n11_ := Aside0.mk (blk_below (g := gb272) (o := .cells #[.slice Ao93 t276.length co93, .int .i64 t279, .int .i64 t280] 29 (0, 0)) (by (with_reducible repeat (first | refine lN ?_ _ | refine lD ?_ | refine lA ?_ _)); exact BK272.out) hb)
                   have n12_ := Aside0.mk (blk_below (g := gb273) (o := .cells #[.int .i64 t281, .int .i64 t282, .int .i64 t283] 31 (0, 0)) (by (with_reducible repeat (first | refine lN ?_ _ | refine lD ?_ | refine lA ?_ _)); exact BK273.out) hb)
                   have n15_ := Aside0.mk (below_step (by repeat (first | (with_reducible first | exact HB.out | apply bA | apply bN | apply bD | refine bS ?_ GE243.out | refine bS ?_ GE244.out | refine bS ?_ GE247.out | refine bS ?_ GE248.out | refine bS ?_ GE271.out | refine bS ?_ GE272.out | refine bS ?_ GE273.out) | exact HB.out)) hb)
                   clear HO251
                   clear HO258
                   clear HO268
                   clear HO278
                   clear HO290
                   clear BK243
                   clear BK244
                   clear BK247
                   clear BK248
                   clear BK271
                   clear BK272
                   clear BK273
                   clear HB
                   have HO251 := n0_
                   have HO258 := n1_
                   have HO268 := n2_
                   have HO278 := n3_
                   have HO290 := n4_
                   have HO305 := n5_
                   have BK243 := n6_
                   have BK244 := n7_
                   have BK247 := n8_
                   have BK248 := n9_
                   have BK271 := n10_
                   have BK272 := n11_
                   have BK273 := n12_
                   have HB := n15_
                   clear n0_ n1_ n2_ n3_ n4_ n5_ n6_ n7_ n8_ n9_ n10_ n11_ n12_ n15_
                   (try clear hb)
                   (try clear hb2)
                   (try clear hk)
                   (try clear hi)
                   (try clear ho0)
                   refine hK.out _ _ ⟨(lC BK243.out 0).trans rfl, (lC BK243.out 1).trans rfl, (lC BK243.out 2).trans rfl, (lC BK244.out 0).trans rfl, (lC BK244.out 1).trans rfl⟩ hkb_.out hsz_.out (fun hHeld => ?_)
                   clear hK K hkb_ hsz_
                   refine Go.Proofs.Ytodhogegjkfemaa.Bx.env_norm (a' := ?_) ?_ ?_
                   rotate_left
                   ·show Act.put _ (some 118) _ = _
                    simp only [Act.put, List.setIfInBounds_toArray, List.set_cons_zero, List.set_cons_succ, i64_w, i32_w]
                    rfl
                   refine Go.Proofs.Ytodhogegjkfemaa.Bx.env_call (i := 3) (N := some 120) rfl rfl (fun w139 hE_ hHeld K hK => ?_)
                   have n0_ := Aside0.mk (Kd.Q_below HO251.out hE_)
                   have n1_ := Aside0.mk (Kd.Q_below HO258.out hE_)
                   have n2_ := Aside0.mk (Kd.Q_below HO268.out hE_)
                   have n3_ := Aside0.mk (Kd.Q_below HO278.out hE_)
                   have n4_ := Aside0.mk (Kd.Q_below HO290.out hE_)
                   have n5_ := Aside0.mk (blk_below BK243.out hE_)
                   have n6_ := Aside0.mk (blk_below BK244.out hE_)
                   have n7_ := Aside0.mk (blk_below BK247.out hE_)
                   have n8_ := Aside0.mk (blk_below BK248.out hE_)
                   have n9_ := Aside0.mk (blk_below BK271.out hE_)
                   have n10_ := Aside0.mk (blk_below BK272.out hE_)
                   have n11_ := Aside0.mk (blk_below BK273.out hE_)
                   have n12_ := Aside0.mk (below_step HB.out hE_)
                   have n13_ := Aside0.mk (Kd.Q_below HO305.out hE_)
                   clear hE_ HO251 HO258 HO268 HO278 HO290 BK243 BK244 BK247 BK248 BK271 BK272 BK273 HB HO305
                   have HO251 := n0_
                   have HO258 := n1_
                   have HO268 := n2_
                   have HO278 := n3_
                   have HO290 := n4_
                   have BK243 := n5_
                   have BK244 := n6_
                   have BK247 := n7_
                   have BK248 := n8_
                   have BK271 := n9_
                   have BK272 := n10_
                   have BK273 := n11_
                   have HB := n12_
                   have HO305 := n13_
                   clear n0_ n1_ n2_ n3_ n4_ n5_ n6_ n7_ n8_ n9_ n10_ n11_ n12_ n13_
                   refine goes_ Try.func9 (by kernel_rfl) rfl #[.agg #[.int .i64 a1_0, .string a1_1]] (by rfl) rfl rfl (by (try simp only [List.map_toArray, List.map_cons, List.map_nil]); first | done | rfl | (simp only [List.length_drop, List.length_take]; rfl)) ?_
                   with_reducible refine (laws_toCoverStep.calls a1_0 a1_1 t308 t309 _ A45.out).mono ?_
                   rintro e w140 ⟨rfl, hb⟩
                   refine ⟨_, rfl, ?_⟩
                   have hkb_ := Aside0.mk (Go.Proofs.Ytodhogegjkfemaa.Bx.keep_b (t1 := 29) (t2 := 31) hb)
                   have hsz_ := Aside0.mk hb.size
                   have n0_ := Aside0.mk (Kd.Q_below (by (with_reducible repeat (first | apply qA | apply qN | apply qD)); exact HO251.out) hb)
                   have n1_ := Aside0.mk (Kd.Q_below (by (with_reducible repeat (first | apply qA | apply qN | apply qD)); exact HO258.out) hb)
                   have n2_ := Aside0.mk (Kd.Q_below (by (with_reducible repeat (first | apply qA | apply qN | apply qD)); exact HO268.out) hb)
                   have n3_ := Aside0.mk (Kd.Q_below (by (with_reducible repeat (first | apply qA | apply qN | apply qD)); exact HO278.out) hb)
                   have n4_ := Aside0.mk (Kd.Q_below (by (with_reducible repeat (first | apply qA | apply qN | apply qD)); exact HO290.out) hb)
                   have n5_ := Aside0.mk (Kd.Q_below (by (with_reducible repeat (first | apply qA | apply qN | apply qD)); exact HO305.out) hb)
                   have n6_ := Aside0.mk (blk_below (g := gb243) (o := .cells #[.slice A0_0 l0_0.length c0_0, .int .i64 a0_1, .int .i64 a0_2] 24 (0, 0)) (by (with_reducible repeat (first | refine lN ?_ _ | refine lD ?_ | refine lA ?_ _)); exact BK243.out) hb)
                   have n7_ := Aside0.mk (blk_below (g := gb244) (o := .cells #[.int .i64 a1_0, .string a1_1] 26 (0, 0)) (by (with_reducible repeat (first | refine lN ?_ _ | refine lD ?_ | refine lA ?_ _)); exact BK244.out) hb)
                   have n8_ := Aside0.mk (blk_below (g := gb247) (o := .cells #[.slice Ao70 t256.length co70, .int .i64 t259, .int .i64 t260] 29 (0, 0)) (by (with_reducible repeat (first | refine lN ?_ _ | refine lD ?_ | refine lA ?_ _)); exact BK247.out) hb)
                   have n9_ := Aside0.mk (blk_below (g := gb248) (o := .cells #[.int .i64 t261, .int .i64 t262, .int .i64 t263] 31 (0, 0)) (by (with_reducible repeat (first | refine lN ?_ _ | refine lD ?_ | refine lA ?_ _)); exact BK248.out) hb)
                   have n10_ := Aside0.mk (blk_below (g := gb271) (o := .cells #[.slice Ao82 t266.length co82, .int .i64 t269, .int .i64 t270] 29 (0, 0)) (by (with_reducible repeat (first | refine lN ?_ _ | refine lD ?_ | refine lA ?_ _)); exact BK271.out) hb)
                   have n11_ := Aside0.mk (blk_below (g := gb272) (o := .cells #[.slice Ao93 t276.length co93, .int .i64 t279, .int .i64 t280] 29 (0, 0)) (by (with_reducible repeat (first | refine lN ?_ _ | refine lD ?_ | refine lA ?_ _)); exact BK272.out) hb)
                   have n12_ := Aside0.mk (blk_below (g := gb273) (o := .cells #[.int .i64 t281, .int .i64 t282, .int .i64 t283] 31 (0, 0)) (by (with_reducible repeat (first | refine lN ?_ _ | refine lD ?_ | refine lA ?_ _)); exact BK273.out) hb)
                   have n15_ := Aside0.mk (below_step (by repeat (first | (with_reducible first | exact HB.out | apply bA | apply bN | apply bD | refine bS ?_ GE243.out | refine bS ?_ GE244.out | refine bS ?_ GE247.out | refine bS ?_ GE248.out | refine bS ?_ GE271.out | refine bS ?_ GE272.out | refine bS ?_ GE273.out) | exact HB.out)) hb)
                   clear HO251
                   clear HO258
                   clear HO268
                   clear HO278
                   clear HO290
                   clear HO305
                   clear BK243
                   clear BK244
                   clear BK247
                   clear BK248
                   clear BK271
                   clear BK272
                   clear BK273
                   clear HB
                   have HO251 := n0_
                   have HO258 := n1_
                   have HO268 := n2_
                   have HO278 := n3_
                   have HO290 := n4_
                   have HO305 := n5_
                   have BK243 := n6_
                   have BK244 := n7_
                   have BK247 := n8_
                   have BK248 := n9_
                   have BK271 := n10_
                   have BK272 := n11_
                   have BK273 := n12_
                   have HB := n15_
                   clear n0_ n1_ n2_ n3_ n4_ n5_ n6_ n7_ n8_ n9_ n10_ n11_ n12_ n15_
                   (try clear hb)
                   (try clear hb2)
                   (try clear hk)
                   (try clear hi)
                   obtain ⟨Ao141, co141, eo141, _⟩ := Kd.Q_slice HO305.out
                   (first | subst eo141 | (injection eo141 with f1_ f2_ f3_; have f4_ := f1_.symm; have f5_ := f3_.symm; clear f1_ f2_ f3_; subst f4_; subst f5_))
                   refine hK.out _ _ ⟨(lC BK243.out 0).trans rfl, (lC BK243.out 1).trans rfl, (lC BK243.out 2).trans rfl, (lC BK244.out 0).trans rfl, (lC BK244.out 1).trans rfl⟩ hkb_.out hsz_.out (fun hHeld => ?_)
                   clear hK K hkb_ hsz_
                   refine Go.Proofs.Ytodhogegjkfemaa.Bx.env_norm (a' := ?_) ?_ ?_
                   rotate_left
                   ·show Act.put _ (some 120) _ = _
                    simp only [Act.put, List.setIfInBounds_toArray, List.set_cons_zero, List.set_cons_succ, i64_w, i32_w]
                    rfl
                   refine Go.Proofs.Ytodhogegjkfemaa.Bx.env_call (i := 4) (N := some 121) rfl rfl (fun w140 hE_ hHeld K hK => ?_)
                   have n0_ := Aside0.mk (Kd.Q_below HO251.out hE_)
                   have n1_ := Aside0.mk (Kd.Q_below HO258.out hE_)
                   have n2_ := Aside0.mk (Kd.Q_below HO268.out hE_)
                   have n3_ := Aside0.mk (Kd.Q_below HO278.out hE_)
                   have n4_ := Aside0.mk (Kd.Q_below HO290.out hE_)
                   have n5_ := Aside0.mk (blk_below BK243.out hE_)
                   have n6_ := Aside0.mk (blk_below BK244.out hE_)
                   have n7_ := Aside0.mk (blk_below BK247.out hE_)
                   have n8_ := Aside0.mk (blk_below BK248.out hE_)
                   have n9_ := Aside0.mk (blk_below BK271.out hE_)
                   have n10_ := Aside0.mk (blk_below BK272.out hE_)
                   have n11_ := Aside0.mk (blk_below BK273.out hE_)
                   have n12_ := Aside0.mk (below_step HB.out hE_)
                   have n13_ := Aside0.mk (Kd.Q_below HO305.out hE_)
                   clear hE_ HO251 HO258 HO268 HO278 HO290 BK243 BK244 BK247 BK248 BK271 BK272 BK273 HB HO305
                   have HO251 := n0_
                   have HO258 := n1_
                   have HO268 := n2_
                   have HO278 := n3_
                   have HO290 := n4_
                   have BK243 := n5_
                   have BK244 := n6_
                   have BK247 := n7_
                   have BK248 := n8_
                   have BK271 := n9_
                   have BK272 := n10_
                   have BK273 := n11_
                   have HB := n12_
                   have HO305 := n13_
                   clear n0_ n1_ n2_ n3_ n4_ n5_ n6_ n7_ n8_ n9_ n10_ n11_ n12_ n13_
                   refine goes_ Try.func10 (by kernel_rfl) rfl #[.agg #[.slice Ao141 t303.length co141, .int .i64 t306, .int .i64 t307], .agg #[.int .i64 t308, .string t309]] (by rfl) rfl rfl (by (try simp only [List.map_toArray, List.map_cons, List.map_nil]); first | done | rfl | (simp only [List.length_drop, List.length_take]; rfl)) ?_
                   with_reducible refine (impl_StepClient.calls k _ _ t303 t306 t307 t308 t309 t310 t313 t314 t315 t316 t317 t318 t319 _ ?side1 ?side2 A46.out).mono ?_
                   (case side1 => repeat (first | exact (Kd.Q_reads' HO305.out).2.2 | (with_reducible first | refine cA ?_ _ | refine cN ?_ _ | refine cD ?_)))
                   (case side2 => exact (Kd.Q_reads' HO305.out).2.1)
                   rintro e w142 ⟨v311, rfl, ho0, hb⟩
                   refine ⟨_, rfl, ?_⟩
                   have hkb_ := Aside0.mk (Go.Proofs.Ytodhogegjkfemaa.Bx.keep_b (t1 := 29) (t2 := 31) hb)
                   have hsz_ := Aside0.mk hb.size
                   have n0_ := Aside0.mk (Kd.Q_elder' (by (with_reducible repeat (first | apply qA | apply qN | apply qD)); exact HO251.out) (Kd.Q_base ho0) hb)
                   have n1_ := Aside0.mk (Kd.Q_elder' (by (with_reducible repeat (first | apply qA | apply qN | apply qD)); exact HO258.out) (Kd.Q_base ho0) hb)
                   have n2_ := Aside0.mk (Kd.Q_elder' (by (with_reducible repeat (first | apply qA | apply qN | apply qD)); exact HO268.out) (Kd.Q_base ho0) hb)
                   have n3_ := Aside0.mk (Kd.Q_elder' (by (with_reducible repeat (first | apply qA | apply qN | apply qD)); exact HO278.out) (Kd.Q_base ho0) hb)
                   have n4_ := Aside0.mk (Kd.Q_elder' (by (with_reducible repeat (first | apply qA | apply qN | apply qD)); exact HO290.out) (Kd.Q_base ho0) hb)
                   have n5_ := Aside0.mk (Kd.Q_elder' (by (with_reducible repeat (first | apply qA | apply qN | apply qD)); exact HO305.out) (Kd.Q_base ho0) hb)
                   have n6_ := Aside0.mk (Kd.Q_lower (Kd.Q_new' (Kd.Q_new' (Kd.Q_new' (Kd.Q_new' (Kd.Q_new' (Kd.Q_new' ho0 (Kd.Q_lt (by (with_reducible repeat (first | apply qA | apply qN | apply qD)); exact HO251.out))) (Kd.Q_lt (by (with_reducible repeat (first | apply qA | apply qN | apply qD)); exact HO258.out))) (Kd.Q_lt (by (with_reducible repeat (first | apply qA | apply qN | apply qD)); exact HO268.out))) (Kd.Q_lt (by (with_reducible repeat (first | apply qA | apply qN | apply qD)); exact HO278.out))) (Kd.Q_lt (by (with_reducible repeat (first | apply qA | apply qN | apply qD)); exact HO290.out))) (Kd.Q_lt (by (with_reducible repeat (first | apply qA | apply qN | apply qD)); exact HO305.out))) (below_size (by repeat (first | (with_reducible first | exact HB.out | apply bA | apply bN | apply bD | refine bS ?_ GE243.out | refine bS ?_ GE244.out | refine bS ?_ GE247.out | refine bS ?_ GE248.out | refine bS ?_ GE271.out | refine bS ?_ GE272.out | refine bS ?_ GE273.out) | exact HB.out))))
                   have n7_ := Aside0.mk (blk_below (g := gb243) (o := .cells #[.slice A0_0 l0_0.length c0_0, .int .i64 a0_1, .int .i64 a0_2] 24 (0, 0)) (by (with_reducible repeat (first | refine lN ?_ _ | refine lD ?_ | refine lA ?_ _)); exact BK243.out) hb)
                   have n8_ := Aside0.mk (blk_below (g := gb244) (o := .cells #[.int .i64 a1_0, .string a1_1] 26 (0, 0)) (by (with_reducible repeat (first | refine lN ?_ _ | refine lD ?_ | refine lA ?_ _)); exact BK244.out) hb)
                   have n9_ := Aside0.mk (blk_below (g := gb247) (o := .cells #[.slice Ao70 t256.length co70, .int .i64 t259, .int .i64 t260] 29 (0, 0)) (by (with_reducible repeat (first | refine lN ?_ _ | refine lD ?_ | refine lA ?_ _)); exact BK247.out) hb)
                   have n10_ := Aside0.mk (blk_below (g := gb248) (o := .cells #[.int .i64 t261, .int .i64 t262, .int .i64 t263] 31 (0, 0)) (by (with_reducible repeat (first | refine lN ?_ _ | refine lD ?_ | refine lA ?_ _)); exact BK248.out) hb)
                   have n11_ := Aside0.mk (blk_below (g := gb271) (o := .cells #[.slice Ao82 t266.length co82, .int .i64 t269, .int .i64 t270] 29 (0, 0)) (by (with_reducible repeat (first | refine lN ?_ _ | refine lD ?_ | refine lA ?_ _)); exact BK271.out) hb)
                   have n12_ := Aside0.mk (blk_below (g := gb272) (o := .cells #[.slice Ao93 t276.length co93, .int .i64 t279, .int .i64 t280] 29 (0, 0)) (by (with_reducible repeat (first | refine lN ?_ _ | refine lD ?_ | refine lA ?_ _)); exact BK272.out) hb)
                   have n13_ := Aside0.mk (blk_below (g := gb273) (o := .cells #[.int .i64 t281, .int .i64 t282, .int .i64 t283] 31 (0, 0)) (by (with_reducible repeat (first | refine lN ?_ _ | refine lD ?_ | refine lA ?_ _)); exact BK273.out) hb)
                   have n16_ := Aside0.mk (below_step (by repeat (first | (with_reducible first | exact HB.out | apply bA | apply bN | apply bD | refine bS ?_ GE243.out | refine bS ?_ GE244.out | refine bS ?_ GE247.out | refine bS ?_ GE248.out | refine bS ?_ GE271.out | refine bS ?_ GE272.out | refine bS ?_ GE273.out) | exact HB.out)) hb)
                   clear HO251
                   clear HO258
                   clear HO268
                   clear HO278
                   clear HO290
                   clear HO305
                   clear BK243
                   clear BK244
                   clear BK247
                   clear BK248
                   clear BK271
                   clear BK272
                   clear BK273
                   clear HB
                   have HO251 := n0_
                   have HO258 := n1_
                   have HO268 := n2_
                   have HO278 := n3_
                   have HO290 := n4_
                   have HO305 := n5_
                   have HO312 := n6_
                   have BK243 := n7_
                   have BK244 := n8_
                   have BK247 := n9_
                   have BK248 := n10_
                   have BK271 := n11_
                   have BK272 := n12_
                   have BK273 := n13_
                   have HB := n16_
                   clear n0_ n1_ n2_ n3_ n4_ n5_ n6_ n7_ n8_ n9_ n10_ n11_ n12_ n13_ n16_
                   (try clear hb)
                   (try clear hb2)
                   (try clear hk)
                   (try clear hi)
                   (try clear ho0)
                   obtain ⟨Ao143, co143, eo143, _⟩ := Kd.Q_slice HO312.out
                   (first | subst eo143 | (injection eo143 with f1_ f2_ f3_; have f4_ := f1_.symm; have f5_ := f3_.symm; clear f1_ f2_ f3_; subst f4_; subst f5_))
                   refine hK.out _ _ ⟨(lC BK243.out 0).trans rfl, (lC BK243.out 1).trans rfl, (lC BK243.out 2).trans rfl, (lC BK244.out 0).trans rfl, (lC BK244.out 1).trans rfl⟩ hkb_.out hsz_.out (fun hHeld => ?_)
                   clear hK K hkb_ hsz_
                   refine Go.Proofs.Ytodhogegjkfemaa.Bx.env_norm (a' := ?_) ?_ ?_
                   rotate_left
                   ·show Act.put _ (some 121) _ = _
                    simp only [Act.put, List.setIfInBounds_toArray, List.set_cons_zero, List.set_cons_succ, i64_w, i32_w]
                    rfl
                   refine Go.Proofs.Ytodhogegjkfemaa.Bx.env_pure (i := 5) (N := some 116) (v := ?_) (a' := ?_) rfl rfl (Or.inl ⟨by rfl, ?_⟩) ?_ ?_
                   rotate_left
                   ·intro w'
                    go_simp
                    with_reducible rfl
                   rotate_left
                   ·simp only [Act.put, List.setIfInBounds_toArray, List.set_cons_zero, List.set_cons_succ, i64_w, i32_w]
                    rfl
                   refine Go.Proofs.Ytodhogegjkfemaa.Bx.env_pure (i := 6) (N := some 122) (v := ?_) (a' := ?_) rfl rfl (Or.inl ⟨by rfl, ?_⟩) ?_ ?_
                   rotate_left
                   ·intro w'
                    go_simp
                    with_reducible rfl
                   rotate_left
                   ·simp only [Act.put, List.setIfInBounds_toArray, List.set_cons_zero, List.set_cons_succ, i64_w, i32_w]
                    rfl
                   refine Go.Proofs.Ytodhogegjkfemaa.Bx.env_pure (i := 7) (N := some 123) (v := ?_) (a' := ?_) rfl rfl (Or.inl ⟨by rfl, ?_⟩) ?_ ?_
                   rotate_left
                   ·intro w'
                    go_simp
                    with_reducible rfl
                   rotate_left
                   ·simp only [Act.put, List.setIfInBounds_toArray, List.set_cons_zero, List.set_cons_succ, i64_w, i32_w]
                    rfl
                   refine Go.Proofs.Ytodhogegjkfemaa.Bx.env_pure (i := 8) (N := some 124) (v := ?_) (a' := ?_) rfl rfl (Or.inl ⟨by rfl, ?_⟩) ?_ ?_
                   rotate_left
                   ·intro w'
                    go_simp
                    with_reducible rfl
                   rotate_left
                   ·simp only [Act.put, List.setIfInBounds_toArray, List.set_cons_zero, List.set_cons_succ, i64_w, i32_w]
                    rfl
                   refine Go.Proofs.Ytodhogegjkfemaa.Bx.env_pure (i := 9) (N := some 125) (v := ?_) (a' := ?_) rfl rfl (Or.inl ⟨by rfl, ?_⟩) ?_ ?_
                   rotate_left
                   ·intro w'
                    go_simp
                    with_reducible rfl
                   rotate_left
                   ·simp only [Act.put, List.setIfInBounds_toArray, List.set_cons_zero, List.set_cons_succ, i64_w, i32_w]
                    rfl
                   intro w142 hE_ hHeld gb301 gb302 BKa_ BKb_ GEa_ GEb_ NBab_
                   have n0_ := Aside0.mk (Kd.Q_below HO251.out hE_)
                   have n1_ := Aside0.mk (Kd.Q_below HO258.out hE_)
                   have n2_ := Aside0.mk (Kd.Q_below HO268.out hE_)
                   have n3_ := Aside0.mk (Kd.Q_below HO278.out hE_)
                   have n4_ := Aside0.mk (Kd.Q_below HO290.out hE_)
                   have n5_ := Aside0.mk (blk_below BK243.out hE_)
                   have n6_ := Aside0.mk (blk_below BK244.out hE_)
                   have n7_ := Aside0.mk (blk_below BK247.out hE_)
                   have n8_ := Aside0.mk (blk_below BK248.out hE_)
                   have n9_ := Aside0.mk (blk_below BK271.out hE_)
                   have n10_ := Aside0.mk (blk_below BK272.out hE_)
                   have n11_ := Aside0.mk (blk_below BK273.out hE_)
                   have n12_ := Aside0.mk (Kd.Q_below HO305.out hE_)
                   have n13_ := Aside0.mk (Kd.Q_below HO312.out hE_)
                   have n14_ := Aside0.mk (below_step HB.out hE_)
                   clear hE_ HO251 HO258 HO268 HO278 HO290 BK243 BK244 BK247 BK248 BK271 BK272 BK273 HO305 HO312 HB
                   have HO251 := n0_
                   have HO258 := n1_
                   have HO268 := n2_
                   have HO278 := n3_
                   have HO290 := n4_
                   have BK243 := n5_
                   have BK244 := n6_
                   have BK247 := n7_
                   have BK248 := n8_
                   have BK271 := n9_
                   have BK272 := n10_
                   have BK273 := n11_
                   have HO305 := n12_
                   have HO312 := n13_
                   have HB := n14_
                   clear n0_ n1_ n2_ n3_ n4_ n5_ n6_ n7_ n8_ n9_ n10_ n11_ n12_ n13_ n14_
                   have BK301 := Aside0.mk BKa_
                   have BK302 := Aside0.mk BKb_
                   have GW301 := Aside0.mk (Nat.le_trans hlo_.out GEa_)
                   have GW302 := Aside0.mk (Nat.le_trans hlo_.out GEb_)
                   have GE301 := Aside0.mk (Nat.le_trans hlo_.out GEa_)
                   have GE302 := Aside0.mk (Nat.le_trans hlo_.out GEb_)
                   have NB243_301 := Aside0.mk (Nat.ne_of_lt (Nat.lt_of_lt_of_le hlt243_.out GEa_))
                   have NB301_243 := Aside0.mk (Nat.ne_of_gt (Nat.lt_of_lt_of_le hlt243_.out GEa_))
                   have NB243_302 := Aside0.mk (Nat.ne_of_lt (Nat.lt_of_lt_of_le hlt243_.out GEb_))
                   have NB302_243 := Aside0.mk (Nat.ne_of_gt (Nat.lt_of_lt_of_le hlt243_.out GEb_))
                   have NB244_301 := Aside0.mk (Nat.ne_of_lt (Nat.lt_of_lt_of_le hlt244_.out GEa_))
                   have NB301_244 := Aside0.mk (Nat.ne_of_gt (Nat.lt_of_lt_of_le hlt244_.out GEa_))
                   have NB244_302 := Aside0.mk (Nat.ne_of_lt (Nat.lt_of_lt_of_le hlt244_.out GEb_))
                   have NB302_244 := Aside0.mk (Nat.ne_of_gt (Nat.lt_of_lt_of_le hlt244_.out GEb_))
                   have NB247_301 := Aside0.mk (Nat.ne_of_lt (Nat.lt_of_lt_of_le hlt247_.out GEa_))
                   have NB301_247 := Aside0.mk (Nat.ne_of_gt (Nat.lt_of_lt_of_le hlt247_.out GEa_))
                   have NB247_302 := Aside0.mk (Nat.ne_of_lt (Nat.lt_of_lt_of_le hlt247_.out GEb_))
                   have NB302_247 := Aside0.mk (Nat.ne_of_gt (Nat.lt_of_lt_of_le hlt247_.out GEb_))
                   have NB248_301 := Aside0.mk (Nat.ne_of_lt (Nat.lt_of_lt_of_le hlt248_.out GEa_))
                   have NB301_248 := Aside0.mk (Nat.ne_of_gt (Nat.lt_of_lt_of_le hlt248_.out GEa_))
                   have NB248_302 := Aside0.mk (Nat.ne_of_lt (Nat.lt_of_lt_of_le hlt248_.out GEb_))
                   have NB302_248 := Aside0.mk (Nat.ne_of_gt (Nat.lt_of_lt_of_le hlt248_.out GEb_))
                   have NB271_301 := Aside0.mk (Nat.ne_of_lt (Nat.lt_of_lt_of_le hlt271_.out GEa_))
                   have NB301_271 := Aside0.mk (Nat.ne_of_gt (Nat.lt_of_lt_of_le hlt271_.out GEa_))
                   have NB271_302 := Aside0.mk (Nat.ne_of_lt (Nat.lt_of_lt_of_le hlt271_.out GEb_))
                   have NB302_271 := Aside0.mk (Nat.ne_of_gt (Nat.lt_of_lt_of_le hlt271_.out GEb_))
                   have NB272_301 := Aside0.mk (Nat.ne_of_lt (Nat.lt_of_lt_of_le hlt272_.out GEa_))
                   have NB301_272 := Aside0.mk (Nat.ne_of_gt (Nat.lt_of_lt_of_le hlt272_.out GEa_))
                   have NB272_302 := Aside0.mk (Nat.ne_of_lt (Nat.lt_of_lt_of_le hlt272_.out GEb_))
                   have NB302_272 := Aside0.mk (Nat.ne_of_gt (Nat.lt_of_lt_of_le hlt272_.out GEb_))
                   have NB273_301 := Aside0.mk (Nat.ne_of_lt (Nat.lt_of_lt_of_le hlt273_.out GEa_))
                   have NB301_273 := Aside0.mk (Nat.ne_of_gt (Nat.lt_of_lt_of_le hlt273_.out GEa_))
                   have NB273_302 := Aside0.mk (Nat.ne_of_lt (Nat.lt_of_lt_of_le hlt273_.out GEb_))
                   have NB302_273 := Aside0.mk (Nat.ne_of_gt (Nat.lt_of_lt_of_le hlt273_.out GEb_))
                   have NB301_302 := Aside0.mk NBab_
                   have NB302_301 := Aside0.mk (Ne.symm NBab_)
                   clear hlo_ BKa_ BKb_ GEa_ GEb_ NBab_ hlt243_ hlt244_ hlt247_ hlt248_ hlt271_ hlt272_ hlt273_
                   refine norm_ (a' := ?_) ?_ ?_
                   rotate_left
                   ·simp only [Go.Proofs.Ytodhogegjkfemaa.Bx.ba, Act.put, List.setIfInBounds_toArray, List.set_cons_zero, List.set_cons_succ]
                    rfl
                   refine one_ (i := 12) (N := none) #[true, true, true, true, true, true, true, true, true, true, true, true, true, false, false, false] rfl rfl (one_of HT_.out (by kernel_rfl)) (by decide) (fun K hK => ?_)
                   have hs144 : w142.cell? ⟨gb301, 0, none⟩ = some (.slice none 0 0) := (lC BK301.out 0).trans rfl
                   have hfs144 := lF BK301.out 0
                   have hns144_0 := NB243_301.out
                   have hns144_1 := NB244_301.out
                   have hns144_2 := NB247_301.out
                   have hns144_3 := NB248_301.out
                   have hns144_4 := NB271_301.out
                   have hns144_5 := NB272_301.out
                   have hns144_6 := NB273_301.out
                   have hns144_8 := NB302_301.out
                   have hms144_0 := NB301_243.out
                   have hms144_1 := NB301_244.out
                   have hms144_2 := NB301_247.out
                   have hms144_3 := NB301_248.out
                   have hms144_4 := NB301_271.out
                   have hms144_5 := NB301_272.out
                   have hms144_6 := NB301_273.out
                   have hms144_8 := NB301_302.out
                   have hs145 : w142.cell? ⟨gb301, 1, none⟩ = some (.int .i64 0) := (lC BK301.out 1).trans rfl
                   have hfs145 := lF BK301.out 1
                   have hns145_0 := NB243_301.out
                   have hns145_1 := NB244_301.out
                   have hns145_2 := NB247_301.out
                   have hns145_3 := NB248_301.out
                   have hns145_4 := NB271_301.out
                   have hns145_5 := NB272_301.out
                   have hns145_6 := NB273_301.out
                   have hns145_8 := NB302_301.out
                   have hms145_0 := NB301_243.out
                   have hms145_1 := NB301_244.out
                   have hms145_2 := NB301_247.out
                   have hms145_3 := NB301_248.out
                   have hms145_4 := NB301_271.out
                   have hms145_5 := NB301_272.out
                   have hms145_6 := NB301_273.out
                   have hms145_8 := NB301_302.out
                   have hs146 : w142.cell? ⟨gb301, 2, none⟩ = some (.int .i64 0) := (lC BK301.out 2).trans rfl
                   have hfs146 := lF BK301.out 2
                   have hns146_0 := NB243_301.out
                   have hns146_1 := NB244_301.out
                   have hns146_2 := NB247_301.out
                   have hns146_3 := NB248_301.out
                   have hns146_4 := NB271_301.out
                   have hns146_5 := NB272_301.out
                   have hns146_6 := NB273_301.out
                   have hns146_8 := NB302_301.out
                   have hms146_0 := NB301_243.out
                   have hms146_1 := NB301_244.out
                   have hms146_2 := NB301_247.out
                   have hms146_3 := NB301_248.out
                   have hms146_4 := NB301_271.out
                   have hms146_5 := NB301_272.out
                   have hms146_6 := NB301_273.out
                   have hms146_8 := NB301_302.out
                   refine skip_ (w1 := ?_) (by rfl) rfl ?_ ?_
                   rotate_left
                   ·go_simp
                    rfl
                   refine hK.out _ _ ⟨((cell_far (p := ⟨gb301, _, none⟩) NB243_301.out _).trans (((cell_far (p := ⟨gb301, _, none⟩) NB243_301.out _).trans (((cell_far (p := ⟨gb301, _, none⟩) NB243_301.out _).trans (hHeld.1)))))), ((cell_far (p := ⟨gb301, _, none⟩) NB243_301.out _).trans (((cell_far (p := ⟨gb301, _, none⟩) NB243_301.out _).trans (((cell_far (p := ⟨gb301, _, none⟩) NB243_301.out _).trans (hHeld.2.1)))))), ((cell_far (p := ⟨gb301, _, none⟩) NB243_301.out _).trans (((cell_far (p := ⟨gb301, _, none⟩) NB243_301.out _).trans (((cell_far (p := ⟨gb301, _, none⟩) NB243_301.out _).trans (hHeld.2.2.1)))))), ((cell_far (p := ⟨gb301, _, none⟩) NB244_301.out _).trans (((cell_far (p := ⟨gb301, _, none⟩) NB244_301.out _).trans (((cell_far (p := ⟨gb301, _, none⟩) NB244_301.out _).trans (hHeld.2.2.2.1)))))), ((cell_far (p := ⟨gb301, _, none⟩) NB244_301.out _).trans (((cell_far (p := ⟨gb301, _, none⟩) NB244_301.out _).trans (((cell_far (p := ⟨gb301, _, none⟩) NB244_301.out _).trans (hHeld.2.2.2.2))))))⟩ (fun hHeld => ?_)
                   clear hK K
                   refine one_ (i := 13) (N := none) #[true, true, true, true, true, true, true, true, true, true, true, true, true, true, false, false] rfl rfl (one_of HT_.out (by kernel_rfl)) (by decide) (fun K hK => ?_)
                   have hs147 : w142.cell? ⟨gb302, 0, none⟩ = some (.int .i64 0) := (lC BK302.out 0).trans rfl
                   have hfs147 := lF BK302.out 0
                   have hns147_0 := NB243_302.out
                   have hns147_1 := NB244_302.out
                   have hns147_2 := NB247_302.out
                   have hns147_3 := NB248_302.out
                   have hns147_4 := NB271_302.out
                   have hns147_5 := NB272_302.out
                   have hns147_6 := NB273_302.out
                   have hns147_7 := NB301_302.out
                   have hms147_0 := NB302_243.out
                   have hms147_1 := NB302_244.out
                   have hms147_2 := NB302_247.out
                   have hms147_3 := NB302_248.out
                   have hms147_4 := NB302_271.out
                   have hms147_5 := NB302_272.out
                   have hms147_6 := NB302_273.out
                   have hms147_7 := NB302_301.out
                   have hs148 : w142.cell? ⟨gb302, 1, none⟩ = some (.int .i64 0) := (lC BK302.out 1).trans rfl
                   have hfs148 := lF BK302.out 1
                   have hns148_0 := NB243_302.out
                   have hns148_1 := NB244_302.out
                   have hns148_2 := NB247_302.out
                   have hns148_3 := NB248_302.out
                   have hns148_4 := NB271_302.out
                   have hns148_5 := NB272_302.out
                   have hns148_6 := NB273_302.out
                   have hns148_7 := NB301_302.out
                   have hms148_0 := NB302_243.out
                   have hms148_1 := NB302_244.out
                   have hms148_2 := NB302_247.out
                   have hms148_3 := NB302_248.out
                   have hms148_4 := NB302_271.out
                   have hms148_5 := NB302_272.out
                   have hms148_6 := NB302_273.out
                   have hms148_7 := NB302_301.out
                   have hs149 : w142.cell? ⟨gb302, 2, none⟩ = some (.int .i64 0) := (lC BK302.out 2).trans rfl
                   have hfs149 := lF BK302.out 2
                   have hns149_0 := NB243_302.out
                   have hns149_1 := NB244_302.out
                   have hns149_2 := NB247_302.out
                   have hns149_3 := NB248_302.out
                   have hns149_4 := NB271_302.out
                   have hns149_5 := NB272_302.out
                   have hns149_6 := NB273_302.out
                   have hns149_7 := NB301_302.out
                   have hms149_0 := NB302_243.out
                   have hms149_1 := NB302_244.out
                   have hms149_2 := NB302_247.out
                   have hms149_3 := NB302_248.out
                   have hms149_4 := NB302_271.out
                   have hms149_5 := NB302_272.out
                   have hms149_6 := NB302_273.out
                   have hms149_7 := NB302_301.out
                   refine skip_ (w1 := ?_) (by rfl) rfl ?_ ?_
                   rotate_left
                   ·go_simp
                    rfl
                   refine hK.out _ _ ⟨((cell_far (p := ⟨gb302, _, none⟩) NB243_302.out _).trans (((cell_far (p := ⟨gb302, _, none⟩) NB243_302.out _).trans (((cell_far (p := ⟨gb302, _, none⟩) NB243_302.out _).trans (hHeld.1)))))), ((cell_far (p := ⟨gb302, _, none⟩) NB243_302.out _).trans (((cell_far (p := ⟨gb302, _, none⟩) NB243_302.out _).trans (((cell_far (p := ⟨gb302, _, none⟩) NB243_302.out _).trans (hHeld.2.1)))))), ((cell_far (p := ⟨gb302, _, none⟩) NB243_302.out _).trans (((cell_far (p := ⟨gb302, _, none⟩) NB243_302.out _).trans (((cell_far (p := ⟨gb302, _, none⟩) NB243_302.out _).trans (hHeld.2.2.1)))))), ((cell_far (p := ⟨gb302, _, none⟩) NB244_302.out _).trans (((cell_far (p := ⟨gb302, _, none⟩) NB244_302.out _).trans (((cell_far (p := ⟨gb302, _, none⟩) NB244_302.out _).trans (hHeld.2.2.2.1)))))), ((cell_far (p := ⟨gb302, _, none⟩) NB244_302.out _).trans (((cell_far (p := ⟨gb302, _, none⟩) NB244_302.out _).trans (((cell_far (p := ⟨gb302, _, none⟩) NB244_302.out _).trans (hHeld.2.2.2.2))))))⟩ (fun hHeld => ?_)
                   clear hK K
                   refine pure_ (i := 14) (N := some 20) (v := ?_) (a' := ?_) #[true, true, true, true, true, true, true, true, true, true, true, true, true, true, true, false] rfl rfl (any_of HT_.out (by kernel_rfl)) (fun _ _ _ h => h) (Or.inl ⟨by rfl, ?_⟩) ?_ ?_
                   rotate_left
                   ·intro w'
                    go_simp
                    with_reducible rfl
                   rotate_left
                   ·simp only [Act.put, List.setIfInBounds_toArray, List.set_cons_zero, List.set_cons_succ, i64_w, i32_w]
                    rfl
                   refine pure_ (i := 15) (N := some 21) (v := ?_) (a' := ?_) #[true, true, true, true, true, true, true, true, true, true, true, true, true, true, true, true] rfl rfl (any_of HT_.out (by kernel_rfl)) (fun _ _ _ h => h) (Or.inl ⟨by rfl, ?_⟩) ?_ ?_
                   rotate_left
                   ·intro w'
                    go_simp
                    with_reducible rfl
                   rotate_left
                   ·simp only [Act.put, List.setIfInBounds_toArray, List.set_cons_zero, List.set_cons_succ, i64_w, i32_w]
                    rfl
                   refine done_ (done_of HT_.out (by kernel_rfl)) ?_
                   have hnb150 := NB301_243.out
                   have hnc150 := NB243_301.out
                   have hnb151 := NB301_244.out
                   have hnc151 := NB244_301.out
                   have hnb152 := NB301_247.out
                   have hnc152 := NB247_301.out
                   have hnb153 := NB301_248.out
                   have hnc153 := NB248_301.out
                   have hnb154 := NB301_271.out
                   have hnc154 := NB271_301.out
                   have hnb155 := NB301_272.out
                   have hnc155 := NB272_301.out
                   have hnb156 := NB301_273.out
                   have hnc156 := NB273_301.out
                   have hnb157 := NB301_302.out
                   have hnc157 := NB302_301.out
                   have hcz158_0 : w142.cell? ⟨gb301, 0, none⟩ = some (.slice none 0 0) := (lC BK301.out 0).trans rfl
                   have hcz158_1 : w142.cell? ⟨gb301, 1, none⟩ = some (.int .i64 0) := (lC BK301.out 1).trans rfl
                   have hcz158_2 : w142.cell? ⟨gb301, 2, none⟩ = some (.int .i64 0) := (lC BK301.out 2).trans rfl
                   have hfz158_0 := lF BK301.out 0
                   have hfz158_1 := lF BK301.out 1
                   have hfz158_2 := lF BK301.out 2
                   have hnb159 := NB247_302.out
                   have hnc159 := NB302_247.out
                   have hcz160_0 : w142.cell? ⟨gb247, 0, none⟩ = some (.slice Ao70 t256.length co70) := (lC BK247.out 0).trans rfl
                   have hcz160_1 : w142.cell? ⟨gb247, 1, none⟩ = some (.int .i64 t259) := (lC BK247.out 1).trans rfl
                   have hcz160_2 : w142.cell? ⟨gb247, 2, none⟩ = some (.int .i64 t260) := (lC BK247.out 2).trans rfl
                   have hfz160_0 := lF BK247.out 0
                   have hfz160_1 := lF BK247.out 1
                   have hfz160_2 := lF BK247.out 2
                   try go_wp2_with (first | ((with_reducible refine gate_callee (f := 11) rfl ?_); refine goesL_ (some 128) rfl rfl Try.func11 (by kernel_rfl) rfl #[.agg #[.slice Ao143 t310.length co143, .int .i64 t313, .int .i64 t314], .agg #[.slice Ao70 t256.length co70, .int .i64 t259, .int .i64 t260]] rfl (by (try simp only [List.map_toArray, List.map_cons, List.map_nil]); first | done | rfl | (simp only [List.length_drop, List.length_take]; rfl)) ?_; (with_reducible refine (laws_eqClient.calls k _ _ t310 t313 t314 _ _ t256 t259 t260 true _ ?side1 ?side2 ?side3 ?side4 A47.out).mono ?_); (case side1 => refine (Kd.Q_reads' (e := 9) (base := w.heap.size) (ok := fun k_ => ((((((True ∧ some k_ ≠ (.slice Ao68 t249.length co68 : Value).ownBlock) ∧ some k_ ≠ (.slice Ao70 t256.length co70 : Value).ownBlock) ∧ some k_ ≠ (.slice Ao82 t266.length co82 : Value).ownBlock) ∧ some k_ ≠ (.slice Ao93 t276.length co93 : Value).ownBlock) ∧ some k_ ≠ (.slice Ao122 t288.length co122 : Value).ownBlock) ∧ some k_ ≠ (.slice Ao141 t303.length co141 : Value).ownBlock)) (n := t310.length) (c := co143) ?_).2.2; exact (by (with_reducible repeat (first | apply qA | apply qN | apply qD)); exact (Kd.Q_mono (Kd.Q_mono (Kd.Q_far (p := ⟨gb302, 2, none⟩) (Kd.Q_far (p := ⟨gb302, 1, none⟩) (Kd.Q_far (p := ⟨gb302, 0, none⟩) (Kd.Q_far (p := ⟨gb301, 2, none⟩) (Kd.Q_far (p := ⟨gb301, 1, none⟩) (Kd.Q_far (p := ⟨gb301, 0, none⟩) (Kd.Q_types (Kd.Q_types HO312.out BK301.out (by decide)) BK302.out (by decide)) (fun _ hk => hk.1.2) (.slice Ao143 t310.length co143)) (fun _ hk => hk.1.2) (.int .i64 t313)) (fun _ hk => hk.1.2) (.int .i64 t314)) (fun _ hk => hk.2) (.int .i64 t315)) (fun _ hk => hk.2) (.int .i64 t316)) (fun _ hk => hk.2) (.int .i64 t317)) (fun _ h_ => h_.1)) (fun _ h_ => h_.1)))); (case side2 => exact (Kd.Q_reads' HO312.out).2.1); (case side3 => refine (Kd.Q_reads' (e := 9) (base := w.heap.size) (ok := fun k_ => (((some k_ ≠ (.slice Ao68 t249.length co68 : Value).ownBlock ∧ (some k_ ≠ (.slice Ao82 t266.length co82 : Value).ownBlock ∧ (some k_ ≠ (.slice Ao93 t276.length co93 : Value).ownBlock ∧ some k_ ≠ (.slice Ao122 t288.length co122 : Value).ownBlock))) ∧ some k_ ≠ (.slice Ao141 t303.length co141 : Value).ownBlock) ∧ some k_ ≠ (.slice Ao143 t310.length co143 : Value).ownBlock)) (n := t256.length) (c := co70) ?_).2.2; exact (by (with_reducible repeat (first | apply qA | apply qN | apply qD)); exact (Kd.Q_mono (Kd.Q_mono (Kd.Q_far (p := ⟨gb302, 2, none⟩) (Kd.Q_far (p := ⟨gb302, 1, none⟩) (Kd.Q_far (p := ⟨gb302, 0, none⟩) (Kd.Q_far (p := ⟨gb301, 2, none⟩) (Kd.Q_far (p := ⟨gb301, 1, none⟩) (Kd.Q_far (p := ⟨gb301, 0, none⟩) (Kd.Q_types (Kd.Q_types HO258.out BK301.out (by decide)) BK302.out (by decide)) (fun _ hk => hk.1.2) (.slice Ao143 t310.length co143)) (fun _ hk => hk.1.2) (.int .i64 t313)) (fun _ hk => hk.1.2) (.int .i64 t314)) (fun _ hk => hk.2) (.int .i64 t315)) (fun _ hk => hk.2) (.int .i64 t316)) (fun _ hk => hk.2) (.int .i64 t317)) (fun _ h_ => h_.1)) (fun _ h_ => h_.1)))); (case side4 => exact (Kd.Q_reads' HO258.out).2.1); rintro e w161 ⟨rfl, hb⟩; refine ⟨_, rfl, ?_⟩; have n0_ := Aside0.mk (Kd.Q_below (by (with_reducible repeat (first | apply qA | apply qN | apply qD)); exact (Kd.Q_mono (Kd.Q_mono (Kd.Q_far (p := ⟨gb302, 2, none⟩) (Kd.Q_far (p := ⟨gb302, 1, none⟩) (Kd.Q_far (p := ⟨gb302, 0, none⟩) (Kd.Q_far (p := ⟨gb301, 2, none⟩) (Kd.Q_far (p := ⟨gb301, 1, none⟩) (Kd.Q_far (p := ⟨gb301, 0, none⟩) (Kd.Q_types (Kd.Q_types HO251.out BK301.out (by decide)) BK302.out (by decide)) (fun _ hk => hk.1.2) (.slice Ao143 t310.length co143)) (fun _ hk => hk.1.2) (.int .i64 t313)) (fun _ hk => hk.1.2) (.int .i64 t314)) (fun _ hk => hk.2) (.int .i64 t315)) (fun _ hk => hk.2) (.int .i64 t316)) (fun _ hk => hk.2) (.int .i64 t317)) (fun _ h_ => h_.1)) (fun _ h_ => h_.1))) hb); have n1_ := Aside0.mk (Kd.Q_below (by (with_reducible repeat (first | apply qA | apply qN | apply qD)); exact (Kd.Q_mono (Kd.Q_mono (Kd.Q_far (p := ⟨gb302, 2, none⟩) (Kd.Q_far (p := ⟨gb302, 1, none⟩) (Kd.Q_far (p := ⟨gb302, 0, none⟩) (Kd.Q_far (p := ⟨gb301, 2, none⟩) (Kd.Q_far (p := ⟨gb301, 1, none⟩) (Kd.Q_far (p := ⟨gb301, 0, none⟩) (Kd.Q_types (Kd.Q_types HO258.out BK301.out (by decide)) BK302.out (by decide)) (fun _ hk => hk.1.2) (.slice Ao143 t310.length co143)) (fun _ hk => hk.1.2) (.int .i64 t313)) (fun _ hk => hk.1.2) (.int .i64 t314)) (fun _ hk => hk.2) (.int .i64 t315)) (fun _ hk => hk.2) (.int .i64 t316)) (fun _ hk => hk.2) (.int .i64 t317)) (fun _ h_ => h_.1)) (fun _ h_ => h_.1))) hb); have n2_ := Aside0.mk (Kd.Q_below (by (with_reducible repeat (first | apply qA | apply qN | apply qD)); exact (Kd.Q_mono (Kd.Q_mono (Kd.Q_far (p := ⟨gb302, 2, none⟩) (Kd.Q_far (p := ⟨gb302, 1, none⟩) (Kd.Q_far (p := ⟨gb302, 0, none⟩) (Kd.Q_far (p := ⟨gb301, 2, none⟩) (Kd.Q_far (p := ⟨gb301, 1, none⟩) (Kd.Q_far (p := ⟨gb301, 0, none⟩) (Kd.Q_types (Kd.Q_types HO268.out BK301.out (by decide)) BK302.out (by decide)) (fun _ hk => hk.1.2) (.slice Ao143 t310.length co143)) (fun _ hk => hk.1.2) (.int .i64 t313)) (fun _ hk => hk.1.2) (.int .i64 t314)) (fun _ hk => hk.2) (.int .i64 t315)) (fun _ hk => hk.2) (.int .i64 t316)) (fun _ hk => hk.2) (.int .i64 t317)) (fun _ h_ => h_.1)) (fun _ h_ => h_.1))) hb); have n3_ := Aside0.mk (Kd.Q_below (by (with_reducible repeat (first | apply qA | apply qN | apply qD)); exact (Kd.Q_mono (Kd.Q_mono (Kd.Q_far (p := ⟨gb302, 2, none⟩) (Kd.Q_far (p := ⟨gb302, 1, none⟩) (Kd.Q_far (p := ⟨gb302, 0, none⟩) (Kd.Q_far (p := ⟨gb301, 2, none⟩) (Kd.Q_far (p := ⟨gb301, 1, none⟩) (Kd.Q_far (p := ⟨gb301, 0, none⟩) (Kd.Q_types (Kd.Q_types HO278.out BK301.out (by decide)) BK302.out (by decide)) (fun _ hk => hk.1.2) (.slice Ao143 t310.length co143)) (fun _ hk => hk.1.2) (.int .i64 t313)) (fun _ hk => hk.1.2) (.int .i64 t314)) (fun _ hk => hk.2) (.int .i64 t315)) (fun _ hk => hk.2) (.int .i64 t316)) (fun _ hk => hk.2) (.int .i64 t317)) (fun _ h_ => h_.1)) (fun _ h_ => h_.1))) hb); have n4_ := Aside0.mk (Kd.Q_below (by (with_reducible repeat (first | apply qA | apply qN | apply qD)); exact (Kd.Q_mono (Kd.Q_mono (Kd.Q_far (p := ⟨gb302, 2, none⟩) (Kd.Q_far (p := ⟨gb302, 1, none⟩) (Kd.Q_far (p := ⟨gb302, 0, none⟩) (Kd.Q_far (p := ⟨gb301, 2, none⟩) (Kd.Q_far (p := ⟨gb301, 1, none⟩) (Kd.Q_far (p := ⟨gb301, 0, none⟩) (Kd.Q_types (Kd.Q_types HO290.out BK301.out (by decide)) BK302.out (by decide)) (fun _ hk => hk.1.2) (.slice Ao143 t310.length co143)) (fun _ hk => hk.1.2) (.int .i64 t313)) (fun _ hk => hk.1.2) (.int .i64 t314)) (fun _ hk => hk.2) (.int .i64 t315)) (fun _ hk => hk.2) (.int .i64 t316)) (fun _ hk => hk.2) (.int .i64 t317)) (fun _ h_ => h_.1)) (fun _ h_ => h_.1))) hb); have n5_ := Aside0.mk (Kd.Q_below (by (with_reducible repeat (first | apply qA | apply qN | apply qD)); exact (Kd.Q_mono (Kd.Q_mono (Kd.Q_far (p := ⟨gb302, 2, none⟩) (Kd.Q_far (p := ⟨gb302, 1, none⟩) (Kd.Q_far (p := ⟨gb302, 0, none⟩) (Kd.Q_far (p := ⟨gb301, 2, none⟩) (Kd.Q_far (p := ⟨gb301, 1, none⟩) (Kd.Q_far (p := ⟨gb301, 0, none⟩) (Kd.Q_types (Kd.Q_types HO305.out BK301.out (by decide)) BK302.out (by decide)) (fun _ hk => hk.1.2) (.slice Ao143 t310.length co143)) (fun _ hk => hk.1.2) (.int .i64 t313)) (fun _ hk => hk.1.2) (.int .i64 t314)) (fun _ hk => hk.2) (.int .i64 t315)) (fun _ hk => hk.2) (.int .i64 t316)) (fun _ hk => hk.2) (.int .i64 t317)) (fun _ h_ => h_.1)) (fun _ h_ => h_.1))) hb); have n6_ := Aside0.mk (Kd.Q_below (by (with_reducible repeat (first | apply qA | apply qN | apply qD)); exact (Kd.Q_mono (Kd.Q_mono (Kd.Q_far (p := ⟨gb302, 2, none⟩) (Kd.Q_far (p := ⟨gb302, 1, none⟩) (Kd.Q_far (p := ⟨gb302, 0, none⟩) (Kd.Q_far (p := ⟨gb301, 2, none⟩) (Kd.Q_far (p := ⟨gb301, 1, none⟩) (Kd.Q_far (p := ⟨gb301, 0, none⟩) (Kd.Q_types (Kd.Q_types HO312.out BK301.out (by decide)) BK302.out (by decide)) (fun _ hk => hk.1.2) (.slice Ao143 t310.length co143)) (fun _ hk => hk.1.2) (.int .i64 t313)) (fun _ hk => hk.1.2) (.int .i64 t314)) (fun _ hk => hk.2) (.int .i64 t315)) (fun _ hk => hk.2) (.int .i64 t316)) (fun _ hk => hk.2) (.int .i64 t317)) (fun _ h_ => h_.1)) (fun _ h_ => h_.1))) hb); have n7_ := Aside0.mk (blk_below (g := gb243) (o := .cells #[.slice A0_0 l0_0.length c0_0, .int .i64 a0_1, .int .i64 a0_2] 24 (0, 0)) (by (with_reducible repeat (first | refine lN ?_ _ | refine lD ?_ | refine lA ?_ _)); refine lX ?_ NB243_302.out _; (with_reducible repeat (first | refine lN ?_ _ | refine lD ?_ | refine lA ?_ _)); refine lX ?_ NB243_302.out _; (with_reducible repeat (first | refine lN ?_ _ | refine lD ?_ | refine lA ?_ _)); refine lX ?_ NB243_302.out _; (with_reducible repeat (first | refine lN ?_ _ | refine lD ?_ | refine lA ?_ _)); refine lX ?_ NB243_301.out _; (with_reducible repeat (first | refine lN ?_ _ | refine lD ?_ | refine lA ?_ _)); refine lX ?_ NB243_301.out _; (with_reducible repeat (first | refine lN ?_ _ | refine lD ?_ | refine lA ?_ _)); refine lX ?_ NB243_301.out _; (with_reducible repeat (first | refine lN ?_ _ | refine lD ?_ | refine lA ?_ _)); exact BK243.out) hb); have n8_ := Aside0.mk (blk_below (g := gb244) (o := .cells #[.int .i64 a1_0, .string a1_1] 26 (0, 0)) (by (with_reducible repeat (first | refine lN ?_ _ | refine lD ?_ | refine lA ?_ _)); refine lX ?_ NB244_302.out _; (with_reducible repeat (first | refine lN ?_ _ | refine lD ?_ | refine lA ?_ _)); refine lX ?_ NB244_302.out _; (with_reducible repeat (first | refine lN ?_ _ | refine lD ?_ | refine lA ?_ _)); refine lX ?_ NB244_302.out _; (with_reducible repeat (first | refine lN ?_ _ | refine lD ?_ | refine lA ?_ _)); refine lX ?_ NB244_301.out _; (with_reducible repeat (first | refine lN ?_ _ | refine lD ?_ | refine lA ?_ _)); refine lX ?_ NB244_301.out _; (with_reducible repeat (first | refine lN ?_ _ | refine lD ?_ | refine lA ?_ _)); refine lX ?_ NB244_301.out _; (with_reducible repeat (first | refine lN ?_ _ | refine lD ?_ | refine lA ?_ _)); exact BK244.out) hb); have n9_ := Aside0.mk (blk_below (g := gb247) (o := .cells #[.slice Ao70 t256.length co70, .int .i64 t259, .int .i64 t260] 29 (0, 0)) (by (with_reducible repeat (first | refine lN ?_ _ | refine lD ?_ | refine lA ?_ _)); refine lX ?_ NB247_302.out _; (with_reducible repeat (first | refine lN ?_ _ | refine lD ?_ | refine lA ?_ _)); refine lX ?_ NB247_302.out _; (with_reducible repeat (first | refine lN ?_ _ | refine lD ?_ | refine lA ?_ _)); refine lX ?_ NB247_302.out _; (with_reducible repeat (first | refine lN ?_ _ | refine lD ?_ | refine lA ?_ _)); refine lX ?_ NB247_301.out _; (with_reducible repeat (first | refine lN ?_ _ | refine lD ?_ | refine lA ?_ _)); refine lX ?_ NB247_301.out _; (with_reducible repeat (first | refine lN ?_ _ | refine lD ?_ | refine lA ?_ _)); refine lX ?_ NB247_301.out _; (with_reducible repeat (first | refine lN ?_ _ | refine lD ?_ | refine lA ?_ _)); exact BK247.out) hb); have n10_ := Aside0.mk (blk_below (g := gb248) (o := .cells #[.int .i64 t261, .int .i64 t262, .int .i64 t263] 31 (0, 0)) (by (with_reducible repeat (first | refine lN ?_ _ | refine lD ?_ | refine lA ?_ _)); refine lX ?_ NB248_302.out _; (with_reducible repeat (first | refine lN ?_ _ | refine lD ?_ | refine lA ?_ _)); refine lX ?_ NB248_302.out _; (with_reducible repeat (first | refine lN ?_ _ | refine lD ?_ | refine lA ?_ _)); refine lX ?_ NB248_302.out _; (with_reducible repeat (first | refine lN ?_ _ | refine lD ?_ | refine lA ?_ _)); refine lX ?_ NB248_301.out _; (with_reducible repeat (first | refine lN ?_ _ | refine lD ?_ | refine lA ?_ _)); refine lX ?_ NB248_301.out _; (with_reducible repeat (first | refine lN ?_ _ | refine lD ?_ | refine lA ?_ _)); refine lX ?_ NB248_301.out _; (with_reducible repeat (first | refine lN ?_ _ | refine lD ?_ | refine lA ?_ _)); exact BK248.out) hb); have n11_ := Aside0.mk (blk_below (g := gb271) (o := .cells #[.slice Ao82 t266.length co82, .int .i64 t269, .int .i64 t270] 29 (0, 0)) (by (with_reducible repeat (first | refine lN ?_ _ | refine lD ?_ | refine lA ?_ _)); refine lX ?_ NB271_302.out _; (with_reducible repeat (first | refine lN ?_ _ | refine lD ?_ | refine lA ?_ _)); refine lX ?_ NB271_302.out _; (with_reducible repeat (first | refine lN ?_ _ | refine lD ?_ | refine lA ?_ _)); refine lX ?_ NB271_302.out _; (with_reducible repeat (first | refine lN ?_ _ | refine lD ?_ | refine lA ?_ _)); refine lX ?_ NB271_301.out _; (with_reducible repeat (first | refine lN ?_ _ | refine lD ?_ | refine lA ?_ _)); refine lX ?_ NB271_301.out _; (with_reducible repeat (first | refine lN ?_ _ | refine lD ?_ | refine lA ?_ _)); refine lX ?_ NB271_301.out _; (with_reducible repeat (first | refine lN ?_ _ | refine lD ?_ | refine lA ?_ _)); exact BK271.out) hb); have n12_ := Aside0.mk (blk_below (g := gb272) (o := .cells #[.slice Ao93 t276.length co93, .int .i64 t279, .int .i64 t280] 29 (0, 0)) (by (with_reducible repeat (first | refine lN ?_ _ | refine lD ?_ | refine lA ?_ _)); refine lX ?_ NB272_302.out _; (with_reducible repeat (first | refine lN ?_ _ | refine lD ?_ | refine lA ?_ _)); refine lX ?_ NB272_302.out _; (with_reducible repeat (first | refine lN ?_ _ | refine lD ?_ | refine lA ?_ _)); refine lX ?_ NB272_302.out _; (with_reducible repeat (first | refine lN ?_ _ | refine lD ?_ | refine lA ?_ _)); refine lX ?_ NB272_301.out _; (with_reducible repeat (first | refine lN ?_ _ | refine lD ?_ | refine lA ?_ _)); refine lX ?_ NB272_301.out _; (with_reducible repeat (first | refine lN ?_ _ | refine lD ?_ | refine lA ?_ _)); refine lX ?_ NB272_301.out _; (with_reducible repeat (first | refine lN ?_ _ | refine lD ?_ | refine lA ?_ _)); exact BK272.out) hb); have n13_ := Aside0.mk (blk_below (g := gb273) (o := .cells #[.int .i64 t281, .int .i64 t282, .int .i64 t283] 31 (0, 0)) (by (with_reducible repeat (first | refine lN ?_ _ | refine lD ?_ | refine lA ?_ _)); refine lX ?_ NB273_302.out _; (with_reducible repeat (first | refine lN ?_ _ | refine lD ?_ | refine lA ?_ _)); refine lX ?_ NB273_302.out _; (with_reducible repeat (first | refine lN ?_ _ | refine lD ?_ | refine lA ?_ _)); refine lX ?_ NB273_302.out _; (with_reducible repeat (first | refine lN ?_ _ | refine lD ?_ | refine lA ?_ _)); refine lX ?_ NB273_301.out _; (with_reducible repeat (first | refine lN ?_ _ | refine lD ?_ | refine lA ?_ _)); refine lX ?_ NB273_301.out _; (with_reducible repeat (first | refine lN ?_ _ | refine lD ?_ | refine lA ?_ _)); refine lX ?_ NB273_301.out _; (with_reducible repeat (first | refine lN ?_ _ | refine lD ?_ | refine lA ?_ _)); exact BK273.out) hb); have n14_ := Aside0.mk (blk_below (g := gb301) (o := .cells #[.slice Ao143 t310.length co143, .int .i64 t313, .int .i64 t314] 29 (0, 0)) (by (with_reducible repeat (first | refine lN ?_ _ | refine lD ?_ | refine lA ?_ _)); refine lX ?_ NB301_302.out _; (with_reducible repeat (first | refine lN ?_ _ | refine lD ?_ | refine lA ?_ _)); refine lX ?_ NB301_302.out _; (with_reducible repeat (first | refine lN ?_ _ | refine lD ?_ | refine lA ?_ _)); refine lX ?_ NB301_302.out _; (with_reducible repeat (first | refine lN ?_ _ | refine lD ?_ | refine lA ?_ _)); refine lP (cs := #[.slice Ao143 t310.length co143, .int .i64 t313, .int .i64 0]) ?_ 2 _ rfl; (with_reducible repeat (first | refine lN ?_ _ | refine lD ?_ | refine lA ?_ _)); refine lP (cs := #[.slice Ao143 t310.length co143, .int .i64 0, .int .i64 0]) ?_ 1 _ rfl; (with_reducible repeat (first | refine lN ?_ _ | refine lD ?_ | refine lA ?_ _)); refine lP (cs := #[.slice none 0 0, .int .i64 0, .int .i64 0]) ?_ 0 _ rfl; (with_reducible repeat (first | refine lN ?_ _ | refine lD ?_ | refine lA ?_ _)); exact BK301.out) hb); have n15_ := Aside0.mk (blk_below (g := gb302) (o := .cells #[.int .i64 t315, .int .i64 t316, .int .i64 t317] 31 (0, 0)) (by (with_reducible repeat (first | refine lN ?_ _ | refine lD ?_ | refine lA ?_ _)); refine lP (cs := #[.int .i64 t315, .int .i64 t316, .int .i64 0]) ?_ 2 _ rfl; (with_reducible repeat (first | refine lN ?_ _ | refine lD ?_ | refine lA ?_ _)); refine lP (cs := #[.int .i64 t315, .int .i64 0, .int .i64 0]) ?_ 1 _ rfl; (with_reducible repeat (first | refine lN ?_ _ | refine lD ?_ | refine lA ?_ _)); refine lP (cs := #[.int .i64 0, .int .i64 0, .int .i64 0]) ?_ 0 _ rfl; (with_reducible repeat (first | refine lN ?_ _ | refine lD ?_ | refine lA ?_ _)); refine lX ?_ NB302_301.out _; (with_reducible repeat (first | refine lN ?_ _ | refine lD ?_ | refine lA ?_ _)); refine lX ?_ NB302_301.out _; (with_reducible repeat (first | refine lN ?_ _ | refine lD ?_ | refine lA ?_ _)); refine lX ?_ NB302_301.out _; (with_reducible repeat (first | refine lN ?_ _ | refine lD ?_ | refine lA ?_ _)); exact BK302.out) hb); have n16_ := Aside0.mk (below_step (by repeat (first | (with_reducible first | exact HB.out | apply bA | apply bN | apply bD | refine bS ?_ GE243.out | refine bS ?_ GE244.out | refine bS ?_ GE247.out | refine bS ?_ GE248.out | refine bS ?_ GE271.out | refine bS ?_ GE272.out | refine bS ?_ GE273.out | refine bS ?_ GE301.out | refine bS ?_ GE302.out) | exact HB.out)) hb); clear HO251; clear HO258; clear HO268; clear HO278; clear HO290; clear HO305; clear HO312; clear BK243; clear BK244; clear BK247; clear BK248; clear BK271; clear BK272; clear BK273; clear BK301; clear BK302; clear HB; have HO251 := n0_; have HO258 := n1_; have HO268 := n2_; have HO278 := n3_; have HO290 := n4_; have HO305 := n5_; have HO312 := n6_; have BK243 := n7_; have BK244 := n8_; have BK247 := n9_; have BK248 := n10_; have BK271 := n11_; have BK272 := n12_; have BK273 := n13_; have BK301 := n14_; have BK302 := n15_; have HB := n16_; clear n0_ n1_ n2_ n3_ n4_ n5_ n6_ n7_ n8_ n9_ n10_ n11_ n12_ n13_ n14_ n15_ n16_; (try clear hb); (try clear hb2); (try clear hk); (try clear hi); have hnb162 := NB302_243.out; have hnc162 := NB243_302.out; have hnb163 := NB302_244.out; have hnc163 := NB244_302.out; have hnb164 := NB302_248.out; have hnc164 := NB248_302.out; have hnb165 := NB302_271.out; have hnc165 := NB271_302.out; have hnb166 := NB302_272.out; have hnc166 := NB272_302.out; have hnb167 := NB302_273.out; have hnc167 := NB273_302.out; have hcz168_0 : w161.cell? ⟨gb302, 0, none⟩ = some (.int .i64 t315) := (lC BK302.out 0).trans rfl; have hcz168_1 : w161.cell? ⟨gb302, 1, none⟩ = some (.int .i64 t316) := (lC BK302.out 1).trans rfl; have hcz168_2 : w161.cell? ⟨gb302, 2, none⟩ = some (.int .i64 t317) := (lC BK302.out 2).trans rfl; have hfz168_0 := lF BK302.out 0; have hfz168_1 := lF BK302.out 1; have hfz168_2 := lF BK302.out 2; have hcz169_0 : w161.cell? ⟨gb248, 0, none⟩ = some (.int .i64 t261) := (lC BK248.out 0).trans rfl; have hcz169_1 : w161.cell? ⟨gb248, 1, none⟩ = some (.int .i64 t262) := (lC BK248.out 1).trans rfl; have hcz169_2 : w161.cell? ⟨gb248, 2, none⟩ = some (.int .i64 t263) := (lC BK248.out 2).trans rfl; have hfz169_0 := lF BK248.out 0; have hfz169_1 := lF BK248.out 1; have hfz169_2 := lF BK248.out 2) | (go_at_call 12; (with_reducible refine (laws_eqEmit.calls t315 t316 t317 t261 t262 t263 true _ A49.out).mono ?_); rintro e w170 ⟨rfl, hb⟩; have n0_ := Aside0.mk (Kd.Q_below (by (with_reducible repeat (first | apply qA | apply qN | apply qD)); exact HO251.out) hb); have n1_ := Aside0.mk (Kd.Q_below (by (with_reducible repeat (first | apply qA | apply qN | apply qD)); exact HO258.out) hb); have n2_ := Aside0.mk (Kd.Q_below (by (with_reducible repeat (first | apply qA | apply qN | apply qD)); exact HO268.out) hb); have n3_ := Aside0.mk (Kd.Q_below (by (with_reducible repeat (first | apply qA | apply qN | apply qD)); exact HO278.out) hb); have n4_ := Aside0.mk (Kd.Q_below (by (with_reducible repeat (first | apply qA | apply qN | apply qD)); exact HO290.out) hb); have n5_ := Aside0.mk (Kd.Q_below (by (with_reducible repeat (first | apply qA | apply qN | apply qD)); exact HO305.out) hb); have n6_ := Aside0.mk (Kd.Q_below (by (with_reducible repeat (first | apply qA | apply qN | apply qD)); exact HO312.out) hb); have n7_ := Aside0.mk (blk_below (g := gb243) (o := .cells #[.slice A0_0 l0_0.length c0_0, .int .i64 a0_1, .int .i64 a0_2] 24 (0, 0)) (by (with_reducible repeat (first | refine lN ?_ _ | refine lD ?_ | refine lA ?_ _)); exact BK243.out) hb); have n8_ := Aside0.mk (blk_below (g := gb244) (o := .cells #[.int .i64 a1_0, .string a1_1] 26 (0, 0)) (by (with_reducible repeat (first | refine lN ?_ _ | refine lD ?_ | refine lA ?_ _)); exact BK244.out) hb); have n9_ := Aside0.mk (blk_below (g := gb247) (o := .cells #[.slice Ao70 t256.length co70, .int .i64 t259, .int .i64 t260] 29 (0, 0)) (by (with_reducible repeat (first | refine lN ?_ _ | refine lD ?_ | refine lA ?_ _)); exact BK247.out) hb); have n10_ := Aside0.mk (blk_below (g := gb248) (o := .cells #[.int .i64 t261, .int .i64 t262, .int .i64 t263] 31 (0, 0)) (by (with_reducible repeat (first | refine lN ?_ _ | refine lD ?_ | refine lA ?_ _)); exact BK248.out) hb); have n11_ := Aside0.mk (blk_below (g := gb271) (o := .cells #[.slice Ao82 t266.length co82, .int .i64 t269, .int .i64 t270] 29 (0, 0)) (by (with_reducible repeat (first | refine lN ?_ _ | refine lD ?_ | refine lA ?_ _)); exact BK271.out) hb); have n12_ := Aside0.mk (blk_below (g := gb272) (o := .cells #[.slice Ao93 t276.length co93, .int .i64 t279, .int .i64 t280] 29 (0, 0)) (by (with_reducible repeat (first | refine lN ?_ _ | refine lD ?_ | refine lA ?_ _)); exact BK272.out) hb); have n13_ := Aside0.mk (blk_below (g := gb273) (o := .cells #[.int .i64 t281, .int .i64 t282, .int .i64 t283] 31 (0, 0)) (by (with_reducible repeat (first | refine lN ?_ _ | refine lD ?_ | refine lA ?_ _)); exact BK273.out) hb); have n14_ := Aside0.mk (blk_below (g := gb301) (o := .cells #[.slice Ao143 t310.length co143, .int .i64 t313, .int .i64 t314] 29 (0, 0)) (by (with_reducible repeat (first | refine lN ?_ _ | refine lD ?_ | refine lA ?_ _)); exact BK301.out) hb); have n15_ := Aside0.mk (blk_below (g := gb302) (o := .cells #[.int .i64 t315, .int .i64 t316, .int .i64 t317] 31 (0, 0)) (by (with_reducible repeat (first | refine lN ?_ _ | refine lD ?_ | refine lA ?_ _)); exact BK302.out) hb); have n16_ := Aside0.mk (below_step (by repeat (first | (with_reducible first | exact HB.out | apply bA | apply bN | apply bD | refine bS ?_ GE243.out | refine bS ?_ GE244.out | refine bS ?_ GE247.out | refine bS ?_ GE248.out | refine bS ?_ GE271.out | refine bS ?_ GE272.out | refine bS ?_ GE273.out | refine bS ?_ GE301.out | refine bS ?_ GE302.out) | exact HB.out)) hb); clear HO251; clear HO258; clear HO268; clear HO278; clear HO290; clear HO305; clear HO312; clear BK243; clear BK244; clear BK247; clear BK248; clear BK271; clear BK272; clear BK273; clear BK301; clear BK302; clear HB; have HO251 := n0_; have HO258 := n1_; have HO268 := n2_; have HO278 := n3_; have HO290 := n4_; have HO305 := n5_; have HO312 := n6_; have BK243 := n7_; have BK244 := n8_; have BK247 := n9_; have BK248 := n10_; have BK271 := n11_; have BK272 := n12_; have BK273 := n13_; have BK301 := n14_; have BK302 := n15_; have HB := n16_; clear n0_ n1_ n2_ n3_ n4_ n5_ n6_ n7_ n8_ n9_ n10_ n11_ n12_ n13_ n14_ n15_ n16_; (try clear hb); (try clear hb2); (try clear hk); (try clear hi); have hcz171_0 : w170.cell? ⟨gb272, 0, none⟩ = some (.slice Ao93 t276.length co93) := (lC BK272.out 0).trans rfl; have hcz171_1 : w170.cell? ⟨gb272, 1, none⟩ = some (.int .i64 t279) := (lC BK272.out 1).trans rfl; have hcz171_2 : w170.cell? ⟨gb272, 2, none⟩ = some (.int .i64 t280) := (lC BK272.out 2).trans rfl; have hfz171_0 := lF BK272.out 0; have hfz171_1 := lF BK272.out 1; have hfz171_2 := lF BK272.out 2) | ((with_reducible refine gate_callee (f := 14) rfl ?_); refine goesL_ (some 148) rfl rfl Try.func14 (by kernel_rfl) rfl #[.agg #[.slice Ao93 t299.length co93, .int .i64 t279, .int .i64 t280], .int .i64 1] rfl (by (try simp only [List.map_toArray, List.map_cons, List.map_nil]); first | done | (rw [show t299.length = t276.length from (Kd.Q_reads' HO278.out).1.symm] <;> rfl) | rfl | (simp only [List.length_drop, List.length_take]; rfl)) ?_; (with_reducible refine (laws_heldClient.calls k _ _ t299 t279 t280 1 t322 _ ?side1 ?side2 A53.out).mono ?_); (case side1 => repeat (first | exact (Kd.Q_reads' HO278.out).2.2 | (with_reducible first | refine cA ?_ _ | refine cN ?_ _ | refine cD ?_))); (case side2 => rw [show t299.length = t276.length from (Kd.Q_reads' HO278.out).1.symm]; exact (Kd.Q_reads' HO278.out).2.1); rintro e w172 ⟨rfl, hb⟩; refine ⟨_, rfl, ?_⟩; have n0_ := Aside0.mk (Kd.Q_below (by (with_reducible repeat (first | apply qA | apply qN | apply qD)); exact HO251.out) hb); have n1_ := Aside0.mk (Kd.Q_below (by (with_reducible repeat (first | apply qA | apply qN | apply qD)); exact HO258.out) hb); have n2_ := Aside0.mk (Kd.Q_below (by (with_reducible repeat (first | apply qA | apply qN | apply qD)); exact HO268.out) hb); have n3_ := Aside0.mk (Kd.Q_below (by (with_reducible repeat (first | apply qA | apply qN | apply qD)); exact HO278.out) hb); have n4_ := Aside0.mk (Kd.Q_below (by (with_reducible repeat (first | apply qA | apply qN | apply qD)); exact HO290.out) hb); have n5_ := Aside0.mk (Kd.Q_below (by (with_reducible repeat (first | apply qA | apply qN | apply qD)); exact HO305.out) hb); have n6_ := Aside0.mk (Kd.Q_below (by (with_reducible repeat (first | apply qA | apply qN | apply qD)); exact HO312.out) hb); have n7_ := Aside0.mk (blk_below (g := gb243) (o := .cells #[.slice A0_0 l0_0.length c0_0, .int .i64 a0_1, .int .i64 a0_2] 24 (0, 0)) (by (with_reducible repeat (first | refine lN ?_ _ | refine lD ?_ | refine lA ?_ _)); exact BK243.out) hb); have n8_ := Aside0.mk (blk_below (g := gb244) (o := .cells #[.int .i64 a1_0, .string a1_1] 26 (0, 0)) (by (with_reducible repeat (first | refine lN ?_ _ | refine lD ?_ | refine lA ?_ _)); exact BK244.out) hb); have n9_ := Aside0.mk (blk_below (g := gb247) (o := .cells #[.slice Ao70 t256.length co70, .int .i64 t259, .int .i64 t260] 29 (0, 0)) (by (with_reducible repeat (first | refine lN ?_ _ | refine lD ?_ | refine lA ?_ _)); exact BK247.out) hb); have n10_ := Aside0.mk (blk_below (g := gb248) (o := .cells #[.int .i64 t261, .int .i64 t262, .int .i64 t263] 31 (0, 0)) (by (with_reducible repeat (first | refine lN ?_ _ | refine lD ?_ | refine lA ?_ _)); exact BK248.out) hb); have n11_ := Aside0.mk (blk_below (g := gb271) (o := .cells #[.slice Ao82 t266.length co82, .int .i64 t269, .int .i64 t270] 29 (0, 0)) (by (with_reducible repeat (first | refine lN ?_ _ | refine lD ?_ | refine lA ?_ _)); exact BK271.out) hb); have n12_ := Aside0.mk (blk_below (g := gb272) (o := .cells #[.slice Ao93 t276.length co93, .int .i64 t279, .int .i64 t280] 29 (0, 0)) (by (with_reducible repeat (first | refine lN ?_ _ | refine lD ?_ | refine lA ?_ _)); exact BK272.out) hb); have n13_ := Aside0.mk (blk_below (g := gb273) (o := .cells #[.int .i64 t281, .int .i64 t282, .int .i64 t283] 31 (0, 0)) (by (with_reducible repeat (first | refine lN ?_ _ | refine lD ?_ | refine lA ?_ _)); exact BK273.out) hb); have n14_ := Aside0.mk (blk_below (g := gb301) (o := .cells #[.slice Ao143 t310.length co143, .int .i64 t313, .int .i64 t314] 29 (0, 0)) (by (with_reducible repeat (first | refine lN ?_ _ | refine lD ?_ | refine lA ?_ _)); exact BK301.out) hb); have n15_ := Aside0.mk (blk_below (g := gb302) (o := .cells #[.int .i64 t315, .int .i64 t316, .int .i64 t317] 31 (0, 0)) (by (with_reducible repeat (first | refine lN ?_ _ | refine lD ?_ | refine lA ?_ _)); exact BK302.out) hb); have n16_ := Aside0.mk (below_step (by repeat (first | (with_reducible first | exact HB.out | apply bA | apply bN | apply bD | refine bS ?_ GE243.out | refine bS ?_ GE244.out | refine bS ?_ GE247.out | refine bS ?_ GE248.out | refine bS ?_ GE271.out | refine bS ?_ GE272.out | refine bS ?_ GE273.out | refine bS ?_ GE301.out | refine bS ?_ GE302.out) | exact HB.out)) hb); clear HO251; clear HO258; clear HO268; clear HO278; clear HO290; clear HO305; clear HO312; clear BK243; clear BK244; clear BK247; clear BK248; clear BK271; clear BK272; clear BK273; clear BK301; clear BK302; clear HB; have HO251 := n0_; have HO258 := n1_; have HO268 := n2_; have HO278 := n3_; have HO290 := n4_; have HO305 := n5_; have HO312 := n6_; have BK243 := n7_; have BK244 := n8_; have BK247 := n9_; have BK248 := n10_; have BK271 := n11_; have BK272 := n12_; have BK273 := n13_; have BK301 := n14_; have BK302 := n15_; have HB := n16_; clear n0_ n1_ n2_ n3_ n4_ n5_ n6_ n7_ n8_ n9_ n10_ n11_ n12_ n13_ n14_ n15_ n16_; (try clear hb); (try clear hb2); (try clear hk); (try clear hi)))
                   go_ret
                   exact ⟨by first | rfl | (simp [errW_none, errW_some] <;> rfl) | (simp [*, errW_none, errW_some] <;> rfl), by repeat (first | (with_reducible first | exact HB.out | apply bA | apply bN | apply bD | refine bS ?_ GE243.out | refine bS ?_ GE244.out | refine bS ?_ GE247.out | refine bS ?_ GE248.out | refine bS ?_ GE271.out | refine bS ?_ GE272.out | refine bS ?_ GE273.out | refine bS ?_ GE301.out | refine bS ?_ GE302.out) | exact HB.out)⟩
                  ·rw [if_neg c55] at H
                   have c55b0 : (t322 == t298) = false := beq_eq_false_iff_ne.mpr c55
                   have c55b1 : (t322 != t298) = true := bne_iff_ne.mpr c55
                   obtain rfl := Option.some.inj H
                   exact absurd hr_.out (by simp)
               ·rw [if_neg c51] at H
                have c51b0 : (t318.toList == t264.toList) = false := beq_eq_false_iff_ne.mpr c51
                have c51b1 : (t318.toList != t264.toList) = true := bne_iff_ne.mpr c51
                obtain rfl := Option.some.inj H
                exact absurd hr_.out (by simp)
              ·replace c50 := fB c50
               subst c50
               have H1 : (some false) = some r := by rw [if_neg (show ¬ (false = true) by decide)] at H; exact H
               clear H
               have H := H1
               clear H1
               obtain rfl := Option.some.inj H
               exact absurd hr_.out (by simp)
             ·replace c48 := fB c48
              subst c48
              have H1 : (some false) = some r := by rw [if_neg (show ¬ (false = true) by decide)] at H; exact H
              clear H
              have H := H1
              clear H1
              obtain rfl := Option.some.inj H
              exact absurd hr_.out (by simp)
            ·rw [if_neg c43] at H
             have c43b0 : (t300 == t298) = false := beq_eq_false_iff_ne.mpr c43
             have c43b1 : (t300 != t298) = true := bne_iff_ne.mpr c43
             obtain rfl := Option.some.inj H
             exact absurd hr_.out (by simp)
          ·replace c39 := fB c39
           subst c39
           have H1 : (some false) = some r := by rw [if_neg (show ¬ (false = true) by decide)] at H; exact H
           clear H
           have H := H1
           clear H1
           obtain rfl := Option.some.inj H
           exact absurd hr_.out (by simp)
         ·replace c37 := fB c37
          subst c37
          have H1 : (some false) = some r := by rw [if_neg (show ¬ (false = true) by decide)] at H; exact H
          clear H
          have H := H1
          clear H1
          obtain rfl := Option.some.inj H
          exact absurd hr_.out (by simp)
       ·replace c33 := fB c33
        subst c33
        have H1 : (some false) = some r := by rw [if_neg (show ¬ (false = true) by decide)] at H; exact H
        clear H
        have H := H1
        clear H1
        obtain rfl := Option.some.inj H
        exact absurd hr_.out (by simp)
     ·rw [if_neg c29] at H
      have c29b0 : (t284.toList == t264.toList) = false := beq_eq_false_iff_ne.mpr c29
      have c29b1 : (t284.toList != t264.toList) = true := bne_iff_ne.mpr c29
      obtain rfl := Option.some.inj H
      exact absurd hr_.out (by simp)
    ·replace c28 := fB c28
     subst c28
     have H1 : (some false) = some r := by rw [if_neg (show ¬ (false = true) by decide)] at H; exact H
     clear H
     have H := H1
     clear H1
     obtain rfl := Option.some.inj H
     exact absurd hr_.out (by simp)
   ·replace c26 := fB c26
    subst c26
    have H1 : (some false) = some r := by rw [if_neg (show ¬ (false = true) by decide)] at H; exact H
    clear H
    have H := H1
    clear H1
    obtain rfl := Option.some.inj H
    exact absurd hr_.out (by simp)
def laws_FnExactStepClient.Pure : Prop := ∀ (l0_0 : List ByteArray) (a0_1 : Int) (a0_2 : Int) (a1_0 : Int) (a1_1 : ByteArray), (l0_0.length ≤ maxLen ∧ ∀ x ∈ l0_0, x.size ≤ maxLen) → (Lit.int .i64 a0_1).wf = true → (Lit.int .i64 a0_2).wf = true → (Lit.int .i64 a1_0).wf = true → a1_1.size ≤ maxLen → ∃ k, laws_FnExactStepClient.f k l0_0 a0_1 a0_2 a1_0 a1_1 = some true
end Go.Proofs.Ytodhogegjkfemaa.PFnExactStepClient
