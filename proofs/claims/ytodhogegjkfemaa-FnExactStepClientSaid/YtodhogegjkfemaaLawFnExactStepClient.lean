-- Written by a program of this session, after the kit's print (changed in some places; see NOTES.md). Lean checks it.
import Derived.Test.YtodhogegjkfemaaRows
import Derived.Test.YtodhogegjkfemaaPFnExactStepClientx9
import Derived.Test.YtodhogegjkfemaaOpn
import Derived.Test.YtodhogegjkfemaaPureFnExactStepClient
import Derived.WalkKit
import Derived.ProofKit
import Derived.OpenShut
import Derived.ShutString
import Derived.ChangeOld
import Derived.Below
import Derived.SizedLaws
namespace Go.Proofs.Ytodhogegjkfemaa.fnExactStepClient
open Go.ChangeShapes Go.WideShapes Go.ChangeAt Go.RowKit Go.Deep Go.Proofs.Ytodhogegjkfemaa.Opn Go.Proofs.Ytodhogegjkfemaa.PFnExactStepClient Go.Proofs.YtodhogegjkfemaaW.PrintWords
open Go.ChangeMaps (open_string shut_string)
set_option linter.unusedVariables false
theorem own : ownKnob Try.prog.godebug = none := by kernel_rfl
theorem laidOut : laidOutB Try.prog = true := by kernel_rfl
set_option maxRecDepth 100000 in
set_option maxHeartbeats 1000000 in
theorem lifted (os : Os) (started : os.Started) (H : Type) (enc : TypeId × Value → H) :
    ReturnsInHanded {} Try.checked os 3 .any (Rows.fnExactStepClientSpec.pre6 enc Try.prog Try.f3 Rows.fnExactStepClientRow.domain false) (Rows.fnExactStepClientSpec.post enc Try.prog Try.f3 false true false false) := by
  refine returnsInHanded_of_change_sized (C := Try.checked) own started (by kernel_rfl) Try.func3
    (ChangeSpec.witness6 (enc := enc) (C := Try.checked) false ⟨#[], #[.agg #[.slice none 0 0, .int .i64 0, .int .i64 0], .agg #[.int .i64 0, .string ByteArray.empty]], []⟩ 8 (by kernel_rfl) (by kernel_rfl) (by kernel_rfl) (by kernel_rfl)) ?_
  intro W base args ds gs before hval0 hW hcnd hsz0 _
  have hval : ∀ (j : Nat) t v, Try.f3.params[j]? = some t → args[j]? = some v → Value.okWide Try.prog W .any base t v := hval0
  have hW' := hW
  obtain ⟨p, q, hA0, hV, rfl, hfz, hnd⟩ := hW
  have hA : DataW.TrodAll enc Try.prog W 0 (fun _ => true) true Try.f3.params.toList args.toList ds p := hA0
  rw [Try.params3] at hA hval
  obtain ⟨v0, vs0, d0, ds0, p0, q0, hargs, rfl, rfl, h0, r0⟩ := trodAll_cons hA
  obtain ⟨v1, vs1, d1, ds1, p1, q1, rfl, rfl, rfl, h1, r1⟩ := trodAll_cons r0
  obtain ⟨rfl, rfl, rfl⟩ := trodAll_nil r1
  obtain rfl : args = #[v0, v1] := by cases args; simp_all
  obtain ⟨rfl, rfl⟩ := trodVars_none hV
  have k0 := h0
  have lt0 : ∀ x ∈ p0, x.block < W.heap.size := by obtain ⟨m, hm⟩ := k0; exact DataW.trod_lt m _ _ _ hm
  obtain ⟨cs0, rfl, hl0, n0, hf0⟩ := struct_arg Try.underlying24 (by kernel_rfl) (by kernel_rfl) (hval 0 24 v0 rfl rfl) h0
  obtain ⟨c0_0v, c0_1v, c0_2v, rfl⟩ := list3 (l := cs0) hl0
  obtain ⟨y0_0, t0_0⟩ := hf0 0 _ c0_0v rfl rfl
  obtain ⟨A0_0, c0_0, l0_0, rfl, hc0_0, hr0_0, g0_0⟩ := slice_cell (opens_slice Try.underlying22 (by kernel_rfl) (opens_string Try.underlying9)) t0_0
  obtain ⟨y0_1, t0_1⟩ := hf0 1 _ c0_1v rfl rfl
  obtain ⟨a0_1, rfl, g0_1⟩ := int_cell (opens_int Try.underlying3) t0_1
  obtain ⟨y0_2, t0_2⟩ := hf0 2 _ c0_2v rfl rfl
  obtain ⟨a0_2, rfl, g0_2⟩ := int_cell (opens_int Try.underlying3) t0_2
  have k1 := h1
  have lt1 : ∀ x ∈ p1, x.block < W.heap.size := by obtain ⟨m, hm⟩ := k1; exact DataW.trod_lt m _ _ _ hm
  obtain ⟨cs1, rfl, hl1, n1, hf1⟩ := struct_arg Try.underlying26 (by kernel_rfl) (by kernel_rfl) (hval 1 26 v1 rfl rfl) h1
  obtain ⟨c1_0v, c1_1v, rfl⟩ := list2 (l := cs1) hl1
  obtain ⟨y1_0, t1_0⟩ := hf1 0 _ c1_0v rfl rfl
  obtain ⟨a1_0, rfl, g1_0⟩ := int_cell (opens_int Try.underlying3) t1_0
  obtain ⟨y1_1, t1_1⟩ := hf1 1 _ c1_1v rfl rfl
  obtain ⟨a1_1, rfl, g1_1⟩ := string_cell (opens_string Try.underlying9) t1_1
  clear hA0 hval0 hsz0
  obtain ⟨kk, hp⟩ := Pure.FnExactStepClient l0_0 a0_1 a0_2 a1_0 a1_1 g0_0 g0_1 g0_2 g1_0 g1_1
  refine (laws_FnExactStepClient.calls kk A0_0 c0_0 l0_0 a0_1 a0_2 a1_0 a1_1 true W hr0_0 hc0_0 hp ⟨rfl⟩).mono fun e W' hq => ?_
  obtain ⟨rfl, bel0⟩ := hq
  have bel : Below W.heap.size W W' := bel0
  exact ⟨_, rfl, _, _, _, [], _, [], hW', trodAll_mk1 (shut_bool Try.underlying4 _), (trodAll_cons_mk (Below.trod laidOut (by kernel_rfl) (of_decide_eq_true (by kernel_rfl)) k0 bel lt0) (trodAll_cons_mk (Below.trod laidOut (by kernel_rfl) (of_decide_eq_true (by kernel_rfl)) k1 bel lt1) trodAll_mk0)), rfl, bel.frame _, fun h => by cases h⟩
theorem over : Rows.fnExactStepClientRow.holds Try.pinned (OpenSpec.ofChange Rows.fnExactStepClientSpec) :=
  OpenClaim.holds_of_wide 3 Try.f3 rfl rfl rfl rfl rfl rfl rfl ⟨rfl, rfl, rfl, rfl, rfl⟩ rfl rfl rfl rfl rfl (by kernel_rfl) Try.func3 (by kernel_rfl)
    (of_decide_eq_true (by kernel_rfl)) (by unfold Func.isWrapper; first | (rw [if_pos (by decide +kernel)]; kernel_rfl) | (rw [if_neg (by decide +kernel)]; exact ⟨rfl, rfl⟩))
    (fun os started H enc _ => lifted os started H enc)
theorem proved : Rows.FnExactStepClientSaid := over
#print axioms proved
end Go.Proofs.Ytodhogegjkfemaa.fnExactStepClient
namespace Go.Proofs.Ytodhogegjkfemaa
theorem fnExactStepClient_holds : Rows.FnExactStepClientSaid := fnExactStepClient.proved
end Go.Proofs.Ytodhogegjkfemaa
