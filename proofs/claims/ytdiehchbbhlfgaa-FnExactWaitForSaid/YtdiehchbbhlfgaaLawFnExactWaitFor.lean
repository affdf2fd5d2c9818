-- Written by a program of this session, after the kit's print (changed in some places; see NOTES.md). Lean checks it.
import Derived.Test.YtdiehchbbhlfgaaRows
import Derived.Test.YtdiehchbbhlfgaaPFnExactWaitForx3
import Derived.Test.YtdiehchbbhlfgaaOpn
import Derived.Test.YtdiehchbbhlfgaaPureFnExactWaitFor
import Derived.WalkKit
import Derived.ProofKit
import Derived.OpenShut
import Derived.ShutString
import Derived.ChangeOld
import Derived.Below
import Derived.SizedLaws
namespace Go.Proofs.Ytdiehchbbhlfgaa.fnExactWaitFor
open Go.ChangeShapes Go.WideShapes Go.ChangeAt Go.RowKit Go.Deep Go.Proofs.Ytdiehchbbhlfgaa.Opn Go.Proofs.Ytdiehchbbhlfgaa.PFnExactWaitFor Go.Proofs.YtdiehchbbhlfgaaW.PrintWords
open Go.ChangeMaps (open_string shut_string)
set_option linter.unusedVariables false
theorem own : ownKnob Try.prog.godebug = none := by kernel_rfl
theorem laidOut : laidOutB Try.prog = true := by kernel_rfl
set_option maxRecDepth 100000 in
set_option maxHeartbeats 1000000 in
theorem lifted (os : Os) (started : os.Started) (H : Type) (enc : TypeId × Value → H) :
    ReturnsInHanded {} Try.checked os 7 .any (Rows.fnExactWaitForSpec.pre6 enc Try.prog Try.f7 Rows.fnExactWaitForRow.domain false) (Rows.fnExactWaitForSpec.post enc Try.prog Try.f7 false true false false) := by
  refine returnsInHanded_of_change_sized (C := Try.checked) own started (by kernel_rfl) Try.func7
    (ChangeSpec.witness6 (enc := enc) (C := Try.checked) false ⟨#[], #[.agg #[.slice none 0 0, .int .i64 0, .int .i64 0], .string ByteArray.empty], []⟩ 8 (by kernel_rfl) (by kernel_rfl) (by kernel_rfl) (by kernel_rfl)) ?_
  intro W base args ds gs before hval0 hW hcnd hsz0 _
  have hval : ∀ (j : Nat) t v, Try.f7.params[j]? = some t → args[j]? = some v → Value.okWide Try.prog W .any base t v := hval0
  have hW' := hW
  obtain ⟨p, q, hA0, hV, rfl, hfz, hnd⟩ := hW
  have hA : DataW.TrodAll enc Try.prog W 0 (fun _ => true) true Try.f7.params.toList args.toList ds p := hA0
  rw [Try.params7] at hA hval
  obtain ⟨v0, vs0, d0, ds0, p0, q0, hargs, rfl, rfl, h0, r0⟩ := trodAll_cons hA
  obtain ⟨v1, vs1, d1, ds1, p1, q1, rfl, rfl, rfl, h1, r1⟩ := trodAll_cons r0
  obtain ⟨rfl, rfl, rfl⟩ := trodAll_nil r1
  obtain rfl : args = #[v0, v1] := by cases args; simp_all
  obtain ⟨rfl, rfl⟩ := trodVars_none hV
  have k0 := h0
  have lt0 : ∀ x ∈ p0, x.block < W.heap.size := by obtain ⟨m, hm⟩ := k0; exact DataW.trod_lt m _ _ _ hm
  obtain ⟨cs0, rfl, hl0, n0, hf0⟩ := struct_arg Try.underlying36 (by kernel_rfl) (by kernel_rfl) (hval 0 36 v0 rfl rfl) h0
  obtain ⟨c0_0v, c0_1v, c0_2v, rfl⟩ := list3 (l := cs0) hl0
  obtain ⟨y0_0, t0_0⟩ := hf0 0 _ c0_0v rfl rfl
  obtain ⟨A0_0, c0_0, l0_0, rfl, hc0_0, hr0_0, g0_0⟩ := slice_cell (opens_slice Try.underlying28 (by kernel_rfl) (opens_string Try.underlying9)) t0_0
  obtain ⟨y0_1, t0_1⟩ := hf0 1 _ c0_1v rfl rfl
  obtain ⟨a0_1, rfl, g0_1⟩ := int_cell (opens_int Try.underlying3) t0_1
  obtain ⟨y0_2, t0_2⟩ := hf0 2 _ c0_2v rfl rfl
  obtain ⟨a0_2, rfl, g0_2⟩ := int_cell (opens_int Try.underlying3) t0_2
  obtain ⟨a1, rfl, rfl, rfl, g1⟩ := open_string Try.underlying9 (hval 1 9 v1 rfl rfl) h1
  clear hA0 hval0 hsz0
  obtain ⟨kk, hp⟩ := Pure.FnExactWaitFor l0_0 a0_1 a0_2 a1 g0_0 g0_1 g0_2 g1
  refine (laws_FnExactWaitFor.calls kk A0_0 c0_0 l0_0 a0_1 a0_2 a1 true W hr0_0 hc0_0 hp ⟨rfl⟩).mono fun e W' hq => ?_
  obtain ⟨rfl, bel0⟩ := hq
  have bel : Below W.heap.size W W' := bel0
  exact ⟨_, rfl, _, _, _, [], _, [], hW', trodAll_mk1 (shut_bool Try.underlying4 _), (trodAll_cons_mk (Below.trod laidOut (by kernel_rfl) (of_decide_eq_true (by kernel_rfl)) k0 bel lt0) (trodAll_cons_mk (shut_string Try.underlying9 g1) trodAll_mk0)), rfl, bel.frame _, fun h => by cases h⟩
theorem over : Rows.fnExactWaitForRow.holds Try.pinned (OpenSpec.ofChange Rows.fnExactWaitForSpec) :=
  OpenClaim.holds_of_wide 7 Try.f7 rfl rfl rfl rfl rfl rfl rfl ⟨rfl, rfl, rfl, rfl, rfl⟩ rfl rfl rfl rfl rfl (by kernel_rfl) Try.func7 (by kernel_rfl)
    (of_decide_eq_true (by kernel_rfl)) (by unfold Func.isWrapper; first | (rw [if_pos (by decide +kernel)]; kernel_rfl) | (rw [if_neg (by decide +kernel)]; exact ⟨rfl, rfl⟩))
    (fun os started H enc _ => lifted os started H enc)
theorem proved : Rows.FnExactWaitForSaid := over
#print axioms proved
end Go.Proofs.Ytdiehchbbhlfgaa.fnExactWaitFor
namespace Go.Proofs.Ytdiehchbbhlfgaa
/-- The row, under a short name, for the claim. -/
theorem fnExactWaitFor_holds : Rows.FnExactWaitForSaid := fnExactWaitFor.proved
end Go.Proofs.Ytdiehchbbhlfgaa
