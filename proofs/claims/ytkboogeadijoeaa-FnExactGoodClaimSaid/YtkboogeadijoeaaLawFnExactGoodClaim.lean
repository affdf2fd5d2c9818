-- Written by a program of this session, after the kit's print (changed in some places; see NOTES.md). Lean checks it.
import Derived.Test.YtkboogeadijoeaaRows
import Derived.Test.YtkboogeadijoeaaPFnExactGoodClaimx1
import Derived.Test.YtkboogeadijoeaaOpn
import Derived.Test.YtkboogeadijoeaaPureFnExactGoodClaim
import Derived.WalkKit
import Derived.ProofKit
import Derived.OpenShut
import Derived.ShutString
import Derived.ChangeOld
import Derived.Below
import Derived.SizedLaws
namespace Go.Proofs.Ytkboogeadijoeaa.fnExactGoodClaim
open Go.ChangeShapes Go.WideShapes Go.ChangeAt Go.RowKit Go.Deep Go.Proofs.Ytkboogeadijoeaa.Opn Go.Proofs.Ytkboogeadijoeaa.PFnExactGoodClaim Go.Proofs.YtkboogeadijoeaaW.PrintWords
open Go.ChangeMaps (open_string shut_string)
set_option linter.unusedVariables false
theorem own : ownKnob Try.prog.godebug = none := by kernel_rfl
theorem laidOut : laidOutB Try.prog = true := by kernel_rfl
set_option maxRecDepth 100000 in
set_option maxHeartbeats 1000000 in
theorem lifted (os : Os) (started : os.Started) (H : Type) (enc : TypeId × Value → H) :
    ReturnsInHanded {} Try.checked os 7 .any (Rows.fnExactGoodClaimSpec.pre6 enc Try.prog Try.f7 Rows.fnExactGoodClaimRow.domain false) (Rows.fnExactGoodClaimSpec.post enc Try.prog Try.f7 false true false false) := by
  refine returnsInHanded_of_change_sized (C := Try.checked) own started (by kernel_rfl) Try.func7
    (ChangeSpec.witness6 (enc := enc) (C := Try.checked) false ⟨#[], #[.agg #[.int .i64 0, .int .i64 0, .int .i64 0]], []⟩ 8 (by kernel_rfl) (by kernel_rfl) (by kernel_rfl) (by kernel_rfl)) ?_
  intro W base args ds gs before hval0 hW hcnd hsz0 _
  have hval : ∀ (j : Nat) t v, Try.f7.params[j]? = some t → args[j]? = some v → Value.okWide Try.prog W .any base t v := hval0
  have hW' := hW
  obtain ⟨p, q, hA0, hV, rfl, hfz, hnd⟩ := hW
  have hA : DataW.TrodAll enc Try.prog W 0 (fun _ => true) true Try.f7.params.toList args.toList ds p := hA0
  rw [Try.params7] at hA hval
  obtain ⟨v0, vs0, d0, ds0, p0, q0, hargs, rfl, rfl, h0, r0⟩ := trodAll_cons hA
  obtain ⟨rfl, rfl, rfl⟩ := trodAll_nil r0
  obtain rfl : args = #[v0] := by cases args; simp_all
  obtain ⟨rfl, rfl⟩ := trodVars_none hV
  have k0 := h0
  have lt0 : ∀ x ∈ p0, x.block < W.heap.size := by obtain ⟨m, hm⟩ := k0; exact DataW.trod_lt m _ _ _ hm
  obtain ⟨cs0, rfl, hl0, n0, hf0⟩ := struct_arg Try.underlying50 (by kernel_rfl) (by kernel_rfl) (hval 0 50 v0 rfl rfl) h0
  obtain ⟨c0_0v, c0_1v, c0_2v, rfl⟩ := list3 (l := cs0) hl0
  obtain ⟨y0_0, t0_0⟩ := hf0 0 _ c0_0v rfl rfl
  obtain ⟨a0_0, rfl, g0_0⟩ := int_cell (opens_int Try.underlying3) t0_0
  obtain ⟨y0_1, t0_1⟩ := hf0 1 _ c0_1v rfl rfl
  obtain ⟨a0_1, rfl, g0_1⟩ := int_cell (opens_int Try.underlying3) t0_1
  obtain ⟨y0_2, t0_2⟩ := hf0 2 _ c0_2v rfl rfl
  obtain ⟨a0_2, rfl, g0_2⟩ := int_cell (opens_int Try.underlying3) t0_2
  clear hA0 hval0 hsz0
  have hp := Pure.FnExactGoodClaim a0_0 a0_1 a0_2 g0_0 g0_1 g0_2
  refine (laws_FnExactGoodClaim.calls a0_0 a0_1 a0_2 true W  hp ⟨rfl⟩).mono fun e W' hq => ?_
  obtain ⟨rfl, bel0⟩ := hq
  have bel : Below W.heap.size W W' := bel0
  exact ⟨_, rfl, _, _, _, [], _, [], hW', trodAll_mk1 (shut_bool Try.underlying4 _), (trodAll_cons_mk (Below.trod laidOut (by kernel_rfl) (of_decide_eq_true (by kernel_rfl)) k0 bel lt0) trodAll_mk0), rfl, bel.frame _, fun h => by cases h⟩
theorem over : Rows.fnExactGoodClaimRow.holds Try.pinned (OpenSpec.ofChange Rows.fnExactGoodClaimSpec) :=
  OpenClaim.holds_of_wide 7 Try.f7 rfl rfl rfl rfl rfl rfl rfl ⟨rfl, rfl, rfl, rfl, rfl⟩ rfl rfl rfl rfl rfl (by kernel_rfl) Try.func7 (by kernel_rfl)
    (of_decide_eq_true (by kernel_rfl)) (by unfold Func.isWrapper; first | (rw [if_pos (by decide +kernel)]; kernel_rfl) | (rw [if_neg (by decide +kernel)]; exact ⟨rfl, rfl⟩))
    (fun os started H enc _ => lifted os started H enc)
theorem proved : Rows.FnExactGoodClaimSaid := over
#print axioms proved
end Go.Proofs.Ytkboogeadijoeaa.fnExactGoodClaim
namespace Go.Proofs.Ytkboogeadijoeaa
/-- The row, under a short name, for the claim. -/
theorem fnExactGoodClaim_holds : Rows.FnExactGoodClaimSaid := fnExactGoodClaim.proved
end Go.Proofs.Ytkboogeadijoeaa
