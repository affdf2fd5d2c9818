-- Written by a program of this session, after the kit's print (changed in some places; see NOTES.md). Lean checks it.
import Derived.Test.YtbjoddpaefecmaaRows
import Derived.Test.YtbjoddpaefecmaaPFnExactGoodMixx6
import Derived.Test.YtbjoddpaefecmaaOpn
import Derived.Test.YtbjoddpaefecmaaPureFnExactGoodMix
import Derived.WalkKit
import Derived.ProofKit
import Derived.OpenShut
import Derived.ShutString
import Derived.ChangeOld
import Derived.Below
import Derived.SizedLaws
namespace Go.Proofs.Ytbjoddpaefecmaa.fnExactGoodMix
open Go.ChangeShapes Go.WideShapes Go.ChangeAt Go.RowKit Go.Deep Go.Proofs.Ytbjoddpaefecmaa.Opn Go.Proofs.Ytbjoddpaefecmaa.PFnExactGoodMix Go.Proofs.YtbjoddpaefecmaaW.PrintWords
open Go.ChangeMaps (open_string shut_string)
set_option linter.unusedVariables false
theorem own : ownKnob Try.prog.godebug = none := by kernel_rfl
theorem laidOut : laidOutB Try.prog = true := by kernel_rfl
set_option maxRecDepth 100000 in
set_option maxHeartbeats 1000000 in
theorem lifted (os : Os) (started : os.Started) (H : Type) (enc : TypeId × Value → H) :
    ReturnsInHanded {} Try.checked os 8 .any (Rows.fnExactGoodMixSpec.pre6 enc Try.prog Try.f8 Rows.fnExactGoodMixRow.domain false) (Rows.fnExactGoodMixSpec.post enc Try.prog Try.f8 false true false false) := by
  refine returnsInHanded_of_change_sized (C := Try.checked) own started (by kernel_rfl) Try.func8
    (ChangeSpec.witness6 (enc := enc) (C := Try.checked) false ⟨#[], #[.agg #[.slice none 0 0, .int .i64 0, .int .i64 0, .int .i64 0, .slice none 0 0]], []⟩ 8 (by kernel_rfl) (by kernel_rfl) (by kernel_rfl) (by kernel_rfl)) ?_
  intro W base args ds gs before hval0 hW hcnd hsz0 _
  have hval : ∀ (j : Nat) t v, Try.f8.params[j]? = some t → args[j]? = some v → Value.okWide Try.prog W .any base t v := hval0
  have hW' := hW
  obtain ⟨p, q, hA0, hV, rfl, hfz, hnd⟩ := hW
  have hA : DataW.TrodAll enc Try.prog W 0 (fun _ => true) true Try.f8.params.toList args.toList ds p := hA0
  rw [Try.params8] at hA hval
  obtain ⟨v0, vs0, d0, ds0, p0, q0, hargs, rfl, rfl, h0, r0⟩ := trodAll_cons hA
  obtain ⟨rfl, rfl, rfl⟩ := trodAll_nil r0
  obtain rfl : args = #[v0] := by cases args; simp_all
  obtain ⟨rfl, rfl⟩ := trodVars_none hV
  have k0 := h0
  have lt0 : ∀ x ∈ p0, x.block < W.heap.size := by obtain ⟨m, hm⟩ := k0; exact DataW.trod_lt m _ _ _ hm
  obtain ⟨cs0, rfl, hl0, n0, hf0⟩ := struct_arg Try.underlying50 (by kernel_rfl) (by kernel_rfl) (hval 0 50 v0 rfl rfl) h0
  obtain ⟨c0_0v, c0_1v, c0_2v, c0_3v, c0_4v, rfl⟩ := list5 (l := cs0) hl0
  obtain ⟨y0_0, t0_0⟩ := hf0 0 _ c0_0v rfl rfl
  obtain ⟨A0_0, c0_0, l0_0, rfl, hc0_0, hr0_0, g0_0⟩ := slice_cell (opens_slice Try.underlying35 (by kernel_rfl) (opens_string Try.underlying9)) t0_0
  obtain ⟨y0_1, t0_1⟩ := hf0 1 _ c0_1v rfl rfl
  obtain ⟨a0_1, rfl, g0_1⟩ := int_cell (opens_int Try.underlying3) t0_1
  obtain ⟨y0_2, t0_2⟩ := hf0 2 _ c0_2v rfl rfl
  obtain ⟨a0_2, rfl, g0_2⟩ := int_cell (opens_int Try.underlying3) t0_2
  obtain ⟨y0_3, t0_3⟩ := hf0 3 _ c0_3v rfl rfl
  obtain ⟨a0_3, rfl, g0_3⟩ := int_cell (opens_int Try.underlying3) t0_3
  obtain ⟨y0_4, t0_4⟩ := hf0 4 _ c0_4v rfl rfl
  obtain ⟨A0_4, c0_4, l0_4, rfl, hc0_4, hr0_4, g0_4⟩ := slice_cell (opens_slice Try.underlying22 (by kernel_rfl) (opens_int Try.underlying3)) t0_4
  clear hA0 hval0 hsz0
  obtain ⟨kk, hp⟩ := Pure.FnExactGoodMix l0_0 a0_1 a0_2 a0_3 l0_4 g0_0 g0_1 g0_2 g0_3 g0_4
  refine (laws_FnExactGoodMix.calls kk A0_0 c0_0 l0_0 a0_1 a0_2 a0_3 A0_4 c0_4 l0_4 true W hr0_0 hc0_0 hr0_4 hc0_4 hp ⟨rfl⟩).mono fun e W' hq => ?_
  obtain ⟨rfl, bel0⟩ := hq
  have bel : Below W.heap.size W W' := bel0
  exact ⟨_, rfl, _, _, _, [], _, [], hW', trodAll_mk1 (shut_bool Try.underlying4 _), (trodAll_cons_mk (Below.trod laidOut (by kernel_rfl) (of_decide_eq_true (by kernel_rfl)) k0 bel lt0) trodAll_mk0), rfl, bel.frame _, fun h => by cases h⟩
theorem over : Rows.fnExactGoodMixRow.holds Try.pinned (OpenSpec.ofChange Rows.fnExactGoodMixSpec) :=
  OpenClaim.holds_of_wide 8 Try.f8 rfl rfl rfl rfl rfl rfl rfl ⟨rfl, rfl, rfl, rfl, rfl⟩ rfl rfl rfl rfl rfl (by kernel_rfl) Try.func8 (by kernel_rfl)
    (of_decide_eq_true (by kernel_rfl)) (by unfold Func.isWrapper; first | (rw [if_pos (by decide +kernel)]; kernel_rfl) | (rw [if_neg (by decide +kernel)]; exact ⟨rfl, rfl⟩))
    (fun os started H enc _ => lifted os started H enc)
theorem proved : Rows.FnExactGoodMixSaid := over
#print axioms proved
end Go.Proofs.Ytbjoddpaefecmaa.fnExactGoodMix
namespace Go.Proofs.Ytbjoddpaefecmaa
/-- The row, under a short name, for the claim. -/
theorem fnExactGoodMix_holds : Rows.FnExactGoodMixSaid := fnExactGoodMix.proved
end Go.Proofs.Ytbjoddpaefecmaa
