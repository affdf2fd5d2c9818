-- Written by a program of this session, after the kit's print (changed in some places; see NOTES.md). Lean checks it.
import Derived.Test.YtaiejbcpahcfmaaRows
import Derived.Test.YtaiejbcpahcfmaaPFnExactOpenAllx3
import Derived.Test.YtaiejbcpahcfmaaOpn
import Derived.Test.YtaiejbcpahcfmaaPureFnExactOpenAll
import Derived.WalkKit
import Derived.ProofKit
import Derived.OpenShut
import Derived.ShutString
import Derived.ChangeOld
import Derived.Below
import Derived.SizedLaws
namespace Go.Proofs.Ytaiejbcpahcfmaa.fnExactOpenAll
open Go.ChangeShapes Go.WideShapes Go.ChangeAt Go.RowKit Go.Deep Go.Proofs.Ytaiejbcpahcfmaa.Opn Go.Proofs.Ytaiejbcpahcfmaa.PFnExactOpenAll Go.Proofs.YtaiejbcpahcfmaaW.PrintWords
open Go.ChangeMaps (open_string shut_string)
set_option linter.unusedVariables false
theorem own : ownKnob Try.prog.godebug = none := by kernel_rfl
theorem laidOut : laidOutB Try.prog = true := by kernel_rfl
set_option maxRecDepth 100000 in
set_option maxHeartbeats 1000000 in
theorem lifted (os : Os) (started : os.Started) (H : Type) (enc : TypeId × Value → H) :
    ReturnsInHanded {} Try.checked os 3 .any (Rows.fnExactOpenAllSpec.pre6 enc Try.prog Try.f3 Rows.fnExactOpenAllRow.domain false) (Rows.fnExactOpenAllSpec.post enc Try.prog Try.f3 false true false false) := by
  refine returnsInHanded_of_change_sized (C := Try.checked) own started (by kernel_rfl) Try.func3
    (ChangeSpec.witness6 (enc := enc) (C := Try.checked) false ⟨#[], #[.slice none 0 0, .agg #[.int .i64 0, .int .i64 0]], []⟩ 8 (by kernel_rfl) (by kernel_rfl) (by kernel_rfl) (by kernel_rfl)) ?_
  intro W base args ds gs before hval0 hW hcnd hsz0 _
  have hval : ∀ (j : Nat) t v, Try.f3.params[j]? = some t → args[j]? = some v → Value.okWide Try.prog W .any base t v := hval0
  have hW' := hW
  obtain ⟨p, q, hA0, hV, rfl, hfz, hnd⟩ := hW
  have hA : DataW.TrodAll enc Try.prog W 0 (fun _ => true) true Try.f3.params.toList args.toList ds p := hA0
  rw [Try.params3] at hA hval
  obtain ⟨v0, vs0, d0, ds0, p0, q0, hargs, rfl, rfl, h0, r0⟩ := trodAll_cons hA
  obtain ⟨v1, vs1, d1, ds1, p1, q1, rfl, rfl, rfl, h1, r1⟩ := trodAll_cons r0
  obtain ⟨rfl, rfl, rfl⟩ := trodAll_nil r1
  obtain rfl : args = #[v0, v1] := by cases args; simp_all
  obtain ⟨rfl, rfl⟩ := trodVars_none hV
  have k0 := h0
  have lt0 : ∀ x ∈ p0, x.block < W.heap.size := by obtain ⟨m, hm⟩ := k0; exact DataW.trod_lt m _ _ _ hm
  obtain ⟨A0, len0, c0, rfl⟩ := okWide_slice Try.underlying22 (hval 0 22 v0 rfl rfl)
  obtain ⟨l0, rfl, hc0, hr0, g0⟩ := slice_arg (opens_slice Try.underlying22 (by kernel_rfl) (opens_int Try.underlying3)) h0
  have k1 := h1
  have lt1 : ∀ x ∈ p1, x.block < W.heap.size := by obtain ⟨m, hm⟩ := k1; exact DataW.trod_lt m _ _ _ hm
  obtain ⟨cs1, rfl, hl1, n1, hf1⟩ := struct_arg Try.underlying24 (by kernel_rfl) (by kernel_rfl) (hval 1 24 v1 rfl rfl) h1
  obtain ⟨c1_0v, c1_1v, rfl⟩ := list2 (l := cs1) hl1
  obtain ⟨y1_0, t1_0⟩ := hf1 0 _ c1_0v rfl rfl
  obtain ⟨a1_0, rfl, g1_0⟩ := int_cell (opens_int Try.underlying3) t1_0
  obtain ⟨y1_1, t1_1⟩ := hf1 1 _ c1_1v rfl rfl
  obtain ⟨a1_1, rfl, g1_1⟩ := int_cell (opens_int Try.underlying3) t1_1
  clear hA0 hval0 hsz0
  obtain ⟨kk, hp⟩ := Pure.FnExactOpenAll l0 a1_0 a1_1 g0 g1_0 g1_1
  refine (laws_FnExactOpenAll.calls kk A0 c0 l0 a1_0 a1_1 true W hr0 hc0 hp ⟨rfl⟩).mono fun e W' hq => ?_
  obtain ⟨rfl, bel0⟩ := hq
  have bel : Below W.heap.size W W' := bel0
  exact ⟨_, rfl, _, _, _, [], _, [], hW', trodAll_mk1 (shut_bool Try.underlying4 _), (trodAll_cons_mk (Below.trod laidOut (by kernel_rfl) (of_decide_eq_true (by kernel_rfl)) k0 bel lt0) (trodAll_cons_mk (Below.trod laidOut (by kernel_rfl) (of_decide_eq_true (by kernel_rfl)) k1 bel lt1) trodAll_mk0)), rfl, bel.frame _, fun h => by cases h⟩
theorem over : Rows.fnExactOpenAllRow.holds Try.pinned (OpenSpec.ofChange Rows.fnExactOpenAllSpec) :=
  OpenClaim.holds_of_wide 3 Try.f3 rfl rfl rfl rfl rfl rfl rfl ⟨rfl, rfl, rfl, rfl, rfl⟩ rfl rfl rfl rfl rfl (by kernel_rfl) Try.func3 (by kernel_rfl)
    (of_decide_eq_true (by kernel_rfl)) (by unfold Func.isWrapper; first | (rw [if_pos (by decide +kernel)]; kernel_rfl) | (rw [if_neg (by decide +kernel)]; exact ⟨rfl, rfl⟩))
    (fun os started H enc _ => lifted os started H enc)
theorem proved : Rows.FnExactOpenAllSaid := over
#print axioms proved
end Go.Proofs.Ytaiejbcpahcfmaa.fnExactOpenAll
namespace Go.Proofs.Ytaiejbcpahcfmaa
/-- The row, under a short name, for the claim. -/
theorem fnExactOpenAll_holds : Rows.FnExactOpenAllSaid := fnExactOpenAll.proved
end Go.Proofs.Ytaiejbcpahcfmaa
