-- Written by a program of this session, after the kit's print (changed in some places; see NOTES.md). Lean checks it.
import Derived.Test.YtafcbeajnlfomaaRows
import Derived.Test.YtafcbeajnlfomaaPFnExactStateForx1
import Derived.Test.YtafcbeajnlfomaaOpn
import Derived.Test.YtafcbeajnlfomaaPureFnExactStateFor
import Derived.WalkKit
import Derived.ProofKit
import Derived.OpenShut
import Derived.ShutString
import Derived.ChangeOld
import Derived.Below
import Derived.SizedLaws
namespace Go.Proofs.Ytafcbeajnlfomaa.fnExactStateFor
open Go.ChangeShapes Go.WideShapes Go.ChangeAt Go.RowKit Go.Deep Go.Proofs.Ytafcbeajnlfomaa.Opn Go.Proofs.Ytafcbeajnlfomaa.PFnExactStateFor Go.Proofs.YtafcbeajnlfomaaW.PrintWords
open Go.ChangeMaps (open_string shut_string)
set_option linter.unusedVariables false
theorem own : ownKnob Try.prog.godebug = none := by kernel_rfl
theorem laidOut : laidOutB Try.prog = true := by kernel_rfl
set_option maxRecDepth 100000 in
set_option maxHeartbeats 1000000 in
theorem lifted (os : Os) (started : os.Started) (H : Type) (enc : TypeId × Value → H) :
    ReturnsInHanded {} Try.checked os 3 .any (Rows.fnExactStateForSpec.pre6 enc Try.prog Try.f3 Rows.fnExactStateForRow.domain false) (Rows.fnExactStateForSpec.post enc Try.prog Try.f3 false true false false) := by
  refine returnsInHanded_of_change_sized (C := Try.checked) own started (by kernel_rfl) Try.func3
    (ChangeSpec.witness6 (enc := enc) (C := Try.checked) false ⟨#[], #[.int .i64 0, .agg #[.int .i64 0, .int .i64 0, .int .i64 0], .bool false], []⟩ 8 (by kernel_rfl) (by kernel_rfl) (by kernel_rfl) (by kernel_rfl)) ?_
  intro W base args ds gs before hval0 hW hcnd hsz0 _
  have hval : ∀ (j : Nat) t v, Try.f3.params[j]? = some t → args[j]? = some v → Value.okWide Try.prog W .any base t v := hval0
  have hW' := hW
  obtain ⟨p, q, hA0, hV, rfl, hfz, hnd⟩ := hW
  have hA : DataW.TrodAll enc Try.prog W 0 (fun _ => true) true Try.f3.params.toList args.toList ds p := hA0
  rw [Try.params3] at hA hval
  obtain ⟨v0, vs0, d0, ds0, p0, q0, hargs, rfl, rfl, h0, r0⟩ := trodAll_cons hA
  obtain ⟨v1, vs1, d1, ds1, p1, q1, rfl, rfl, rfl, h1, r1⟩ := trodAll_cons r0
  obtain ⟨v2, vs2, d2, ds2, p2, q2, rfl, rfl, rfl, h2, r2⟩ := trodAll_cons r1
  obtain ⟨rfl, rfl, rfl⟩ := trodAll_nil r2
  obtain rfl : args = #[v0, v1, v2] := by cases args; simp_all
  obtain ⟨rfl, rfl⟩ := trodVars_none hV
  obtain ⟨a0, rfl, rfl, rfl, g0⟩ := open_int Try.underlying3 (hval 0 3 v0 rfl rfl) h0
  have k1 := h1
  have lt1 : ∀ x ∈ p1, x.block < W.heap.size := by obtain ⟨m, hm⟩ := k1; exact DataW.trod_lt m _ _ _ hm
  obtain ⟨cs1, rfl, hl1, n1, hf1⟩ := struct_arg Try.underlying23 (by kernel_rfl) (by kernel_rfl) (hval 1 23 v1 rfl rfl) h1
  obtain ⟨c1_0v, c1_1v, c1_2v, rfl⟩ := list3 (l := cs1) hl1
  obtain ⟨y1_0, t1_0⟩ := hf1 0 _ c1_0v rfl rfl
  obtain ⟨a1_0, rfl, g1_0⟩ := int_cell (opens_int Try.underlying3) t1_0
  obtain ⟨y1_1, t1_1⟩ := hf1 1 _ c1_1v rfl rfl
  obtain ⟨a1_1, rfl, g1_1⟩ := int_cell (opens_int Try.underlying3) t1_1
  obtain ⟨y1_2, t1_2⟩ := hf1 2 _ c1_2v rfl rfl
  obtain ⟨a1_2, rfl, g1_2⟩ := int_cell (opens_int Try.underlying3) t1_2
  obtain ⟨a2, rfl, rfl, rfl⟩ := open_bool Try.underlying4 (hval 2 4 v2 rfl rfl) h2
  clear hA0 hval0 hsz0
  have hp := Pure.FnExactStateFor a0 a1_0 a1_1 a1_2 a2 g0 g1_0 g1_1 g1_2
  refine (laws_FnExactStateFor.calls a0 a1_0 a1_1 a1_2 a2 true W  hp ⟨rfl⟩).mono fun e W' hq => ?_
  obtain ⟨rfl, bel0⟩ := hq
  have bel : Below W.heap.size W W' := bel0
  exact ⟨_, rfl, _, _, _, [], _, [], hW', trodAll_mk1 (shut_bool Try.underlying4 _), (trodAll_cons_mk (shut_int Try.underlying3 g0) (trodAll_cons_mk (Below.trod laidOut (by kernel_rfl) (of_decide_eq_true (by kernel_rfl)) k1 bel lt1) (trodAll_cons_mk (shut_bool Try.underlying4 _) trodAll_mk0))), rfl, bel.frame _, fun h => by cases h⟩
theorem over : Rows.fnExactStateForRow.holds Try.pinned (OpenSpec.ofChange Rows.fnExactStateForSpec) :=
  OpenClaim.holds_of_wide 3 Try.f3 rfl rfl rfl rfl rfl rfl rfl ⟨rfl, rfl, rfl, rfl, rfl⟩ rfl rfl rfl rfl rfl (by kernel_rfl) Try.func3 (by kernel_rfl)
    (of_decide_eq_true (by kernel_rfl)) (by unfold Func.isWrapper; first | (rw [if_pos (by decide +kernel)]; kernel_rfl) | (rw [if_neg (by decide +kernel)]; exact ⟨rfl, rfl⟩))
    (fun os started H enc _ => lifted os started H enc)
theorem proved : Rows.FnExactStateForSaid := over
#print axioms proved
end Go.Proofs.Ytafcbeajnlfomaa.fnExactStateFor
namespace Go.Proofs.Ytafcbeajnlfomaa
/-- The row, under a short name, for the claim. -/
theorem fnExactStateFor_holds : Rows.FnExactStateForSaid := fnExactStateFor.proved
end Go.Proofs.Ytafcbeajnlfomaa
