-- Written by a program of this session, after the kit's print (changed in some places; see NOTES.md). Lean checks it.
import Derived.Test.YtafcbeajnlfomaaRows
import Derived.Test.YtafcbeajnlfomaaPFnExactCheckReceiptx2
import Derived.Test.YtafcbeajnlfomaaOpn
import Derived.Test.YtafcbeajnlfomaaPureFnExactCheckReceipt
import Derived.WalkKit
import Derived.ProofKit
import Derived.OpenShut
import Derived.ShutString
import Derived.ChangeOld
import Derived.Below
import Derived.SizedLaws
namespace Go.Proofs.Ytafcbeajnlfomaa.fnExactCheckReceipt
open Go.ChangeShapes Go.WideShapes Go.ChangeAt Go.RowKit Go.Deep Go.Proofs.Ytafcbeajnlfomaa.Opn Go.Proofs.Ytafcbeajnlfomaa.PFnExactCheckReceipt Go.Proofs.YtafcbeajnlfomaaW.PrintWords
open Go.ChangeMaps (open_string shut_string)
set_option linter.unusedVariables false
theorem own : ownKnob Try.prog.godebug = none := by kernel_rfl
theorem laidOut : laidOutB Try.prog = true := by kernel_rfl
set_option maxRecDepth 100000 in
set_option maxHeartbeats 1000000 in
theorem lifted (os : Os) (started : os.Started) (H : Type) (enc : TypeId × Value → H) :
    ReturnsInHanded {} Try.checked os 4 .any (Rows.fnExactCheckReceiptSpec.pre6 enc Try.prog Try.f4 Rows.fnExactCheckReceiptRow.domain false) (Rows.fnExactCheckReceiptSpec.post enc Try.prog Try.f4 false true false false) := by
  refine returnsInHanded_of_change_sized (C := Try.checked) own started (by kernel_rfl) Try.func4
    (ChangeSpec.witness6 (enc := enc) (C := Try.checked) false ⟨#[], #[.int .i64 0, .agg #[.int .i64 0, .int .i64 0, .int .i64 0, .int .i64 0]], []⟩ 8 (by kernel_rfl) (by kernel_rfl) (by kernel_rfl) (by kernel_rfl)) ?_
  intro W base args ds gs before hval0 hW hcnd hsz0 _
  have hval : ∀ (j : Nat) t v, Try.f4.params[j]? = some t → args[j]? = some v → Value.okWide Try.prog W .any base t v := hval0
  have hW' := hW
  obtain ⟨p, q, hA0, hV, rfl, hfz, hnd⟩ := hW
  have hA : DataW.TrodAll enc Try.prog W 0 (fun _ => true) true Try.f4.params.toList args.toList ds p := hA0
  rw [Try.params4] at hA hval
  obtain ⟨v0, vs0, d0, ds0, p0, q0, hargs, rfl, rfl, h0, r0⟩ := trodAll_cons hA
  obtain ⟨v1, vs1, d1, ds1, p1, q1, rfl, rfl, rfl, h1, r1⟩ := trodAll_cons r0
  obtain ⟨rfl, rfl, rfl⟩ := trodAll_nil r1
  obtain rfl : args = #[v0, v1] := by cases args; simp_all
  obtain ⟨rfl, rfl⟩ := trodVars_none hV
  obtain ⟨a0, rfl, rfl, rfl, g0⟩ := open_int Try.underlying3 (hval 0 3 v0 rfl rfl) h0
  have k1 := h1
  have lt1 : ∀ x ∈ p1, x.block < W.heap.size := by obtain ⟨m, hm⟩ := k1; exact DataW.trod_lt m _ _ _ hm
  obtain ⟨cs1, rfl, hl1, n1, hf1⟩ := struct_arg Try.underlying33 (by kernel_rfl) (by kernel_rfl) (hval 1 33 v1 rfl rfl) h1
  obtain ⟨c1_0v, c1_1v, c1_2v, c1_3v, rfl⟩ := list4 (l := cs1) hl1
  obtain ⟨y1_0, t1_0⟩ := hf1 0 _ c1_0v rfl rfl
  obtain ⟨a1_0, rfl, g1_0⟩ := int_cell (opens_int Try.underlying3) t1_0
  obtain ⟨y1_1, t1_1⟩ := hf1 1 _ c1_1v rfl rfl
  obtain ⟨a1_1, rfl, g1_1⟩ := int_cell (opens_int Try.underlying3) t1_1
  obtain ⟨y1_2, t1_2⟩ := hf1 2 _ c1_2v rfl rfl
  obtain ⟨a1_2, rfl, g1_2⟩ := int_cell (opens_int Try.underlying3) t1_2
  obtain ⟨y1_3, t1_3⟩ := hf1 3 _ c1_3v rfl rfl
  obtain ⟨a1_3, rfl, g1_3⟩ := int_cell (opens_int Try.underlying3) t1_3
  clear hA0 hval0 hsz0
  obtain ⟨kk, hp⟩ := Pure.FnExactCheckReceipt a0 a1_0 a1_1 a1_2 a1_3 g0 g1_0 g1_1 g1_2 g1_3
  refine (laws_FnExactCheckReceipt.calls kk a0 a1_0 a1_1 a1_2 a1_3 true W  hp ⟨rfl⟩).mono fun e W' hq => ?_
  obtain ⟨rfl, bel0⟩ := hq
  have bel : Below W.heap.size W W' := bel0
  exact ⟨_, rfl, _, _, _, [], _, [], hW', trodAll_mk1 (shut_bool Try.underlying4 _), (trodAll_cons_mk (shut_int Try.underlying3 g0) (trodAll_cons_mk (Below.trod laidOut (by kernel_rfl) (of_decide_eq_true (by kernel_rfl)) k1 bel lt1) trodAll_mk0)), rfl, bel.frame _, fun h => by cases h⟩
theorem over : Rows.fnExactCheckReceiptRow.holds Try.pinned (OpenSpec.ofChange Rows.fnExactCheckReceiptSpec) :=
  OpenClaim.holds_of_wide 4 Try.f4 rfl rfl rfl rfl rfl rfl rfl ⟨rfl, rfl, rfl, rfl, rfl⟩ rfl rfl rfl rfl rfl (by kernel_rfl) Try.func4 (by kernel_rfl)
    (of_decide_eq_true (by kernel_rfl)) (by unfold Func.isWrapper; first | (rw [if_pos (by decide +kernel)]; kernel_rfl) | (rw [if_neg (by decide +kernel)]; exact ⟨rfl, rfl⟩))
    (fun os started H enc _ => lifted os started H enc)
theorem proved : Rows.FnExactCheckReceiptSaid := over
#print axioms proved
end Go.Proofs.Ytafcbeajnlfomaa.fnExactCheckReceipt
namespace Go.Proofs.Ytafcbeajnlfomaa
/-- The row, under a short name, for the claim. -/
theorem fnExactCheckReceipt_holds : Rows.FnExactCheckReceiptSaid := fnExactCheckReceipt.proved
end Go.Proofs.Ytafcbeajnlfomaa
