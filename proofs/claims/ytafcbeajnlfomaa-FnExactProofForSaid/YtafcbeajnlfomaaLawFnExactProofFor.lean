-- Written by a program of this session, after the kit's print (changed in some places; see NOTES.md). Lean checks it.
import Derived.Test.YtafcbeajnlfomaaRows
import Derived.Test.YtafcbeajnlfomaaPFnExactProofForx4
import Derived.Test.YtafcbeajnlfomaaOpn
import Derived.Test.YtafcbeajnlfomaaPureFnExactProofFor
import Derived.WalkKit
import Derived.ProofKit
import Derived.OpenShut
import Derived.ShutString
import Derived.ChangeOld
import Derived.Below
import Derived.SizedLaws
namespace Go.Proofs.Ytafcbeajnlfomaa.fnExactProofFor
open Go.ChangeShapes Go.WideShapes Go.ChangeAt Go.RowKit Go.Deep Go.Proofs.Ytafcbeajnlfomaa.Opn Go.Proofs.Ytafcbeajnlfomaa.PFnExactProofFor Go.Proofs.YtafcbeajnlfomaaW.PrintWords
open Go.ChangeMaps (open_string shut_string)
set_option linter.unusedVariables false
theorem own : ownKnob Try.prog.godebug = none := by kernel_rfl
theorem laidOut : laidOutB Try.prog = true := by kernel_rfl
theorem opensS33 {H : Type} {enc : TypeId × Value → H} {w : World} {base : Nat} {spare : Nat → Bool} {held : Bool} : Opens enc Try.prog w base spare held 33 k33 (fun x => ((Lit.int .i64 x.f0).wf = true ∧ (Lit.int .i64 x.f1).wf = true ∧ (Lit.int .i64 x.f2).wf = true ∧ (Lit.int .i64 x.f3).wf = true)) := by
  intro fuel cs x h
  obtain ⟨hl, n, hf⟩ := struct_cells Try.underlying33 (by kernel_rfl) (by kernel_rfl) h
  obtain ⟨c0, c1, c2, c3, rfl⟩ := list4 (l := cs) hl
  obtain ⟨y0, t0⟩ := hf 0 _ c0 rfl rfl
  obtain ⟨a0, rfl, g0⟩ := int_cell (opens_int Try.underlying3) t0
  obtain ⟨y1, t1⟩ := hf 1 _ c1 rfl rfl
  obtain ⟨a1, rfl, g1⟩ := int_cell (opens_int Try.underlying3) t1
  obtain ⟨y2, t2⟩ := hf 2 _ c2 rfl rfl
  obtain ⟨a2, rfl, g2⟩ := int_cell (opens_int Try.underlying3) t2
  obtain ⟨y3, t3⟩ := hf 3 _ c3 rfl rfl
  obtain ⟨a3, rfl, g3⟩ := int_cell (opens_int Try.underlying3) t3
  exact ⟨⟨a0, a1, a2, a3⟩, k33_mk w ⟨a0, a1, a2, a3⟩, g0, g1, g2, g3⟩
set_option maxRecDepth 100000 in
set_option maxHeartbeats 1000000 in
theorem lifted (os : Os) (started : os.Started) (H : Type) (enc : TypeId × Value → H) :
    ReturnsInHanded {} Try.checked os 9 .any (Rows.fnExactProofForSpec.pre6 enc Try.prog Try.f9 Rows.fnExactProofForRow.domain false) (Rows.fnExactProofForSpec.post enc Try.prog Try.f9 false true false false) := by
  refine returnsInHanded_of_change_sized (C := Try.checked) own started (by kernel_rfl) Try.func9
    (ChangeSpec.witness6 (enc := enc) (C := Try.checked) false ⟨#[], #[.agg #[.slice none 0 0, .int .i64 0, .int .i64 0, .slice none 0 0, .int .i64 0], .int .i64 0], []⟩ 8 (by kernel_rfl) (by kernel_rfl) (by kernel_rfl) (by kernel_rfl)) ?_
  intro W base args ds gs before hval0 hW hcnd hsz0 _
  have hval : ∀ (j : Nat) t v, Try.f9.params[j]? = some t → args[j]? = some v → Value.okWide Try.prog W .any base t v := hval0
  have hW' := hW
  obtain ⟨p, q, hA0, hV, rfl, hfz, hnd⟩ := hW
  have hA : DataW.TrodAll enc Try.prog W 0 (fun _ => true) true Try.f9.params.toList args.toList ds p := hA0
  rw [Try.params9] at hA hval
  obtain ⟨v0, vs0, d0, ds0, p0, q0, hargs, rfl, rfl, h0, r0⟩ := trodAll_cons hA
  obtain ⟨v1, vs1, d1, ds1, p1, q1, rfl, rfl, rfl, h1, r1⟩ := trodAll_cons r0
  obtain ⟨rfl, rfl, rfl⟩ := trodAll_nil r1
  obtain rfl : args = #[v0, v1] := by cases args; simp_all
  obtain ⟨rfl, rfl⟩ := trodVars_none hV
  have k0 := h0
  have lt0 : ∀ x ∈ p0, x.block < W.heap.size := by obtain ⟨m, hm⟩ := k0; exact DataW.trod_lt m _ _ _ hm
  obtain ⟨cs0, rfl, hl0, n0, hf0⟩ := struct_arg Try.underlying63 (by kernel_rfl) (by kernel_rfl) (hval 0 63 v0 rfl rfl) h0
  obtain ⟨c0_0v, c0_1v, c0_2v, c0_3v, c0_4v, rfl⟩ := list5 (l := cs0) hl0
  obtain ⟨y0_0, t0_0⟩ := hf0 0 _ c0_0v rfl rfl
  obtain ⟨A0_0, c0_0, l0_0, rfl, hc0_0, hr0_0, g0_0⟩ := slice_cell (opens_slice Try.underlying39 (by kernel_rfl) (opens_int Try.underlying3)) t0_0
  obtain ⟨y0_1, t0_1⟩ := hf0 1 _ c0_1v rfl rfl
  obtain ⟨a0_1, rfl, g0_1⟩ := int_cell (opens_int Try.underlying3) t0_1
  obtain ⟨y0_2, t0_2⟩ := hf0 2 _ c0_2v rfl rfl
  obtain ⟨a0_2, rfl, g0_2⟩ := int_cell (opens_int Try.underlying3) t0_2
  obtain ⟨y0_3, t0_3⟩ := hf0 3 _ c0_3v rfl rfl
  obtain ⟨A0_3, c0_3, l0_3, rfl, hc0_3, hr0_3, g0_3⟩ := slice_cell (opens_slice Try.underlying46 (by kernel_rfl) opensS33) t0_3
  obtain ⟨y0_4, t0_4⟩ := hf0 4 _ c0_4v rfl rfl
  obtain ⟨a0_4, rfl, g0_4⟩ := int_cell (opens_int Try.underlying3) t0_4
  obtain ⟨a1, rfl, rfl, rfl, g1⟩ := open_int Try.underlying3 (hval 1 3 v1 rfl rfl) h1
  clear hA0 hval0 hsz0
  obtain ⟨kk, hp⟩ := Pure.FnExactProofFor l0_0 a0_1 a0_2 l0_3 a0_4 a1 g0_0 g0_1 g0_2 g0_3 g0_4 g1
  refine (laws_FnExactProofFor.calls kk A0_0 c0_0 l0_0 a0_1 a0_2 A0_3 c0_3 l0_3 a0_4 a1 true W hr0_0 hc0_0 hr0_3 hc0_3 hp ⟨rfl⟩).mono fun e W' hq => ?_
  obtain ⟨rfl, bel0⟩ := hq
  have bel : Below W.heap.size W W' := bel0
  exact ⟨_, rfl, _, _, _, [], _, [], hW', trodAll_mk1 (shut_bool Try.underlying4 _), (trodAll_cons_mk (Below.trod laidOut (by kernel_rfl) (of_decide_eq_true (by kernel_rfl)) k0 bel lt0) (trodAll_cons_mk (shut_int Try.underlying3 g1) trodAll_mk0)), rfl, bel.frame _, fun h => by cases h⟩
theorem over : Rows.fnExactProofForRow.holds Try.pinned (OpenSpec.ofChange Rows.fnExactProofForSpec) :=
  OpenClaim.holds_of_wide 9 Try.f9 rfl rfl rfl rfl rfl rfl rfl ⟨rfl, rfl, rfl, rfl, rfl⟩ rfl rfl rfl rfl rfl (by kernel_rfl) Try.func9 (by kernel_rfl)
    (of_decide_eq_true (by kernel_rfl)) (by unfold Func.isWrapper; first | (rw [if_pos (by decide +kernel)]; kernel_rfl) | (rw [if_neg (by decide +kernel)]; exact ⟨rfl, rfl⟩))
    (fun os started H enc _ => lifted os started H enc)
theorem proved : Rows.FnExactProofForSaid := over
#print axioms proved
end Go.Proofs.Ytafcbeajnlfomaa.fnExactProofFor
namespace Go.Proofs.Ytafcbeajnlfomaa
/-- The row, under a short name, for the claim. -/
theorem fnExactProofFor_holds : Rows.FnExactProofForSaid := fnExactProofFor.proved
end Go.Proofs.Ytafcbeajnlfomaa
