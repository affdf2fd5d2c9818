-- Written by a program of this session, after the kit's print (changed in some places; see NOTES.md). Lean checks it.
import Derived.Test.YtafcbeajnlfomaaRows
import Derived.Test.YtafcbeajnlfomaaPFnExactWholeTripx5
import Derived.Test.YtafcbeajnlfomaaOpn
import Derived.Test.YtafcbeajnlfomaaPureFnExactWholeTrip
import Derived.WalkKit
import Derived.ProofKit
import Derived.OpenShut
import Derived.ShutString
import Derived.ChangeOld
import Derived.Below
import Derived.SizedLaws
namespace Go.Proofs.Ytafcbeajnlfomaa.fnExactWholeTrip
open Go.ChangeShapes Go.WideShapes Go.ChangeAt Go.RowKit Go.Deep Go.Proofs.Ytafcbeajnlfomaa.Opn Go.Proofs.Ytafcbeajnlfomaa.PFnExactWholeTrip Go.Proofs.YtafcbeajnlfomaaW.PrintWords
open Go.ChangeMaps (open_string shut_string)
set_option linter.unusedVariables false
theorem own : ownKnob Try.prog.godebug = none := by kernel_rfl
theorem laidOut : laidOutB Try.prog = true := by kernel_rfl
theorem opensS33 {H : Type} {enc : TypeId × Value → H} {w : World} {base : Nat} {spare : Nat → Bool} {held : Bool} : Opens enc Try.prog w base spare held 33 k33 (fun x => ((Lit.int .i64 x.f0).wf = true ∧ (Lit.int .i64 x.f1).wf = true ∧ (Lit.int .i64 x.f2).wf = true ∧ (Lit.int .i64 x.f3).wf = true)) := by
  intro fuel cs x h
  obtain ⟨hl, n, hf⟩ := struct_cells Try.underlying33 (by kernel_rfl) (by kernel_rfl) h
  obtain ⟨c0, c1, c2, c3, rfl⟩ := list4 (l := cs) hl
  obtain ⟨y0, t0⟩ := hf 0 _ c0 rfl rfl
  obtain ⟨a0, rfl, g0⟩ := int_cell (opens_int Try.underlying3) t0
  obtain ⟨y1, t1⟩ := hf 1 _ c1 rfl rfl
  obtain ⟨a1, rfl, g1⟩ := int_cell (opens_int Try.underlying3) t1
  obtain ⟨y2, t2⟩ := hf 2 _ c2 rfl rfl
  obtain ⟨a2, rfl, g2⟩ := int_cell (opens_int Try.underlying3) t2
  obtain ⟨y3, t3⟩ := hf 3 _ c3 rfl rfl
  obtain ⟨a3, rfl, g3⟩ := int_cell (opens_int Try.underlying3) t3
  exact ⟨⟨a0, a1, a2, a3⟩, k33_mk w ⟨a0, a1, a2, a3⟩, g0, g1, g2, g3⟩
set_option maxRecDepth 100000 in
set_option maxHeartbeats 1000000 in
theorem lifted (os : Os) (started : os.Started) (H : Type) (enc : TypeId × Value → H) :
    ReturnsInHanded {} Try.checked os 7 .any (Rows.fnExactWholeTripSpec.pre6 enc Try.prog Try.f7 Rows.fnExactWholeTripRow.domain false) (Rows.fnExactWholeTripSpec.post enc Try.prog Try.f7 false true false false) := by
  refine returnsInHanded_of_change_sized (C := Try.checked) own started (by kernel_rfl) Try.func7
    (ChangeSpec.witness6 (enc := enc) (C := Try.checked) false ⟨#[], #[.slice none 0 0, .int .i64 0, .slice none 0 0], []⟩ 8 (by kernel_rfl) (by kernel_rfl) (by kernel_rfl) (by kernel_rfl)) ?_
  intro W base args ds gs before hval0 hW hcnd hsz0 _
  have hval : ∀ (j : Nat) t v, Try.f7.params[j]? = some t → args[j]? = some v → Value.okWide Try.prog W .any base t v := hval0
  have hW' := hW
  obtain ⟨p, q, hA0, hV, rfl, hfz, hnd⟩ := hW
  have hA : DataW.TrodAll enc Try.prog W 0 (fun _ => true) true Try.f7.params.toList args.toList ds p := hA0
  rw [Try.params7] at hA hval
  obtain ⟨v0, vs0, d0, ds0, p0, q0, hargs, rfl, rfl, h0, r0⟩ := trodAll_cons hA
  obtain ⟨v1, vs1, d1, ds1, p1, q1, rfl, rfl, rfl, h1, r1⟩ := trodAll_cons r0
  obtain ⟨v2, vs2, d2, ds2, p2, q2, rfl, rfl, rfl, h2, r2⟩ := trodAll_cons r1
  obtain ⟨rfl, rfl, rfl⟩ := trodAll_nil r2
  obtain rfl : args = #[v0, v1, v2] := by cases args; simp_all
  obtain ⟨rfl, rfl⟩ := trodVars_none hV
  have k0 := h0
  have lt0 : ∀ x ∈ p0, x.block < W.heap.size := by obtain ⟨m, hm⟩ := k0; exact DataW.trod_lt m _ _ _ hm
  obtain ⟨A0, len0, c0, rfl⟩ := okWide_slice Try.underlying39 (hval 0 39 v0 rfl rfl)
  obtain ⟨l0, rfl, hc0, hr0, g0⟩ := slice_arg (opens_slice Try.underlying39 (by kernel_rfl) (opens_int Try.underlying3)) h0
  obtain ⟨a1, rfl, rfl, rfl, g1⟩ := open_int Try.underlying3 (hval 1 3 v1 rfl rfl) h1
  have k2 := h2
  have lt2 : ∀ x ∈ p2, x.block < W.heap.size := by obtain ⟨m, hm⟩ := k2; exact DataW.trod_lt m _ _ _ hm
  obtain ⟨A2, len2, c2, rfl⟩ := okWide_slice Try.underlying46 (hval 2 46 v2 rfl rfl)
  obtain ⟨l2, rfl, hc2, hr2, g2⟩ := slice_arg (opens_slice Try.underlying46 (by kernel_rfl) opensS33) h2
  clear hA0 hval0 hsz0
  obtain ⟨kk, hp⟩ := Pure.FnExactWholeTrip l0 a1 l2 g0 g1 g2
  refine (laws_FnExactWholeTrip.calls kk A0 c0 l0 a1 A2 c2 l2 true W hr0 hc0 hr2 hc2 hp ⟨rfl⟩).mono fun e W' hq => ?_
  obtain ⟨rfl, bel0⟩ := hq
  have bel : Below W.heap.size W W' := bel0
  exact ⟨_, rfl, _, _, _, [], _, [], hW', trodAll_mk1 (shut_bool Try.underlying4 _), (trodAll_cons_mk (Below.trod laidOut (by kernel_rfl) (of_decide_eq_true (by kernel_rfl)) k0 bel lt0) (trodAll_cons_mk (shut_int Try.underlying3 g1) (trodAll_cons_mk (Below.trod laidOut (by kernel_rfl) (of_decide_eq_true (by kernel_rfl)) k2 bel lt2) trodAll_mk0))), rfl, bel.frame _, fun h => by cases h⟩
theorem over : Rows.fnExactWholeTripRow.holds Try.pinned (OpenSpec.ofChange Rows.fnExactWholeTripSpec) :=
  OpenClaim.holds_of_wide 7 Try.f7 rfl rfl rfl rfl rfl rfl rfl ⟨rfl, rfl, rfl, rfl, rfl⟩ rfl rfl rfl rfl rfl (by kernel_rfl) Try.func7 (by kernel_rfl)
    (of_decide_eq_true (by kernel_rfl)) (by unfold Func.isWrapper; first | (rw [if_pos (by decide +kernel)]; kernel_rfl) | (rw [if_neg (by decide +kernel)]; exact ⟨rfl, rfl⟩))
    (fun os started H enc _ => lifted os started H enc)
theorem proved : Rows.FnExactWholeTripSaid := over
#print axioms proved
end Go.Proofs.Ytafcbeajnlfomaa.fnExactWholeTrip
namespace Go.Proofs.Ytafcbeajnlfomaa
/-- The row, under a short name, for the claim. -/
theorem fnExactWholeTrip_holds : Rows.FnExactWholeTripSaid := fnExactWholeTrip.proved
end Go.Proofs.Ytafcbeajnlfomaa
