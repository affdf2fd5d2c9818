-- Written by a program of this session, after the kit's print (changed in some places; see NOTES.md). Lean checks it.
import Derived.Test.YtdiehchbbhlfgaaRows
import Derived.Test.YtdiehchbbhlfgaaPFnExactPlayCoverx9
import Derived.Test.YtdiehchbbhlfgaaOpn
import Derived.Test.YtdiehchbbhlfgaaPureFnExactPlayCover
import Derived.WalkKit
import Derived.ProofKit
import Derived.OpenShut
import Derived.ShutString
import Derived.ChangeOld
import Derived.Below
import Derived.SizedLaws
namespace Go.Proofs.Ytdiehchbbhlfgaa.fnExactPlayCover
open Go.ChangeShapes Go.WideShapes Go.ChangeAt Go.RowKit Go.Deep Go.Proofs.Ytdiehchbbhlfgaa.Opn Go.Proofs.Ytdiehchbbhlfgaa.PFnExactPlayCover Go.Proofs.YtdiehchbbhlfgaaW.PrintWords
open Go.ChangeMaps (open_string shut_string)
set_option linter.unusedVariables false
theorem own : ownKnob Try.prog.godebug = none := by kernel_rfl
theorem laidOut : laidOutB Try.prog = true := by kernel_rfl
theorem opensS54 {H : Type} {enc : TypeId × Value → H} {w : World} {base : Nat} {spare : Nat → Bool} {held : Bool} : Opens enc Try.prog w base spare held 54 k54 (fun x => ((Lit.int .i64 x.f0).wf = true ∧ x.f1.size ≤ maxLen)) := by
  intro fuel cs x h
  obtain ⟨hl, n, hf⟩ := struct_cells Try.underlying54 (by kernel_rfl) (by kernel_rfl) h
  obtain ⟨c0, c1, rfl⟩ := list2 (l := cs) hl
  obtain ⟨y0, t0⟩ := hf 0 _ c0 rfl rfl
  obtain ⟨a0, rfl, g0⟩ := int_cell (opens_int Try.underlying3) t0
  obtain ⟨y1, t1⟩ := hf 1 _ c1 rfl rfl
  obtain ⟨a1, rfl, g1⟩ := string_cell (opens_string Try.underlying9) t1
  exact ⟨⟨a0, a1⟩, k54_mk w ⟨a0, a1⟩, g0, g1⟩
set_option maxRecDepth 100000 in
set_option maxHeartbeats 1000000 in
theorem lifted (os : Os) (started : os.Started) (H : Type) (enc : TypeId × Value → H) :
    ReturnsInHanded {} Try.checked os 9 .any (Rows.fnExactPlayCoverSpec.pre6 enc Try.prog Try.f9 Rows.fnExactPlayCoverRow.domain false) (Rows.fnExactPlayCoverSpec.post enc Try.prog Try.f9 false true false false) := by
  refine returnsInHanded_of_change_sized (C := Try.checked) own started (by kernel_rfl) Try.func9
    (ChangeSpec.witness6 (enc := enc) (C := Try.checked) false ⟨#[], #[.int .i64 0, .slice none 0 0], []⟩ 8 (by kernel_rfl) (by kernel_rfl) (by kernel_rfl) (by kernel_rfl)) ?_
  intro W base args ds gs before hval0 hW hcnd hsz0 _
  have hval : ∀ (j : Nat) t v, Try.f9.params[j]? = some t → args[j]? = some v → Value.okWide Try.prog W .any base t v := hval0
  have hW' := hW
  obtain ⟨p, q, hA0, hV, rfl, hfz, hnd⟩ := hW
  have hA : DataW.TrodAll enc Try.prog W 0 (fun _ => true) true Try.f9.params.toList args.toList ds p := hA0
  rw [Try.params9] at hA hval
  obtain ⟨v0, vs0, d0, ds0, p0, q0, hargs, rfl, rfl, h0, r0⟩ := trodAll_cons hA
  obtain ⟨v1, vs1, d1, ds1, p1, q1, rfl, rfl, rfl, h1, r1⟩ := trodAll_cons r0
  obtain ⟨rfl, rfl, rfl⟩ := trodAll_nil r1
  obtain rfl : args = #[v0, v1] := by cases args; simp_all
  obtain ⟨rfl, rfl⟩ := trodVars_none hV
  obtain ⟨a0, rfl, rfl, rfl, g0⟩ := open_int Try.underlying3 (hval 0 3 v0 rfl rfl) h0
  have k1 := h1
  have lt1 : ∀ x ∈ p1, x.block < W.heap.size := by obtain ⟨m, hm⟩ := k1; exact DataW.trod_lt m _ _ _ hm
  obtain ⟨A1, len1, c1, rfl⟩ := okWide_slice Try.underlying41 (hval 1 41 v1 rfl rfl)
  obtain ⟨l1, rfl, hc1, hr1, g1⟩ := slice_arg (opens_slice Try.underlying41 (by kernel_rfl) opensS54) h1
  clear hA0 hval0 hsz0
  obtain ⟨kk, hp⟩ := Pure.FnExactPlayCover a0 l1 g0 g1
  refine (laws_FnExactPlayCover.calls kk a0 A1 c1 l1 true W hr1 hc1 hp ⟨rfl⟩).mono fun e W' hq => ?_
  obtain ⟨rfl, bel0⟩ := hq
  have bel : Below W.heap.size W W' := bel0
  exact ⟨_, rfl, _, _, _, [], _, [], hW', trodAll_mk1 (shut_bool Try.underlying4 _), (trodAll_cons_mk (shut_int Try.underlying3 g0) (trodAll_cons_mk (Below.trod laidOut (by kernel_rfl) (of_decide_eq_true (by kernel_rfl)) k1 bel lt1) trodAll_mk0)), rfl, bel.frame _, fun h => by cases h⟩
theorem over : Rows.fnExactPlayCoverRow.holds Try.pinned (OpenSpec.ofChange Rows.fnExactPlayCoverSpec) :=
  OpenClaim.holds_of_wide 9 Try.f9 rfl rfl rfl rfl rfl rfl rfl ⟨rfl, rfl, rfl, rfl, rfl⟩ rfl rfl rfl rfl rfl (by kernel_rfl) Try.func9 (by kernel_rfl)
    (of_decide_eq_true (by kernel_rfl)) (by unfold Func.isWrapper; first | (rw [if_pos (by decide +kernel)]; kernel_rfl) | (rw [if_neg (by decide +kernel)]; exact ⟨rfl, rfl⟩))
    (fun os started H enc _ => lifted os started H enc)
theorem proved : Rows.FnExactPlayCoverSaid := over
#print axioms proved
end Go.Proofs.Ytdiehchbbhlfgaa.fnExactPlayCover
namespace Go.Proofs.Ytdiehchbbhlfgaa
/-- The row, under a short name, for the claim. -/
theorem fnExactPlayCover_holds : Rows.FnExactPlayCoverSaid := fnExactPlayCover.proved
end Go.Proofs.Ytdiehchbbhlfgaa
