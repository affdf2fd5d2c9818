/- Proved: GoodClaim of the program and of the reference answer alike at every claim. Conditions: those of the given statement alone. -/
import Derived.Test.YtkboogeadijoeaaPFnExactGoodClaimx1
import Derived.Test.YtkboogeadijoeaaBase
set_option linter.unusedVariables false
set_option linter.unusedSimpArgs false
namespace Go.Proofs.Ytkboogeadijoeaa.Pure
open Go.RowKit Go.Proofs.Ytkboogeadijoeaa.PFnExactGoodClaim Go.Proofs.Ytkboogeadijoeaa.Base Go.Proofs.YtkboogeadijoeaaW.PrintWords Go.Proofs.YtkboogeadijoeaaW.PrintLast Go.Proofs.YtkboogeadijoeaaW.PrintMore

theorem l1In_eq (a b c : Int) : spec_l1In.f a b c = some (decide (b ≤ a ∧ a ≤ c)) := by
  unfold spec_l1In.f
  by_cases h : a ≥ b
  · rw [if_pos h]
    congr 1
    exact decide_eq_decide.2 ⟨fun h1 => ⟨h, h1⟩, fun h1 => h1.2⟩
  · rw [if_neg h, decide_eq_false (fun h1 => h h1.1)]

theorem within_eq (a b c : Int) : impl_within.f a b c = some (decide (b ≤ a ∧ a ≤ c)) := by
  unfold impl_within.f
  by_cases h : a ≥ b
  · rw [if_pos h]
    congr 1
    exact decide_eq_decide.2 ⟨fun h1 => ⟨h, h1⟩, fun h1 => h1.2⟩
  · rw [if_neg h, decide_eq_false (fun h1 => h h1.1)]

theorem FnExactGoodClaim : laws_FnExactGoodClaim.Pure := by
  intro a b c _ _ _
  have h : ∃ r, spec_GoodClaim.f a b c = some r ∧ impl_GoodClaim.f a b c = some r := by
    unfold spec_GoodClaim.f impl_GoodClaim.f impl_isLetterNumber.f
    simp only [l1In_eq, within_eq, Option.bind_some]
    split
    · split <;> exact ⟨_, rfl, rfl⟩
    · exact ⟨_, rfl, rfl⟩
  obtain ⟨r, h1, h2⟩ := h
  unfold laws_FnExactGoodClaim.f laws_toClaim.f
  simp only [Option.bind_some, h1, h2, bne_self_eq_false, Bool.false_eq_true, if_false]

end Go.Proofs.Ytkboogeadijoeaa.Pure
