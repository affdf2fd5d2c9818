/- Proved: StateFor of the program and of the reference answer alike at all arguments. Conditions: those of the given statement alone. -/
import Derived.Test.YtafcbeajnlfomaaPFnExactStateForx1
import Derived.Test.YtafcbeajnlfomaaBase
set_option linter.unusedVariables false
set_option linter.unusedSimpArgs false
namespace Go.Proofs.Ytafcbeajnlfomaa.Pure
open Go.RowKit Go.Proofs.Ytafcbeajnlfomaa.PFnExactStateFor Go.Proofs.Ytafcbeajnlfomaa.Base Go.Proofs.YtafcbeajnlfomaaW.PrintWords Go.Proofs.YtafcbeajnlfomaaW.PrintLast Go.Proofs.YtafcbeajnlfomaaW.PrintMore

theorem l1In_eq (a b c : Int) : spec_l1In.f a b c = some (decide (b ≤ a ∧ a ≤ c)) := by
  unfold spec_l1In.f
  by_cases h : a ≥ b
  · rw [if_pos h]
    congr 1
    exact decide_eq_decide.2 ⟨fun h1 => ⟨h, h1⟩, fun h1 => h1.2⟩
  · rw [if_neg h, decide_eq_false (fun h1 => h h1.1)]

theorem within_eq (a b c : Int) : impl_within.f a b c = some (decide (b ≤ a ∧ a ≤ c)) := by
  unfold impl_within.f
  by_cases h : a ≥ b
  · rw [if_pos h]
    congr 1
    exact decide_eq_decide.2 ⟨fun h1 => ⟨h, h1⟩, fun h1 => h1.2⟩
  · rw [if_neg h, decide_eq_false (fun h1 => h h1.1)]

theorem FnExactStateFor : laws_FnExactStateFor.Pure := by
  intro w a b c f _ _ _ _
  have h : ∃ r, spec_StateFor.f w a b c f = some r ∧ impl_StateFor.f w a b c f = some r := by
    unfold spec_StateFor.f impl_StateFor.f impl_isStatement.f spec_l12Witness.f spec_GoodClaim.f impl_GoodClaim.f impl_isLetterNumber.f
    simp only [l1In_eq, within_eq, Option.bind_some]
    by_cases h1 : 0 ≤ w ∧ w ≤ 6
    · rw [decide_eq_true h1]
      simp only [if_true, Option.bind_some]
      by_cases h2 : 0 ≤ a ∧ a ≤ 20
      · rw [decide_eq_true h2]
        simp only [if_true, Option.bind_some]
        by_cases h3 : 0 ≤ b ∧ b ≤ 1000
        · rw [decide_eq_true h3]
          simp only [if_true, Option.bind_some]
          split <;> exact ⟨_, rfl, rfl⟩
        · rw [decide_eq_false h3]
          exact ⟨_, rfl, rfl⟩
      · rw [decide_eq_false h2]
        exact ⟨_, rfl, rfl⟩
    · rw [decide_eq_false h1]
      exact ⟨_, rfl, rfl⟩
  obtain ⟨r, h1, h2⟩ := h
  unfold laws_FnExactStateFor.f laws_toClaim.f
  simp only [Option.bind_some, h1, h2, laws_eqStatement.f, laws_eqClaim.f, if_true, bne_self_eq_false, Bool.false_eq_true, if_false]

end Go.Proofs.Ytafcbeajnlfomaa.Pure
