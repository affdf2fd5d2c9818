/- Proved: SignFor of the program and of the reference answer alike at all arguments. Conditions: those of the given statement alone. -/
import Derived.Test.YtileodpiahdhlaaPFnExactSignForx1
namespace Go.Proofs.Ytileodpiahdhlaa.Pure
open Go.RowKit Go.Proofs.Ytileodpiahdhlaa.PFnExactSignFor Go.Proofs.YtileodpiahdhlaaW.PrintWords Go.Proofs.YtileodpiahdhlaaW.PrintLast

theorem in_same (a b c : Int) : spec_l1In.f a b c = some (decide (b ≤ a) && decide (a ≤ c)) := by
  unfold spec_l1In.f
  by_cases h : a ≥ b
  · simp [h]
  · have h' : ¬ b ≤ a := h
    simp [h']

theorem within_same (a b c : Int) : impl_within.f a b c = some (decide (b ≤ a) && decide (a ≤ c)) := by
  unfold impl_within.f
  by_cases h : a ≥ b
  · simp [h]
  · have h' : ¬ b ≤ a := h
    simp [h']

theorem sign_same (a b c d : Int) : spec_SignFor.f a b c d = impl_SignFor.f a b c d := by
  unfold spec_SignFor.f impl_SignFor.f spec_l2Secret.f impl_isSecret.f impl_isPassed.f spec_l11Letter.f impl_isLetterNumber.f spec_l11Sign.f impl_signed.f spec_l11Number.f impl_numberOf.f
  simp only [in_same, within_same, Option.bind_some]
  by_cases h1 : (decide (1 ≤ a) && decide (a ≤ 1498)) = true
  · by_cases h2 : (decide (-1 ≤ b) && decide (b ≤ 4)) = true
    · by_cases h3 : c = wrap64 (b + 1)
      · by_cases h4 : (decide (0 ≤ d) && decide (d ≤ 1000)) = true
        · simp only [h1, h2, h3, h4, if_true, Option.bind_some]
        · simp only [h1, h2, h3, h4, if_true, Option.bind_some]
      · simp only [h1, h2, h3, if_true, if_false, Option.bind_some, Bool.false_eq_true]
    · simp only [h1, h2, if_true, Option.bind_some, Bool.false_eq_true, if_false]
  · simp only [h1, Bool.false_eq_true, if_false]

theorem sign_some (a b c d : Int) : ∃ r, impl_SignFor.f a b c d = some r := by
  unfold impl_SignFor.f impl_isSecret.f impl_isPassed.f impl_isLetterNumber.f impl_signed.f impl_numberOf.f
  simp only [within_same, Option.bind_some]
  split
  · by_cases h2 : (decide (-1 ≤ b) && decide (b ≤ 4)) = true
    · by_cases h3 : c = wrap64 (b + 1)
      · simp only [h2, h3, if_true, Option.bind_some]
        split <;> exact ⟨_, rfl⟩
      · simp only [h2, h3, if_true, if_false, Option.bind_some, Bool.false_eq_true]
        exact ⟨_, rfl⟩
    · simp only [h2, if_false, Option.bind_some, Bool.false_eq_true]
      exact ⟨_, rfl⟩
  · exact ⟨_, rfl⟩

theorem FnExactSignFor : laws_FnExactSignFor.Pure := by
  intro a b c d _ _ _ _
  obtain ⟨r, hr⟩ := sign_some a b c d
  unfold laws_FnExactSignFor.f
  rw [sign_same, hr]
  simp [laws_eqReceipt.f]

end Go.Proofs.Ytileodpiahdhlaa.Pure
