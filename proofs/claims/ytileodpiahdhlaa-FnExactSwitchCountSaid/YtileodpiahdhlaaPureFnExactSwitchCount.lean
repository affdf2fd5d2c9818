/- Proved: SwitchCount of the program and of the reference answer alike at every number. Conditions: those of the given statement alone. -/
import Derived.Test.YtileodpiahdhlaaPFnExactSwitchCountx1
namespace Go.Proofs.Ytileodpiahdhlaa.Pure
open Go.RowKit Go.Proofs.Ytileodpiahdhlaa.PFnExactSwitchCount Go.Proofs.YtileodpiahdhlaaW.PrintWords Go.Proofs.YtileodpiahdhlaaW.PrintLast

theorem FnExactSwitchCount : laws_FnExactSwitchCount.Pure := by
  intro a _
  refine ⟨4, ?_⟩
  by_cases h1 : a = 1
  · subst h1; decide +kernel
  · by_cases h2 : a = 2
    · subst h2; decide +kernel
    · by_cases h4 : a = 4
      · subst h4; decide +kernel
      · by_cases h8 : a = 8
        · subst h8; decide +kernel
        · have h : (a == 8) = false := by simpa using h8
          have hs : spec_SwitchCount.f 4 a = some (0, false) := by
            unfold spec_SwitchCount.f spec_l9Ports.f
            rw [if_neg h1, if_neg h2, if_neg h4, h]
            rfl
          have hi : impl_SwitchCount.f 4 a = some (0, false) := by
            unfold impl_SwitchCount.f impl_arePorts.f
            rw [if_neg h1, if_neg h2, if_neg h4, h]
            rfl
          unfold laws_FnExactSwitchCount.f
          rw [hs, hi]
          rfl

end Go.Proofs.Ytileodpiahdhlaa.Pure
