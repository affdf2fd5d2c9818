/- Proved: XorTexts of the program and of the reference answer alike at all texts. Conditions: those of the given statement alone. -/
import Derived.Test.YtobfeehelmbljaaPFnExactXorTextsx1
import Derived.Test.YtobfeehelmbljaaBase
set_option linter.unusedVariables false
set_option linter.unusedSimpArgs false
namespace Go.Proofs.Ytobfeehelmbljaa.Pure
open Go.RowKit Go.Proofs.Ytobfeehelmbljaa.PFnExactXorTexts Go.Proofs.Ytobfeehelmbljaa.Base Go.Proofs.YtobfeehelmbljaaW.PrintWords Go.Proofs.YtobfeehelmbljaaW.PrintLast Go.Proofs.YtobfeehelmbljaaW.PrintMore Go.Proofs.Ytobfeehelmbljaa

theorem FnExactXorTexts : laws_FnExactXorTexts.Pure := by
  intro a b ha hb
  unfold laws_FnExactXorTexts.f spec_XorTexts.f impl_XorTexts.f spec_l7Xor.f impl_xor.f
  by_cases c1 : (a.size : Int) > 1048576
  · rw [if_pos c1]
  rw [if_neg c1]
  by_cases c2 : (b.size : Int) > 1048576
  · rw [if_pos c2]
  rw [if_neg c2]
  by_cases e : (a.size : Int) = (b.size : Int)
  · rw [if_pos e]
    by_cases c3 : (a.size : Int) > 40
    · rw [if_pos c3]
      simp
    · rw [if_neg c3, if_pos ⟨by omega, by omega⟩]
      simp
  · rw [if_neg e]
    simp

end Go.Proofs.Ytobfeehelmbljaa.Pure
