/- Words of this session's own for the walks: comparisons of texts as the print spells them. Conditions: as each lemma says. -/
import Derived.Laws.Strings
import Derived.Laws.Cover1
import Derived.Sort.Walk0
import Derived.WalkKit
set_option linter.unusedVariables false
set_option linter.unusedSimpArgs false
namespace Go.Proofs.Ytdiehchbbhlfgaa.Ownw
theorem less_flip (x y : List UInt8) : Op.bytesLess y x = !(Op.bytesLess x y || x == y) := by
  rw [Go.Proofs.bytesLess_eq, Go.Proofs.bytesLess_eq]
  by_cases h : x < y
  · have h2 : ¬ y < x := fun h3 => List.lt_irrefl x (List.lt_trans h h3)
    simp [h, h2]
  · by_cases e : x = y
    · subst e
      simp [List.lt_irrefl]
    · have h2 : y < x := by
        rcases Classical.em (y < x) with h3 | h3
        · exact h3
        · exact absurd (List.le_antisymm (List.not_lt.1 h3) (List.not_lt.1 h)) e
      simp [h, h2, e]
theorem str_gtr (t : TypeId) (a b : ByteArray) : binOp .gtr t (.string a) (.string b) = pure (.bool (Op.bytesLess b.toList a.toList)) := by
  rw [binOp_string_gtr, less_flip a.toList b.toList]
theorem str_leq (t : TypeId) (a b : ByteArray) : binOp .leq t (.string a) (.string b) = pure (.bool (!(Op.bytesLess b.toList a.toList))) := by
  rw [binOp_string_leq, less_flip a.toList b.toList, Bool.not_not]
theorem str_geq (t : TypeId) (a b : ByteArray) : binOp .geq t (.string a) (.string b) = pure (.bool (!(Op.bytesLess a.toList b.toList))) := by
  rw [binOp_string_geq]
end Go.Proofs.Ytdiehchbbhlfgaa.Ownw
