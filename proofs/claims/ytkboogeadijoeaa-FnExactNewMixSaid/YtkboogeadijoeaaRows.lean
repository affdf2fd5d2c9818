/-
  No cell of these rows narrows 'for every input' (looked for: loops, veiled, ifaces, maps, wideKeys, modest, calm, conditions, laid).
  DERIVED. THE GIVEN ROWS OF THIS SEAT. 5 by the template 'for every input the law returns true; each argument reads behind the call as it read before'; 0 by the template 'total and deterministic' (their statements: YtkboogeadijoeaaTotals.lean).
  GIVEN WITH THE SEED: the statements are not yours to turn. If you find one false, say at which input.
  Laid BY PROGRAM, IN A SANDBOX (cutbox-rows.mjs): the forced cells as the released guide's own fill.sh prints them over the translation cad406222d6f7023… (all of the seat's roots in one cut). By AI agents, Wed Nov 11 2026. No macro, syntax, notation, axiom, sorry.
-/
import Derived.Test.YtkboogeadijoeaaChecked
import GoSem.Claim
import GoSem.ClaimJoined
import GoSem.ClaimMapViews
import Derived.JoinedTies
import Derived.KernelRfl
namespace Go.Proofs.Ytkboogeadijoeaa
/- THE CELL 'sum', in the pinned program and in every row, IS THE sha256 OF THE DUMP (.gsa) THAT YtkboogeadijoeaaProg.lean LOADS. Nothing in Lean hashes anything: it is a label: what it is worth is what the hold of that sum in a sandbox is worth. -/
noncomputable def Try.pinned : Pinned := { name := "ytkboogeadijoeaa", sum := "cad406222d6f70236f5bcaed20c5477af34a17e76504a0385d916ca3847d9887", checked := Try.checked }
namespace Rows
def none {H : Type} : Left H := { results := [], args := [] }

/-- 'laws.FnExactSetSize': WHATEVER THE INPUT: true; the input reads as it did. -/
def fnExactSetSizeSpec : ChangeSpec := { name := "fnExactSetSize", fn := fun _ => fun
  | [d1, d2] => { results := [.lit (.bool true)], args := [d1, d2] }
  | _ => none }
def fnExactSetSizeRow : OpenClaim := { program := "ytkboogeadijoeaa", sum := "cad406222d6f70236f5bcaed20c5477af34a17e76504a0385d916ca3847d9887", func := "loop.example/g00549/laws.FnExactSetSize", spec := "fnExactSetSize", apart := false }
def FnExactSetSizeSaid : Prop := fnExactSetSizeRow.holds Try.pinned (OpenSpec.ofChange fnExactSetSizeSpec)

/-- ITS FALSE NEIGHBOUR: 'it returns false'. Refute it at one input. -/
def fnExactSetSizeWrong : ChangeSpec := { name := "fnExactSetSize", fn := fun _ => fun
  | [d1, d2] => { results := [.lit (.bool false)], args := [d1, d2] }
  | _ => none }
def FnExactSetSizeWrongFalsely : Prop := fnExactSetSizeRow.holds Try.pinned (OpenSpec.ofChange fnExactSetSizeWrong)

/-- 'laws.FnExactNewMix': WHATEVER THE INPUT: true; the input reads as it did. -/
def fnExactNewMixSpec : ChangeSpec := { name := "fnExactNewMix", fn := fun _ => fun
  | [d1, d2] => { results := [.lit (.bool true)], args := [d1, d2] }
  | _ => none }
def fnExactNewMixRow : OpenClaim := { program := "ytkboogeadijoeaa", sum := "cad406222d6f70236f5bcaed20c5477af34a17e76504a0385d916ca3847d9887", func := "loop.example/g00549/laws.FnExactNewMix", spec := "fnExactNewMix", apart := false }
def FnExactNewMixSaid : Prop := fnExactNewMixRow.holds Try.pinned (OpenSpec.ofChange fnExactNewMixSpec)

/-- ITS FALSE NEIGHBOUR: 'it returns false'. Refute it at one input. -/
def fnExactNewMixWrong : ChangeSpec := { name := "fnExactNewMix", fn := fun _ => fun
  | [d1, d2] => { results := [.lit (.bool false)], args := [d1, d2] }
  | _ => none }
def FnExactNewMixWrongFalsely : Prop := fnExactNewMixRow.holds Try.pinned (OpenSpec.ofChange fnExactNewMixWrong)

/-- 'laws.FnExactGoodMix': WHATEVER THE INPUT: true; the input reads as it did. -/
def fnExactGoodMixSpec : ChangeSpec := { name := "fnExactGoodMix", fn := fun _ => fun
  | [d] => { results := [.lit (.bool true)], args := [d] }
  | _ => none }
def fnExactGoodMixRow : OpenClaim := { program := "ytkboogeadijoeaa", sum := "cad406222d6f70236f5bcaed20c5477af34a17e76504a0385d916ca3847d9887", func := "loop.example/g00549/laws.FnExactGoodMix", spec := "fnExactGoodMix", unfollowed := true, recurses := true, apart := false }
def FnExactGoodMixSaid : Prop := fnExactGoodMixRow.holds Try.pinned (OpenSpec.ofChange fnExactGoodMixSpec)

/-- ITS FALSE NEIGHBOUR: 'it returns false'. Refute it at one input. -/
def fnExactGoodMixWrong : ChangeSpec := { name := "fnExactGoodMix", fn := fun _ => fun
  | [d] => { results := [.lit (.bool false)], args := [d] }
  | _ => none }
def FnExactGoodMixWrongFalsely : Prop := fnExactGoodMixRow.holds Try.pinned (OpenSpec.ofChange fnExactGoodMixWrong)

/-- 'laws.FnExactSortTexts': WHATEVER THE INPUT: true; the input reads as it did. -/
def fnExactSortTextsSpec : ChangeSpec := { name := "fnExactSortTexts", fn := fun _ => fun
  | [d] => { results := [.lit (.bool true)], args := [d] }
  | _ => none }
def fnExactSortTextsRow : OpenClaim := { program := "ytkboogeadijoeaa", sum := "cad406222d6f70236f5bcaed20c5477af34a17e76504a0385d916ca3847d9887", func := "loop.example/g00549/laws.FnExactSortTexts", spec := "fnExactSortTexts", unfollowed := true, recurses := true, apart := false }
def FnExactSortTextsSaid : Prop := fnExactSortTextsRow.holds Try.pinned (OpenSpec.ofChange fnExactSortTextsSpec)

/-- ITS FALSE NEIGHBOUR: 'it returns false'. Refute it at one input. -/
def fnExactSortTextsWrong : ChangeSpec := { name := "fnExactSortTexts", fn := fun _ => fun
  | [d] => { results := [.lit (.bool false)], args := [d] }
  | _ => none }
def FnExactSortTextsWrongFalsely : Prop := fnExactSortTextsRow.holds Try.pinned (OpenSpec.ofChange fnExactSortTextsWrong)

/-- 'laws.FnExactGoodClaim': WHATEVER THE INPUT: true; the input reads as it did. -/
def fnExactGoodClaimSpec : ChangeSpec := { name := "fnExactGoodClaim", fn := fun _ => fun
  | [d] => { results := [.lit (.bool true)], args := [d] }
  | _ => none }
def fnExactGoodClaimRow : OpenClaim := { program := "ytkboogeadijoeaa", sum := "cad406222d6f70236f5bcaed20c5477af34a17e76504a0385d916ca3847d9887", func := "loop.example/g00549/laws.FnExactGoodClaim", spec := "fnExactGoodClaim", apart := false }
def FnExactGoodClaimSaid : Prop := fnExactGoodClaimRow.holds Try.pinned (OpenSpec.ofChange fnExactGoodClaimSpec)

/-- ITS FALSE NEIGHBOUR: 'it returns false'. Refute it at one input. -/
def fnExactGoodClaimWrong : ChangeSpec := { name := "fnExactGoodClaim", fn := fun _ => fun
  | [d] => { results := [.lit (.bool false)], args := [d] }
  | _ => none }
def FnExactGoodClaimWrongFalsely : Prop := fnExactGoodClaimRow.holds Try.pinned (OpenSpec.ofChange fnExactGoodClaimWrong)

/- THE SECOND FORM. 'bulk': how many values and letters a reading holds, each counted each time it is reached (what is shared counts as often as it is met; a slice's spare places count too). A statement '..UptoSaid' is the law's where the arguments, and the package variables that the reading takes, are together of bulk at most 1048576: NARROWER than '..Said'. Prove '..Said' where nothing that the law and all that it calls make is longer than what came in: it says more and counts as full. Else prove '..UptoSaid'. A law counts once. -/
mutual
def uptoBulk {H : Type} : DataW H → Nat
  | .lit (.string bytes) => bytes.length + 1
  | .lit _ => 1
  | .nil => 1
  | .ptr d => uptoBulk d + 1
  | .slice elems spare => uptoBulkAll elems + uptoBulkAll spare + 1
  | .agg parts => uptoBulkAll parts + 1
  | .iface _ d => uptoBulk d + 1
  | .map entries => uptoBulkEntries entries + 1
  | .held _ => 1
def uptoBulkAll {H : Type} : List (DataW H) → Nat
  | [] => 0
  | d :: r => uptoBulk d + uptoBulkAll r
def uptoBulkEntries {H : Type} : List (Lit × DataW H) → Nat
  | [] => 0
  | x :: r => uptoBulkEntry x + uptoBulkEntries r
def uptoBulkEntry {H : Type} : Lit × DataW H → Nat
  | (.string bytes, d) => bytes.length + uptoBulk d + 1
  | (_, d) => uptoBulk d + 1
 end
def uptoSmall : (H : Type) → List (DataW H) → Bool := fun _ ds => decide (uptoBulkAll ds ≤ 1048576)
def OpenSpec.upto (s : _root_.Go.ChangeSpec) : _root_.Go.OpenSpec := { _root_.Go.OpenSpec.ofChange s with cond := some uptoSmall }

/-- 'laws.FnExactSetSize', WHERE WHAT IT READS IS OF BULK AT MOST 1048576: true; the input reads as it did. -/
def fnExactSetSizeUptoRow : OpenClaim := { program := "ytkboogeadijoeaa", sum := "cad406222d6f70236f5bcaed20c5477af34a17e76504a0385d916ca3847d9887", func := "loop.example/g00549/laws.FnExactSetSize", spec := "fnExactSetSize", apart := false, narrowed := true }
def FnExactSetSizeUptoSaid : Prop := fnExactSetSizeUptoRow.holds Try.pinned (OpenSpec.upto fnExactSetSizeSpec)

/-- 'laws.FnExactNewMix', WHERE WHAT IT READS IS OF BULK AT MOST 1048576: true; the input reads as it did. -/
def fnExactNewMixUptoRow : OpenClaim := { program := "ytkboogeadijoeaa", sum := "cad406222d6f70236f5bcaed20c5477af34a17e76504a0385d916ca3847d9887", func := "loop.example/g00549/laws.FnExactNewMix", spec := "fnExactNewMix", apart := false, narrowed := true }
def FnExactNewMixUptoSaid : Prop := fnExactNewMixUptoRow.holds Try.pinned (OpenSpec.upto fnExactNewMixSpec)

/-- 'laws.FnExactGoodMix', WHERE WHAT IT READS IS OF BULK AT MOST 1048576: true; the input reads as it did. -/
def fnExactGoodMixUptoRow : OpenClaim := { program := "ytkboogeadijoeaa", sum := "cad406222d6f70236f5bcaed20c5477af34a17e76504a0385d916ca3847d9887", func := "loop.example/g00549/laws.FnExactGoodMix", spec := "fnExactGoodMix", unfollowed := true, recurses := true, apart := false, narrowed := true }
def FnExactGoodMixUptoSaid : Prop := fnExactGoodMixUptoRow.holds Try.pinned (OpenSpec.upto fnExactGoodMixSpec)

/-- 'laws.FnExactSortTexts', WHERE WHAT IT READS IS OF BULK AT MOST 1048576: true; the input reads as it did. -/
def fnExactSortTextsUptoRow : OpenClaim := { program := "ytkboogeadijoeaa", sum := "cad406222d6f70236f5bcaed20c5477af34a17e76504a0385d916ca3847d9887", func := "loop.example/g00549/laws.FnExactSortTexts", spec := "fnExactSortTexts", unfollowed := true, recurses := true, apart := false, narrowed := true }
def FnExactSortTextsUptoSaid : Prop := fnExactSortTextsUptoRow.holds Try.pinned (OpenSpec.upto fnExactSortTextsSpec)

/-- 'laws.FnExactGoodClaim', WHERE WHAT IT READS IS OF BULK AT MOST 1048576: true; the input reads as it did. -/
def fnExactGoodClaimUptoRow : OpenClaim := { program := "ytkboogeadijoeaa", sum := "cad406222d6f70236f5bcaed20c5477af34a17e76504a0385d916ca3847d9887", func := "loop.example/g00549/laws.FnExactGoodClaim", spec := "fnExactGoodClaim", apart := false, narrowed := true }
def FnExactGoodClaimUptoSaid : Prop := fnExactGoodClaimUptoRow.holds Try.pinned (OpenSpec.upto fnExactGoodClaimSpec)

end Rows
end Go.Proofs.Ytkboogeadijoeaa
