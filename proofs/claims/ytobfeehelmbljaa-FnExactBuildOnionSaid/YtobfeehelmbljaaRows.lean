/-
  No cell of these rows narrows 'for every input' (looked for: loops, veiled, ifaces, maps, wideKeys, modest, calm, conditions, laid).
  DERIVED. THE GIVEN ROWS OF THIS SEAT. 4 by the template 'for every input the law returns true; each argument reads behind the call as it read before'; 0 by the template 'total and deterministic' (their statements: YtobfeehelmbljaaTotals.lean).
  GIVEN WITH THE SEED: the statements are not yours to turn. If you find one false, say at which input.
  Laid BY PROGRAM, IN A SANDBOX (cutbox-rows.mjs): the forced cells as the released guide's own fill.sh prints them over the translation e7e4f3d635ae97de… (all of the seat's roots in one cut). By AI agents, Wed Nov 11 2026. No macro, syntax, notation, axiom, sorry.
-/
import Derived.Test.YtobfeehelmbljaaChecked
import GoSem.Claim
import GoSem.ClaimJoined
import GoSem.ClaimMapViews
import Derived.JoinedTies
import Derived.KernelRfl
namespace Go.Proofs.Ytobfeehelmbljaa
/- THE CELL 'sum', in the pinned program and in every row, IS THE sha256 OF THE DUMP (.gsa) THAT YtobfeehelmbljaaProg.lean LOADS. Nothing in Lean hashes anything: it is a label: what it is worth is what the hold of that sum in a sandbox is worth. -/
noncomputable def Try.pinned : Pinned := { name := "ytobfeehelmbljaa", sum := "e7e4f3d635ae97de24edc6b3bf46d421456476ffcfb7d0b02ff8cbc0979cb612", checked := Try.checked }
namespace Rows
def none {H : Type} : Left H := { results := [], args := [] }

/-- 'laws.FnExactXorTexts': WHATEVER THE INPUT: true; the input reads as it did. -/
def fnExactXorTextsSpec : ChangeSpec := { name := "fnExactXorTexts", fn := fun _ => fun
  | [d1, d2] => { results := [.lit (.bool true)], args := [d1, d2] }
  | _ => none }
def fnExactXorTextsRow : OpenClaim := { program := "ytobfeehelmbljaa", sum := "e7e4f3d635ae97de24edc6b3bf46d421456476ffcfb7d0b02ff8cbc0979cb612", func := "loop.example/g00549/laws.FnExactXorTexts", spec := "fnExactXorTexts", apart := false }
def FnExactXorTextsSaid : Prop := fnExactXorTextsRow.holds Try.pinned (OpenSpec.ofChange fnExactXorTextsSpec)

/-- ITS FALSE NEIGHBOUR: 'it returns false'. Refute it at one input. -/
def fnExactXorTextsWrong : ChangeSpec := { name := "fnExactXorTexts", fn := fun _ => fun
  | [d1, d2] => { results := [.lit (.bool false)], args := [d1, d2] }
  | _ => none }
def FnExactXorTextsWrongFalsely : Prop := fnExactXorTextsRow.holds Try.pinned (OpenSpec.ofChange fnExactXorTextsWrong)

/-- 'laws.FnExactPadFor': WHATEVER THE INPUT: true; the input reads as it did. -/
def fnExactPadForSpec : ChangeSpec := { name := "fnExactPadFor", fn := fun _ => fun
  | [d1, d2] => { results := [.lit (.bool true)], args := [d1, d2] }
  | _ => none }
def fnExactPadForRow : OpenClaim := { program := "ytobfeehelmbljaa", sum := "e7e4f3d635ae97de24edc6b3bf46d421456476ffcfb7d0b02ff8cbc0979cb612", func := "loop.example/g00549/laws.FnExactPadFor", spec := "fnExactPadFor", inPlace := ["internal/abi.NoEscape", "internal/bytealg.MakeNoZero"], apart := false }
def FnExactPadForSaid : Prop := fnExactPadForRow.holds Try.pinned (OpenSpec.ofChange fnExactPadForSpec)

/-- ITS FALSE NEIGHBOUR: 'it returns false'. Refute it at one input. -/
def fnExactPadForWrong : ChangeSpec := { name := "fnExactPadFor", fn := fun _ => fun
  | [d1, d2] => { results := [.lit (.bool false)], args := [d1, d2] }
  | _ => none }
def FnExactPadForWrongFalsely : Prop := fnExactPadForRow.holds Try.pinned (OpenSpec.ofChange fnExactPadForWrong)

/-- 'laws.FnExactPadBody': WHATEVER THE INPUT: true; the input reads as it did. -/
def fnExactPadBodySpec : ChangeSpec := { name := "fnExactPadBody", fn := fun _ => fun
  | [d] => { results := [.lit (.bool true)], args := [d] }
  | _ => none }
def fnExactPadBodyRow : OpenClaim := { program := "ytobfeehelmbljaa", sum := "e7e4f3d635ae97de24edc6b3bf46d421456476ffcfb7d0b02ff8cbc0979cb612", func := "loop.example/g00549/laws.FnExactPadBody", spec := "fnExactPadBody", inPlace := ["internal/abi.NoEscape", "internal/bytealg.MakeNoZero"], apart := false }
def FnExactPadBodySaid : Prop := fnExactPadBodyRow.holds Try.pinned (OpenSpec.ofChange fnExactPadBodySpec)

/-- ITS FALSE NEIGHBOUR: 'it returns false'. Refute it at one input. -/
def fnExactPadBodyWrong : ChangeSpec := { name := "fnExactPadBody", fn := fun _ => fun
  | [d] => { results := [.lit (.bool false)], args := [d] }
  | _ => none }
def FnExactPadBodyWrongFalsely : Prop := fnExactPadBodyRow.holds Try.pinned (OpenSpec.ofChange fnExactPadBodyWrong)

/-- 'laws.FnExactBuildOnion': WHATEVER THE INPUT: true; the input reads as it did. -/
def fnExactBuildOnionSpec : ChangeSpec := { name := "fnExactBuildOnion", fn := fun _ => fun
  | [d1, d2, d3] => { results := [.lit (.bool true)], args := [d1, d2, d3] }
  | _ => none }
def fnExactBuildOnionRow : OpenClaim := { program := "ytobfeehelmbljaa", sum := "e7e4f3d635ae97de24edc6b3bf46d421456476ffcfb7d0b02ff8cbc0979cb612", func := "loop.example/g00549/laws.FnExactBuildOnion", spec := "fnExactBuildOnion", inPlace := ["internal/abi.NoEscape", "internal/bytealg.MakeNoZero"], apart := false }
def FnExactBuildOnionSaid : Prop := fnExactBuildOnionRow.holds Try.pinned (OpenSpec.ofChange fnExactBuildOnionSpec)

/-- ITS FALSE NEIGHBOUR: 'it returns false'. Refute it at one input. -/
def fnExactBuildOnionWrong : ChangeSpec := { name := "fnExactBuildOnion", fn := fun _ => fun
  | [d1, d2, d3] => { results := [.lit (.bool false)], args := [d1, d2, d3] }
  | _ => none }
def FnExactBuildOnionWrongFalsely : Prop := fnExactBuildOnionRow.holds Try.pinned (OpenSpec.ofChange fnExactBuildOnionWrong)

/- THE SECOND FORM. 'bulk': how many values and letters a reading holds, each counted each time it is reached (what is shared counts as often as it is met; a slice's spare places count too). A statement '..UptoSaid' is the law's where the arguments, and the package variables that the reading takes, are together of bulk at most 1048576: NARROWER than '..Said'. Prove '..Said' where nothing that the law and all that it calls make is longer than what came in: it says more and counts as full. Else prove '..UptoSaid'. A law counts once. -/
mutual
def uptoBulk {H : Type} : DataW H → Nat
  | .lit (.string bytes) => bytes.length + 1
  | .lit _ => 1
  | .nil => 1
  | .ptr d => uptoBulk d + 1
  | .slice elems spare => uptoBulkAll elems + uptoBulkAll spare + 1
  | .agg parts => uptoBulkAll parts + 1
  | .iface _ d => uptoBulk d + 1
  | .map entries => uptoBulkEntries entries + 1
  | .held _ => 1
def uptoBulkAll {H : Type} : List (DataW H) → Nat
  | [] => 0
  | d :: r => uptoBulk d + uptoBulkAll r
def uptoBulkEntries {H : Type} : List (Lit × DataW H) → Nat
  | [] => 0
  | x :: r => uptoBulkEntry x + uptoBulkEntries r
def uptoBulkEntry {H : Type} : Lit × DataW H → Nat
  | (.string bytes, d) => bytes.length + uptoBulk d + 1
  | (_, d) => uptoBulk d + 1
 end
def uptoSmall : (H : Type) → List (DataW H) → Bool := fun _ ds => decide (uptoBulkAll ds ≤ 1048576)
def OpenSpec.upto (s : _root_.Go.ChangeSpec) : _root_.Go.OpenSpec := { _root_.Go.OpenSpec.ofChange s with cond := some uptoSmall }

/-- 'laws.FnExactXorTexts', WHERE WHAT IT READS IS OF BULK AT MOST 1048576: true; the input reads as it did. -/
def fnExactXorTextsUptoRow : OpenClaim := { program := "ytobfeehelmbljaa", sum := "e7e4f3d635ae97de24edc6b3bf46d421456476ffcfb7d0b02ff8cbc0979cb612", func := "loop.example/g00549/laws.FnExactXorTexts", spec := "fnExactXorTexts", apart := false, narrowed := true }
def FnExactXorTextsUptoSaid : Prop := fnExactXorTextsUptoRow.holds Try.pinned (OpenSpec.upto fnExactXorTextsSpec)

/-- 'laws.FnExactPadFor', WHERE WHAT IT READS IS OF BULK AT MOST 1048576: true; the input reads as it did. -/
def fnExactPadForUptoRow : OpenClaim := { program := "ytobfeehelmbljaa", sum := "e7e4f3d635ae97de24edc6b3bf46d421456476ffcfb7d0b02ff8cbc0979cb612", func := "loop.example/g00549/laws.FnExactPadFor", spec := "fnExactPadFor", inPlace := ["internal/abi.NoEscape", "internal/bytealg.MakeNoZero"], apart := false, narrowed := true }
def FnExactPadForUptoSaid : Prop := fnExactPadForUptoRow.holds Try.pinned (OpenSpec.upto fnExactPadForSpec)

/-- 'laws.FnExactPadBody', WHERE WHAT IT READS IS OF BULK AT MOST 1048576: true; the input reads as it did. -/
def fnExactPadBodyUptoRow : OpenClaim := { program := "ytobfeehelmbljaa", sum := "e7e4f3d635ae97de24edc6b3bf46d421456476ffcfb7d0b02ff8cbc0979cb612", func := "loop.example/g00549/laws.FnExactPadBody", spec := "fnExactPadBody", inPlace := ["internal/abi.NoEscape", "internal/bytealg.MakeNoZero"], apart := false, narrowed := true }
def FnExactPadBodyUptoSaid : Prop := fnExactPadBodyUptoRow.holds Try.pinned (OpenSpec.upto fnExactPadBodySpec)

/-- 'laws.FnExactBuildOnion', WHERE WHAT IT READS IS OF BULK AT MOST 1048576: true; the input reads as it did. -/
def fnExactBuildOnionUptoRow : OpenClaim := { program := "ytobfeehelmbljaa", sum := "e7e4f3d635ae97de24edc6b3bf46d421456476ffcfb7d0b02ff8cbc0979cb612", func := "loop.example/g00549/laws.FnExactBuildOnion", spec := "fnExactBuildOnion", inPlace := ["internal/abi.NoEscape", "internal/bytealg.MakeNoZero"], apart := false, narrowed := true }
def FnExactBuildOnionUptoSaid : Prop := fnExactBuildOnionUptoRow.holds Try.pinned (OpenSpec.upto fnExactBuildOnionSpec)

end Rows
end Go.Proofs.Ytobfeehelmbljaa
