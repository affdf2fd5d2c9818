/-
  No cell of these rows narrows 'for every input' (looked for: loops, veiled, ifaces, maps, wideKeys, modest, calm, conditions, laid).
  DERIVED. THE GIVEN ROWS OF THIS SEAT. 6 by the template 'for every input the law returns true; each argument reads behind the call as it read before'; 0 by the template 'total and deterministic' (their statements: YtileodpiahdhlaaTotals.lean).
  GIVEN WITH THE SEED: the statements are not yours to turn. If you find one false, say at which input.
  Laid BY PROGRAM, IN A SANDBOX (cutbox-rows.mjs): the forced cells as the released guide's own fill.sh prints them over the translation 4781b34f9d3d1e85… (all of the seat's roots in one cut). By AI agents, Wed Nov 11 2026. No macro, syntax, notation, axiom, sorry.
-/
import Derived.Test.YtileodpiahdhlaaChecked
import GoSem.Claim
import GoSem.ClaimJoined
import GoSem.ClaimMapViews
import Derived.JoinedTies
import Derived.KernelRfl
namespace Go.Proofs.Ytileodpiahdhlaa
/- THE CELL 'sum', in the pinned program and in every row, IS THE sha256 OF THE DUMP (.gsa) THAT YtileodpiahdhlaaProg.lean LOADS. Nothing in Lean hashes anything: it is a label: what it is worth is what the hold of that sum in a sandbox is worth. -/
noncomputable def Try.pinned : Pinned := { name := "ytileodpiahdhlaa", sum := "4781b34f9d3d1e85b868f2cdc17e9ab42f8f1d1820a8ff1c09a3db2470ccc508", checked := Try.checked }
namespace Rows
def none {H : Type} : Left H := { results := [], args := [] }

/-- 'laws.FnExactGoodClaim': WHATEVER THE INPUT: true; the input reads as it did. -/
def fnExactGoodClaimSpec : ChangeSpec := { name := "fnExactGoodClaim", fn := fun _ => fun
  | [d] => { results := [.lit (.bool true)], args := [d] }
  | _ => none }
def fnExactGoodClaimRow : OpenClaim := { program := "ytileodpiahdhlaa", sum := "4781b34f9d3d1e85b868f2cdc17e9ab42f8f1d1820a8ff1c09a3db2470ccc508", func := "loop.example/g00549/laws.FnExactGoodClaim", spec := "fnExactGoodClaim", apart := false }
def FnExactGoodClaimSaid : Prop := fnExactGoodClaimRow.holds Try.pinned (OpenSpec.ofChange fnExactGoodClaimSpec)

/-- ITS FALSE NEIGHBOUR: 'it returns false'. Refute it at one input. -/
def fnExactGoodClaimWrong : ChangeSpec := { name := "fnExactGoodClaim", fn := fun _ => fun
  | [d] => { results := [.lit (.bool false)], args := [d] }
  | _ => none }
def FnExactGoodClaimWrongFalsely : Prop := fnExactGoodClaimRow.holds Try.pinned (OpenSpec.ofChange fnExactGoodClaimWrong)

/-- 'laws.FnExactCheckOf': WHATEVER THE INPUT: true; the input reads as it did. -/
def fnExactCheckOfSpec : ChangeSpec := { name := "fnExactCheckOf", fn := fun _ => fun
  | [d] => { results := [.lit (.bool true)], args := [d] }
  | _ => none }
def fnExactCheckOfRow : OpenClaim := { program := "ytileodpiahdhlaa", sum := "4781b34f9d3d1e85b868f2cdc17e9ab42f8f1d1820a8ff1c09a3db2470ccc508", func := "loop.example/g00549/laws.FnExactCheckOf", spec := "fnExactCheckOf", apart := false }
def FnExactCheckOfSaid : Prop := fnExactCheckOfRow.holds Try.pinned (OpenSpec.ofChange fnExactCheckOfSpec)

/-- ITS FALSE NEIGHBOUR: 'it returns false'. Refute it at one input. -/
def fnExactCheckOfWrong : ChangeSpec := { name := "fnExactCheckOf", fn := fun _ => fun
  | [d] => { results := [.lit (.bool false)], args := [d] }
  | _ => none }
def FnExactCheckOfWrongFalsely : Prop := fnExactCheckOfRow.holds Try.pinned (OpenSpec.ofChange fnExactCheckOfWrong)

/-- 'laws.FnExactXorTexts': WHATEVER THE INPUT: true; the input reads as it did. -/
def fnExactXorTextsSpec : ChangeSpec := { name := "fnExactXorTexts", fn := fun _ => fun
  | [d1, d2] => { results := [.lit (.bool true)], args := [d1, d2] }
  | _ => none }
def fnExactXorTextsRow : OpenClaim := { program := "ytileodpiahdhlaa", sum := "4781b34f9d3d1e85b868f2cdc17e9ab42f8f1d1820a8ff1c09a3db2470ccc508", func := "loop.example/g00549/laws.FnExactXorTexts", spec := "fnExactXorTexts", apart := false }
def FnExactXorTextsSaid : Prop := fnExactXorTextsRow.holds Try.pinned (OpenSpec.ofChange fnExactXorTextsSpec)

/-- ITS FALSE NEIGHBOUR: 'it returns false'. Refute it at one input. -/
def fnExactXorTextsWrong : ChangeSpec := { name := "fnExactXorTexts", fn := fun _ => fun
  | [d1, d2] => { results := [.lit (.bool false)], args := [d1, d2] }
  | _ => none }
def FnExactXorTextsWrongFalsely : Prop := fnExactXorTextsRow.holds Try.pinned (OpenSpec.ofChange fnExactXorTextsWrong)

/-- 'laws.FnExactSwitchCount': WHATEVER THE INPUT: true; the input reads as it did. -/
def fnExactSwitchCountSpec : ChangeSpec := { name := "fnExactSwitchCount", fn := fun _ => fun
  | [d] => { results := [.lit (.bool true)], args := [d] }
  | _ => none }
def fnExactSwitchCountRow : OpenClaim := { program := "ytileodpiahdhlaa", sum := "4781b34f9d3d1e85b868f2cdc17e9ab42f8f1d1820a8ff1c09a3db2470ccc508", func := "loop.example/g00549/laws.FnExactSwitchCount", spec := "fnExactSwitchCount", recurses := true, apart := false }
def FnExactSwitchCountSaid : Prop := fnExactSwitchCountRow.holds Try.pinned (OpenSpec.ofChange fnExactSwitchCountSpec)

/-- ITS FALSE NEIGHBOUR: 'it returns false'. Refute it at one input. -/
def fnExactSwitchCountWrong : ChangeSpec := { name := "fnExactSwitchCount", fn := fun _ => fun
  | [d] => { results := [.lit (.bool false)], args := [d] }
  | _ => none }
def FnExactSwitchCountWrongFalsely : Prop := fnExactSwitchCountRow.holds Try.pinned (OpenSpec.ofChange fnExactSwitchCountWrong)

/-- 'laws.FnExactTagOf': WHATEVER THE INPUT: true; the input reads as it did. -/
def fnExactTagOfSpec : ChangeSpec := { name := "fnExactTagOf", fn := fun _ => fun
  | [d] => { results := [.lit (.bool true)], args := [d] }
  | _ => none }
def fnExactTagOfRow : OpenClaim := { program := "ytileodpiahdhlaa", sum := "4781b34f9d3d1e85b868f2cdc17e9ab42f8f1d1820a8ff1c09a3db2470ccc508", func := "loop.example/g00549/laws.FnExactTagOf", spec := "fnExactTagOf", apart := false }
def FnExactTagOfSaid : Prop := fnExactTagOfRow.holds Try.pinned (OpenSpec.ofChange fnExactTagOfSpec)

/-- ITS FALSE NEIGHBOUR: 'it returns false'. Refute it at one input. -/
def fnExactTagOfWrong : ChangeSpec := { name := "fnExactTagOf", fn := fun _ => fun
  | [d] => { results := [.lit (.bool false)], args := [d] }
  | _ => none }
def FnExactTagOfWrongFalsely : Prop := fnExactTagOfRow.holds Try.pinned (OpenSpec.ofChange fnExactTagOfWrong)

/-- 'laws.FnExactSignFor': WHATEVER THE INPUT: true; the input reads as it did. -/
def fnExactSignForSpec : ChangeSpec := { name := "fnExactSignFor", fn := fun _ => fun
  | [d1, d2, d3, d4] => { results := [.lit (.bool true)], args := [d1, d2, d3, d4] }
  | _ => none }
def fnExactSignForRow : OpenClaim := { program := "ytileodpiahdhlaa", sum := "4781b34f9d3d1e85b868f2cdc17e9ab42f8f1d1820a8ff1c09a3db2470ccc508", func := "loop.example/g00549/laws.FnExactSignFor", spec := "fnExactSignFor", apart := false }
def FnExactSignForSaid : Prop := fnExactSignForRow.holds Try.pinned (OpenSpec.ofChange fnExactSignForSpec)

/-- ITS FALSE NEIGHBOUR: 'it returns false'. Refute it at one input. -/
def fnExactSignForWrong : ChangeSpec := { name := "fnExactSignFor", fn := fun _ => fun
  | [d1, d2, d3, d4] => { results := [.lit (.bool false)], args := [d1, d2, d3, d4] }
  | _ => none }
def FnExactSignForWrongFalsely : Prop := fnExactSignForRow.holds Try.pinned (OpenSpec.ofChange fnExactSignForWrong)

/- THE SECOND FORM. 'bulk': how many values and letters a reading holds, each counted each time it is reached (what is shared counts as often as it is met; a slice's spare places count too). A statement '..UptoSaid' is the law's where the arguments, and the package variables that the reading takes, are together of bulk at most 1048576: NARROWER than '..Said'. Prove '..Said' where nothing that the law and all that it calls make is longer than what came in: it says more and counts as full. Else prove '..UptoSaid'. A law counts once. -/
mutual
def uptoBulk {H : Type} : DataW H → Nat
  | .lit (.string bytes) => bytes.length + 1
  | .lit _ => 1
  | .nil => 1
  | .ptr d => uptoBulk d + 1
  | .slice elems spare => uptoBulkAll elems + uptoBulkAll spare + 1
  | .agg parts => uptoBulkAll parts + 1
  | .iface _ d => uptoBulk d + 1
  | .map entries => uptoBulkEntries entries + 1
  | .held _ => 1
def uptoBulkAll {H : Type} : List (DataW H) → Nat
  | [] => 0
  | d :: r => uptoBulk d + uptoBulkAll r
def uptoBulkEntries {H : Type} : List (Lit × DataW H) → Nat
  | [] => 0
  | x :: r => uptoBulkEntry x + uptoBulkEntries r
def uptoBulkEntry {H : Type} : Lit × DataW H → Nat
  | (.string bytes, d) => bytes.length + uptoBulk d + 1
  | (_, d) => uptoBulk d + 1
 end
def uptoSmall : (H : Type) → List (DataW H) → Bool := fun _ ds => decide (uptoBulkAll ds ≤ 1048576)
def OpenSpec.upto (s : _root_.Go.ChangeSpec) : _root_.Go.OpenSpec := { _root_.Go.OpenSpec.ofChange s with cond := some uptoSmall }

/-- 'laws.FnExactGoodClaim', WHERE WHAT IT READS IS OF BULK AT MOST 1048576: true; the input reads as it did. -/
def fnExactGoodClaimUptoRow : OpenClaim := { program := "ytileodpiahdhlaa", sum := "4781b34f9d3d1e85b868f2cdc17e9ab42f8f1d1820a8ff1c09a3db2470ccc508", func := "loop.example/g00549/laws.FnExactGoodClaim", spec := "fnExactGoodClaim", apart := false, narrowed := true }
def FnExactGoodClaimUptoSaid : Prop := fnExactGoodClaimUptoRow.holds Try.pinned (OpenSpec.upto fnExactGoodClaimSpec)

/-- 'laws.FnExactCheckOf', WHERE WHAT IT READS IS OF BULK AT MOST 1048576: true; the input reads as it did. -/
def fnExactCheckOfUptoRow : OpenClaim := { program := "ytileodpiahdhlaa", sum := "4781b34f9d3d1e85b868f2cdc17e9ab42f8f1d1820a8ff1c09a3db2470ccc508", func := "loop.example/g00549/laws.FnExactCheckOf", spec := "fnExactCheckOf", apart := false, narrowed := true }
def FnExactCheckOfUptoSaid : Prop := fnExactCheckOfUptoRow.holds Try.pinned (OpenSpec.upto fnExactCheckOfSpec)

/-- 'laws.FnExactXorTexts', WHERE WHAT IT READS IS OF BULK AT MOST 1048576: true; the input reads as it did. -/
def fnExactXorTextsUptoRow : OpenClaim := { program := "ytileodpiahdhlaa", sum := "4781b34f9d3d1e85b868f2cdc17e9ab42f8f1d1820a8ff1c09a3db2470ccc508", func := "loop.example/g00549/laws.FnExactXorTexts", spec := "fnExactXorTexts", apart := false, narrowed := true }
def FnExactXorTextsUptoSaid : Prop := fnExactXorTextsUptoRow.holds Try.pinned (OpenSpec.upto fnExactXorTextsSpec)

/-- 'laws.FnExactSwitchCount', WHERE WHAT IT READS IS OF BULK AT MOST 1048576: true; the input reads as it did. -/
def fnExactSwitchCountUptoRow : OpenClaim := { program := "ytileodpiahdhlaa", sum := "4781b34f9d3d1e85b868f2cdc17e9ab42f8f1d1820a8ff1c09a3db2470ccc508", func := "loop.example/g00549/laws.FnExactSwitchCount", spec := "fnExactSwitchCount", recurses := true, apart := false, narrowed := true }
def FnExactSwitchCountUptoSaid : Prop := fnExactSwitchCountUptoRow.holds Try.pinned (OpenSpec.upto fnExactSwitchCountSpec)

/-- 'laws.FnExactTagOf', WHERE WHAT IT READS IS OF BULK AT MOST 1048576: true; the input reads as it did. -/
def fnExactTagOfUptoRow : OpenClaim := { program := "ytileodpiahdhlaa", sum := "4781b34f9d3d1e85b868f2cdc17e9ab42f8f1d1820a8ff1c09a3db2470ccc508", func := "loop.example/g00549/laws.FnExactTagOf", spec := "fnExactTagOf", apart := false, narrowed := true }
def FnExactTagOfUptoSaid : Prop := fnExactTagOfUptoRow.holds Try.pinned (OpenSpec.upto fnExactTagOfSpec)

/-- 'laws.FnExactSignFor', WHERE WHAT IT READS IS OF BULK AT MOST 1048576: true; the input reads as it did. -/
def fnExactSignForUptoRow : OpenClaim := { program := "ytileodpiahdhlaa", sum := "4781b34f9d3d1e85b868f2cdc17e9ab42f8f1d1820a8ff1c09a3db2470ccc508", func := "loop.example/g00549/laws.FnExactSignFor", spec := "fnExactSignFor", apart := false, narrowed := true }
def FnExactSignForUptoSaid : Prop := fnExactSignForUptoRow.holds Try.pinned (OpenSpec.upto fnExactSignForSpec)

end Rows
end Go.Proofs.Ytileodpiahdhlaa
