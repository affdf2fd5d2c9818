/-
  No cell of these rows narrows 'for every input' (looked for: loops, veiled, ifaces, maps, wideKeys, modest, calm, conditions, laid).
  DERIVED. THE GIVEN ROWS OF THIS SEAT. 10 by the template 'for every input the law returns true; each argument reads behind the call as it read before'; 0 by the template 'total and deterministic' (their statements: YtnbcldlkhmmimaaTotals.lean).
  GIVEN WITH THE SEED: the statements are not yours to turn. If you find one false, say at which input.
  Laid BY PROGRAM, IN A SANDBOX (cutbox-rows.mjs): the forced cells as the released guide's own fill.sh prints them over the translation 42403fe90d4fe2ae… (all of the seat's roots in one cut). By AI agents, Wed Nov 11 2026. No macro, syntax, notation, axiom, sorry.
-/
import Derived.Test.YtnbcldlkhmmimaaChecked
import GoSem.Claim
import GoSem.ClaimJoined
import GoSem.ClaimMapViews
import Derived.JoinedTies
import Derived.KernelRfl
namespace Go.Proofs.Ytnbcldlkhmmimaa
/- THE CELL 'sum', in the pinned program and in every row, IS THE sha256 OF THE DUMP (.gsa) THAT YtnbcldlkhmmimaaProg.lean LOADS. Nothing in Lean hashes anything: it is a label: what it is worth is what the hold of that sum in a sandbox is worth. -/
noncomputable def Try.pinned : Pinned := { name := "ytnbcldlkhmmimaa", sum := "42403fe90d4fe2aed949c8cd4ae0ddc13b1104ed47b308cf50ab00a22005b9df", checked := Try.checked }
namespace Rows
def none {H : Type} : Left H := { results := [], args := [] }

/-- 'laws.FnExactIsOrder': WHATEVER THE INPUT: true; the input reads as it did. -/
def fnExactIsOrderSpec : ChangeSpec := { name := "fnExactIsOrder", fn := fun _ => fun
  | [d] => { results := [.lit (.bool true)], args := [d] }
  | _ => none }
def fnExactIsOrderRow : OpenClaim := { program := "ytnbcldlkhmmimaa", sum := "42403fe90d4fe2aed949c8cd4ae0ddc13b1104ed47b308cf50ab00a22005b9df", func := "loop.example/g00549/laws.FnExactIsOrder", spec := "fnExactIsOrder", apart := false }
def FnExactIsOrderSaid : Prop := fnExactIsOrderRow.holds Try.pinned (OpenSpec.ofChange fnExactIsOrderSpec)

/-- ITS FALSE NEIGHBOUR: 'it returns false'. Refute it at one input. -/
def fnExactIsOrderWrong : ChangeSpec := { name := "fnExactIsOrder", fn := fun _ => fun
  | [d] => { results := [.lit (.bool false)], args := [d] }
  | _ => none }
def FnExactIsOrderWrongFalsely : Prop := fnExactIsOrderRow.holds Try.pinned (OpenSpec.ofChange fnExactIsOrderWrong)

/-- 'laws.FnExactBackOrder': WHATEVER THE INPUT: true; the input reads as it did. -/
def fnExactBackOrderSpec : ChangeSpec := { name := "fnExactBackOrder", fn := fun _ => fun
  | [d] => { results := [.lit (.bool true)], args := [d] }
  | _ => none }
def fnExactBackOrderRow : OpenClaim := { program := "ytnbcldlkhmmimaa", sum := "42403fe90d4fe2aed949c8cd4ae0ddc13b1104ed47b308cf50ab00a22005b9df", func := "loop.example/g00549/laws.FnExactBackOrder", spec := "fnExactBackOrder", apart := false }
def FnExactBackOrderSaid : Prop := fnExactBackOrderRow.holds Try.pinned (OpenSpec.ofChange fnExactBackOrderSpec)

/-- ITS FALSE NEIGHBOUR: 'it returns false'. Refute it at one input. -/
def fnExactBackOrderWrong : ChangeSpec := { name := "fnExactBackOrder", fn := fun _ => fun
  | [d] => { results := [.lit (.bool false)], args := [d] }
  | _ => none }
def FnExactBackOrderWrongFalsely : Prop := fnExactBackOrderRow.holds Try.pinned (OpenSpec.ofChange fnExactBackOrderWrong)

/-- 'laws.FnExactThenOrder': WHATEVER THE INPUT: true; the input reads as it did. -/
def fnExactThenOrderSpec : ChangeSpec := { name := "fnExactThenOrder", fn := fun _ => fun
  | [d1, d2] => { results := [.lit (.bool true)], args := [d1, d2] }
  | _ => none }
def fnExactThenOrderRow : OpenClaim := { program := "ytnbcldlkhmmimaa", sum := "42403fe90d4fe2aed949c8cd4ae0ddc13b1104ed47b308cf50ab00a22005b9df", func := "loop.example/g00549/laws.FnExactThenOrder", spec := "fnExactThenOrder", apart := false }
def FnExactThenOrderSaid : Prop := fnExactThenOrderRow.holds Try.pinned (OpenSpec.ofChange fnExactThenOrderSpec)

/-- ITS FALSE NEIGHBOUR: 'it returns false'. Refute it at one input. -/
def fnExactThenOrderWrong : ChangeSpec := { name := "fnExactThenOrder", fn := fun _ => fun
  | [d1, d2] => { results := [.lit (.bool false)], args := [d1, d2] }
  | _ => none }
def FnExactThenOrderWrongFalsely : Prop := fnExactThenOrderRow.holds Try.pinned (OpenSpec.ofChange fnExactThenOrderWrong)

/-- 'laws.FnExactNumberOf': WHATEVER THE INPUT: true; the input reads as it did. -/
def fnExactNumberOfSpec : ChangeSpec := { name := "fnExactNumberOf", fn := fun _ => fun
  | [d] => { results := [.lit (.bool true)], args := [d] }
  | _ => none }
def fnExactNumberOfRow : OpenClaim := { program := "ytnbcldlkhmmimaa", sum := "42403fe90d4fe2aed949c8cd4ae0ddc13b1104ed47b308cf50ab00a22005b9df", func := "loop.example/g00549/laws.FnExactNumberOf", spec := "fnExactNumberOf", apart := false }
def FnExactNumberOfSaid : Prop := fnExactNumberOfRow.holds Try.pinned (OpenSpec.ofChange fnExactNumberOfSpec)

/-- ITS FALSE NEIGHBOUR: 'it returns false'. Refute it at one input. -/
def fnExactNumberOfWrong : ChangeSpec := { name := "fnExactNumberOf", fn := fun _ => fun
  | [d] => { results := [.lit (.bool false)], args := [d] }
  | _ => none }
def FnExactNumberOfWrongFalsely : Prop := fnExactNumberOfRow.holds Try.pinned (OpenSpec.ofChange fnExactNumberOfWrong)

/-- 'laws.FnExactSignOf': WHATEVER THE INPUT: true; the input reads as it did. -/
def fnExactSignOfSpec : ChangeSpec := { name := "fnExactSignOf", fn := fun _ => fun
  | [d] => { results := [.lit (.bool true)], args := [d] }
  | _ => none }
def fnExactSignOfRow : OpenClaim := { program := "ytnbcldlkhmmimaa", sum := "42403fe90d4fe2aed949c8cd4ae0ddc13b1104ed47b308cf50ab00a22005b9df", func := "loop.example/g00549/laws.FnExactSignOf", spec := "fnExactSignOf", apart := false }
def FnExactSignOfSaid : Prop := fnExactSignOfRow.holds Try.pinned (OpenSpec.ofChange fnExactSignOfSpec)

/-- ITS FALSE NEIGHBOUR: 'it returns false'. Refute it at one input. -/
def fnExactSignOfWrong : ChangeSpec := { name := "fnExactSignOf", fn := fun _ => fun
  | [d] => { results := [.lit (.bool false)], args := [d] }
  | _ => none }
def FnExactSignOfWrongFalsely : Prop := fnExactSignOfRow.holds Try.pinned (OpenSpec.ofChange fnExactSignOfWrong)

/-- 'laws.FnExactLengthOf': WHATEVER THE INPUT: true; the input reads as it did. -/
def fnExactLengthOfSpec : ChangeSpec := { name := "fnExactLengthOf", fn := fun _ => fun
  | [d] => { results := [.lit (.bool true)], args := [d] }
  | _ => none }
def fnExactLengthOfRow : OpenClaim := { program := "ytnbcldlkhmmimaa", sum := "42403fe90d4fe2aed949c8cd4ae0ddc13b1104ed47b308cf50ab00a22005b9df", func := "loop.example/g00549/laws.FnExactLengthOf", spec := "fnExactLengthOf", apart := false }
def FnExactLengthOfSaid : Prop := fnExactLengthOfRow.holds Try.pinned (OpenSpec.ofChange fnExactLengthOfSpec)

/-- ITS FALSE NEIGHBOUR: 'it returns false'. Refute it at one input. -/
def fnExactLengthOfWrong : ChangeSpec := { name := "fnExactLengthOf", fn := fun _ => fun
  | [d] => { results := [.lit (.bool false)], args := [d] }
  | _ => none }
def FnExactLengthOfWrongFalsely : Prop := fnExactLengthOfRow.holds Try.pinned (OpenSpec.ofChange fnExactLengthOfWrong)

/-- 'laws.FnExactApplyOrder': WHATEVER THE INPUT: true; the input reads as it did. -/
def fnExactApplyOrderSpec : ChangeSpec := { name := "fnExactApplyOrder", fn := fun _ => fun
  | [d1, d2] => { results := [.lit (.bool true)], args := [d1, d2] }
  | _ => none }
def fnExactApplyOrderRow : OpenClaim := { program := "ytnbcldlkhmmimaa", sum := "42403fe90d4fe2aed949c8cd4ae0ddc13b1104ed47b308cf50ab00a22005b9df", func := "loop.example/g00549/laws.FnExactApplyOrder", spec := "fnExactApplyOrder", apart := false }
def FnExactApplyOrderSaid : Prop := fnExactApplyOrderRow.holds Try.pinned (OpenSpec.ofChange fnExactApplyOrderSpec)

/-- ITS FALSE NEIGHBOUR: 'it returns false'. Refute it at one input. -/
def fnExactApplyOrderWrong : ChangeSpec := { name := "fnExactApplyOrder", fn := fun _ => fun
  | [d1, d2] => { results := [.lit (.bool false)], args := [d1, d2] }
  | _ => none }
def FnExactApplyOrderWrongFalsely : Prop := fnExactApplyOrderRow.holds Try.pinned (OpenSpec.ofChange fnExactApplyOrderWrong)

/-- 'laws.FnExactCyclesOf': WHATEVER THE INPUT: true; the input reads as it did. -/
def fnExactCyclesOfSpec : ChangeSpec := { name := "fnExactCyclesOf", fn := fun _ => fun
  | [d] => { results := [.lit (.bool true)], args := [d] }
  | _ => none }
def fnExactCyclesOfRow : OpenClaim := { program := "ytnbcldlkhmmimaa", sum := "42403fe90d4fe2aed949c8cd4ae0ddc13b1104ed47b308cf50ab00a22005b9df", func := "loop.example/g00549/laws.FnExactCyclesOf", spec := "fnExactCyclesOf", apart := false }
def FnExactCyclesOfSaid : Prop := fnExactCyclesOfRow.holds Try.pinned (OpenSpec.ofChange fnExactCyclesOfSpec)

/-- ITS FALSE NEIGHBOUR: 'it returns false'. Refute it at one input. -/
def fnExactCyclesOfWrong : ChangeSpec := { name := "fnExactCyclesOf", fn := fun _ => fun
  | [d] => { results := [.lit (.bool false)], args := [d] }
  | _ => none }
def FnExactCyclesOfWrongFalsely : Prop := fnExactCyclesOfRow.holds Try.pinned (OpenSpec.ofChange fnExactCyclesOfWrong)

/-- 'laws.FnExactRunSwitches': WHATEVER THE INPUT: true; the input reads as it did. -/
def fnExactRunSwitchesSpec : ChangeSpec := { name := "fnExactRunSwitches", fn := fun _ => fun
  | [d1, d2, d3] => { results := [.lit (.bool true)], args := [d1, d2, d3] }
  | _ => none }
def fnExactRunSwitchesRow : OpenClaim := { program := "ytnbcldlkhmmimaa", sum := "42403fe90d4fe2aed949c8cd4ae0ddc13b1104ed47b308cf50ab00a22005b9df", func := "loop.example/g00549/laws.FnExactRunSwitches", spec := "fnExactRunSwitches", recurses := true, apart := false }
def FnExactRunSwitchesSaid : Prop := fnExactRunSwitchesRow.holds Try.pinned (OpenSpec.ofChange fnExactRunSwitchesSpec)

/-- ITS FALSE NEIGHBOUR: 'it returns false'. Refute it at one input. -/
def fnExactRunSwitchesWrong : ChangeSpec := { name := "fnExactRunSwitches", fn := fun _ => fun
  | [d1, d2, d3] => { results := [.lit (.bool false)], args := [d1, d2, d3] }
  | _ => none }
def FnExactRunSwitchesWrongFalsely : Prop := fnExactRunSwitchesRow.holds Try.pinned (OpenSpec.ofChange fnExactRunSwitchesWrong)

/-- 'laws.FnExactRouteOrder': WHATEVER THE INPUT: true; the input reads as it did. -/
def fnExactRouteOrderSpec : ChangeSpec := { name := "fnExactRouteOrder", fn := fun _ => fun
  | [d] => { results := [.lit (.bool true)], args := [d] }
  | _ => none }
def fnExactRouteOrderRow : OpenClaim := { program := "ytnbcldlkhmmimaa", sum := "42403fe90d4fe2aed949c8cd4ae0ddc13b1104ed47b308cf50ab00a22005b9df", func := "loop.example/g00549/laws.FnExactRouteOrder", spec := "fnExactRouteOrder", recurses := true, apart := false }
def FnExactRouteOrderSaid : Prop := fnExactRouteOrderRow.holds Try.pinned (OpenSpec.ofChange fnExactRouteOrderSpec)

/-- ITS FALSE NEIGHBOUR: 'it returns false'. Refute it at one input. -/
def fnExactRouteOrderWrong : ChangeSpec := { name := "fnExactRouteOrder", fn := fun _ => fun
  | [d] => { results := [.lit (.bool false)], args := [d] }
  | _ => none }
def FnExactRouteOrderWrongFalsely : Prop := fnExactRouteOrderRow.holds Try.pinned (OpenSpec.ofChange fnExactRouteOrderWrong)

/- THE SECOND FORM. 'bulk': how many values and letters a reading holds, each counted each time it is reached (what is shared counts as often as it is met; a slice's spare places count too). A statement '..UptoSaid' is the law's where the arguments, and the package variables that the reading takes, are together of bulk at most 1048576: NARROWER than '..Said'. Prove '..Said' where nothing that the law and all that it calls make is longer than what came in: it says more and counts as full. Else prove '..UptoSaid'. A law counts once. -/
mutual
def uptoBulk {H : Type} : DataW H → Nat
  | .lit (.string bytes) => bytes.length + 1
  | .lit _ => 1
  | .nil => 1
  | .ptr d => uptoBulk d + 1
  | .slice elems spare => uptoBulkAll elems + uptoBulkAll spare + 1
  | .agg parts => uptoBulkAll parts + 1
  | .iface _ d => uptoBulk d + 1
  | .map entries => uptoBulkEntries entries + 1
  | .held _ => 1
def uptoBulkAll {H : Type} : List (DataW H) → Nat
  | [] => 0
  | d :: r => uptoBulk d + uptoBulkAll r
def uptoBulkEntries {H : Type} : List (Lit × DataW H) → Nat
  | [] => 0
  | x :: r => uptoBulkEntry x + uptoBulkEntries r
def uptoBulkEntry {H : Type} : Lit × DataW H → Nat
  | (.string bytes, d) => bytes.length + uptoBulk d + 1
  | (_, d) => uptoBulk d + 1
 end
def uptoSmall : (H : Type) → List (DataW H) → Bool := fun _ ds => decide (uptoBulkAll ds ≤ 1048576)
def OpenSpec.upto (s : _root_.Go.ChangeSpec) : _root_.Go.OpenSpec := { _root_.Go.OpenSpec.ofChange s with cond := some uptoSmall }

/-- 'laws.FnExactIsOrder', WHERE WHAT IT READS IS OF BULK AT MOST 1048576: true; the input reads as it did. -/
def fnExactIsOrderUptoRow : OpenClaim := { program := "ytnbcldlkhmmimaa", sum := "42403fe90d4fe2aed949c8cd4ae0ddc13b1104ed47b308cf50ab00a22005b9df", func := "loop.example/g00549/laws.FnExactIsOrder", spec := "fnExactIsOrder", apart := false, narrowed := true }
def FnExactIsOrderUptoSaid : Prop := fnExactIsOrderUptoRow.holds Try.pinned (OpenSpec.upto fnExactIsOrderSpec)

/-- 'laws.FnExactBackOrder', WHERE WHAT IT READS IS OF BULK AT MOST 1048576: true; the input reads as it did. -/
def fnExactBackOrderUptoRow : OpenClaim := { program := "ytnbcldlkhmmimaa", sum := "42403fe90d4fe2aed949c8cd4ae0ddc13b1104ed47b308cf50ab00a22005b9df", func := "loop.example/g00549/laws.FnExactBackOrder", spec := "fnExactBackOrder", apart := false, narrowed := true }
def FnExactBackOrderUptoSaid : Prop := fnExactBackOrderUptoRow.holds Try.pinned (OpenSpec.upto fnExactBackOrderSpec)

/-- 'laws.FnExactThenOrder', WHERE WHAT IT READS IS OF BULK AT MOST 1048576: true; the input reads as it did. -/
def fnExactThenOrderUptoRow : OpenClaim := { program := "ytnbcldlkhmmimaa", sum := "42403fe90d4fe2aed949c8cd4ae0ddc13b1104ed47b308cf50ab00a22005b9df", func := "loop.example/g00549/laws.FnExactThenOrder", spec := "fnExactThenOrder", apart := false, narrowed := true }
def FnExactThenOrderUptoSaid : Prop := fnExactThenOrderUptoRow.holds Try.pinned (OpenSpec.upto fnExactThenOrderSpec)

/-- 'laws.FnExactNumberOf', WHERE WHAT IT READS IS OF BULK AT MOST 1048576: true; the input reads as it did. -/
def fnExactNumberOfUptoRow : OpenClaim := { program := "ytnbcldlkhmmimaa", sum := "42403fe90d4fe2aed949c8cd4ae0ddc13b1104ed47b308cf50ab00a22005b9df", func := "loop.example/g00549/laws.FnExactNumberOf", spec := "fnExactNumberOf", apart := false, narrowed := true }
def FnExactNumberOfUptoSaid : Prop := fnExactNumberOfUptoRow.holds Try.pinned (OpenSpec.upto fnExactNumberOfSpec)

/-- 'laws.FnExactSignOf', WHERE WHAT IT READS IS OF BULK AT MOST 1048576: true; the input reads as it did. -/
def fnExactSignOfUptoRow : OpenClaim := { program := "ytnbcldlkhmmimaa", sum := "42403fe90d4fe2aed949c8cd4ae0ddc13b1104ed47b308cf50ab00a22005b9df", func := "loop.example/g00549/laws.FnExactSignOf", spec := "fnExactSignOf", apart := false, narrowed := true }
def FnExactSignOfUptoSaid : Prop := fnExactSignOfUptoRow.holds Try.pinned (OpenSpec.upto fnExactSignOfSpec)

/-- 'laws.FnExactLengthOf', WHERE WHAT IT READS IS OF BULK AT MOST 1048576: true; the input reads as it did. -/
def fnExactLengthOfUptoRow : OpenClaim := { program := "ytnbcldlkhmmimaa", sum := "42403fe90d4fe2aed949c8cd4ae0ddc13b1104ed47b308cf50ab00a22005b9df", func := "loop.example/g00549/laws.FnExactLengthOf", spec := "fnExactLengthOf", apart := false, narrowed := true }
def FnExactLengthOfUptoSaid : Prop := fnExactLengthOfUptoRow.holds Try.pinned (OpenSpec.upto fnExactLengthOfSpec)

/-- 'laws.FnExactApplyOrder', WHERE WHAT IT READS IS OF BULK AT MOST 1048576: true; the input reads as it did. -/
def fnExactApplyOrderUptoRow : OpenClaim := { program := "ytnbcldlkhmmimaa", sum := "42403fe90d4fe2aed949c8cd4ae0ddc13b1104ed47b308cf50ab00a22005b9df", func := "loop.example/g00549/laws.FnExactApplyOrder", spec := "fnExactApplyOrder", apart := false, narrowed := true }
def FnExactApplyOrderUptoSaid : Prop := fnExactApplyOrderUptoRow.holds Try.pinned (OpenSpec.upto fnExactApplyOrderSpec)

/-- 'laws.FnExactCyclesOf', WHERE WHAT IT READS IS OF BULK AT MOST 1048576: true; the input reads as it did. -/
def fnExactCyclesOfUptoRow : OpenClaim := { program := "ytnbcldlkhmmimaa", sum := "42403fe90d4fe2aed949c8cd4ae0ddc13b1104ed47b308cf50ab00a22005b9df", func := "loop.example/g00549/laws.FnExactCyclesOf", spec := "fnExactCyclesOf", apart := false, narrowed := true }
def FnExactCyclesOfUptoSaid : Prop := fnExactCyclesOfUptoRow.holds Try.pinned (OpenSpec.upto fnExactCyclesOfSpec)

/-- 'laws.FnExactRunSwitches', WHERE WHAT IT READS IS OF BULK AT MOST 1048576: true; the input reads as it did. -/
def fnExactRunSwitchesUptoRow : OpenClaim := { program := "ytnbcldlkhmmimaa", sum := "42403fe90d4fe2aed949c8cd4ae0ddc13b1104ed47b308cf50ab00a22005b9df", func := "loop.example/g00549/laws.FnExactRunSwitches", spec := "fnExactRunSwitches", recurses := true, apart := false, narrowed := true }
def FnExactRunSwitchesUptoSaid : Prop := fnExactRunSwitchesUptoRow.holds Try.pinned (OpenSpec.upto fnExactRunSwitchesSpec)

/-- 'laws.FnExactRouteOrder', WHERE WHAT IT READS IS OF BULK AT MOST 1048576: true; the input reads as it did. -/
def fnExactRouteOrderUptoRow : OpenClaim := { program := "ytnbcldlkhmmimaa", sum := "42403fe90d4fe2aed949c8cd4ae0ddc13b1104ed47b308cf50ab00a22005b9df", func := "loop.example/g00549/laws.FnExactRouteOrder", spec := "fnExactRouteOrder", recurses := true, apart := false, narrowed := true }
def FnExactRouteOrderUptoSaid : Prop := fnExactRouteOrderUptoRow.holds Try.pinned (OpenSpec.upto fnExactRouteOrderSpec)

end Rows
end Go.Proofs.Ytnbcldlkhmmimaa
