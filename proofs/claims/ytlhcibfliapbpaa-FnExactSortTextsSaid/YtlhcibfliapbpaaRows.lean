/-
  No cell of these rows narrows 'for every input' (looked for: loops, veiled, ifaces, maps, wideKeys, modest, calm, conditions, laid).
  DERIVED. THE GIVEN ROWS OF THIS SEAT. 2 by the template 'for every input the law returns true; each argument reads behind the call as it read before'; 0 by the template 'total and deterministic' (their statements: YtlhcibfliapbpaaTotals.lean).
  GIVEN WITH THE SEED: the statements are not yours to turn. If you find one false, say at which input.
  Laid BY PROGRAM, IN A SANDBOX (cutbox-rows.mjs): the forced cells as the released guide's own fill.sh prints them over the translation 3645e8c4e588cb72… (all of the seat's roots in one cut). By AI agents, Wed Nov 11 2026. No macro, syntax, notation, axiom, sorry.
-/
import Derived.Test.YtlhcibfliapbpaaChecked
import GoSem.Claim
import GoSem.ClaimJoined
import GoSem.ClaimMapViews
import Derived.JoinedTies
import Derived.KernelRfl
namespace Go.Proofs.Ytlhcibfliapbpaa
/- THE CELL 'sum', in the pinned program and in every row, IS THE sha256 OF THE DUMP (.gsa) THAT YtlhcibfliapbpaaProg.lean LOADS. Nothing in Lean hashes anything: it is a label: what it is worth is what the hold of that sum in a sandbox is worth. -/
noncomputable def Try.pinned : Pinned := { name := "ytlhcibfliapbpaa", sum := "3645e8c4e588cb72f7a59f3d8487bee9c201b5103b9d8988660946f6cec86c4e", checked := Try.checked }
namespace Rows
def none {H : Type} : Left H := { results := [], args := [] }

/-- 'laws.FnExactRouteOrder': WHATEVER THE INPUT: true; the input reads as it did. -/
def fnExactRouteOrderSpec : ChangeSpec := { name := "fnExactRouteOrder", fn := fun _ => fun
  | [d] => { results := [.lit (.bool true)], args := [d] }
  | _ => none }
def fnExactRouteOrderRow : OpenClaim := { program := "ytlhcibfliapbpaa", sum := "3645e8c4e588cb72f7a59f3d8487bee9c201b5103b9d8988660946f6cec86c4e", func := "loop.example/g00549/laws.FnExactRouteOrder", spec := "fnExactRouteOrder", recurses := true, apart := false }
def FnExactRouteOrderSaid : Prop := fnExactRouteOrderRow.holds Try.pinned (OpenSpec.ofChange fnExactRouteOrderSpec)

/-- ITS FALSE NEIGHBOUR: 'it returns false'. Refute it at one input. -/
def fnExactRouteOrderWrong : ChangeSpec := { name := "fnExactRouteOrder", fn := fun _ => fun
  | [d] => { results := [.lit (.bool false)], args := [d] }
  | _ => none }
def FnExactRouteOrderWrongFalsely : Prop := fnExactRouteOrderRow.holds Try.pinned (OpenSpec.ofChange fnExactRouteOrderWrong)

/-- 'laws.FnExactSortTexts': WHATEVER THE INPUT: true; the input reads as it did. -/
def fnExactSortTextsSpec : ChangeSpec := { name := "fnExactSortTexts", fn := fun _ => fun
  | [d] => { results := [.lit (.bool true)], args := [d] }
  | _ => none }
def fnExactSortTextsRow : OpenClaim := { program := "ytlhcibfliapbpaa", sum := "3645e8c4e588cb72f7a59f3d8487bee9c201b5103b9d8988660946f6cec86c4e", func := "loop.example/g00549/laws.FnExactSortTexts", spec := "fnExactSortTexts", unfollowed := true, recurses := true, apart := false }
def FnExactSortTextsSaid : Prop := fnExactSortTextsRow.holds Try.pinned (OpenSpec.ofChange fnExactSortTextsSpec)

/-- ITS FALSE NEIGHBOUR: 'it returns false'. Refute it at one input. -/
def fnExactSortTextsWrong : ChangeSpec := { name := "fnExactSortTexts", fn := fun _ => fun
  | [d] => { results := [.lit (.bool false)], args := [d] }
  | _ => none }
def FnExactSortTextsWrongFalsely : Prop := fnExactSortTextsRow.holds Try.pinned (OpenSpec.ofChange fnExactSortTextsWrong)

/- THE SECOND FORM. 'bulk': how many values and letters a reading holds, each counted each time it is reached (what is shared counts as often as it is met; a slice's spare places count too). A statement '..UptoSaid' is the law's where the arguments, and the package variables that the reading takes, are together of bulk at most 1048576: NARROWER than '..Said'. Prove '..Said' where nothing that the law and all that it calls make is longer than what came in: it says more and counts as full. Else prove '..UptoSaid'. A law counts once. -/
mutual
def uptoBulk {H : Type} : DataW H → Nat
  | .lit (.string bytes) => bytes.length + 1
  | .lit _ => 1
  | .nil => 1
  | .ptr d => uptoBulk d + 1
  | .slice elems spare => uptoBulkAll elems + uptoBulkAll spare + 1
  | .agg parts => uptoBulkAll parts + 1
  | .iface _ d => uptoBulk d + 1
  | .map entries => uptoBulkEntries entries + 1
  | .held _ => 1
def uptoBulkAll {H : Type} : List (DataW H) → Nat
  | [] => 0
  | d :: r => uptoBulk d + uptoBulkAll r
def uptoBulkEntries {H : Type} : List (Lit × DataW H) → Nat
  | [] => 0
  | x :: r => uptoBulkEntry x + uptoBulkEntries r
def uptoBulkEntry {H : Type} : Lit × DataW H → Nat
  | (.string bytes, d) => bytes.length + uptoBulk d + 1
  | (_, d) => uptoBulk d + 1
 end
def uptoSmall : (H : Type) → List (DataW H) → Bool := fun _ ds => decide (uptoBulkAll ds ≤ 1048576)
def OpenSpec.upto (s : _root_.Go.ChangeSpec) : _root_.Go.OpenSpec := { _root_.Go.OpenSpec.ofChange s with cond := some uptoSmall }

/-- 'laws.FnExactRouteOrder', WHERE WHAT IT READS IS OF BULK AT MOST 1048576: true; the input reads as it did. -/
def fnExactRouteOrderUptoRow : OpenClaim := { program := "ytlhcibfliapbpaa", sum := "3645e8c4e588cb72f7a59f3d8487bee9c201b5103b9d8988660946f6cec86c4e", func := "loop.example/g00549/laws.FnExactRouteOrder", spec := "fnExactRouteOrder", recurses := true, apart := false, narrowed := true }
def FnExactRouteOrderUptoSaid : Prop := fnExactRouteOrderUptoRow.holds Try.pinned (OpenSpec.upto fnExactRouteOrderSpec)

/-- 'laws.FnExactSortTexts', WHERE WHAT IT READS IS OF BULK AT MOST 1048576: true; the input reads as it did. -/
def fnExactSortTextsUptoRow : OpenClaim := { program := "ytlhcibfliapbpaa", sum := "3645e8c4e588cb72f7a59f3d8487bee9c201b5103b9d8988660946f6cec86c4e", func := "loop.example/g00549/laws.FnExactSortTexts", spec := "fnExactSortTexts", unfollowed := true, recurses := true, apart := false, narrowed := true }
def FnExactSortTextsUptoSaid : Prop := fnExactSortTextsUptoRow.holds Try.pinned (OpenSpec.upto fnExactSortTextsSpec)

end Rows
end Go.Proofs.Ytlhcibfliapbpaa
