/-
  NARROWER THAN 'FOR EVERY INPUT', by the rows' own cells (each row's printed sentence says how): FnExactUnpadBody: laid · FnExactPeelOnion: laid · FnExactWalkOnion: laid · FnBodies: laid · FnLayers: laid.
  DERIVED. THE GIVEN ROWS OF THIS SEAT. 5 by the template 'for every input the law returns true; each argument reads behind the call as it read before'; 0 by the template 'total and deterministic' (their statements: YtobfeehelmbljaaDoorTotals.lean).
  GIVEN WITH THE SEED: the statements are not yours to turn. If you find one false, say at which input.
  Laid BY PROGRAM, IN A SANDBOX (cutbox-rows.mjs): the forced cells as the released guide's own fill.sh prints them over the translation 2a043e784b89f01e… (all of the seat's roots in one cut). By AI agents, Wed Nov 11 2026. No macro, syntax, notation, axiom, sorry.
-/
import Derived.Test.YtobfeehelmbljaaDoorChecked
import GoSem.PinnedTables
import GoSem.Claim
import GoSem.ClaimJoined
import GoSem.ClaimMapViews
import Derived.JoinedTies
import Derived.KernelRfl
namespace Go.Proofs.YtobfeehelmbljaaDoor
/- THE CELL 'sum', in the pinned program and in every row, IS THE sha256 OF THE DUMP (.gsa) THAT YtobfeehelmbljaaDoorProg.lean LOADS. Nothing in Lean hashes anything: it is a label: what it is worth is what the hold of that sum in a sandbox is worth. -/
noncomputable def Tryd.pinned : Pinned := { name := "ytobfeehelmbljaadoor", sum := "2a043e784b89f01e5bc4991b99c55b463c3c8aacfb88ad521c37f443a20d5a11", checked := Tryd.checked }
namespace Rows
def none {H : Type} : Left H := { results := [], args := [] }

/- WHAT THE LISTED PACKAGE-LEVEL VARIABLES READ AS WHEN THE CALL BEGINS. Each datum BY PROGRAM (the guide's laid-datum.mjs) off the statement by which the dump's own 'gosem.cut.vars' lays the variable. In a bare row this is a premise. The card (YtobfeehelmbljaaDoorCards.lean) ties it to the program's text. -/
def laid_unicode_utf8_acceptRanges {H : Type} : DataW H := .agg [.agg [.lit (.int .u8 128), .lit (.int .u8 191)], .agg [.lit (.int .u8 160), .lit (.int .u8 191)], .agg [.lit (.int .u8 128), .lit (.int .u8 159)], .agg [.lit (.int .u8 144), .lit (.int .u8 191)], .agg [.lit (.int .u8 128), .lit (.int .u8 143)], .agg [.lit (.int .u8 0), .lit (.int .u8 0)], .agg [.lit (.int .u8 0), .lit (.int .u8 0)], .agg [.lit (.int .u8 0), .lit (.int .u8 0)], .agg [.lit (.int .u8 0), .lit (.int .u8 0)], .agg [.lit (.int .u8 0), .lit (.int .u8 0)], .agg [.lit (.int .u8 0), .lit (.int .u8 0)], .agg [.lit (.int .u8 0), .lit (.int .u8 0)], .agg [.lit (.int .u8 0), .lit (.int .u8 0)], .agg [.lit (.int .u8 0), .lit (.int .u8 0)], .agg [.lit (.int .u8 0), .lit (.int .u8 0)], .agg [.lit (.int .u8 0), .lit (.int .u8 0)]]
/-- One of Go's own tables, pinned by name: the form's constant. -/
def laid_unicode_utf8_first : DataW Unit := Go.Pinned.utf8First

/-- 'laws.FnExactUnpadBody': WHATEVER THE INPUT: true; the input reads as it did. -/
def fnExactUnpadBodySpec : ChangeSpec := { name := "fnExactUnpadBody", fn := fun _ => fun
  | [d] => { results := [.lit (.bool true)], args := [d] }
  | _ => none }
def fnExactUnpadBodyRow : OpenClaim := { program := "ytobfeehelmbljaadoor", sum := "2a043e784b89f01e5bc4991b99c55b463c3c8aacfb88ad521c37f443a20d5a11", func := "loop.example/g00549/laws.FnExactUnpadBody", spec := "fnExactUnpadBody", inPlace := ["internal/bytealg.IndexByteString", "internal/bytealg.IndexString"], named := ["unicode/utf8.first", "unicode/utf8.acceptRanges", "internal/bytealg.MaxLen"], apart := false, laid := [("unicode/utf8.acceptRanges", laid_unicode_utf8_acceptRanges), ("unicode/utf8.first", laid_unicode_utf8_first)] }
def FnExactUnpadBodySaid : Prop := fnExactUnpadBodyRow.holds Tryd.pinned (OpenSpec.ofChange fnExactUnpadBodySpec)

/-- ITS FALSE NEIGHBOUR: 'it returns false'. Refute it at one input. -/
def fnExactUnpadBodyWrong : ChangeSpec := { name := "fnExactUnpadBody", fn := fun _ => fun
  | [d] => { results := [.lit (.bool false)], args := [d] }
  | _ => none }
def FnExactUnpadBodyWrongFalsely : Prop := fnExactUnpadBodyRow.holds Tryd.pinned (OpenSpec.ofChange fnExactUnpadBodyWrong)

/-- 'laws.FnExactPeelOnion': WHATEVER THE INPUT: true; the input reads as it did. -/
def fnExactPeelOnionSpec : ChangeSpec := { name := "fnExactPeelOnion", fn := fun _ => fun
  | [d1, d2] => { results := [.lit (.bool true)], args := [d1, d2] }
  | _ => none }
def fnExactPeelOnionRow : OpenClaim := { program := "ytobfeehelmbljaadoor", sum := "2a043e784b89f01e5bc4991b99c55b463c3c8aacfb88ad521c37f443a20d5a11", func := "loop.example/g00549/laws.FnExactPeelOnion", spec := "fnExactPeelOnion", inPlace := ["internal/abi.NoEscape", "internal/bytealg.MakeNoZero", "internal/bytealg.IndexByteString", "internal/bytealg.IndexString"], named := ["unicode/utf8.first", "unicode/utf8.acceptRanges", "internal/bytealg.MaxLen"], apart := false, laid := [("unicode/utf8.acceptRanges", laid_unicode_utf8_acceptRanges), ("unicode/utf8.first", laid_unicode_utf8_first)] }
def FnExactPeelOnionSaid : Prop := fnExactPeelOnionRow.holds Tryd.pinned (OpenSpec.ofChange fnExactPeelOnionSpec)

/-- ITS FALSE NEIGHBOUR: 'it returns false'. Refute it at one input. -/
def fnExactPeelOnionWrong : ChangeSpec := { name := "fnExactPeelOnion", fn := fun _ => fun
  | [d1, d2] => { results := [.lit (.bool false)], args := [d1, d2] }
  | _ => none }
def FnExactPeelOnionWrongFalsely : Prop := fnExactPeelOnionRow.holds Tryd.pinned (OpenSpec.ofChange fnExactPeelOnionWrong)

/-- 'laws.FnExactWalkOnion': WHATEVER THE INPUT: true; the input reads as it did. -/
def fnExactWalkOnionSpec : ChangeSpec := { name := "fnExactWalkOnion", fn := fun _ => fun
  | [d1, d2] => { results := [.lit (.bool true)], args := [d1, d2] }
  | _ => none }
def fnExactWalkOnionRow : OpenClaim := { program := "ytobfeehelmbljaadoor", sum := "2a043e784b89f01e5bc4991b99c55b463c3c8aacfb88ad521c37f443a20d5a11", func := "loop.example/g00549/laws.FnExactWalkOnion", spec := "fnExactWalkOnion", inPlace := ["internal/abi.NoEscape", "internal/bytealg.MakeNoZero", "internal/bytealg.IndexByteString", "internal/bytealg.IndexString"], named := ["unicode/utf8.first", "unicode/utf8.acceptRanges", "internal/bytealg.MaxLen"], apart := false, laid := [("unicode/utf8.acceptRanges", laid_unicode_utf8_acceptRanges), ("unicode/utf8.first", laid_unicode_utf8_first)] }
def FnExactWalkOnionSaid : Prop := fnExactWalkOnionRow.holds Tryd.pinned (OpenSpec.ofChange fnExactWalkOnionSpec)

/-- ITS FALSE NEIGHBOUR: 'it returns false'. Refute it at one input. -/
def fnExactWalkOnionWrong : ChangeSpec := { name := "fnExactWalkOnion", fn := fun _ => fun
  | [d1, d2] => { results := [.lit (.bool false)], args := [d1, d2] }
  | _ => none }
def FnExactWalkOnionWrongFalsely : Prop := fnExactWalkOnionRow.holds Tryd.pinned (OpenSpec.ofChange fnExactWalkOnionWrong)

/-- 'laws.FnBodies': WHATEVER THE INPUT: true; the input reads as it did. -/
def fnBodiesSpec : ChangeSpec := { name := "fnBodies", fn := fun _ => fun
  | [d1, d2] => { results := [.lit (.bool true)], args := [d1, d2] }
  | _ => none }
def fnBodiesRow : OpenClaim := { program := "ytobfeehelmbljaadoor", sum := "2a043e784b89f01e5bc4991b99c55b463c3c8aacfb88ad521c37f443a20d5a11", func := "loop.example/g00549/laws.FnBodies", spec := "fnBodies", inPlace := ["internal/abi.NoEscape", "internal/bytealg.MakeNoZero", "internal/bytealg.IndexByteString", "internal/bytealg.IndexString"], named := ["unicode/utf8.first", "unicode/utf8.acceptRanges", "internal/bytealg.MaxLen"], apart := false, laid := [("unicode/utf8.acceptRanges", laid_unicode_utf8_acceptRanges), ("unicode/utf8.first", laid_unicode_utf8_first)] }
def FnBodiesSaid : Prop := fnBodiesRow.holds Tryd.pinned (OpenSpec.ofChange fnBodiesSpec)

/-- ITS FALSE NEIGHBOUR: 'it returns false'. Refute it at one input. -/
def fnBodiesWrong : ChangeSpec := { name := "fnBodies", fn := fun _ => fun
  | [d1, d2] => { results := [.lit (.bool false)], args := [d1, d2] }
  | _ => none }
def FnBodiesWrongFalsely : Prop := fnBodiesRow.holds Tryd.pinned (OpenSpec.ofChange fnBodiesWrong)

/-- 'laws.FnLayers': WHATEVER THE INPUT: true; the input reads as it did. -/
def fnLayersSpec : ChangeSpec := { name := "fnLayers", fn := fun _ => fun
  | [d1, d2] => { results := [.lit (.bool true)], args := [d1, d2] }
  | _ => none }
def fnLayersRow : OpenClaim := { program := "ytobfeehelmbljaadoor", sum := "2a043e784b89f01e5bc4991b99c55b463c3c8aacfb88ad521c37f443a20d5a11", func := "loop.example/g00549/laws.FnLayers", spec := "fnLayers", inPlace := ["internal/abi.NoEscape", "internal/bytealg.MakeNoZero", "internal/bytealg.IndexByteString", "internal/bytealg.IndexString"], named := ["unicode/utf8.first", "unicode/utf8.acceptRanges", "internal/bytealg.MaxLen"], apart := false, laid := [("unicode/utf8.acceptRanges", laid_unicode_utf8_acceptRanges), ("unicode/utf8.first", laid_unicode_utf8_first)] }
def FnLayersSaid : Prop := fnLayersRow.holds Tryd.pinned (OpenSpec.ofChange fnLayersSpec)

/-- ITS FALSE NEIGHBOUR: 'it returns false'. Refute it at one input. -/
def fnLayersWrong : ChangeSpec := { name := "fnLayers", fn := fun _ => fun
  | [d1, d2] => { results := [.lit (.bool false)], args := [d1, d2] }
  | _ => none }
def FnLayersWrongFalsely : Prop := fnLayersRow.holds Tryd.pinned (OpenSpec.ofChange fnLayersWrong)

/- THE SECOND FORM. 'bulk': how many values and letters a reading holds, each counted each time it is reached (what is shared counts as often as it is met; a slice's spare places count too). A statement '..UptoSaid' is the law's where the arguments, and the package variables that the reading takes, are together of bulk at most 1048576: NARROWER than '..Said'. Prove '..Said' where nothing that the law and all that it calls make is longer than what came in: it says more and counts as full. Else prove '..UptoSaid'. A law counts once. -/
mutual
def uptoBulk {H : Type} : DataW H → Nat
  | .lit (.string bytes) => bytes.length + 1
  | .lit _ => 1
  | .nil => 1
  | .ptr d => uptoBulk d + 1
  | .slice elems spare => uptoBulkAll elems + uptoBulkAll spare + 1
  | .agg parts => uptoBulkAll parts + 1
  | .iface _ d => uptoBulk d + 1
  | .map entries => uptoBulkEntries entries + 1
  | .held _ => 1
def uptoBulkAll {H : Type} : List (DataW H) → Nat
  | [] => 0
  | d :: r => uptoBulk d + uptoBulkAll r
def uptoBulkEntries {H : Type} : List (Lit × DataW H) → Nat
  | [] => 0
  | x :: r => uptoBulkEntry x + uptoBulkEntries r
def uptoBulkEntry {H : Type} : Lit × DataW H → Nat
  | (.string bytes, d) => bytes.length + uptoBulk d + 1
  | (_, d) => uptoBulk d + 1
 end
def uptoSmall : (H : Type) → List (DataW H) → Bool := fun _ ds => decide (uptoBulkAll ds ≤ 1048576)
def OpenSpec.upto (s : _root_.Go.ChangeSpec) : _root_.Go.OpenSpec := { _root_.Go.OpenSpec.ofChange s with cond := some uptoSmall }

/-- 'laws.FnExactUnpadBody', WHERE WHAT IT READS IS OF BULK AT MOST 1048576: true; the input reads as it did. -/
def fnExactUnpadBodyUptoRow : OpenClaim := { program := "ytobfeehelmbljaadoor", sum := "2a043e784b89f01e5bc4991b99c55b463c3c8aacfb88ad521c37f443a20d5a11", func := "loop.example/g00549/laws.FnExactUnpadBody", spec := "fnExactUnpadBody", inPlace := ["internal/bytealg.IndexByteString", "internal/bytealg.IndexString"], named := ["unicode/utf8.first", "unicode/utf8.acceptRanges", "internal/bytealg.MaxLen"], apart := false, laid := [("unicode/utf8.acceptRanges", laid_unicode_utf8_acceptRanges), ("unicode/utf8.first", laid_unicode_utf8_first)], narrowed := true }
def FnExactUnpadBodyUptoSaid : Prop := fnExactUnpadBodyUptoRow.holds Tryd.pinned (OpenSpec.upto fnExactUnpadBodySpec)

/-- 'laws.FnExactPeelOnion', WHERE WHAT IT READS IS OF BULK AT MOST 1048576: true; the input reads as it did. -/
def fnExactPeelOnionUptoRow : OpenClaim := { program := "ytobfeehelmbljaadoor", sum := "2a043e784b89f01e5bc4991b99c55b463c3c8aacfb88ad521c37f443a20d5a11", func := "loop.example/g00549/laws.FnExactPeelOnion", spec := "fnExactPeelOnion", inPlace := ["internal/abi.NoEscape", "internal/bytealg.MakeNoZero", "internal/bytealg.IndexByteString", "internal/bytealg.IndexString"], named := ["unicode/utf8.first", "unicode/utf8.acceptRanges", "internal/bytealg.MaxLen"], apart := false, laid := [("unicode/utf8.acceptRanges", laid_unicode_utf8_acceptRanges), ("unicode/utf8.first", laid_unicode_utf8_first)], narrowed := true }
def FnExactPeelOnionUptoSaid : Prop := fnExactPeelOnionUptoRow.holds Tryd.pinned (OpenSpec.upto fnExactPeelOnionSpec)

/-- 'laws.FnExactWalkOnion', WHERE WHAT IT READS IS OF BULK AT MOST 1048576: true; the input reads as it did. -/
def fnExactWalkOnionUptoRow : OpenClaim := { program := "ytobfeehelmbljaadoor", sum := "2a043e784b89f01e5bc4991b99c55b463c3c8aacfb88ad521c37f443a20d5a11", func := "loop.example/g00549/laws.FnExactWalkOnion", spec := "fnExactWalkOnion", inPlace := ["internal/abi.NoEscape", "internal/bytealg.MakeNoZero", "internal/bytealg.IndexByteString", "internal/bytealg.IndexString"], named := ["unicode/utf8.first", "unicode/utf8.acceptRanges", "internal/bytealg.MaxLen"], apart := false, laid := [("unicode/utf8.acceptRanges", laid_unicode_utf8_acceptRanges), ("unicode/utf8.first", laid_unicode_utf8_first)], narrowed := true }
def FnExactWalkOnionUptoSaid : Prop := fnExactWalkOnionUptoRow.holds Tryd.pinned (OpenSpec.upto fnExactWalkOnionSpec)

/-- 'laws.FnBodies', WHERE WHAT IT READS IS OF BULK AT MOST 1048576: true; the input reads as it did. -/
def fnBodiesUptoRow : OpenClaim := { program := "ytobfeehelmbljaadoor", sum := "2a043e784b89f01e5bc4991b99c55b463c3c8aacfb88ad521c37f443a20d5a11", func := "loop.example/g00549/laws.FnBodies", spec := "fnBodies", inPlace := ["internal/abi.NoEscape", "internal/bytealg.MakeNoZero", "internal/bytealg.IndexByteString", "internal/bytealg.IndexString"], named := ["unicode/utf8.first", "unicode/utf8.acceptRanges", "internal/bytealg.MaxLen"], apart := false, laid := [("unicode/utf8.acceptRanges", laid_unicode_utf8_acceptRanges), ("unicode/utf8.first", laid_unicode_utf8_first)], narrowed := true }
def FnBodiesUptoSaid : Prop := fnBodiesUptoRow.holds Tryd.pinned (OpenSpec.upto fnBodiesSpec)

/-- 'laws.FnLayers', WHERE WHAT IT READS IS OF BULK AT MOST 1048576: true; the input reads as it did. -/
def fnLayersUptoRow : OpenClaim := { program := "ytobfeehelmbljaadoor", sum := "2a043e784b89f01e5bc4991b99c55b463c3c8aacfb88ad521c37f443a20d5a11", func := "loop.example/g00549/laws.FnLayers", spec := "fnLayers", inPlace := ["internal/abi.NoEscape", "internal/bytealg.MakeNoZero", "internal/bytealg.IndexByteString", "internal/bytealg.IndexString"], named := ["unicode/utf8.first", "unicode/utf8.acceptRanges", "internal/bytealg.MaxLen"], apart := false, laid := [("unicode/utf8.acceptRanges", laid_unicode_utf8_acceptRanges), ("unicode/utf8.first", laid_unicode_utf8_first)], narrowed := true }
def FnLayersUptoSaid : Prop := fnLayersUptoRow.holds Tryd.pinned (OpenSpec.upto fnLayersSpec)

end Rows
end Go.Proofs.YtobfeehelmbljaaDoor
