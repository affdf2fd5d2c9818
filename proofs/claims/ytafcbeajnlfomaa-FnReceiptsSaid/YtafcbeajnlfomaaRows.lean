/-
  No cell of these rows narrows 'for every input' (looked for: loops, veiled, ifaces, maps, wideKeys, modest, calm, conditions, laid).
  DERIVED. THE GIVEN ROWS OF THIS SEAT. 9 by the template 'for every input the law returns true; each argument reads behind the call as it read before'; 0 by the template 'total and deterministic' (their statements: YtafcbeajnlfomaaTotals.lean).
  GIVEN WITH THE SEED: the statements are not yours to turn. If you find one false, say at which input.
  Laid BY PROGRAM, IN A SANDBOX (cutbox-rows.mjs): the forced cells as the released guide's own fill.sh prints them over the translation b6af0937dc417fe0… (all of the seat's roots in one cut). By AI agents, Wed Nov 11 2026. No macro, syntax, notation, axiom, sorry.
-/
import Derived.Test.YtafcbeajnlfomaaChecked
import GoSem.Claim
import GoSem.ClaimJoined
import GoSem.ClaimMapViews
import Derived.JoinedTies
import Derived.KernelRfl
namespace Go.Proofs.Ytafcbeajnlfomaa
/- THE CELL 'sum', in the pinned program and in every row, IS THE sha256 OF THE DUMP (.gsa) THAT YtafcbeajnlfomaaProg.lean LOADS. Nothing in Lean hashes anything: it is a label: what it is worth is what the hold of that sum in a sandbox is worth. -/
noncomputable def Try.pinned : Pinned := { name := "ytafcbeajnlfomaa", sum := "b6af0937dc417fe0050ac22f1665d72a27ba0717431b895a79f79f784f7411cd", checked := Try.checked }
namespace Rows
def none {H : Type} : Left H := { results := [], args := [] }

/-- 'laws.FnExactStateFor': WHATEVER THE INPUT: true; the input reads as it did. -/
def fnExactStateForSpec : ChangeSpec := { name := "fnExactStateFor", fn := fun _ => fun
  | [d1, d2, d3] => { results := [.lit (.bool true)], args := [d1, d2, d3] }
  | _ => none }
def fnExactStateForRow : OpenClaim := { program := "ytafcbeajnlfomaa", sum := "b6af0937dc417fe0050ac22f1665d72a27ba0717431b895a79f79f784f7411cd", func := "loop.example/g00549/laws.FnExactStateFor", spec := "fnExactStateFor", apart := false }
def FnExactStateForSaid : Prop := fnExactStateForRow.holds Try.pinned (OpenSpec.ofChange fnExactStateForSpec)

/-- ITS FALSE NEIGHBOUR: 'it returns false'. Refute it at one input. -/
def fnExactStateForWrong : ChangeSpec := { name := "fnExactStateFor", fn := fun _ => fun
  | [d1, d2, d3] => { results := [.lit (.bool false)], args := [d1, d2, d3] }
  | _ => none }
def FnExactStateForWrongFalsely : Prop := fnExactStateForRow.holds Try.pinned (OpenSpec.ofChange fnExactStateForWrong)

/-- 'laws.FnExactCheckReceipt': WHATEVER THE INPUT: true; the input reads as it did. -/
def fnExactCheckReceiptSpec : ChangeSpec := { name := "fnExactCheckReceipt", fn := fun _ => fun
  | [d1, d2] => { results := [.lit (.bool true)], args := [d1, d2] }
  | _ => none }
def fnExactCheckReceiptRow : OpenClaim := { program := "ytafcbeajnlfomaa", sum := "b6af0937dc417fe0050ac22f1665d72a27ba0717431b895a79f79f784f7411cd", func := "loop.example/g00549/laws.FnExactCheckReceipt", spec := "fnExactCheckReceipt", apart := false }
def FnExactCheckReceiptSaid : Prop := fnExactCheckReceiptRow.holds Try.pinned (OpenSpec.ofChange fnExactCheckReceiptSpec)

/-- ITS FALSE NEIGHBOUR: 'it returns false'. Refute it at one input. -/
def fnExactCheckReceiptWrong : ChangeSpec := { name := "fnExactCheckReceipt", fn := fun _ => fun
  | [d1, d2] => { results := [.lit (.bool false)], args := [d1, d2] }
  | _ => none }
def FnExactCheckReceiptWrongFalsely : Prop := fnExactCheckReceiptRow.holds Try.pinned (OpenSpec.ofChange fnExactCheckReceiptWrong)

/-- 'laws.FnExactPublicsOf': WHATEVER THE INPUT: true; the input reads as it did. -/
def fnExactPublicsOfSpec : ChangeSpec := { name := "fnExactPublicsOf", fn := fun _ => fun
  | [d] => { results := [.lit (.bool true)], args := [d] }
  | _ => none }
def fnExactPublicsOfRow : OpenClaim := { program := "ytafcbeajnlfomaa", sum := "b6af0937dc417fe0050ac22f1665d72a27ba0717431b895a79f79f784f7411cd", func := "loop.example/g00549/laws.FnExactPublicsOf", spec := "fnExactPublicsOf", apart := false }
def FnExactPublicsOfSaid : Prop := fnExactPublicsOfRow.holds Try.pinned (OpenSpec.ofChange fnExactPublicsOfSpec)

/-- ITS FALSE NEIGHBOUR: 'it returns false'. Refute it at one input. -/
def fnExactPublicsOfWrong : ChangeSpec := { name := "fnExactPublicsOf", fn := fun _ => fun
  | [d] => { results := [.lit (.bool false)], args := [d] }
  | _ => none }
def FnExactPublicsOfWrongFalsely : Prop := fnExactPublicsOfRow.holds Try.pinned (OpenSpec.ofChange fnExactPublicsOfWrong)

/-- 'laws.FnExactBlameOf': WHATEVER THE INPUT: true; the input reads as it did. -/
def fnExactBlameOfSpec : ChangeSpec := { name := "fnExactBlameOf", fn := fun _ => fun
  | [d1, d2, d3] => { results := [.lit (.bool true)], args := [d1, d2, d3] }
  | _ => none }
def fnExactBlameOfRow : OpenClaim := { program := "ytafcbeajnlfomaa", sum := "b6af0937dc417fe0050ac22f1665d72a27ba0717431b895a79f79f784f7411cd", func := "loop.example/g00549/laws.FnExactBlameOf", spec := "fnExactBlameOf", apart := false }
def FnExactBlameOfSaid : Prop := fnExactBlameOfRow.holds Try.pinned (OpenSpec.ofChange fnExactBlameOfSpec)

/-- ITS FALSE NEIGHBOUR: 'it returns false'. Refute it at one input. -/
def fnExactBlameOfWrong : ChangeSpec := { name := "fnExactBlameOf", fn := fun _ => fun
  | [d1, d2, d3] => { results := [.lit (.bool false)], args := [d1, d2, d3] }
  | _ => none }
def FnExactBlameOfWrongFalsely : Prop := fnExactBlameOfRow.holds Try.pinned (OpenSpec.ofChange fnExactBlameOfWrong)

/-- 'laws.FnExactWholeTrip': WHATEVER THE INPUT: true; the input reads as it did. -/
def fnExactWholeTripSpec : ChangeSpec := { name := "fnExactWholeTrip", fn := fun _ => fun
  | [d1, d2, d3] => { results := [.lit (.bool true)], args := [d1, d2, d3] }
  | _ => none }
def fnExactWholeTripRow : OpenClaim := { program := "ytafcbeajnlfomaa", sum := "b6af0937dc417fe0050ac22f1665d72a27ba0717431b895a79f79f784f7411cd", func := "loop.example/g00549/laws.FnExactWholeTrip", spec := "fnExactWholeTrip", apart := false }
def FnExactWholeTripSaid : Prop := fnExactWholeTripRow.holds Try.pinned (OpenSpec.ofChange fnExactWholeTripSpec)

/-- ITS FALSE NEIGHBOUR: 'it returns false'. Refute it at one input. -/
def fnExactWholeTripWrong : ChangeSpec := { name := "fnExactWholeTrip", fn := fun _ => fun
  | [d1, d2, d3] => { results := [.lit (.bool false)], args := [d1, d2, d3] }
  | _ => none }
def FnExactWholeTripWrongFalsely : Prop := fnExactWholeTripRow.holds Try.pinned (OpenSpec.ofChange fnExactWholeTripWrong)

/-- 'laws.FnExactRunTrip': WHATEVER THE INPUT: true; the input reads as it did. -/
def fnExactRunTripSpec : ChangeSpec := { name := "fnExactRunTrip", fn := fun _ => fun
  | [d1, d2, d3] => { results := [.lit (.bool true)], args := [d1, d2, d3] }
  | _ => none }
def fnExactRunTripRow : OpenClaim := { program := "ytafcbeajnlfomaa", sum := "b6af0937dc417fe0050ac22f1665d72a27ba0717431b895a79f79f784f7411cd", func := "loop.example/g00549/laws.FnExactRunTrip", spec := "fnExactRunTrip", apart := false }
def FnExactRunTripSaid : Prop := fnExactRunTripRow.holds Try.pinned (OpenSpec.ofChange fnExactRunTripSpec)

/-- ITS FALSE NEIGHBOUR: 'it returns false'. Refute it at one input. -/
def fnExactRunTripWrong : ChangeSpec := { name := "fnExactRunTrip", fn := fun _ => fun
  | [d1, d2, d3] => { results := [.lit (.bool false)], args := [d1, d2, d3] }
  | _ => none }
def FnExactRunTripWrongFalsely : Prop := fnExactRunTripRow.holds Try.pinned (OpenSpec.ofChange fnExactRunTripWrong)

/-- 'laws.FnExactProofFor': WHATEVER THE INPUT: true; the input reads as it did. -/
def fnExactProofForSpec : ChangeSpec := { name := "fnExactProofFor", fn := fun _ => fun
  | [d1, d2] => { results := [.lit (.bool true)], args := [d1, d2] }
  | _ => none }
def fnExactProofForRow : OpenClaim := { program := "ytafcbeajnlfomaa", sum := "b6af0937dc417fe0050ac22f1665d72a27ba0717431b895a79f79f784f7411cd", func := "loop.example/g00549/laws.FnExactProofFor", spec := "fnExactProofFor", apart := false }
def FnExactProofForSaid : Prop := fnExactProofForRow.holds Try.pinned (OpenSpec.ofChange fnExactProofForSpec)

/-- ITS FALSE NEIGHBOUR: 'it returns false'. Refute it at one input. -/
def fnExactProofForWrong : ChangeSpec := { name := "fnExactProofFor", fn := fun _ => fun
  | [d1, d2] => { results := [.lit (.bool false)], args := [d1, d2] }
  | _ => none }
def FnExactProofForWrongFalsely : Prop := fnExactProofForRow.holds Try.pinned (OpenSpec.ofChange fnExactProofForWrong)

/-- 'laws.FnReceipts': WHATEVER THE INPUT: true; the input reads as it did. -/
def fnReceiptsSpec : ChangeSpec := { name := "fnReceipts", fn := fun _ => fun
  | [d1, d2] => { results := [.lit (.bool true)], args := [d1, d2] }
  | _ => none }
def fnReceiptsRow : OpenClaim := { program := "ytafcbeajnlfomaa", sum := "b6af0937dc417fe0050ac22f1665d72a27ba0717431b895a79f79f784f7411cd", func := "loop.example/g00549/laws.FnReceipts", spec := "fnReceipts", apart := false }
def FnReceiptsSaid : Prop := fnReceiptsRow.holds Try.pinned (OpenSpec.ofChange fnReceiptsSpec)

/-- ITS FALSE NEIGHBOUR: 'it returns false'. Refute it at one input. -/
def fnReceiptsWrong : ChangeSpec := { name := "fnReceipts", fn := fun _ => fun
  | [d1, d2] => { results := [.lit (.bool false)], args := [d1, d2] }
  | _ => none }
def FnReceiptsWrongFalsely : Prop := fnReceiptsRow.holds Try.pinned (OpenSpec.ofChange fnReceiptsWrong)

/-- 'laws.FnBlamed': WHATEVER THE INPUT: true; the input reads as it did. -/
def fnBlamedSpec : ChangeSpec := { name := "fnBlamed", fn := fun _ => fun
  | [d1, d2] => { results := [.lit (.bool true)], args := [d1, d2] }
  | _ => none }
def fnBlamedRow : OpenClaim := { program := "ytafcbeajnlfomaa", sum := "b6af0937dc417fe0050ac22f1665d72a27ba0717431b895a79f79f784f7411cd", func := "loop.example/g00549/laws.FnBlamed", spec := "fnBlamed", apart := false }
def FnBlamedSaid : Prop := fnBlamedRow.holds Try.pinned (OpenSpec.ofChange fnBlamedSpec)

/-- ITS FALSE NEIGHBOUR: 'it returns false'. Refute it at one input. -/
def fnBlamedWrong : ChangeSpec := { name := "fnBlamed", fn := fun _ => fun
  | [d1, d2] => { results := [.lit (.bool false)], args := [d1, d2] }
  | _ => none }
def FnBlamedWrongFalsely : Prop := fnBlamedRow.holds Try.pinned (OpenSpec.ofChange fnBlamedWrong)

/- THE SECOND FORM. 'bulk': how many values and letters a reading holds, each counted each time it is reached (what is shared counts as often as it is met; a slice's spare places count too). A statement '..UptoSaid' is the law's where the arguments, and the package variables that the reading takes, are together of bulk at most 1048576: NARROWER than '..Said'. Prove '..Said' where nothing that the law and all that it calls make is longer than what came in: it says more and counts as full. Else prove '..UptoSaid'. A law counts once. -/
mutual
def uptoBulk {H : Type} : DataW H → Nat
  | .lit (.string bytes) => bytes.length + 1
  | .lit _ => 1
  | .nil => 1
  | .ptr d => uptoBulk d + 1
  | .slice elems spare => uptoBulkAll elems + uptoBulkAll spare + 1
  | .agg parts => uptoBulkAll parts + 1
  | .iface _ d => uptoBulk d + 1
  | .map entries => uptoBulkEntries entries + 1
  | .held _ => 1
def uptoBulkAll {H : Type} : List (DataW H) → Nat
  | [] => 0
  | d :: r => uptoBulk d + uptoBulkAll r
def uptoBulkEntries {H : Type} : List (Lit × DataW H) → Nat
  | [] => 0
  | x :: r => uptoBulkEntry x + uptoBulkEntries r
def uptoBulkEntry {H : Type} : Lit × DataW H → Nat
  | (.string bytes, d) => bytes.length + uptoBulk d + 1
  | (_, d) => uptoBulk d + 1
 end
def uptoSmall : (H : Type) → List (DataW H) → Bool := fun _ ds => decide (uptoBulkAll ds ≤ 1048576)
def OpenSpec.upto (s : _root_.Go.ChangeSpec) : _root_.Go.OpenSpec := { _root_.Go.OpenSpec.ofChange s with cond := some uptoSmall }

/-- 'laws.FnExactStateFor', WHERE WHAT IT READS IS OF BULK AT MOST 1048576: true; the input reads as it did. -/
def fnExactStateForUptoRow : OpenClaim := { program := "ytafcbeajnlfomaa", sum := "b6af0937dc417fe0050ac22f1665d72a27ba0717431b895a79f79f784f7411cd", func := "loop.example/g00549/laws.FnExactStateFor", spec := "fnExactStateFor", apart := false, narrowed := true }
def FnExactStateForUptoSaid : Prop := fnExactStateForUptoRow.holds Try.pinned (OpenSpec.upto fnExactStateForSpec)

/-- 'laws.FnExactCheckReceipt', WHERE WHAT IT READS IS OF BULK AT MOST 1048576: true; the input reads as it did. -/
def fnExactCheckReceiptUptoRow : OpenClaim := { program := "ytafcbeajnlfomaa", sum := "b6af0937dc417fe0050ac22f1665d72a27ba0717431b895a79f79f784f7411cd", func := "loop.example/g00549/laws.FnExactCheckReceipt", spec := "fnExactCheckReceipt", apart := false, narrowed := true }
def FnExactCheckReceiptUptoSaid : Prop := fnExactCheckReceiptUptoRow.holds Try.pinned (OpenSpec.upto fnExactCheckReceiptSpec)

/-- 'laws.FnExactPublicsOf', WHERE WHAT IT READS IS OF BULK AT MOST 1048576: true; the input reads as it did. -/
def fnExactPublicsOfUptoRow : OpenClaim := { program := "ytafcbeajnlfomaa", sum := "b6af0937dc417fe0050ac22f1665d72a27ba0717431b895a79f79f784f7411cd", func := "loop.example/g00549/laws.FnExactPublicsOf", spec := "fnExactPublicsOf", apart := false, narrowed := true }
def FnExactPublicsOfUptoSaid : Prop := fnExactPublicsOfUptoRow.holds Try.pinned (OpenSpec.upto fnExactPublicsOfSpec)

/-- 'laws.FnExactBlameOf', WHERE WHAT IT READS IS OF BULK AT MOST 1048576: true; the input reads as it did. -/
def fnExactBlameOfUptoRow : OpenClaim := { program := "ytafcbeajnlfomaa", sum := "b6af0937dc417fe0050ac22f1665d72a27ba0717431b895a79f79f784f7411cd", func := "loop.example/g00549/laws.FnExactBlameOf", spec := "fnExactBlameOf", apart := false, narrowed := true }
def FnExactBlameOfUptoSaid : Prop := fnExactBlameOfUptoRow.holds Try.pinned (OpenSpec.upto fnExactBlameOfSpec)

/-- 'laws.FnExactWholeTrip', WHERE WHAT IT READS IS OF BULK AT MOST 1048576: true; the input reads as it did. -/
def fnExactWholeTripUptoRow : OpenClaim := { program := "ytafcbeajnlfomaa", sum := "b6af0937dc417fe0050ac22f1665d72a27ba0717431b895a79f79f784f7411cd", func := "loop.example/g00549/laws.FnExactWholeTrip", spec := "fnExactWholeTrip", apart := false, narrowed := true }
def FnExactWholeTripUptoSaid : Prop := fnExactWholeTripUptoRow.holds Try.pinned (OpenSpec.upto fnExactWholeTripSpec)

/-- 'laws.FnExactRunTrip', WHERE WHAT IT READS IS OF BULK AT MOST 1048576: true; the input reads as it did. -/
def fnExactRunTripUptoRow : OpenClaim := { program := "ytafcbeajnlfomaa", sum := "b6af0937dc417fe0050ac22f1665d72a27ba0717431b895a79f79f784f7411cd", func := "loop.example/g00549/laws.FnExactRunTrip", spec := "fnExactRunTrip", apart := false, narrowed := true }
def FnExactRunTripUptoSaid : Prop := fnExactRunTripUptoRow.holds Try.pinned (OpenSpec.upto fnExactRunTripSpec)

/-- 'laws.FnExactProofFor', WHERE WHAT IT READS IS OF BULK AT MOST 1048576: true; the input reads as it did. -/
def fnExactProofForUptoRow : OpenClaim := { program := "ytafcbeajnlfomaa", sum := "b6af0937dc417fe0050ac22f1665d72a27ba0717431b895a79f79f784f7411cd", func := "loop.example/g00549/laws.FnExactProofFor", spec := "fnExactProofFor", apart := false, narrowed := true }
def FnExactProofForUptoSaid : Prop := fnExactProofForUptoRow.holds Try.pinned (OpenSpec.upto fnExactProofForSpec)

/-- 'laws.FnReceipts', WHERE WHAT IT READS IS OF BULK AT MOST 1048576: true; the input reads as it did. -/
def fnReceiptsUptoRow : OpenClaim := { program := "ytafcbeajnlfomaa", sum := "b6af0937dc417fe0050ac22f1665d72a27ba0717431b895a79f79f784f7411cd", func := "loop.example/g00549/laws.FnReceipts", spec := "fnReceipts", apart := false, narrowed := true }
def FnReceiptsUptoSaid : Prop := fnReceiptsUptoRow.holds Try.pinned (OpenSpec.upto fnReceiptsSpec)

/-- 'laws.FnBlamed', WHERE WHAT IT READS IS OF BULK AT MOST 1048576: true; the input reads as it did. -/
def fnBlamedUptoRow : OpenClaim := { program := "ytafcbeajnlfomaa", sum := "b6af0937dc417fe0050ac22f1665d72a27ba0717431b895a79f79f784f7411cd", func := "loop.example/g00549/laws.FnBlamed", spec := "fnBlamed", apart := false, narrowed := true }
def FnBlamedUptoSaid : Prop := fnBlamedUptoRow.holds Try.pinned (OpenSpec.upto fnBlamedSpec)

end Rows
end Go.Proofs.Ytafcbeajnlfomaa
