/-
  No cell of these rows narrows 'for every input' (looked for: loops, veiled, ifaces, maps, wideKeys, modest, calm, conditions, laid).
  DERIVED. THE GIVEN ROWS OF THIS SEAT. 9 by the template 'for every input the law returns true; each argument reads behind the call as it read before'; 0 by the template 'total and deterministic' (their statements: YtdiehchbbhlfgaaTotals.lean).
  GIVEN WITH THE SEED: the statements are not yours to turn. If you find one false, say at which input.
  Laid BY PROGRAM, IN A SANDBOX (cutbox-rows.mjs): the forced cells as the released guide's own fill.sh prints them over the translation 99689e648a7e4dea… (all of the seat's roots in one cut). By AI agents, Wed Nov 11 2026. No macro, syntax, notation, axiom, sorry.
-/
import Derived.Test.YtdiehchbbhlfgaaChecked
import GoSem.Claim
import GoSem.ClaimJoined
import GoSem.ClaimMapViews
import Derived.JoinedTies
import Derived.KernelRfl
namespace Go.Proofs.Ytdiehchbbhlfgaa
/- THE CELL 'sum', in the pinned program and in every row, IS THE sha256 OF THE DUMP (.gsa) THAT YtdiehchbbhlfgaaProg.lean LOADS. Nothing in Lean hashes anything: it is a label: what it is worth is what the hold of that sum in a sandbox is worth. -/
noncomputable def Try.pinned : Pinned := { name := "ytdiehchbbhlfgaa", sum := "99689e648a7e4dea05f1c7afa44f5f3840674cfbcb59ae64e1e08c7e52db3bbd", checked := Try.checked }
namespace Rows
def none {H : Type} : Left H := { results := [], args := [] }

/-- 'laws.FnExactTraceOf': WHATEVER THE INPUT: true; the input reads as it did. -/
def fnExactTraceOfSpec : ChangeSpec := { name := "fnExactTraceOf", fn := fun _ => fun
  | [d1, d2] => { results := [.lit (.bool true)], args := [d1, d2] }
  | _ => none }
def fnExactTraceOfRow : OpenClaim := { program := "ytdiehchbbhlfgaa", sum := "99689e648a7e4dea05f1c7afa44f5f3840674cfbcb59ae64e1e08c7e52db3bbd", func := "loop.example/g00549/laws.FnExactTraceOf", spec := "fnExactTraceOf", apart := false }
def FnExactTraceOfSaid : Prop := fnExactTraceOfRow.holds Try.pinned (OpenSpec.ofChange fnExactTraceOfSpec)

/-- ITS FALSE NEIGHBOUR: 'it returns false'. Refute it at one input. -/
def fnExactTraceOfWrong : ChangeSpec := { name := "fnExactTraceOf", fn := fun _ => fun
  | [d1, d2] => { results := [.lit (.bool false)], args := [d1, d2] }
  | _ => none }
def FnExactTraceOfWrongFalsely : Prop := fnExactTraceOfRow.holds Try.pinned (OpenSpec.ofChange fnExactTraceOfWrong)

/-- 'laws.FnExactNewClient': WHATEVER THE INPUT: true; the input reads as it did. -/
def fnExactNewClientSpec : ChangeSpec := { name := "fnExactNewClient", fn := fun _ => fun
  | [d] => { results := [.lit (.bool true)], args := [d] }
  | _ => none }
def fnExactNewClientRow : OpenClaim := { program := "ytdiehchbbhlfgaa", sum := "99689e648a7e4dea05f1c7afa44f5f3840674cfbcb59ae64e1e08c7e52db3bbd", func := "loop.example/g00549/laws.FnExactNewClient", spec := "fnExactNewClient", apart := false }
def FnExactNewClientSaid : Prop := fnExactNewClientRow.holds Try.pinned (OpenSpec.ofChange fnExactNewClientSpec)

/-- ITS FALSE NEIGHBOUR: 'it returns false'. Refute it at one input. -/
def fnExactNewClientWrong : ChangeSpec := { name := "fnExactNewClient", fn := fun _ => fun
  | [d] => { results := [.lit (.bool false)], args := [d] }
  | _ => none }
def FnExactNewClientWrongFalsely : Prop := fnExactNewClientRow.holds Try.pinned (OpenSpec.ofChange fnExactNewClientWrong)

/-- 'laws.FnExactGoodClient': WHATEVER THE INPUT: true; the input reads as it did. -/
def fnExactGoodClientSpec : ChangeSpec := { name := "fnExactGoodClient", fn := fun _ => fun
  | [d] => { results := [.lit (.bool true)], args := [d] }
  | _ => none }
def fnExactGoodClientRow : OpenClaim := { program := "ytdiehchbbhlfgaa", sum := "99689e648a7e4dea05f1c7afa44f5f3840674cfbcb59ae64e1e08c7e52db3bbd", func := "loop.example/g00549/laws.FnExactGoodClient", spec := "fnExactGoodClient", unfollowed := true, recurses := true, apart := false }
def FnExactGoodClientSaid : Prop := fnExactGoodClientRow.holds Try.pinned (OpenSpec.ofChange fnExactGoodClientSpec)

/-- ITS FALSE NEIGHBOUR: 'it returns false'. Refute it at one input. -/
def fnExactGoodClientWrong : ChangeSpec := { name := "fnExactGoodClient", fn := fun _ => fun
  | [d] => { results := [.lit (.bool false)], args := [d] }
  | _ => none }
def FnExactGoodClientWrongFalsely : Prop := fnExactGoodClientRow.holds Try.pinned (OpenSpec.ofChange fnExactGoodClientWrong)

/-- 'laws.FnExactEraseSays': WHATEVER THE INPUT: true; the input reads as it did. -/
def fnExactEraseSaysSpec : ChangeSpec := { name := "fnExactEraseSays", fn := fun _ => fun
  | [d] => { results := [.lit (.bool true)], args := [d] }
  | _ => none }
def fnExactEraseSaysRow : OpenClaim := { program := "ytdiehchbbhlfgaa", sum := "99689e648a7e4dea05f1c7afa44f5f3840674cfbcb59ae64e1e08c7e52db3bbd", func := "loop.example/g00549/laws.FnExactEraseSays", spec := "fnExactEraseSays", apart := false }
def FnExactEraseSaysSaid : Prop := fnExactEraseSaysRow.holds Try.pinned (OpenSpec.ofChange fnExactEraseSaysSpec)

/-- ITS FALSE NEIGHBOUR: 'it returns false'. Refute it at one input. -/
def fnExactEraseSaysWrong : ChangeSpec := { name := "fnExactEraseSays", fn := fun _ => fun
  | [d] => { results := [.lit (.bool false)], args := [d] }
  | _ => none }
def FnExactEraseSaysWrongFalsely : Prop := fnExactEraseSaysRow.holds Try.pinned (OpenSpec.ofChange fnExactEraseSaysWrong)

/-- 'laws.FnExactWaitFor': WHATEVER THE INPUT: true; the input reads as it did. -/
def fnExactWaitForSpec : ChangeSpec := { name := "fnExactWaitFor", fn := fun _ => fun
  | [d1, d2] => { results := [.lit (.bool true)], args := [d1, d2] }
  | _ => none }
def fnExactWaitForRow : OpenClaim := { program := "ytdiehchbbhlfgaa", sum := "99689e648a7e4dea05f1c7afa44f5f3840674cfbcb59ae64e1e08c7e52db3bbd", func := "loop.example/g00549/laws.FnExactWaitFor", spec := "fnExactWaitFor", unfollowed := true, recurses := true, apart := false }
def FnExactWaitForSaid : Prop := fnExactWaitForRow.holds Try.pinned (OpenSpec.ofChange fnExactWaitForSpec)

/-- ITS FALSE NEIGHBOUR: 'it returns false'. Refute it at one input. -/
def fnExactWaitForWrong : ChangeSpec := { name := "fnExactWaitFor", fn := fun _ => fun
  | [d1, d2] => { results := [.lit (.bool false)], args := [d1, d2] }
  | _ => none }
def FnExactWaitForWrongFalsely : Prop := fnExactWaitForRow.holds Try.pinned (OpenSpec.ofChange fnExactWaitForWrong)

/-- 'laws.FnExactStepClient': WHATEVER THE INPUT: true; the input reads as it did. -/
def fnExactStepClientSpec : ChangeSpec := { name := "fnExactStepClient", fn := fun _ => fun
  | [d1, d2] => { results := [.lit (.bool true)], args := [d1, d2] }
  | _ => none }
def fnExactStepClientRow : OpenClaim := { program := "ytdiehchbbhlfgaa", sum := "99689e648a7e4dea05f1c7afa44f5f3840674cfbcb59ae64e1e08c7e52db3bbd", func := "loop.example/g00549/laws.FnExactStepClient", spec := "fnExactStepClient", unfollowed := true, recurses := true, apart := false }
def FnExactStepClientSaid : Prop := fnExactStepClientRow.holds Try.pinned (OpenSpec.ofChange fnExactStepClientSpec)

/-- ITS FALSE NEIGHBOUR: 'it returns false'. Refute it at one input. -/
def fnExactStepClientWrong : ChangeSpec := { name := "fnExactStepClient", fn := fun _ => fun
  | [d1, d2] => { results := [.lit (.bool false)], args := [d1, d2] }
  | _ => none }
def FnExactStepClientWrongFalsely : Prop := fnExactStepClientRow.holds Try.pinned (OpenSpec.ofChange fnExactStepClientWrong)

/-- 'laws.FnExactPlayCover': WHATEVER THE INPUT: true; the input reads as it did. -/
def fnExactPlayCoverSpec : ChangeSpec := { name := "fnExactPlayCover", fn := fun _ => fun
  | [d1, d2] => { results := [.lit (.bool true)], args := [d1, d2] }
  | _ => none }
def fnExactPlayCoverRow : OpenClaim := { program := "ytdiehchbbhlfgaa", sum := "99689e648a7e4dea05f1c7afa44f5f3840674cfbcb59ae64e1e08c7e52db3bbd", func := "loop.example/g00549/laws.FnExactPlayCover", spec := "fnExactPlayCover", unfollowed := true, recurses := true, apart := false }
def FnExactPlayCoverSaid : Prop := fnExactPlayCoverRow.holds Try.pinned (OpenSpec.ofChange fnExactPlayCoverSpec)

/-- ITS FALSE NEIGHBOUR: 'it returns false'. Refute it at one input. -/
def fnExactPlayCoverWrong : ChangeSpec := { name := "fnExactPlayCover", fn := fun _ => fun
  | [d1, d2] => { results := [.lit (.bool false)], args := [d1, d2] }
  | _ => none }
def FnExactPlayCoverWrongFalsely : Prop := fnExactPlayCoverRow.holds Try.pinned (OpenSpec.ofChange fnExactPlayCoverWrong)

/-- 'laws.FnQueue': WHATEVER THE INPUT: true; the input reads as it did. -/
def fnQueueSpec : ChangeSpec := { name := "fnQueue", fn := fun _ => fun
  | [d1, d2] => { results := [.lit (.bool true)], args := [d1, d2] }
  | _ => none }
def fnQueueRow : OpenClaim := { program := "ytdiehchbbhlfgaa", sum := "99689e648a7e4dea05f1c7afa44f5f3840674cfbcb59ae64e1e08c7e52db3bbd", func := "loop.example/g00549/laws.FnQueue", spec := "fnQueue", unfollowed := true, recurses := true, apart := false }
def FnQueueSaid : Prop := fnQueueRow.holds Try.pinned (OpenSpec.ofChange fnQueueSpec)

/-- ITS FALSE NEIGHBOUR: 'it returns false'. Refute it at one input. -/
def fnQueueWrong : ChangeSpec := { name := "fnQueue", fn := fun _ => fun
  | [d1, d2] => { results := [.lit (.bool false)], args := [d1, d2] }
  | _ => none }
def FnQueueWrongFalsely : Prop := fnQueueRow.holds Try.pinned (OpenSpec.ofChange fnQueueWrong)

/-- 'laws.FnCover': WHATEVER THE INPUT: true; the input reads as it did. -/
def fnCoverSpec : ChangeSpec := { name := "fnCover", fn := fun _ => fun
  | [d1, d2] => { results := [.lit (.bool true)], args := [d1, d2] }
  | _ => none }
def fnCoverRow : OpenClaim := { program := "ytdiehchbbhlfgaa", sum := "99689e648a7e4dea05f1c7afa44f5f3840674cfbcb59ae64e1e08c7e52db3bbd", func := "loop.example/g00549/laws.FnCover", spec := "fnCover", unfollowed := true, recurses := true, apart := false }
def FnCoverSaid : Prop := fnCoverRow.holds Try.pinned (OpenSpec.ofChange fnCoverSpec)

/-- ITS FALSE NEIGHBOUR: 'it returns false'. Refute it at one input. -/
def fnCoverWrong : ChangeSpec := { name := "fnCover", fn := fun _ => fun
  | [d1, d2] => { results := [.lit (.bool false)], args := [d1, d2] }
  | _ => none }
def FnCoverWrongFalsely : Prop := fnCoverRow.holds Try.pinned (OpenSpec.ofChange fnCoverWrong)

/- THE SECOND FORM. 'bulk': how many values and letters a reading holds, each counted each time it is reached (what is shared counts as often as it is met; a slice's spare places count too). A statement '..UptoSaid' is the law's where the arguments, and the package variables that the reading takes, are together of bulk at most 1048576: NARROWER than '..Said'. Prove '..Said' where nothing that the law and all that it calls make is longer than what came in: it says more and counts as full. Else prove '..UptoSaid'. A law counts once. -/
mutual
def uptoBulk {H : Type} : DataW H → Nat
  | .lit (.string bytes) => bytes.length + 1
  | .lit _ => 1
  | .nil => 1
  | .ptr d => uptoBulk d + 1
  | .slice elems spare => uptoBulkAll elems + uptoBulkAll spare + 1
  | .agg parts => uptoBulkAll parts + 1
  | .iface _ d => uptoBulk d + 1
  | .map entries => uptoBulkEntries entries + 1
  | .held _ => 1
def uptoBulkAll {H : Type} : List (DataW H) → Nat
  | [] => 0
  | d :: r => uptoBulk d + uptoBulkAll r
def uptoBulkEntries {H : Type} : List (Lit × DataW H) → Nat
  | [] => 0
  | x :: r => uptoBulkEntry x + uptoBulkEntries r
def uptoBulkEntry {H : Type} : Lit × DataW H → Nat
  | (.string bytes, d) => bytes.length + uptoBulk d + 1
  | (_, d) => uptoBulk d + 1
 end
def uptoSmall : (H : Type) → List (DataW H) → Bool := fun _ ds => decide (uptoBulkAll ds ≤ 1048576)
def OpenSpec.upto (s : _root_.Go.ChangeSpec) : _root_.Go.OpenSpec := { _root_.Go.OpenSpec.ofChange s with cond := some uptoSmall }

/-- 'laws.FnExactTraceOf', WHERE WHAT IT READS IS OF BULK AT MOST 1048576: true; the input reads as it did. -/
def fnExactTraceOfUptoRow : OpenClaim := { program := "ytdiehchbbhlfgaa", sum := "99689e648a7e4dea05f1c7afa44f5f3840674cfbcb59ae64e1e08c7e52db3bbd", func := "loop.example/g00549/laws.FnExactTraceOf", spec := "fnExactTraceOf", apart := false, narrowed := true }
def FnExactTraceOfUptoSaid : Prop := fnExactTraceOfUptoRow.holds Try.pinned (OpenSpec.upto fnExactTraceOfSpec)

/-- 'laws.FnExactNewClient', WHERE WHAT IT READS IS OF BULK AT MOST 1048576: true; the input reads as it did. -/
def fnExactNewClientUptoRow : OpenClaim := { program := "ytdiehchbbhlfgaa", sum := "99689e648a7e4dea05f1c7afa44f5f3840674cfbcb59ae64e1e08c7e52db3bbd", func := "loop.example/g00549/laws.FnExactNewClient", spec := "fnExactNewClient", apart := false, narrowed := true }
def FnExactNewClientUptoSaid : Prop := fnExactNewClientUptoRow.holds Try.pinned (OpenSpec.upto fnExactNewClientSpec)

/-- 'laws.FnExactGoodClient', WHERE WHAT IT READS IS OF BULK AT MOST 1048576: true; the input reads as it did. -/
def fnExactGoodClientUptoRow : OpenClaim := { program := "ytdiehchbbhlfgaa", sum := "99689e648a7e4dea05f1c7afa44f5f3840674cfbcb59ae64e1e08c7e52db3bbd", func := "loop.example/g00549/laws.FnExactGoodClient", spec := "fnExactGoodClient", unfollowed := true, recurses := true, apart := false, narrowed := true }
def FnExactGoodClientUptoSaid : Prop := fnExactGoodClientUptoRow.holds Try.pinned (OpenSpec.upto fnExactGoodClientSpec)

/-- 'laws.FnExactEraseSays', WHERE WHAT IT READS IS OF BULK AT MOST 1048576: true; the input reads as it did. -/
def fnExactEraseSaysUptoRow : OpenClaim := { program := "ytdiehchbbhlfgaa", sum := "99689e648a7e4dea05f1c7afa44f5f3840674cfbcb59ae64e1e08c7e52db3bbd", func := "loop.example/g00549/laws.FnExactEraseSays", spec := "fnExactEraseSays", apart := false, narrowed := true }
def FnExactEraseSaysUptoSaid : Prop := fnExactEraseSaysUptoRow.holds Try.pinned (OpenSpec.upto fnExactEraseSaysSpec)

/-- 'laws.FnExactWaitFor', WHERE WHAT IT READS IS OF BULK AT MOST 1048576: true; the input reads as it did. -/
def fnExactWaitForUptoRow : OpenClaim := { program := "ytdiehchbbhlfgaa", sum := "99689e648a7e4dea05f1c7afa44f5f3840674cfbcb59ae64e1e08c7e52db3bbd", func := "loop.example/g00549/laws.FnExactWaitFor", spec := "fnExactWaitFor", unfollowed := true, recurses := true, apart := false, narrowed := true }
def FnExactWaitForUptoSaid : Prop := fnExactWaitForUptoRow.holds Try.pinned (OpenSpec.upto fnExactWaitForSpec)

/-- 'laws.FnExactStepClient', WHERE WHAT IT READS IS OF BULK AT MOST 1048576: true; the input reads as it did. -/
def fnExactStepClientUptoRow : OpenClaim := { program := "ytdiehchbbhlfgaa", sum := "99689e648a7e4dea05f1c7afa44f5f3840674cfbcb59ae64e1e08c7e52db3bbd", func := "loop.example/g00549/laws.FnExactStepClient", spec := "fnExactStepClient", unfollowed := true, recurses := true, apart := false, narrowed := true }
def FnExactStepClientUptoSaid : Prop := fnExactStepClientUptoRow.holds Try.pinned (OpenSpec.upto fnExactStepClientSpec)

/-- 'laws.FnExactPlayCover', WHERE WHAT IT READS IS OF BULK AT MOST 1048576: true; the input reads as it did. -/
def fnExactPlayCoverUptoRow : OpenClaim := { program := "ytdiehchbbhlfgaa", sum := "99689e648a7e4dea05f1c7afa44f5f3840674cfbcb59ae64e1e08c7e52db3bbd", func := "loop.example/g00549/laws.FnExactPlayCover", spec := "fnExactPlayCover", unfollowed := true, recurses := true, apart := false, narrowed := true }
def FnExactPlayCoverUptoSaid : Prop := fnExactPlayCoverUptoRow.holds Try.pinned (OpenSpec.upto fnExactPlayCoverSpec)

/-- 'laws.FnQueue', WHERE WHAT IT READS IS OF BULK AT MOST 1048576: true; the input reads as it did. -/
def fnQueueUptoRow : OpenClaim := { program := "ytdiehchbbhlfgaa", sum := "99689e648a7e4dea05f1c7afa44f5f3840674cfbcb59ae64e1e08c7e52db3bbd", func := "loop.example/g00549/laws.FnQueue", spec := "fnQueue", unfollowed := true, recurses := true, apart := false, narrowed := true }
def FnQueueUptoSaid : Prop := fnQueueUptoRow.holds Try.pinned (OpenSpec.upto fnQueueSpec)

/-- 'laws.FnCover', WHERE WHAT IT READS IS OF BULK AT MOST 1048576: true; the input reads as it did. -/
def fnCoverUptoRow : OpenClaim := { program := "ytdiehchbbhlfgaa", sum := "99689e648a7e4dea05f1c7afa44f5f3840674cfbcb59ae64e1e08c7e52db3bbd", func := "loop.example/g00549/laws.FnCover", spec := "fnCover", unfollowed := true, recurses := true, apart := false, narrowed := true }
def FnCoverUptoSaid : Prop := fnCoverUptoRow.holds Try.pinned (OpenSpec.upto fnCoverSpec)

end Rows
end Go.Proofs.Ytdiehchbbhlfgaa
