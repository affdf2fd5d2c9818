/-
  No cell of these rows narrows 'for every input' (looked for: loops, veiled, ifaces, maps, wideKeys, modest, calm, conditions, laid).
  DERIVED. THE GIVEN ROWS OF THIS SEAT. 9 by the template 'for every input the law returns true; each argument reads behind the call as it read before'; 0 by the template 'total and deterministic' (their statements: YtaiejbcpahcfmaaTotals.lean).
  GIVEN WITH THE SEED: the statements are not yours to turn. If you find one false, say at which input.
  Laid BY PROGRAM, IN A SANDBOX (cutbox-rows.mjs): the forced cells as the released guide's own fill.sh prints them over the translation d4a8830aab570c20… (all of the seat's roots in one cut). By AI agents, Wed Nov 11 2026. No macro, syntax, notation, axiom, sorry.
-/
import Derived.Test.YtaiejbcpahcfmaaChecked
import GoSem.Claim
import GoSem.ClaimJoined
import GoSem.ClaimMapViews
import Derived.JoinedTies
import Derived.KernelRfl
namespace Go.Proofs.Ytaiejbcpahcfmaa
/- THE CELL 'sum', in the pinned program and in every row, IS THE sha256 OF THE DUMP (.gsa) THAT YtaiejbcpahcfmaaProg.lean LOADS. Nothing in Lean hashes anything: it is a label: what it is worth is what the hold of that sum in a sandbox is worth. -/
noncomputable def Try.pinned : Pinned := { name := "ytaiejbcpahcfmaa", sum := "d4a8830aab570c201c6961d326751da6d4c53a9323e0393cdbf0e083ebb2d82e", checked := Try.checked }
namespace Rows
def none {H : Type} : Left H := { results := [], args := [] }

/-- 'laws.FnExactOpenAll': WHATEVER THE INPUT: true; the input reads as it did. -/
def fnExactOpenAllSpec : ChangeSpec := { name := "fnExactOpenAll", fn := fun _ => fun
  | [d1, d2] => { results := [.lit (.bool true)], args := [d1, d2] }
  | _ => none }
def fnExactOpenAllRow : OpenClaim := { program := "ytaiejbcpahcfmaa", sum := "d4a8830aab570c201c6961d326751da6d4c53a9323e0393cdbf0e083ebb2d82e", func := "loop.example/g00549/laws.FnExactOpenAll", spec := "fnExactOpenAll", apart := false }
def FnExactOpenAllSaid : Prop := fnExactOpenAllRow.holds Try.pinned (OpenSpec.ofChange fnExactOpenAllSpec)

/-- ITS FALSE NEIGHBOUR: 'it returns false'. Refute it at one input. -/
def fnExactOpenAllWrong : ChangeSpec := { name := "fnExactOpenAll", fn := fun _ => fun
  | [d1, d2] => { results := [.lit (.bool false)], args := [d1, d2] }
  | _ => none }
def FnExactOpenAllWrongFalsely : Prop := fnExactOpenAllRow.holds Try.pinned (OpenSpec.ofChange fnExactOpenAllWrong)

/-- 'laws.FnExactAddVotes': WHATEVER THE INPUT: true; the input reads as it did. -/
def fnExactAddVotesSpec : ChangeSpec := { name := "fnExactAddVotes", fn := fun _ => fun
  | [d] => { results := [.lit (.bool true)], args := [d] }
  | _ => none }
def fnExactAddVotesRow : OpenClaim := { program := "ytaiejbcpahcfmaa", sum := "d4a8830aab570c201c6961d326751da6d4c53a9323e0393cdbf0e083ebb2d82e", func := "loop.example/g00549/laws.FnExactAddVotes", spec := "fnExactAddVotes", unfollowed := true, recurses := true, apart := false }
def FnExactAddVotesSaid : Prop := fnExactAddVotesRow.holds Try.pinned (OpenSpec.ofChange fnExactAddVotesSpec)

/-- ITS FALSE NEIGHBOUR: 'it returns false'. Refute it at one input. -/
def fnExactAddVotesWrong : ChangeSpec := { name := "fnExactAddVotes", fn := fun _ => fun
  | [d] => { results := [.lit (.bool false)], args := [d] }
  | _ => none }
def FnExactAddVotesWrongFalsely : Prop := fnExactAddVotesRow.holds Try.pinned (OpenSpec.ofChange fnExactAddVotesWrong)

/-- 'laws.FnExactOpenSum': WHATEVER THE INPUT: true; the input reads as it did. -/
def fnExactOpenSumSpec : ChangeSpec := { name := "fnExactOpenSum", fn := fun _ => fun
  | [d1, d2, d3] => { results := [.lit (.bool true)], args := [d1, d2, d3] }
  | _ => none }
def fnExactOpenSumRow : OpenClaim := { program := "ytaiejbcpahcfmaa", sum := "d4a8830aab570c201c6961d326751da6d4c53a9323e0393cdbf0e083ebb2d82e", func := "loop.example/g00549/laws.FnExactOpenSum", spec := "fnExactOpenSum", unfollowed := true, recurses := true, apart := false }
def FnExactOpenSumSaid : Prop := fnExactOpenSumRow.holds Try.pinned (OpenSpec.ofChange fnExactOpenSumSpec)

/-- ITS FALSE NEIGHBOUR: 'it returns false'. Refute it at one input. -/
def fnExactOpenSumWrong : ChangeSpec := { name := "fnExactOpenSum", fn := fun _ => fun
  | [d1, d2, d3] => { results := [.lit (.bool false)], args := [d1, d2, d3] }
  | _ => none }
def FnExactOpenSumWrongFalsely : Prop := fnExactOpenSumRow.holds Try.pinned (OpenSpec.ofChange fnExactOpenSumWrong)

/-- 'laws.FnExactCountPoll': WHATEVER THE INPUT: true; the input reads as it did. -/
def fnExactCountPollSpec : ChangeSpec := { name := "fnExactCountPoll", fn := fun _ => fun
  | [d1, d2, d3] => { results := [.lit (.bool true)], args := [d1, d2, d3] }
  | _ => none }
def fnExactCountPollRow : OpenClaim := { program := "ytaiejbcpahcfmaa", sum := "d4a8830aab570c201c6961d326751da6d4c53a9323e0393cdbf0e083ebb2d82e", func := "loop.example/g00549/laws.FnExactCountPoll", spec := "fnExactCountPoll", unfollowed := true, recurses := true, apart := false }
def FnExactCountPollSaid : Prop := fnExactCountPollRow.holds Try.pinned (OpenSpec.ofChange fnExactCountPollSpec)

/-- ITS FALSE NEIGHBOUR: 'it returns false'. Refute it at one input. -/
def fnExactCountPollWrong : ChangeSpec := { name := "fnExactCountPoll", fn := fun _ => fun
  | [d1, d2, d3] => { results := [.lit (.bool false)], args := [d1, d2, d3] }
  | _ => none }
def FnExactCountPollWrongFalsely : Prop := fnExactCountPollRow.holds Try.pinned (OpenSpec.ofChange fnExactCountPollWrong)

/-- 'laws.FnSealed': WHATEVER THE INPUT: true; the input reads as it did. -/
def fnSealedSpec : ChangeSpec := { name := "fnSealed", fn := fun _ => fun
  | [d1, d2] => { results := [.lit (.bool true)], args := [d1, d2] }
  | _ => none }
def fnSealedRow : OpenClaim := { program := "ytaiejbcpahcfmaa", sum := "d4a8830aab570c201c6961d326751da6d4c53a9323e0393cdbf0e083ebb2d82e", func := "loop.example/g00549/laws.FnSealed", spec := "fnSealed", apart := false }
def FnSealedSaid : Prop := fnSealedRow.holds Try.pinned (OpenSpec.ofChange fnSealedSpec)

/-- ITS FALSE NEIGHBOUR: 'it returns false'. Refute it at one input. -/
def fnSealedWrong : ChangeSpec := { name := "fnSealed", fn := fun _ => fun
  | [d1, d2] => { results := [.lit (.bool false)], args := [d1, d2] }
  | _ => none }
def FnSealedWrongFalsely : Prop := fnSealedRow.holds Try.pinned (OpenSpec.ofChange fnSealedWrong)

/-- 'laws.FnPoll': WHATEVER THE INPUT: true; the input reads as it did. -/
def fnPollSpec : ChangeSpec := { name := "fnPoll", fn := fun _ => fun
  | [d1, d2] => { results := [.lit (.bool true)], args := [d1, d2] }
  | _ => none }
def fnPollRow : OpenClaim := { program := "ytaiejbcpahcfmaa", sum := "d4a8830aab570c201c6961d326751da6d4c53a9323e0393cdbf0e083ebb2d82e", func := "loop.example/g00549/laws.FnPoll", spec := "fnPoll", unfollowed := true, recurses := true, apart := false }
def FnPollSaid : Prop := fnPollRow.holds Try.pinned (OpenSpec.ofChange fnPollSpec)

/-- ITS FALSE NEIGHBOUR: 'it returns false'. Refute it at one input. -/
def fnPollWrong : ChangeSpec := { name := "fnPoll", fn := fun _ => fun
  | [d1, d2] => { results := [.lit (.bool false)], args := [d1, d2] }
  | _ => none }
def FnPollWrongFalsely : Prop := fnPollRow.holds Try.pinned (OpenSpec.ofChange fnPollWrong)

/-- 'laws.FnOpened': WHATEVER THE INPUT: true; the input reads as it did. -/
def fnOpenedSpec : ChangeSpec := { name := "fnOpened", fn := fun _ => fun
  | [d1, d2] => { results := [.lit (.bool true)], args := [d1, d2] }
  | _ => none }
def fnOpenedRow : OpenClaim := { program := "ytaiejbcpahcfmaa", sum := "d4a8830aab570c201c6961d326751da6d4c53a9323e0393cdbf0e083ebb2d82e", func := "loop.example/g00549/laws.FnOpened", spec := "fnOpened", unfollowed := true, recurses := true, apart := false }
def FnOpenedSaid : Prop := fnOpenedRow.holds Try.pinned (OpenSpec.ofChange fnOpenedSpec)

/-- ITS FALSE NEIGHBOUR: 'it returns false'. Refute it at one input. -/
def fnOpenedWrong : ChangeSpec := { name := "fnOpened", fn := fun _ => fun
  | [d1, d2] => { results := [.lit (.bool false)], args := [d1, d2] }
  | _ => none }
def FnOpenedWrongFalsely : Prop := fnOpenedRow.holds Try.pinned (OpenSpec.ofChange fnOpenedWrong)

/-- 'laws.FnParts': WHATEVER THE INPUT: true; the input reads as it did. -/
def fnPartsSpec : ChangeSpec := { name := "fnParts", fn := fun _ => fun
  | [d1, d2] => { results := [.lit (.bool true)], args := [d1, d2] }
  | _ => none }
def fnPartsRow : OpenClaim := { program := "ytaiejbcpahcfmaa", sum := "d4a8830aab570c201c6961d326751da6d4c53a9323e0393cdbf0e083ebb2d82e", func := "loop.example/g00549/laws.FnParts", spec := "fnParts", unfollowed := true, recurses := true, apart := false }
def FnPartsSaid : Prop := fnPartsRow.holds Try.pinned (OpenSpec.ofChange fnPartsSpec)

/-- ITS FALSE NEIGHBOUR: 'it returns false'. Refute it at one input. -/
def fnPartsWrong : ChangeSpec := { name := "fnParts", fn := fun _ => fun
  | [d1, d2] => { results := [.lit (.bool false)], args := [d1, d2] }
  | _ => none }
def FnPartsWrongFalsely : Prop := fnPartsRow.holds Try.pinned (OpenSpec.ofChange fnPartsWrong)

/-- 'laws.FnHidden': WHATEVER THE INPUT: true; the input reads as it did. -/
def fnHiddenSpec : ChangeSpec := { name := "fnHidden", fn := fun _ => fun
  | [d1, d2] => { results := [.lit (.bool true)], args := [d1, d2] }
  | _ => none }
def fnHiddenRow : OpenClaim := { program := "ytaiejbcpahcfmaa", sum := "d4a8830aab570c201c6961d326751da6d4c53a9323e0393cdbf0e083ebb2d82e", func := "loop.example/g00549/laws.FnHidden", spec := "fnHidden", unfollowed := true, recurses := true, apart := false }
def FnHiddenSaid : Prop := fnHiddenRow.holds Try.pinned (OpenSpec.ofChange fnHiddenSpec)

/-- ITS FALSE NEIGHBOUR: 'it returns false'. Refute it at one input. -/
def fnHiddenWrong : ChangeSpec := { name := "fnHidden", fn := fun _ => fun
  | [d1, d2] => { results := [.lit (.bool false)], args := [d1, d2] }
  | _ => none }
def FnHiddenWrongFalsely : Prop := fnHiddenRow.holds Try.pinned (OpenSpec.ofChange fnHiddenWrong)

/- THE SECOND FORM. 'bulk': how many values and letters a reading holds, each counted each time it is reached (what is shared counts as often as it is met; a slice's spare places count too). A statement '..UptoSaid' is the law's where the arguments, and the package variables that the reading takes, are together of bulk at most 1048576: NARROWER than '..Said'. Prove '..Said' where nothing that the law and all that it calls make is longer than what came in: it says more and counts as full. Else prove '..UptoSaid'. A law counts once. -/
mutual
def uptoBulk {H : Type} : DataW H → Nat
  | .lit (.string bytes) => bytes.length + 1
  | .lit _ => 1
  | .nil => 1
  | .ptr d => uptoBulk d + 1
  | .slice elems spare => uptoBulkAll elems + uptoBulkAll spare + 1
  | .agg parts => uptoBulkAll parts + 1
  | .iface _ d => uptoBulk d + 1
  | .map entries => uptoBulkEntries entries + 1
  | .held _ => 1
def uptoBulkAll {H : Type} : List (DataW H) → Nat
  | [] => 0
  | d :: r => uptoBulk d + uptoBulkAll r
def uptoBulkEntries {H : Type} : List (Lit × DataW H) → Nat
  | [] => 0
  | x :: r => uptoBulkEntry x + uptoBulkEntries r
def uptoBulkEntry {H : Type} : Lit × DataW H → Nat
  | (.string bytes, d) => bytes.length + uptoBulk d + 1
  | (_, d) => uptoBulk d + 1
 end
def uptoSmall : (H : Type) → List (DataW H) → Bool := fun _ ds => decide (uptoBulkAll ds ≤ 1048576)
def OpenSpec.upto (s : _root_.Go.ChangeSpec) : _root_.Go.OpenSpec := { _root_.Go.OpenSpec.ofChange s with cond := some uptoSmall }

/-- 'laws.FnExactOpenAll', WHERE WHAT IT READS IS OF BULK AT MOST 1048576: true; the input reads as it did. -/
def fnExactOpenAllUptoRow : OpenClaim := { program := "ytaiejbcpahcfmaa", sum := "d4a8830aab570c201c6961d326751da6d4c53a9323e0393cdbf0e083ebb2d82e", func := "loop.example/g00549/laws.FnExactOpenAll", spec := "fnExactOpenAll", apart := false, narrowed := true }
def FnExactOpenAllUptoSaid : Prop := fnExactOpenAllUptoRow.holds Try.pinned (OpenSpec.upto fnExactOpenAllSpec)

/-- 'laws.FnExactAddVotes', WHERE WHAT IT READS IS OF BULK AT MOST 1048576: true; the input reads as it did. -/
def fnExactAddVotesUptoRow : OpenClaim := { program := "ytaiejbcpahcfmaa", sum := "d4a8830aab570c201c6961d326751da6d4c53a9323e0393cdbf0e083ebb2d82e", func := "loop.example/g00549/laws.FnExactAddVotes", spec := "fnExactAddVotes", unfollowed := true, recurses := true, apart := false, narrowed := true }
def FnExactAddVotesUptoSaid : Prop := fnExactAddVotesUptoRow.holds Try.pinned (OpenSpec.upto fnExactAddVotesSpec)

/-- 'laws.FnExactOpenSum', WHERE WHAT IT READS IS OF BULK AT MOST 1048576: true; the input reads as it did. -/
def fnExactOpenSumUptoRow : OpenClaim := { program := "ytaiejbcpahcfmaa", sum := "d4a8830aab570c201c6961d326751da6d4c53a9323e0393cdbf0e083ebb2d82e", func := "loop.example/g00549/laws.FnExactOpenSum", spec := "fnExactOpenSum", unfollowed := true, recurses := true, apart := false, narrowed := true }
def FnExactOpenSumUptoSaid : Prop := fnExactOpenSumUptoRow.holds Try.pinned (OpenSpec.upto fnExactOpenSumSpec)

/-- 'laws.FnExactCountPoll', WHERE WHAT IT READS IS OF BULK AT MOST 1048576: true; the input reads as it did. -/
def fnExactCountPollUptoRow : OpenClaim := { program := "ytaiejbcpahcfmaa", sum := "d4a8830aab570c201c6961d326751da6d4c53a9323e0393cdbf0e083ebb2d82e", func := "loop.example/g00549/laws.FnExactCountPoll", spec := "fnExactCountPoll", unfollowed := true, recurses := true, apart := false, narrowed := true }
def FnExactCountPollUptoSaid : Prop := fnExactCountPollUptoRow.holds Try.pinned (OpenSpec.upto fnExactCountPollSpec)

/-- 'laws.FnSealed', WHERE WHAT IT READS IS OF BULK AT MOST 1048576: true; the input reads as it did. -/
def fnSealedUptoRow : OpenClaim := { program := "ytaiejbcpahcfmaa", sum := "d4a8830aab570c201c6961d326751da6d4c53a9323e0393cdbf0e083ebb2d82e", func := "loop.example/g00549/laws.FnSealed", spec := "fnSealed", apart := false, narrowed := true }
def FnSealedUptoSaid : Prop := fnSealedUptoRow.holds Try.pinned (OpenSpec.upto fnSealedSpec)

/-- 'laws.FnPoll', WHERE WHAT IT READS IS OF BULK AT MOST 1048576: true; the input reads as it did. -/
def fnPollUptoRow : OpenClaim := { program := "ytaiejbcpahcfmaa", sum := "d4a8830aab570c201c6961d326751da6d4c53a9323e0393cdbf0e083ebb2d82e", func := "loop.example/g00549/laws.FnPoll", spec := "fnPoll", unfollowed := true, recurses := true, apart := false, narrowed := true }
def FnPollUptoSaid : Prop := fnPollUptoRow.holds Try.pinned (OpenSpec.upto fnPollSpec)

/-- 'laws.FnOpened', WHERE WHAT IT READS IS OF BULK AT MOST 1048576: true; the input reads as it did. -/
def fnOpenedUptoRow : OpenClaim := { program := "ytaiejbcpahcfmaa", sum := "d4a8830aab570c201c6961d326751da6d4c53a9323e0393cdbf0e083ebb2d82e", func := "loop.example/g00549/laws.FnOpened", spec := "fnOpened", unfollowed := true, recurses := true, apart := false, narrowed := true }
def FnOpenedUptoSaid : Prop := fnOpenedUptoRow.holds Try.pinned (OpenSpec.upto fnOpenedSpec)

/-- 'laws.FnParts', WHERE WHAT IT READS IS OF BULK AT MOST 1048576: true; the input reads as it did. -/
def fnPartsUptoRow : OpenClaim := { program := "ytaiejbcpahcfmaa", sum := "d4a8830aab570c201c6961d326751da6d4c53a9323e0393cdbf0e083ebb2d82e", func := "loop.example/g00549/laws.FnParts", spec := "fnParts", unfollowed := true, recurses := true, apart := false, narrowed := true }
def FnPartsUptoSaid : Prop := fnPartsUptoRow.holds Try.pinned (OpenSpec.upto fnPartsSpec)

/-- 'laws.FnHidden', WHERE WHAT IT READS IS OF BULK AT MOST 1048576: true; the input reads as it did. -/
def fnHiddenUptoRow : OpenClaim := { program := "ytaiejbcpahcfmaa", sum := "d4a8830aab570c201c6961d326751da6d4c53a9323e0393cdbf0e083ebb2d82e", func := "loop.example/g00549/laws.FnHidden", spec := "fnHidden", unfollowed := true, recurses := true, apart := false, narrowed := true }
def FnHiddenUptoSaid : Prop := fnHiddenUptoRow.holds Try.pinned (OpenSpec.upto fnHiddenSpec)

end Rows
end Go.Proofs.Ytaiejbcpahcfmaa
