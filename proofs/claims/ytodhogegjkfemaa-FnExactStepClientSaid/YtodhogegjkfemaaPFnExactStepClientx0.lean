-- Written by a program of this session, after the kit's print (changed in some places; see NOTES.md). Lean checks it.
import Derived.Test.YtodhogegjkfemaaProg
import Derived.Below
import Derived.Deep.Draws
import Derived.Deep.AppendLies
import Derived.Maps.AppendAt
import Derived.OwnWalk
import Derived.Laws.BytesArg
import Derived.Laws.MakeOwn
import Derived.Laws.OwnMore
import Derived.Deep.OwnRows
import Derived.Tactics
import Derived.Lib.ConvBytes
import Derived.Laws.Slices
import Derived.WalkKit
import Derived.KernelRfl
import Derived.RowKit3
import Derived.Deep.LoopGhost
import Derived.Deep.QuietTactic
import Derived.BigQuiet
import Derived.WideLaws
import Derived.Deep.DeepCutAuto
import Derived.Deep.CutBlock
import Derived.Deep.RegionHeld3
import Derived.Laws.Rows
import Derived.Lib.AppendStr
import Derived.ArgAppend
import Derived.Laws.IdiomCopy
import Derived.OrdersHeld
import Derived.Laws.BitsLemmas
import Derived.RowKit
import Derived.Test.YtodhogegjkfemaaHand
import Derived.Test.YtodhogegjkfemaaBx
import Derived.Test.YtodhogegjkfemaaWWords
import Derived.Test.YtodhogegjkfemaaWLast
import Derived.Test.YtodhogegjkfemaaWTab
import Derived.Test.YtodhogegjkfemaaWFour
import Derived.Test.YtodhogegjkfemaaWQPut
import Derived.Test.YtodhogegjkfemaaWApart
import Derived.Test.YtodhogegjkfemaaWArr
import Derived.Test.YtodhogegjkfemaaWZeros
import Derived.Test.YtodhogegjkfemaaWFoot
import Derived.Test.YtodhogegjkfemaaWKept
import Derived.Test.YtodhogegjkfemaaWShare
import Derived.Test.YtodhogegjkfemaaWN
import Derived.Test.YtodhogegjkfemaaWFootNe
import Derived.Test.YtodhogegjkfemaaWAt
import Derived.Test.YtodhogegjkfemaaWEqStruct
import Derived.Test.YtodhogegjkfemaaWRepsOne
import Derived.Test.YtodhogegjkfemaaWInv
import Derived.Test.YtodhogegjkfemaaWInvWords
import Derived.Test.YtodhogegjkfemaaWGuard
import Derived.Test.YtodhogegjkfemaaWNEv
import Derived.Test.YtodhogegjkfemaaWMore
namespace Go.Proofs.Ytodhogegjkfemaa.PFnExactStepClient
open Go.RowKit Go.Proofs.YtodhogegjkfemaaW.PrintWords Go.Proofs.YtodhogegjkfemaaW.PrintLast Go.Proofs.YtodhogegjkfemaaW.PrintMore
attribute [local go_sem] max2_int min2_int max_two min_two max_three min_three max_four min_four   -- for this text's walks alone
set_option linter.unusedVariables false
set_option linter.unusedSimpArgs false
def errW : Option Int → Value
 | none => .nilIface
 | some c => .iface 0 (.int .i64 c)
theorem errW_none : errW none = .nilIface := rfl
theorem errW_some (c : Int) : errW (some c) = .iface 0 (.int .i64 c) := rfl
theorem info9 : (Try.prog.info? 9).map (fun i => (i.zero, i.size, i.bytes)) = some (some (.string ⟨#[]⟩), 1, 16) := by kernel_rfl
-- the values' own types
end Go.Proofs.Ytodhogegjkfemaa.PFnExactStepClient
