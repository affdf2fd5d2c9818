-- Written by a program of this session, after the kit's print (changed in some places; see NOTES.md). Lean checks it.
import Derived.Test.YtobfeehelmbljaaProg
import Derived.Below
import Derived.Deep.Draws
import Derived.Deep.AppendLies
import Derived.Maps.AppendAt
import Derived.OwnWalk
import Derived.Laws.BytesArg
import Derived.Laws.MakeOwn
import Derived.Laws.OwnMore
import Derived.Deep.OwnRows
import Derived.Tactics
import Derived.Lib.ConvBytes
import Derived.Laws.Slices
import Derived.WalkKit
import Derived.KernelRfl
import Derived.RowKit3
import Derived.Deep.LoopGhost
import Derived.Deep.QuietTactic
import Derived.BigQuiet
import Derived.WideLaws
import Derived.Deep.DeepCutAuto
import Derived.Deep.CutBlock
import Derived.Deep.RegionHeld3
import Derived.Laws.Rows
import Derived.Lib.AppendStr
import Derived.ArgAppend
import Derived.Laws.IdiomCopy
import Derived.OrdersHeld
import Derived.Laws.BitsLemmas
import Derived.RowKit
import Derived.Test.YtobfeehelmbljaaHand
import Derived.Test.YtobfeehelmbljaaShelf
import Derived.Test.YtobfeehelmbljaaWWords
import Derived.Test.YtobfeehelmbljaaWLast
import Derived.Test.YtobfeehelmbljaaWTab
import Derived.Test.YtobfeehelmbljaaWFour
import Derived.Test.YtobfeehelmbljaaWQPut
import Derived.Test.YtobfeehelmbljaaWApart
import Derived.Test.YtobfeehelmbljaaWArr
import Derived.Test.YtobfeehelmbljaaWZeros
import Derived.Test.YtobfeehelmbljaaWFoot
import Derived.Test.YtobfeehelmbljaaWKept
import Derived.Test.YtobfeehelmbljaaWShare
import Derived.Test.YtobfeehelmbljaaWN
import Derived.Test.YtobfeehelmbljaaWFootNe
import Derived.Test.YtobfeehelmbljaaWAt
import Derived.Test.YtobfeehelmbljaaWEqStruct
import Derived.Test.YtobfeehelmbljaaWRepsOne
import Derived.Test.YtobfeehelmbljaaWInv
import Derived.Test.YtobfeehelmbljaaWInvWords
import Derived.Test.YtobfeehelmbljaaWGuard
import Derived.Test.YtobfeehelmbljaaWNEv
import Derived.Test.YtobfeehelmbljaaWMore
namespace Go.Proofs.Ytobfeehelmbljaa.PFnExactBuildOnion
open Go.RowKit Go.Proofs.YtobfeehelmbljaaW.PrintWords Go.Proofs.YtobfeehelmbljaaW.PrintLast Go.Proofs.YtobfeehelmbljaaW.PrintMore
attribute [local go_sem] max2_int min2_int max_two min_two max_three min_three max_four min_four   -- for this text's walks alone
set_option linter.unusedVariables false
set_option linter.unusedSimpArgs false



def errW : Option Int → Value
  | none => .nilIface
  | some c => .iface 0 (.int .i64 c)
theorem errW_none : errW none = .nilIface := rfl
theorem errW_some (c : Int) : errW (some c) = .iface 0 (.int .i64 c) := rfl

theorem info3 : (Try.prog.info? 3).map (fun i => (i.zero, i.size, i.bytes)) = some (some (.int .i64 0), 1, 8) := by kernel_rfl
theorem info5 : (Try.prog.info? 5).map (fun i => (i.zero, i.size, i.bytes)) = some (some (.int .u8 0), 1, 1) := by kernel_rfl
-- the values' own types

end Go.Proofs.Ytobfeehelmbljaa.PFnExactBuildOnion
