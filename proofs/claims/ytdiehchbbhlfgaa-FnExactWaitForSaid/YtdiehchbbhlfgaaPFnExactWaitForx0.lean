-- Written by a program of this session, after the kit's print (changed in some places; see NOTES.md). Lean checks it.
import Derived.Test.YtdiehchbbhlfgaaProg
import Derived.Below
import Derived.Deep.Draws
import Derived.Deep.AppendLies
import Derived.Maps.AppendAt
import Derived.OwnWalk
import Derived.Laws.BytesArg
import Derived.Laws.MakeOwn
import Derived.Laws.OwnMore
import Derived.Deep.OwnRows
import Derived.Tactics
import Derived.Lib.ConvBytes
import Derived.Laws.Slices
import Derived.WalkKit
import Derived.KernelRfl
import Derived.RowKit3
import Derived.Deep.LoopGhost
import Derived.Deep.QuietTactic
import Derived.BigQuiet
import Derived.WideLaws
import Derived.Deep.DeepCutAuto
import Derived.Deep.CutBlock
import Derived.Deep.RegionHeld3
import Derived.Laws.Rows
import Derived.Lib.AppendStr
import Derived.ArgAppend
import Derived.Laws.IdiomCopy
import Derived.OrdersHeld
import Derived.Laws.BitsLemmas
import Derived.RowKit
import Derived.Test.YtdiehchbbhlfgaaOwnw
import Derived.Test.YtdiehchbbhlfgaaWWords
import Derived.Test.YtdiehchbbhlfgaaWLast
import Derived.Test.YtdiehchbbhlfgaaWTab
import Derived.Test.YtdiehchbbhlfgaaWFour
import Derived.Test.YtdiehchbbhlfgaaWQPut
import Derived.Test.YtdiehchbbhlfgaaWApart
import Derived.Test.YtdiehchbbhlfgaaWArr
import Derived.Test.YtdiehchbbhlfgaaWZeros
import Derived.Test.YtdiehchbbhlfgaaWFoot
import Derived.Test.YtdiehchbbhlfgaaWKept
import Derived.Test.YtdiehchbbhlfgaaWShare
import Derived.Test.YtdiehchbbhlfgaaWN
import Derived.Test.YtdiehchbbhlfgaaWFootNe
import Derived.Test.YtdiehchbbhlfgaaWAt
import Derived.Test.YtdiehchbbhlfgaaWEqStruct
import Derived.Test.YtdiehchbbhlfgaaWRepsOne
import Derived.Test.YtdiehchbbhlfgaaWInv
import Derived.Test.YtdiehchbbhlfgaaWInvWords
import Derived.Test.YtdiehchbbhlfgaaWGuard
import Derived.Test.YtdiehchbbhlfgaaWNEv
import Derived.Test.YtdiehchbbhlfgaaWMore
namespace Go.Proofs.Ytdiehchbbhlfgaa.PFnExactWaitFor
open Go.RowKit Go.Proofs.YtdiehchbbhlfgaaW.PrintWords Go.Proofs.YtdiehchbbhlfgaaW.PrintLast Go.Proofs.YtdiehchbbhlfgaaW.PrintMore
attribute [local go_sem] max2_int min2_int max_two min_two max_three min_three max_four min_four Go.Proofs.Ytdiehchbbhlfgaa.Ownw.str_gtr Go.Proofs.Ytdiehchbbhlfgaa.Ownw.str_leq Go.Proofs.Ytdiehchbbhlfgaa.Ownw.str_geq   -- for this text's walks alone
set_option linter.unusedVariables false
set_option linter.unusedSimpArgs false



def errW : Option Int → Value
  | none => .nilIface
  | some c => .iface 0 (.int .i64 c)
theorem errW_none : errW none = .nilIface := rfl
theorem errW_some (c : Int) : errW (some c) = .iface 0 (.int .i64 c) := rfl

theorem info9 : (Try.prog.info? 9).map (fun i => (i.zero, i.size, i.bytes)) = some (some (.string ⟨#[]⟩), 1, 16) := by kernel_rfl
-- the values' own types

end Go.Proofs.Ytdiehchbbhlfgaa.PFnExactWaitFor
