-- Written by a program of this session, after the kit's print (changed in some places; see NOTES.md). Lean checks it.
import Derived.Test.YtebpikejljgfgaaProg
import Derived.Below
import Derived.Deep.Draws
import Derived.Deep.AppendLies
import Derived.Maps.AppendAt
import Derived.OwnWalk
import Derived.Laws.BytesArg
import Derived.Laws.MakeOwn
import Derived.Laws.OwnMore
import Derived.Deep.OwnRows
import Derived.Tactics
import Derived.Lib.ConvBytes
import Derived.Laws.Slices
import Derived.WalkKit
import Derived.KernelRfl
import Derived.RowKit3
import Derived.Deep.LoopGhost
import Derived.Deep.QuietTactic
import Derived.BigQuiet
import Derived.WideLaws
import Derived.Deep.DeepCutAuto
import Derived.Deep.CutBlock
import Derived.Deep.RegionHeld3
import Derived.Laws.Rows
import Derived.Lib.AppendStr
import Derived.ArgAppend
import Derived.Laws.IdiomCopy
import Derived.OrdersHeld
import Derived.Laws.BitsLemmas
import Derived.RowKit
import Derived.Test.YtebpikejljgfgaaHand
import Derived.Test.YtebpikejljgfgaaShelf
import Derived.Test.YtebpikejljgfgaaWWords
import Derived.Test.YtebpikejljgfgaaWLast
import Derived.Test.YtebpikejljgfgaaWTab
import Derived.Test.YtebpikejljgfgaaWFour
import Derived.Test.YtebpikejljgfgaaWQPut
import Derived.Test.YtebpikejljgfgaaWApart
import Derived.Test.YtebpikejljgfgaaWArr
import Derived.Test.YtebpikejljgfgaaWZeros
import Derived.Test.YtebpikejljgfgaaWFoot
import Derived.Test.YtebpikejljgfgaaWKept
import Derived.Test.YtebpikejljgfgaaWShare
import Derived.Test.YtebpikejljgfgaaWN
import Derived.Test.YtebpikejljgfgaaWFootNe
import Derived.Test.YtebpikejljgfgaaWAt
import Derived.Test.YtebpikejljgfgaaWEqStruct
import Derived.Test.YtebpikejljgfgaaWRepsOne
import Derived.Test.YtebpikejljgfgaaWInv
import Derived.Test.YtebpikejljgfgaaWInvWords
import Derived.Test.YtebpikejljgfgaaWGuard
import Derived.Test.YtebpikejljgfgaaWNEv
import Derived.Test.YtebpikejljgfgaaWMore
namespace Go.Proofs.Ytebpikejljgfgaa.PFnOrders
open Go.RowKit Go.Proofs.YtebpikejljgfgaaW.PrintWords Go.Proofs.YtebpikejljgfgaaW.PrintLast Go.Proofs.YtebpikejljgfgaaW.PrintMore
attribute [local go_sem] max2_int min2_int max_two min_two max_three min_three max_four min_four   -- for this text's walks alone
set_option linter.unusedVariables false
set_option linter.unusedSimpArgs false



def errW : Option Int → Value
  | none => .nilIface
  | some c => .iface 0 (.int .i64 c)
theorem errW_none : errW none = .nilIface := rfl
theorem errW_some (c : Int) : errW (some c) = .iface 0 (.int .i64 c) := rfl

theorem info3 : (Try.prog.info? 3).map (fun i => (i.zero, i.size, i.bytes)) = some (some (.int .i64 0), 1, 8) := by kernel_rfl
theorem info9 : (Try.prog.info? 9).map (fun i => (i.zero, i.size, i.bytes)) = some (some (.string ⟨#[]⟩), 1, 16) := by kernel_rfl
-- the values' own types

end Go.Proofs.Ytebpikejljgfgaa.PFnOrders
