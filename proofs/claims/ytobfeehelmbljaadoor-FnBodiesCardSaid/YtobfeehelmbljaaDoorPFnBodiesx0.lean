-- Written by a program of this session, after the kit's print (changed in some places; see NOTES.md). Lean checks it.
import Derived.Test.YtobfeehelmbljaaDoorProg
import Derived.Below
import Derived.Deep.Draws
import Derived.Deep.AppendLies
import Derived.Maps.AppendAt
import Derived.OwnWalk
import Derived.Laws.BytesArg
import Derived.Laws.MakeOwn
import Derived.Laws.OwnMore
import Derived.Deep.OwnRows
import Derived.Tactics
import Derived.Lib.ConvBytes
import Derived.Laws.Slices
import Derived.WalkKit
import Derived.KernelRfl
import Derived.RowKit3
import Derived.Deep.LoopGhost
import Derived.Deep.QuietTactic
import Derived.BigQuiet
import Derived.WideLaws
import Derived.Deep.DeepCutAuto
import Derived.Deep.CutBlock
import Derived.Deep.RegionHeld3
import Derived.Laws.Rows
import Derived.Lib.AppendStr
import Derived.ArgAppend
import Derived.Laws.IdiomCopy
import Derived.OrdersHeld
import Derived.Laws.BitsLemmas
import Derived.RowKit
import Derived.Test.YtobfeehelmbljaaDoorHand
import Derived.Test.YtobfeehelmbljaaDoorShelf
import Derived.Test.YtobfeehelmbljaaDoorWWords
import Derived.Test.YtobfeehelmbljaaDoorWLast
import Derived.Test.YtobfeehelmbljaaDoorWTab
import Derived.Test.YtobfeehelmbljaaDoorWFour
import Derived.Test.YtobfeehelmbljaaDoorWQPut
import Derived.Test.YtobfeehelmbljaaDoorWApart
import Derived.Test.YtobfeehelmbljaaDoorWArr
import Derived.Test.YtobfeehelmbljaaDoorWZeros
import Derived.Test.YtobfeehelmbljaaDoorWFoot
import Derived.Test.YtobfeehelmbljaaDoorWKept
import Derived.Test.YtobfeehelmbljaaDoorWShare
import Derived.Test.YtobfeehelmbljaaDoorWN
import Derived.Test.YtobfeehelmbljaaDoorWFootNe
import Derived.Test.YtobfeehelmbljaaDoorWAt
import Derived.Test.YtobfeehelmbljaaDoorWEqStruct
import Derived.Test.YtobfeehelmbljaaDoorWRepsOne
import Derived.Test.YtobfeehelmbljaaDoorWInv
import Derived.Test.YtobfeehelmbljaaDoorWInvWords
import Derived.Test.YtobfeehelmbljaaDoorWGuard
import Derived.Test.YtobfeehelmbljaaDoorWNEv
import Derived.Test.YtobfeehelmbljaaDoorWMore
namespace Go.Proofs.YtobfeehelmbljaaDoor.PFnBodies
open Go.RowKit Go.Proofs.YtobfeehelmbljaaDoorW.PrintWords Go.Proofs.YtobfeehelmbljaaDoorW.PrintLast Go.Proofs.YtobfeehelmbljaaDoorW.PrintMore
attribute [local go_sem] max2_int min2_int max_two min_two max_three min_three max_four min_four   -- for this text's walks alone
set_option linter.unusedVariables false
set_option linter.unusedSimpArgs false



def errW : Option Int → Value
  | none => .nilIface
  | some c => .iface 0 (.int .i64 c)
theorem errW_none : errW none = .nilIface := rfl
theorem errW_some (c : Int) : errW (some c) = .iface 0 (.int .i64 c) := rfl

theorem info3 : (Tryd.prog.info? 3).map (fun i => (i.zero, i.size, i.bytes)) = some (some (.int .i64 0), 1, 8) := by kernel_rfl
theorem info5 : (Tryd.prog.info? 5).map (fun i => (i.zero, i.size, i.bytes)) = some (some (.int .u8 0), 1, 1) := by kernel_rfl
theorem info9 : (Tryd.prog.info? 9).map (fun i => (i.zero, i.size, i.bytes)) = some (some (.string ⟨#[]⟩), 1, 16) := by kernel_rfl
-- the values' own types

end Go.Proofs.YtobfeehelmbljaaDoor.PFnBodies
