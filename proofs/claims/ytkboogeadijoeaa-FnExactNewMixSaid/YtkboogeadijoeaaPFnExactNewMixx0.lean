-- Written by a program of this session, after the kit's print (changed in some places; see NOTES.md). Lean checks it.
import Derived.Test.YtkboogeadijoeaaProg
import Derived.Below
import Derived.Deep.Draws
import Derived.Deep.AppendLies
import Derived.Maps.AppendAt
import Derived.OwnWalk
import Derived.Laws.BytesArg
import Derived.Laws.MakeOwn
import Derived.Laws.OwnMore
import Derived.Deep.OwnRows
import Derived.Tactics
import Derived.Lib.ConvBytes
import Derived.Laws.Slices
import Derived.WalkKit
import Derived.KernelRfl
import Derived.RowKit3
import Derived.Deep.LoopGhost
import Derived.Deep.QuietTactic
import Derived.BigQuiet
import Derived.WideLaws
import Derived.Deep.DeepCutAuto
import Derived.Deep.CutBlock
import Derived.Deep.RegionHeld3
import Derived.Laws.Rows
import Derived.Lib.AppendStr
import Derived.ArgAppend
import Derived.Laws.IdiomCopy
import Derived.OrdersHeld
import Derived.Laws.BitsLemmas
import Derived.RowKit
import Derived.Test.YtkboogeadijoeaaOwnw
import Derived.Test.YtkboogeadijoeaaWWords
import Derived.Test.YtkboogeadijoeaaWLast
import Derived.Test.YtkboogeadijoeaaWTab
import Derived.Test.YtkboogeadijoeaaWFour
import Derived.Test.YtkboogeadijoeaaWQPut
import Derived.Test.YtkboogeadijoeaaWApart
import Derived.Test.YtkboogeadijoeaaWArr
import Derived.Test.YtkboogeadijoeaaWZeros
import Derived.Test.YtkboogeadijoeaaWFoot
import Derived.Test.YtkboogeadijoeaaWKept
import Derived.Test.YtkboogeadijoeaaWShare
import Derived.Test.YtkboogeadijoeaaWN
import Derived.Test.YtkboogeadijoeaaWFootNe
import Derived.Test.YtkboogeadijoeaaWAt
import Derived.Test.YtkboogeadijoeaaWEqStruct
import Derived.Test.YtkboogeadijoeaaWRepsOne
import Derived.Test.YtkboogeadijoeaaWInv
import Derived.Test.YtkboogeadijoeaaWInvWords
import Derived.Test.YtkboogeadijoeaaWGuard
import Derived.Test.YtkboogeadijoeaaWNEv
import Derived.Test.YtkboogeadijoeaaWMore
namespace Go.Proofs.Ytkboogeadijoeaa.PFnExactNewMix
open Go.RowKit Go.Proofs.YtkboogeadijoeaaW.PrintWords Go.Proofs.YtkboogeadijoeaaW.PrintLast Go.Proofs.YtkboogeadijoeaaW.PrintMore
attribute [local go_sem] max2_int min2_int max_two min_two max_three min_three max_four min_four Go.Proofs.Ytkboogeadijoeaa.Ownw.str_gtr Go.Proofs.Ytkboogeadijoeaa.Ownw.str_leq Go.Proofs.Ytkboogeadijoeaa.Ownw.str_geq   -- for this text's walks alone
set_option linter.unusedVariables false
set_option linter.unusedSimpArgs false



def errW : Option Int → Value
  | none => .nilIface
  | some c => .iface 0 (.int .i64 c)
theorem errW_none : errW none = .nilIface := rfl
theorem errW_some (c : Int) : errW (some c) = .iface 0 (.int .i64 c) := rfl

theorem info5 : (Try.prog.info? 5).map (fun i => (i.zero, i.size, i.bytes)) = some (some (.int .u8 0), 1, 1) := by kernel_rfl
-- the values' own types

end Go.Proofs.Ytkboogeadijoeaa.PFnExactNewMix
