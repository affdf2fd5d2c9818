-- Written by a program of this session, after the kit's print (changed in some places; see NOTES.md). Lean checks it.
import Derived.Test.YtjpilaicnglmeaaDoorProg
import Derived.Below
import Derived.Deep.Draws
import Derived.Deep.AppendLies
import Derived.Maps.AppendAt
import Derived.OwnWalk
import Derived.Laws.BytesArg
import Derived.Laws.MakeOwn
import Derived.Laws.OwnMore
import Derived.Deep.OwnRows
import Derived.Tactics
import Derived.Lib.ConvBytes
import Derived.Laws.Slices
import Derived.WalkKit
import Derived.KernelRfl
import Derived.RowKit3
import Derived.Deep.LoopGhost
import Derived.Deep.QuietTactic
import Derived.BigQuiet
import Derived.WideLaws
import Derived.Deep.DeepCutAuto
import Derived.Deep.CutBlock
import Derived.Deep.RegionHeld3
import Derived.Laws.Rows
import Derived.Lib.AppendStr
import Derived.ArgAppend
import Derived.Laws.IdiomCopy
import Derived.OrdersHeld
import Derived.Laws.BitsLemmas
import Derived.RowKit
import Derived.Test.YtjpilaicnglmeaaDoorHand
import Derived.Test.YtjpilaicnglmeaaDoorShelf
import Derived.Test.YtjpilaicnglmeaaDoorWWords
import Derived.Test.YtjpilaicnglmeaaDoorWLast
import Derived.Test.YtjpilaicnglmeaaDoorWTab
import Derived.Test.YtjpilaicnglmeaaDoorWFour
import Derived.Test.YtjpilaicnglmeaaDoorWQPut
import Derived.Test.YtjpilaicnglmeaaDoorWApart
import Derived.Test.YtjpilaicnglmeaaDoorWArr
import Derived.Test.YtjpilaicnglmeaaDoorWZeros
import Derived.Test.YtjpilaicnglmeaaDoorWFoot
import Derived.Test.YtjpilaicnglmeaaDoorWKept
import Derived.Test.YtjpilaicnglmeaaDoorWShare
import Derived.Test.YtjpilaicnglmeaaDoorWN
import Derived.Test.YtjpilaicnglmeaaDoorWFootNe
import Derived.Test.YtjpilaicnglmeaaDoorWAt
import Derived.Test.YtjpilaicnglmeaaDoorWEqStruct
import Derived.Test.YtjpilaicnglmeaaDoorWRepsOne
import Derived.Test.YtjpilaicnglmeaaDoorWInv
import Derived.Test.YtjpilaicnglmeaaDoorWInvWords
import Derived.Test.YtjpilaicnglmeaaDoorWGuard
import Derived.Test.YtjpilaicnglmeaaDoorWNEv
import Derived.Test.YtjpilaicnglmeaaDoorWMore
namespace Go.Proofs.YtjpilaicnglmeaaDoor.PFnLayers
open Go.RowKit Go.Proofs.YtjpilaicnglmeaaDoorW.PrintWords Go.Proofs.YtjpilaicnglmeaaDoorW.PrintLast Go.Proofs.YtjpilaicnglmeaaDoorW.PrintMore
attribute [local go_sem] max2_int min2_int max_two min_two max_three min_three max_four min_four   -- for this text's walks alone
set_option linter.unusedVariables false
set_option linter.unusedSimpArgs false



def errW : Option Int → Value
  | none => .nilIface
  | some c => .iface 0 (.int .i64 c)
theorem errW_none : errW none = .nilIface := rfl
theorem errW_some (c : Int) : errW (some c) = .iface 0 (.int .i64 c) := rfl

theorem info3 : (Tryd.prog.info? 3).map (fun i => (i.zero, i.size, i.bytes)) = some (some (.int .i64 0), 1, 8) := by kernel_rfl
theorem info5 : (Tryd.prog.info? 5).map (fun i => (i.zero, i.size, i.bytes)) = some (some (.int .u8 0), 1, 1) := by kernel_rfl
theorem info9 : (Tryd.prog.info? 9).map (fun i => (i.zero, i.size, i.bytes)) = some (some (.string ⟨#[]⟩), 1, 16) := by kernel_rfl
-- the values' own types

end Go.Proofs.YtjpilaicnglmeaaDoor.PFnLayers
