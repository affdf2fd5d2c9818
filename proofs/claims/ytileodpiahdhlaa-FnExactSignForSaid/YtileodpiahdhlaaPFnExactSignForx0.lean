-- PRINTED BY print.sh 35421559b90ae4d0a3588c463048766b98c2df88dd9212a6774a882060cdf62d: not written by this session
import Derived.Test.YtileodpiahdhlaaProg
import Derived.Below
import Derived.Deep.Draws
import Derived.Deep.AppendLies
import Derived.Maps.AppendAt
import Derived.OwnWalk
import Derived.Laws.BytesArg
import Derived.Laws.MakeOwn
import Derived.Laws.OwnMore
import Derived.Deep.OwnRows
import Derived.Tactics
import Derived.Lib.ConvBytes
import Derived.Laws.Slices
import Derived.WalkKit
import Derived.KernelRfl
import Derived.RowKit3
import Derived.Deep.LoopGhost
import Derived.Deep.QuietTactic
import Derived.BigQuiet
import Derived.WideLaws
import Derived.Deep.DeepCutAuto
import Derived.Deep.CutBlock
import Derived.Deep.RegionHeld3
import Derived.Laws.Rows
import Derived.Lib.AppendStr
import Derived.ArgAppend
import Derived.Laws.IdiomCopy
import Derived.OrdersHeld
import Derived.Laws.BitsLemmas
import Derived.RowKit
import Derived.Test.YtileodpiahdhlaaWWords
import Derived.Test.YtileodpiahdhlaaWLast
import Derived.Test.YtileodpiahdhlaaWTab
import Derived.Test.YtileodpiahdhlaaWFour
import Derived.Test.YtileodpiahdhlaaWQPut
import Derived.Test.YtileodpiahdhlaaWApart
import Derived.Test.YtileodpiahdhlaaWArr
import Derived.Test.YtileodpiahdhlaaWZeros
import Derived.Test.YtileodpiahdhlaaWFoot
import Derived.Test.YtileodpiahdhlaaWKept
import Derived.Test.YtileodpiahdhlaaWShare
import Derived.Test.YtileodpiahdhlaaWN
import Derived.Test.YtileodpiahdhlaaWFootNe
import Derived.Test.YtileodpiahdhlaaWAt
import Derived.Test.YtileodpiahdhlaaWEqStruct
import Derived.Test.YtileodpiahdhlaaWRepsOne
import Derived.Test.YtileodpiahdhlaaWInv
import Derived.Test.YtileodpiahdhlaaWInvWords
import Derived.Test.YtileodpiahdhlaaWGuard
import Derived.Test.YtileodpiahdhlaaWNEv
import Derived.Test.YtileodpiahdhlaaWMore
namespace Go.Proofs.Ytileodpiahdhlaa.PFnExactSignFor
open Go.RowKit Go.Proofs.YtileodpiahdhlaaW.PrintWords Go.Proofs.YtileodpiahdhlaaW.PrintLast Go.Proofs.YtileodpiahdhlaaW.PrintMore
attribute [local go_sem] max2_int min2_int max_two min_two max_three min_three max_four min_four   -- for this text's walks alone
set_option linter.unusedVariables false
set_option linter.unusedSimpArgs false



def errW : Option Int → Value
  | none => .nilIface
  | some c => .iface 0 (.int .i64 c)
theorem errW_none : errW none = .nilIface := rfl
theorem errW_some (c : Int) : errW (some c) = .iface 0 (.int .i64 c) := rfl

-- the values' own types

end Go.Proofs.Ytileodpiahdhlaa.PFnExactSignFor
