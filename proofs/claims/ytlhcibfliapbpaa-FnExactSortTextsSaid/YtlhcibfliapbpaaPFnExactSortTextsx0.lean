-- Written by a program of this session, after the kit's print (changed in some places; see NOTES.md). Lean checks it.
import Derived.Test.YtlhcibfliapbpaaProg
import Derived.Below
import Derived.Deep.Draws
import Derived.Deep.AppendLies
import Derived.Maps.AppendAt
import Derived.OwnWalk
import Derived.Laws.BytesArg
import Derived.Laws.MakeOwn
import Derived.Laws.OwnMore
import Derived.Deep.OwnRows
import Derived.Tactics
import Derived.Lib.ConvBytes
import Derived.Laws.Slices
import Derived.WalkKit
import Derived.KernelRfl
import Derived.RowKit3
import Derived.Deep.LoopGhost
import Derived.Deep.QuietTactic
import Derived.BigQuiet
import Derived.WideLaws
import Derived.Deep.DeepCutAuto
import Derived.Deep.CutBlock
import Derived.Deep.RegionHeld3
import Derived.Laws.Rows
import Derived.Lib.AppendStr
import Derived.ArgAppend
import Derived.Laws.IdiomCopy
import Derived.OrdersHeld
import Derived.Laws.BitsLemmas
import Derived.RowKit
import Derived.Test.YtlhcibfliapbpaaHand
import Derived.Test.YtlhcibfliapbpaaSrt
import Derived.Test.YtlhcibfliapbpaaWWords
import Derived.Test.YtlhcibfliapbpaaWLast
import Derived.Test.YtlhcibfliapbpaaWTab
import Derived.Test.YtlhcibfliapbpaaWFour
import Derived.Test.YtlhcibfliapbpaaWQPut
import Derived.Test.YtlhcibfliapbpaaWApart
import Derived.Test.YtlhcibfliapbpaaWArr
import Derived.Test.YtlhcibfliapbpaaWZeros
import Derived.Test.YtlhcibfliapbpaaWFoot
import Derived.Test.YtlhcibfliapbpaaWKept
import Derived.Test.YtlhcibfliapbpaaWShare
import Derived.Test.YtlhcibfliapbpaaWN
import Derived.Test.YtlhcibfliapbpaaWFootNe
import Derived.Test.YtlhcibfliapbpaaWAt
import Derived.Test.YtlhcibfliapbpaaWEqStruct
import Derived.Test.YtlhcibfliapbpaaWRepsOne
import Derived.Test.YtlhcibfliapbpaaWInv
import Derived.Test.YtlhcibfliapbpaaWInvWords
import Derived.Test.YtlhcibfliapbpaaWGuard
import Derived.Test.YtlhcibfliapbpaaWNEv
import Derived.Test.YtlhcibfliapbpaaWMore
namespace Go.Proofs.Ytlhcibfliapbpaa.PFnExactSortTexts
open Go.RowKit Go.Proofs.YtlhcibfliapbpaaW.PrintWords Go.Proofs.YtlhcibfliapbpaaW.PrintLast Go.Proofs.YtlhcibfliapbpaaW.PrintMore
attribute [local go_sem] max2_int min2_int max_two min_two max_three min_three max_four min_four   -- for this text's walks alone
set_option linter.unusedVariables false
set_option linter.unusedSimpArgs false



def errW : Option Int → Value
  | none => .nilIface
  | some c => .iface 0 (.int .i64 c)
theorem errW_none : errW none = .nilIface := rfl
theorem errW_some (c : Int) : errW (some c) = .iface 0 (.int .i64 c) := rfl

theorem info5 : (Try.prog.info? 5).map (fun i => (i.zero, i.size, i.bytes)) = some (some (.int .u8 0), 1, 1) := by kernel_rfl
theorem info9 : (Try.prog.info? 9).map (fun i => (i.zero, i.size, i.bytes)) = some (some (.string ⟨#[]⟩), 1, 16) := by kernel_rfl
-- the values' own types

end Go.Proofs.Ytlhcibfliapbpaa.PFnExactSortTexts
