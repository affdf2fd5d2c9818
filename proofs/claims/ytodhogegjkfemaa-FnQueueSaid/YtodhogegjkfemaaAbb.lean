/- Short names of the words' lemmas. Conditions: those of each lemma. -/
import Derived.Test.YtodhogegjkfemaaWWords
import Derived.Test.YtodhogegjkfemaaWLast
import Derived.Test.YtodhogegjkfemaaWQPut
import Derived.Test.YtodhogegjkfemaaWApart
import Derived.Test.YtodhogegjkfemaaWKept
import Derived.Test.YtodhogegjkfemaaWShare
import Derived.Test.YtodhogegjkfemaaWMore
namespace Go.Proofs.Ytodhogegjkfemaa.Abb
open Go.RowKit Go.Proofs.YtodhogegjkfemaaW.PrintWords Go.Proofs.YtodhogegjkfemaaW.PrintLast Go.Proofs.YtodhogegjkfemaaW.PrintMore
abbrev rA := @Kd.R_alloc
abbrev rN := @Kd.R_drewN
abbrev rD := @Kd.R_drew
abbrev cA := @Kd.C_alloc
abbrev cN := @Kd.C_drewN
abbrev cD := @Kd.C_drew
abbrev sA := @Kd.S_alloc
abbrev sN := @Kd.S_drewN
abbrev sD := @Kd.S_drew
abbrev bA := @below_alloc
abbrev bN := @pw_below_drewN
abbrev bD := @below_drew1
abbrev bS := @below_set
abbrev lA := @blk_alloc
abbrev lN := @blk_drewN
abbrev lD := @blk_drew
abbrev lF := @blk_frozen
abbrev lC := @blk_cell
abbrev lX := @blk_far
abbrev lP := @blk_put
abbrev rB := @Kd.R_below
abbrev rE := @Kd.R_base
abbrev rF := @Kd.R_elder'
abbrev rR := @Kd.R_reads'
abbrev rM := @Kd.R_mono
abbrev rS := @Kd.R_slice
abbrev wN := @World.drewN_drewN
abbrev qA := @Kd.Q_alloc
abbrev qN := @Kd.Q_drewN
abbrev qD := @Kd.Q_drew
abbrev kA := @Kept.alloc
abbrev kN := @Kept.drewN
abbrev kD := @Kept.drew
theorem oB {α β : Type} {o : Option α} {f : α → Option β} {b : β} (h : o.bind f = some b) : ∃ a, o = some a ∧ f a = some b := Option.bind_eq_some_iff.mp h
theorem fB {b : Bool} (h : ¬ b = true) : b = false := Bool.eq_false_iff.mpr h
end Go.Proofs.Ytodhogegjkfemaa.Abb
