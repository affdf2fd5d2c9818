/- What an event leaves of boxes and rows that are older: the world is that of the fact, but for orders drawn. Conditions: those of each lemma. -/
import Derived.Test.YtodhogegjkfemaaWWords
import Derived.Test.YtodhogegjkfemaaWLast
import Derived.Test.YtodhogegjkfemaaWQPut
import Derived.Test.YtodhogegjkfemaaWApart
import Derived.Test.YtodhogegjkfemaaWKept
import Derived.Test.YtodhogegjkfemaaWShare
import Derived.Test.YtodhogegjkfemaaWMore
namespace Go.Proofs.Ytodhogegjkfemaa.Zed
open Go.RowKit Go.Proofs.YtodhogegjkfemaaW.PrintWords Go.Proofs.YtodhogegjkfemaaW.PrintLast Go.Proofs.YtodhogegjkfemaaW.PrintMore
theorem hdN (w : World) (n : Nat) : (w.drewN n).heap = w.heap := rfl
theorem hd (w : World) : w.drew.heap = w.heap := rfl
theorem oN (w : World) (n : Nat) : (w.drewN n).os = w.os := rfl
theorem tN (w : World) (n : Nat) : (w.drewN n).tape = w.tape := rfl
theorem uN (w : World) (n : Nat) : (w.drewN n).output = w.output := rfl
theorem zB {w0 W w1 : World} {g : Nat} {o : Obj} (h : w0.heap[g]? = some o) (hb : Below W.heap.size W w1) (he : W.heap = w0.heap := by with_reducible first | rfl | exact hdN _ _ | exact hd _ | exact (hdN _ _).trans (hdN _ _)) : w1.heap[g]? = some o := blk_below (by rw [he]; exact h) hb
theorem zL {w0 W : World} {g n : Nat} {o : Obj} (hg : n = W.heap.size) (h : w0.heap[g]? = some o) (he : W.heap = w0.heap := by with_reducible first | rfl | exact hdN _ _ | exact hd _ | exact (hdN _ _).trans (hdN _ _)) : g ≠ n := by
  rw [hg, he]
  exact Nat.ne_of_lt (blk_lt h)
theorem zG {w0 W : World} {g n : Nat} {o : Obj} (hg : n = W.heap.size) (h : w0.heap[g]? = some o) (he : W.heap = w0.heap := by with_reducible first | rfl | exact hdN _ _ | exact hd _ | exact (hdN _ _).trans (hdN _ _)) : n ≠ g := Ne.symm (zL hg h he)
theorem zR {α : Type} {d : Kd α} {e base : Nat} {ok : Nat → Prop} {v : Value} {xs : List α} {w0 W w1 : World} (h : Kd.R d e w0 base ok v xs) (hb : Below W.heap.size W w1) (he : W.heap = w0.heap := by with_reducible first | rfl | exact hdN _ _ | exact hd _ | exact (hdN _ _).trans (hdN _ _)) : Kd.R d e w1 base ok v xs :=
  Kd.R_mono (Kd.R_move (Kd.R_bound h) (fun k hk => by rw [hb.block k (by rw [he]; exact hk.2.2.1), he])) (fun _ hk => hk.1)
theorem zQ {α : Type} {d : Kd α} {e base : Nat} {ok : Nat → Prop} {v : Value} {xs : List α} {w0 W w1 : World} (h : Kd.Q d e w0 base ok v xs) (hb : Below W.heap.size W w1) (he : W.heap = w0.heap := by with_reducible first | rfl | exact hdN _ _ | exact hd _ | exact (hdN _ _).trans (hdN _ _)) : Kd.Q d e w1 base ok v xs :=
  Kd.Q_step h (fun k _ hk => by rw [hb.block k (by rw [he]; exact hk), he])
theorem zS {w w0 W w1 : World} (h : Below w.heap.size w w0) (hb : Below W.heap.size W w1) (h1 : W.heap = w0.heap := by with_reducible first | rfl | exact hdN _ _ | exact hd _ | exact (hdN _ _).trans (hdN _ _)) (h2 : W.os = w0.os := by with_reducible first | rfl | exact oN _ _ | exact (oN _ _).trans (oN _ _)) (h3 : W.tape = w0.tape := by with_reducible first | rfl | exact tN _ _ | exact (tN _ _).trans (tN _ _)) (h4 : W.output = w0.output := by with_reducible first | rfl | exact uN _ _ | exact (uN _ _).trans (uN _ _)) : Below w.heap.size w w1 :=
  below_step h ⟨hb.os.trans h2, hb.tape.trans h3, hb.output.trans h4, by rw [← h1]; exact hb.size, fun k hk => by rw [hb.block k (by rw [h1]; exact hk), h1]⟩
theorem zW {w w0 W : World} {n : Nat} (hg : n = W.heap.size) (h : Below w.heap.size w w0) (he : W.heap = w0.heap := by with_reducible first | rfl | exact hdN _ _ | exact hd _ | exact (hdN _ _).trans (hdN _ _)) : w.heap.size ≤ n := by
  rw [hg, he]
  exact below_size h
theorem zV {w w0 W : World} (h : Below w.heap.size w w0) (he : W.heap = w0.heap := by with_reducible first | rfl | exact hdN _ _ | exact hd _ | exact (hdN _ _).trans (hdN _ _)) : w.heap.size ≤ W.heap.size := by
  rw [he]
  exact below_size h
end Go.Proofs.Ytodhogegjkfemaa.Zed
