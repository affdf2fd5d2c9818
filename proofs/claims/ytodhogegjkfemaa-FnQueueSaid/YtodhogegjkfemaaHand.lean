/- Lemmas on bytes that a string was turned into, and words for Go's text functions, without a program. Conditions: as each lemma says. -/
import Derived.Test.YtodhogegjkfemaaWMore
import Derived.Test.YtodhogegjkfemaaWApart
import Derived.Test.YtodhogegjkfemaaWKept
import Derived.Lib.ConvBytes
import Derived.Lib.SliceRun
import Derived.StillTailTactics
import Derived.Lib.AppendZerosOnto
import Derived.Sort.OwnSortedInts
set_option linter.unusedVariables false
set_option linter.unusedSimpArgs false
namespace Go.Proofs.Ytodhogegjkfemaa.Hand
open Go.RowKit Go.Sort Go.Proofs.YtodhogegjkfemaaW.PrintWords
def xorL : List UInt8 → List UInt8 → List UInt8
  | x :: a, y :: b => (x ^^^ y) :: xorL a b
  | a, _ => a
def xorB (a b : ByteArray) : ByteArray := ⟨(xorL a.data.toList b.data.toList).toArray⟩
def zeroB (n : Nat) : ByteArray := ⟨(List.replicate n (0 : UInt8)).toArray⟩
def trimB (s : ByteArray) : ByteArray := ⟨((s.data.toList.reverse.dropWhile (· == 0)).reverse).toArray⟩
def xorN (a b : ByteArray) (i : Nat) : List Int := (xorL a.data.toList (b.data.toList.take i)).map fun u => (u.toNat : Int)
def Marked (W : World) (e g n : Nat) (xs : List Int) : Prop := ∃ cs lo, W.heap[g]? = some (.cells cs e (lo, lo + 1)) ∧ n ≤ lo ∧ n ≤ cs.size ∧ xs.length = n ∧ ∀ j, j < n → cs[j]? = some (.int .u8 (xs.getD j 0))
theorem Marked.cell {W : World} {e g n : Nat} {xs : List Int} (h : Marked W e g n xs) (j : Nat) (hj : j < n) : W.cell? ⟨g, j, none⟩ = some (.int .u8 (xs.getD j 0)) := by
  obtain ⟨cs, lo, h1, h2, h3, h4, h5⟩ := h
  exact (cell_of_row W g j cs e _ h1).trans (h5 j hj)
theorem Marked.drewN {W : World} {e g n : Nat} {xs : List Int} (h : Marked W e g n xs) (m : Nat) : Marked (W.drewN m) e g n xs := h
theorem Marked.drew {W : World} {e g n : Nat} {xs : List Int} (h : Marked W e g n xs) : Marked W.drew e g n xs := h
theorem Marked.set {W : World} {e g n : Nat} {xs : List Int} (h : Marked W e g n xs) (j : Nat) (hj : j < n) (v : Int) : Marked (W.setCell ⟨g, j, none⟩ (.int .u8 v)) e g n (xs.set j v) := by
  obtain ⟨cs, lo, h1, h2, h3, h4, h5⟩ := h
  refine ⟨cs.setIfInBounds j (.int .u8 v), lo, by simp [World.setCell, Array.getElem?_modify, h1], h2, by simpa using h3, by simpa using h4, fun i hi => ?_⟩
  rw [Array.getElem?_setIfInBounds]
  by_cases e : j = i
  · subst e
    rw [if_pos rfl, if_pos (by omega), List.getD_eq_getElem?_getD, List.getElem?_set_self (by omega)]
    rfl
  · rw [if_neg e, h5 i hi, List.getD_eq_getElem?_getD, List.getD_eq_getElem?_getD, List.getElem?_set_ne e]
theorem Marked.reads {W : World} {e g n : Nat} {xs : List Int} (h : Marked W e g n xs) (hn : n ≤ 9223372036854775807) : ReadsInt W .u8 (some ⟨g, 0, none⟩) n xs :=
  ⟨h.choose_spec.choose_spec.2.2.2.1, hn, fun _ => ⟨_, rfl, fun j hj => by
    have e : (⟨g, 0, none⟩ : Addr).add j = ⟨g, j, none⟩ := by
      rw [Addr.add_lit]
      simp
    rw [e]
    exact h.cell j hj⟩⟩
theorem bytes_below (w : World) (e : Nat) (s : ByteArray) : Below w.heap.size w (Lib.bytesWorld w e s) :=
  ⟨rfl, rfl, rfl, by rw [Lib.bytesWorld_size]; omega, fun k hk => Lib.bytesWorld_at_old w e s k hk⟩
def XorAt (w : World) (e : Nat) (a b : ByteArray) (i : Nat) (W : World) : Prop := Below w.heap.size w W ∧ Marked W e w.heap.size a.size (xorN a b i)
theorem Marked.keep {W W1 : World} {e g n h : Nat} {xs : List Int} (hM : Marked W e g n xs) (hk : KeepBut W W1 h none) (hg : g ≠ h) : Marked W1 e g n xs := by
  obtain ⟨cs, lo, h1, h2⟩ := hM
  have hlt : g < W.heap.size := by
    rcases Nat.lt_or_ge g W.heap.size with hh | hh
    · exact hh
    · rw [Array.getElem?_eq_none hh] at h1
      cases h1
  exact ⟨cs, lo, (hk.2 g hlt hg (by simp)).trans h1, h2⟩
def bit8 (j : Int) : Int := IntKind.u8.wrap (2 ^ min (IntKind.u64.wrap j).toNat 8)
def flipV (s : ByteArray) (i j : Int) : Int := Go.bits .xor .u8 ((bytesOf s).getD i.toNat 0) (bit8 j)
def flipB (s : ByteArray) (i j : Int) : ByteArray := strOfNums ((bytesOf s).set i.toNat (flipV s i j))
theorem R_made {α : Type} (d : Kd α) (e : Nat) (w : World) : d.R e (w.alloc (.cells #[] e)) w.heap.size (fun _ => True) (.slice (some ⟨w.heap.size, 0, none⟩) 0 0) [] :=
  ⟨fun _ _ => trivial, [], World.ownsRow_made w #[] 0 (Nat.le_refl _) (Nat.zero_le _) (by simp), by simp [Reps]⟩
end Go.Proofs.Ytodhogegjkfemaa.Hand
