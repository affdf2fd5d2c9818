/- The contract of slices.Delete at this seat's numbers, out of the library's own. Conditions: as it says. -/
import Derived.Test.YtebpikejljgfgaaProg
import Derived.Test.YtebpikejljgfgaaHand
import Derived.Shelf.Lays2
import Derived.Shelf.Slices.Delete
set_option linter.unusedVariables false
namespace Go.Proofs.Ytebpikejljgfgaa.Sh
open Go.Shelf Go.Proofs Go.RowKit Go.Sort Go.Proofs.Ytebpikejljgfgaa.Hand Go.Proofs.YtebpikejljgfgaaW.PrintWords

def lays23_ren : Go.Shelf.Ren := ⟨fun | 23 => 67 | n => n, fun | 22 => 25 | 3 => 3 | 4 => 4 | 0 => 0 | n => n, fun | n => n⟩
theorem lays23 : Go.Proofs.Lays2.n23 Try.prog lays23_ren := {
  mixed := by kernel_rfl,
  f23 := Try.func67.trans (congrArg some (by kernel_rfl)),
  t0 := Try.underlying0,
  a0 := Try.isAgg0,
  z0 := Try.sizeOf0,
  v0 := Try.zeroValue0,
  t3 := Try.underlying3,
  a3 := Try.isAgg3,
  z3 := Try.sizeOf3,
  v3 := Try.zeroValue3,
  t4 := Try.underlying4,
  a4 := Try.isAgg4,
  z4 := Try.sizeOf4,
  v4 := Try.zeroValue4,
  t22 := Try.underlying25,
  a22 := Try.isAgg25,
  z22 := Try.sizeOf25,
  v22 := Try.zeroValue25,
  i3 := by kernel_rfl }

/-- slices.Delete at one place of an own row: the same row, that place left out. -/
theorem delete_one {W0 W : World} {g cap n : Nat} {ok : Nat → Prop} {xs : List Int} (h : Kd.R (Kd.int .i64) 3 W W0.heap.size ok (.slice (some ⟨g, 0, none⟩) n cap) xs) (hB : Below W0.heap.size W0 W) (i : Nat) (hi : i < xs.length) (hm : xs.length ≤ 4611686018427387904) :
    Calls Try.prog 67 #[.slice (some ⟨g, 0, none⟩) n cap, .int .i64 (i : Int), .int .i64 ((i : Int) + 1)] W fun e W' => e = .returned (.slice (some ⟨g, 0, none⟩) (n - 1) cap) ∧ Kd.R (Kd.int .i64) 3 W' W0.heap.size ok (.slice (some ⟨g, 0, none⟩) (n - 1) cap) (xs.eraseIdx i) ∧ Below W0.heap.size W0 W' ∧ W.grownBy W' (some g) := by
  obtain ⟨hg1, hn, hc, hm2, hH⟩ := delete_pre h hi
  subst hn
  have hd := Any.slices_Delete_int lays23 g 0 cap i (i + 1) xs W hH hc hm2 (by omega) (by omega)
  change Calls Try.prog 67 _ _ _ at hd
  refine hd.mono ?_
  rintro e W' ⟨rfl, q, hW⟩
  have h1 := delete_row h i q hi W' (by rw [hW, show i + 1 - i = 1 by omega])
  refine ⟨by rw [show i + 1 - i = 1 by omega], h1.1, hB.grown h1.2 hB.size (fun k e => by cases e; exact hg1), h1.2⟩

end Go.Proofs.Ytebpikejljgfgaa.Sh
