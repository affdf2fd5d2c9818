/- Contracts of Go's text functions at this seat's numbers, out of the library's own: so many zeros, a text without the zeros at its end, whether a text ends so. Conditions: as each says. -/
import Derived.Test.YtobfeehelmbljaaProg
import Derived.Test.YtobfeehelmbljaaHand
import Derived.Shelf.Lays
import Derived.Shelf.Strings.Repeat
set_option linter.unusedVariables false
namespace Go.Proofs.Ytobfeehelmbljaa.Sh
open Go.Shelf Go.Proofs Go.RowKit Go.Proofs.Ytobfeehelmbljaa.Hand

def lays105_ren : Go.Shelf.Ren := ⟨fun | 105 => 35 | 212 => 40 | 99 => 41 | 165 => 42 | 166 => 43 | 170 => 44 | 169 => 45 | 263 => 49 | 264 => 50 | 206 => 51 | 240 => 52 | 241 => 53 | 276 => 54 | 277 => 55 | n => n, fun | 9 => 9 | 3 => 3 | 4 => 4 | 20 => 20 | 0 => 0 | 46 => 49 | 109 => 50 | 5 => 5 | 72 => 54 | 76 => 58 | 51 => 63 | 146 => 64 | 53 => 66 | 148 => 67 | 70 => 52 | 37 => 40 | 75 => 57 | 127 => 69 | 164 => 70 | 80 => 61 | n => n, fun | n => n⟩
theorem lays105 : Go.Proofs.Lays.n105 Try.prog lays105_ren := {
  mixed := by kernel_rfl,
  f99 := Try.func41.trans (congrArg some (by kernel_rfl)),
  f105 := Try.func35.trans (congrArg some (by kernel_rfl)),
  f165 := Try.func42.trans (congrArg some (by kernel_rfl)),
  f166 := Try.func43.trans (congrArg some (by kernel_rfl)),
  f169 := Try.func45.trans (congrArg some (by kernel_rfl)),
  f170 := Try.func44.trans (congrArg some (by kernel_rfl)),
  f206 := Try.func51.trans (congrArg some (by kernel_rfl)),
  f212 := Try.func40.trans (congrArg some (by kernel_rfl)),
  f240 := Try.func52.trans (congrArg some (by kernel_rfl)),
  f241 := Try.func53.trans (congrArg some (by kernel_rfl)),
  f263 := Try.func49.trans (congrArg some (by kernel_rfl)),
  f264 := Try.func50.trans (congrArg some (by kernel_rfl)),
  f276 := Try.func54.trans (congrArg some (by kernel_rfl)),
  f277 := Try.func55.trans (congrArg some (by kernel_rfl)),
  t0 := Try.underlying0,
  a0 := Try.isAgg0,
  z0 := Try.sizeOf0,
  v0 := Try.zeroValue0,
  t3 := Try.underlying3,
  a3 := Try.isAgg3,
  z3 := Try.sizeOf3,
  v3 := Try.zeroValue3,
  t4 := Try.underlying4,
  a4 := Try.isAgg4,
  z4 := Try.sizeOf4,
  v4 := Try.zeroValue4,
  t5 := Try.underlying5,
  a5 := Try.isAgg5,
  z5 := Try.sizeOf5,
  v5 := Try.zeroValue5,
  t9 := Try.underlying9,
  a9 := Try.isAgg9,
  z9 := Try.sizeOf9,
  v9 := Try.zeroValue9,
  t20 := Try.underlying20,
  a20 := Try.isAgg20,
  z20 := Try.sizeOf20,
  v20 := Try.zeroValue20,
  t37 := Try.underlying40,
  a37 := Try.isAgg40,
  z37 := Try.sizeOf40,
  v37 := Try.zeroValue40,
  t46 := Try.underlying49,
  a46 := Try.isAgg49,
  z46 := Try.sizeOf49,
  v46 := Try.zeroValue49,
  t51 := Try.underlying63,
  a51 := Try.isAgg63,
  z51 := Try.sizeOf63,
  v51 := Try.zeroValue63,
  t53 := Try.underlying66,
  a53 := Try.isAgg66,
  z53 := Try.sizeOf66,
  v53 := Try.zeroValue66,
  t70 := Try.underlying52,
  a70 := Try.isAgg52,
  z70 := Try.sizeOf52,
  v70 := Try.zeroValue52,
  t72 := Try.underlying54,
  a72 := Try.isAgg54,
  z72 := Try.sizeOf54,
  v72 := Try.zeroValue54,
  t75 := Try.underlying57,
  a75 := Try.isAgg57,
  z75 := Try.sizeOf57,
  v75 := Try.zeroValue57,
  t76 := Try.underlying58,
  a76 := Try.isAgg58,
  z76 := Try.sizeOf58,
  v76 := Try.zeroValue58,
  t109 := Try.underlying50,
  a109 := Try.isAgg50,
  z109 := Try.sizeOf50,
  v109 := Try.zeroValue50,
  t127 := Try.underlying69,
  a127 := Try.isAgg69,
  z127 := Try.sizeOf69,
  v127 := Try.zeroValue69,
  t146 := Try.underlying64,
  a146 := Try.isAgg64,
  z146 := Try.sizeOf64,
  v146 := Try.zeroValue64,
  t148 := Try.underlying67,
  a148 := Try.isAgg67,
  z148 := Try.sizeOf67,
  v148 := Try.zeroValue67,
  t164 := Try.underlying70,
  a164 := Try.isAgg70,
  z164 := Try.sizeOf70,
  v164 := Try.zeroValue70 }

theorem extra105 : Builder.Extra Try.prog lays105_ren := {
  sizeBuilder := by kernel_rfl,
  liesBuilder := by kernel_rfl,
  t5 := lays105.t5,
  a5 := lays105.a5,
  z5 := lays105.z5,
  v5 := lays105.v5,
  infoByte := by kernel_rfl,
  cellsByte := by kernel_rfl,
  sizeByte := by kernel_rfl,
  neB5 := by decide }

theorem repeat_zeros : ∀ c : Nat, Lib.repeatL [0] c = List.replicate c (0 : UInt8)
  | 0 => rfl
  | c + 1 => by
    rw [Lib.repeatL, repeat_zeros c]
    rfl
theorem repeat0 (c : Nat) (hc : c ≤ 4096) (w : World) : Calls Try.prog 35 #[.string ⟨#[0]⟩, .int .i64 (c : Int)] w fun e w' => e = .returned (.string (zeroB c)) ∧ Below w.heap.size w w' := by
  have h := Any.strings_Repeat lays105 extra105 ⟨#[0]⟩ c w (by omega) (by show 1 * c ≤ _; omega)
  change Calls Try.prog 35 _ _ _ at h
  refine h.mono fun e w' ⟨he, hb⟩ => ⟨?_, hb⟩
  rw [he]
  show Ending.returned (Value.string ⟨(Lib.repeatL [0] c).toArray⟩) = _
  rw [repeat_zeros]
  rfl

end Go.Proofs.Ytobfeehelmbljaa.Sh
