/- Proved: PadBody of the program and of the reference answer alike at all texts. Conditions: those of the given statement alone. -/
import Derived.Test.YtobfeehelmbljaaPFnExactPadBodyx1
import Derived.Test.YtobfeehelmbljaaBase
set_option linter.unusedVariables false
set_option linter.unusedSimpArgs false
namespace Go.Proofs.Ytobfeehelmbljaa.Pure
open Go.RowKit Go.Proofs.Ytobfeehelmbljaa.PFnExactPadBody Go.Proofs.Ytobfeehelmbljaa.Base Go.Proofs.YtobfeehelmbljaaW.PrintWords Go.Proofs.YtobfeehelmbljaaW.PrintLast Go.Proofs.YtobfeehelmbljaaW.PrintMore Go.Proofs.Ytobfeehelmbljaa

theorem zeros_eq (n : Nat) : strOfNums (List.replicate n 0) = Hand.zeroB n := by
  unfold strOfNums Hand.zeroB
  rw [List.map_replicate]
  rfl
theorem zeroB_size (n : Nat) : (Hand.zeroB n).size = n := by
  unfold Hand.zeroB
  show ((List.replicate n (0 : UInt8)).toArray).size = n
  simp
theorem size_app (a b : ByteArray) : (a ++ b).size = a.size + b.size := by
  rw [ByteArray.size_append]
theorem repeat_eq (n : Nat) (h : n ≤ 4096) : strings_Repeat.f (⟨#[0]⟩ : ByteArray) (n : Int) = some (Hand.zeroB n) := by
  unfold strings_Repeat.f
  rw [if_pos ⟨rfl, by omega, by omega⟩, Int.toNat_natCast]
/-- A body with its padding. -/
def padV (a : ByteArray) : ByteArray := (a ++ (⟨#[128]⟩ : ByteArray)) ++ Hand.zeroB (15 - a.size)
theorem padV_size (a : ByteArray) (h : a.size < 16) : (padV a).size = 16 := by
  unfold padV
  rw [size_app, size_app, zeroB_size]
  show a.size + 1 + _ = _
  omega
theorem specPadded_eq (a : ByteArray) (h : a.size < 16) : spec_l7PadBody.f a = some (padV a) := by
  have e : wrap64 (15 - (a.size : Int)) = ((15 - a.size : Nat) : Int) := by
    rw [w64 (by omega) (by omega)]
    omega
  unfold spec_l7PadBody.f
  rw [if_pos (by omega), e, if_pos (by omega), Int.toNat_natCast, if_pos (by omega)]
  simp only [Option.bind_some]
  rw [zeros_eq, if_pos]
  · rfl
  · rw [zeroB_size]
    omega
theorem implPadded_eq (a : ByteArray) (h : a.size < 16) : impl_padded.f a = some (padV a) := by
  have e : wrap64 (15 - (a.size : Int)) = ((15 - a.size : Nat) : Int) := by
    rw [w64 (by omega) (by omega)]
    omega
  unfold impl_padded.f
  rw [if_pos (by omega), e, repeat_eq _ (by omega)]
  simp only [Option.bind_some]
  rw [if_pos]
  · rfl
  · rw [zeroB_size]
    omega

theorem FnExactPadBody : laws_FnExactPadBody.Pure := by
  intro a ha
  unfold laws_FnExactPadBody.f spec_PadBody.f impl_PadBody.f spec_l7Body.f
  by_cases c1 : (a.size : Int) > 1048576
  · rw [if_pos c1]
  rw [if_neg c1]
  simp only [Option.bind_some]
  by_cases h : (a.size : Int) < 16
  · rw [decide_eq_true h, if_pos rfl, if_neg (by omega), specPadded_eq a (by omega), implPadded_eq a (by omega)]
    simp
  · rw [decide_eq_false h, if_neg (by simp), if_pos (by omega)]
    simp

end Go.Proofs.Ytobfeehelmbljaa.Pure
