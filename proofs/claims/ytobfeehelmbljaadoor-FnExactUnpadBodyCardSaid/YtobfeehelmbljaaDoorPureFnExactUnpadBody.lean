/- Proved: UnpadBody of the program and of the reference answer alike at all texts. Conditions: those of the given statement alone. -/
import Derived.Test.YtobfeehelmbljaaDoorPFnExactUnpadBodyx1
import Derived.Test.YtobfeehelmbljaaDoorBase
set_option linter.unusedVariables false
set_option linter.unusedSimpArgs false
namespace Go.Proofs.YtobfeehelmbljaaDoor.Pure
open Go.RowKit Go.Proofs.YtobfeehelmbljaaDoor.PFnExactUnpadBody Go.Proofs.YtobfeehelmbljaaDoor.Base Go.Proofs.YtobfeehelmbljaaDoorW.PrintWords Go.Proofs.YtobfeehelmbljaaDoorW.PrintLast Go.Proofs.YtobfeehelmbljaaDoorW.PrintMore Go.Proofs.YtobfeehelmbljaaDoor

theorem zeros_eq (n : Nat) : strOfNums (List.replicate n 0) = Hand.zeroB n := by
  unfold strOfNums Hand.zeroB
  rw [List.map_replicate]
  rfl
theorem zeroB_size (n : Nat) : (Hand.zeroB n).size = n := by
  unfold Hand.zeroB
  show ((List.replicate n (0 : UInt8)).toArray).size = n
  simp
theorem size_app (a b : ByteArray) : (a ++ b).size = a.size + b.size := by
  rw [ByteArray.size_append]

/-- A row without the zeros at its end. -/
def trimL (l : List UInt8) : List UInt8 := (l.reverse.dropWhile (· == 0)).reverse
theorem trimL_zero (l : List UInt8) : trimL (l ++ [0]) = trimL l := by
  unfold trimL
  simp
theorem trimL_keep (l : List UInt8) (c : UInt8) (h : c ≠ 0) : trimL (l ++ [c]) = l ++ [c] := by
  unfold trimL
  rw [List.reverse_append]
  simp [h]
theorem trimL_len (l : List UInt8) : (trimL l).length ≤ l.length := by
  unfold trimL
  rw [List.length_reverse]
  have := (List.dropWhile_suffix (l := l.reverse) (fun x : UInt8 => x == 0)).length_le
  simpa using this
/-- The body in a row with its padding. -/
def bodyL (l : List UInt8) : List UInt8 × Bool := if [128].isSuffixOf (trimL l) then ((trimL l).take ((trimL l).length - 1), true) else ([], false)
theorem bodyL_zero (l : List UInt8) : bodyL (l ++ [0]) = bodyL l := by
  unfold bodyL
  rw [trimL_zero]
theorem bodyL_128 (l : List UInt8) : bodyL (l ++ [128]) = (l, true) := by
  unfold bodyL
  rw [trimL_keep l 128 (by decide), if_pos]
  · simp
  · rw [List.isSuffixOf_iff_suffix]
    exact List.suffix_append _ _
theorem bodyL_other (l : List UInt8) (c : UInt8) (h : c ≠ 0) (h2 : c ≠ 128) : bodyL (l ++ [c]) = ([], false) := by
  unfold bodyL
  rw [trimL_keep l c h, if_neg]
  rw [List.isSuffixOf_iff_suffix]
  rintro ⟨t, ht⟩
  have := (List.append_inj' ht rfl).2
  simp at this
  exact h2 this.symm
theorem bodyL_nil : bodyL [] = ([], false) := rfl
def bodyV (s : ByteArray) : ByteArray × Bool := if s.size = 16 then (⟨(bodyL s.data.toList).1.toArray⟩, (bodyL s.data.toList).2) else (⟨#[]⟩, false)
theorem take_snoc8 (l : List UInt8) (i : Nat) (h : i < l.length) : l.take (i + 1) = l.take i ++ [l[i]] := by
  rw [List.take_succ_eq_append_getElem h]
theorem extract_data (s : ByteArray) (n : Nat) : s.extract 0 n = ⟨(s.data.toList.take n).toArray⟩ := by
  apply ByteArray.ext
  rw [ByteArray.data_extract]
  apply Array.ext'
  simp [Array.toList_extract, List.extract_eq_take_drop]
theorem mk_list (s : ByteArray) : (⟨s.data.toList.toArray⟩ : ByteArray) = s := rfl
theorem specUnpad_l0 (s : ByteArray) (hs : s.size = 16) : ∀ (i : Nat), i < 16 → ∀ k, i < k → spec_UnpadBody.l0 k s (i : Int) = some (⟨(bodyL (s.data.toList.take (i + 1))).1.toArray⟩, (bodyL (s.data.toList.take (i + 1))).2) := by
  have hl : s.data.toList.length = 16 := by rw [data_length, hs]
  have hbt : ∀ (i : Nat) (hi : i < s.data.toList.length), bt s (i : Int) = ((s.data.toList[i].toNat : Nat) : Int) := by
    intro i hi
    have := bt_at s (i : Int) (by rw [Int.toNat_natCast]; omega)
    rw [← this]
    simp [Int.toNat_natCast]
    rfl
  intro i
  induction i with
  | zero =>
    intro hi k hk
    obtain ⟨k, rfl⟩ := rounds hk
    have h0 := hbt 0 (by omega)
    simp only [spec_UnpadBody.l0]
    rw [if_neg (by omega), if_pos (by omega), if_pos (by omega), h0, take_snoc8 _ 0 (by omega)]
    by_cases e : s.data.toList[0] = 128
    · rw [e, bodyL_128, if_pos (show ((UInt8.toNat 128 : Nat) : Int) = 128 from rfl), if_pos (by omega), extract_data]
      rfl
    · rw [if_neg (fun h => e (UInt8.toNat_inj.1 (by have : (128 : UInt8).toNat = 128 := rfl; omega)))]
      by_cases e2 : s.data.toList[0] = 0
      · rw [e2, bodyL_zero, List.take_zero, bodyL_nil]
      · rw [bodyL_other _ _ e2 e]
  | succ i ih =>
    intro hi k hk
    obtain ⟨k, rfl⟩ := rounds hk
    have h0 := hbt (i + 1) (by omega)
    simp only [spec_UnpadBody.l0]
    rw [if_pos (by omega), if_pos (by omega), if_pos (by omega), h0, take_snoc8 _ (i + 1) (by omega)]
    by_cases e2 : s.data.toList[i + 1] = 0
    · rw [e2, bodyL_zero, if_pos (show ((UInt8.toNat 0 : Nat) : Int) = 0 from rfl), w64 (n := ((i + 1 : Nat) : Int) - 1) (by omega) (by omega), show ((i + 1 : Nat) : Int) - 1 = (i : Int) by omega]
      exact ih (by omega) k (by omega)
    · rw [if_neg (fun h => e2 (UInt8.toNat_inj.1 (by have : (0 : UInt8).toNat = 0 := rfl; omega)))]
      by_cases e : s.data.toList[i + 1] = 128
      · rw [e, bodyL_128, if_pos (show ((UInt8.toNat 128 : Nat) : Int) = 128 from rfl), if_pos (by omega), extract_data]
        rfl
      · rw [if_neg (fun h => e (UInt8.toNat_inj.1 (by have : (128 : UInt8).toNat = 128 := rfl; omega))), bodyL_other _ _ e2 e]
theorem specUnpad_eq (s : ByteArray) (k : Nat) (hk : 16 < k) : spec_UnpadBody.f k s = some (bodyV s) := by
  unfold spec_UnpadBody.f bodyV
  by_cases h : s.size = 16
  · rw [if_pos (by omega), if_pos h, w64 (n := (s.size : Int) - 1) (by omega) (by omega), show (s.size : Int) - 1 = ((15 : Nat) : Int) by omega, specUnpad_l0 s h 15 (by omega) k (by omega), List.take_of_length_le (by rw [data_length]; omega)]
  · rw [if_neg (by omega), if_neg h]
theorem trimB_data (s : ByteArray) : (Hand.trimB s).data.toList = trimL s.data.toList := rfl
theorem implUnpad_eq (s : ByteArray) (hs : s.size ≤ 9223372036854775807) : impl_UnpadBody.f s = some (bodyV s) := by
  unfold impl_UnpadBody.f bodyV strings_TrimRight.f strings_HasSuffix.f
  have hz : (Hand.trimB s).size = (trimL s.data.toList).length := by rw [← trimB_data, data_length]
  have hle := trimL_len s.data.toList
  rw [data_length] at hle
  rw [if_pos ⟨rfl, hs⟩]
  simp only [Option.bind_some]
  by_cases h : s.size = 16
  · rw [if_pos (by omega), if_pos h, if_pos (by omega), trimB_data]
    simp only [Option.bind_some, Lib.hasSuffix]
    unfold bodyL
    by_cases e : ([128] : List UInt8).isSuffixOf (trimL s.data.toList) = true
    · have hp : 0 < (trimL s.data.toList).length := by
        rw [List.isSuffixOf_iff_suffix] at e
        have := e.length_le
        simp only [List.length_singleton] at this
        omega
      rw [if_pos e]
      have e' : ((⟨#[128]⟩ : ByteArray).data.toList.isSuffixOf (trimL s.data.toList)) = true := e
      rw [if_pos e', w64 (by omega) (by omega), if_pos (by omega), if_pos (by omega), extract_data, trimB_data, show ((((Hand.trimB s).size : Int) - 1).toNat) = (trimL s.data.toList).length - 1 by omega]
    · rw [if_neg e]
      have e' : ¬ ((⟨#[128]⟩ : ByteArray).data.toList.isSuffixOf (trimL s.data.toList)) = true := e
      rw [if_neg e']
  · rw [if_neg (by omega), if_neg h]

theorem FnExactUnpadBody : laws_FnExactUnpadBody.Pure := by
  intro s hs
  refine ⟨17, ?_⟩
  unfold laws_FnExactUnpadBody.f
  by_cases c : (s.size : Int) > 1048576
  · rw [if_pos c]
  · rw [if_neg c, specUnpad_eq s 17 (by omega), implUnpad_eq s (by omega)]
    simp

end Go.Proofs.YtobfeehelmbljaaDoor.Pure
