/- Proved: TagOf of the program and of the reference answer alike at every text. Conditions: those of the given statement alone. -/
import Derived.Test.YtileodpiahdhlaaPFnExactTagOfx1
namespace Go.Proofs.Ytileodpiahdhlaa.Pure
open Go.RowKit Go.Proofs.Ytileodpiahdhlaa.PFnExactTagOf Go.Proofs.YtileodpiahdhlaaW.PrintWords Go.Proofs.YtileodpiahdhlaaW.PrintLast

theorem tag_step {i : Int} {n : Nat} (h0 : 0 ≤ i) (h : i < (n : Int)) (hn : n ≤ 140737488351232) : wrap64 (i + 1) = i + 1 := by
  unfold wrap64
  omega

theorem tag_same (s : ByteArray) (hn : s.size ≤ 140737488351232) : ∀ (k : Nat) (x i : Int), 0 ≤ i → spec_l8Tag.l0 k s x i = impl_tag.l0 k s x (s.size : Int) i := by
  intro k
  induction k with
  | zero => intro x i _; simp only [spec_l8Tag.l0, impl_tag.l0]
  | succ k ih =>
    intro x i h0
    simp only [spec_l8Tag.l0, impl_tag.l0]
    by_cases h : i < (s.size : Int)
    · rw [if_pos h, if_pos h0, if_pos h, if_pos h0, if_pos h, tag_step h0 h hn, Int.mul_comm 257 x]
      exact ih _ _ (by omega)
    · rw [if_neg h, if_neg h]

theorem tag_ends (s : ByteArray) (hn : s.size ≤ 140737488351232) (d : Nat) : ∀ (k : Nat) (x i : Int), 0 ≤ i → (s.size : Int) - i ≤ d → d < k → ∃ r, impl_tag.l0 k s x (s.size : Int) i = some r := by
  induction d with
  | zero =>
    intro k x i h0 hd hk
    obtain ⟨k, rfl⟩ : ∃ m, k = m + 1 := ⟨k - 1, by omega⟩
    exact ⟨x, by simp only [impl_tag.l0]; rw [if_neg (by omega)]⟩
  | succ d ih =>
    intro k x i h0 hd hk
    obtain ⟨k, rfl⟩ : ∃ m, k = m + 1 := ⟨k - 1, by omega⟩
    by_cases h : i < (s.size : Int)
    · simp only [impl_tag.l0]
      rw [if_pos h, if_pos h0, if_pos h, tag_step h0 h hn]
      exact ih _ _ _ (by omega) (by omega) (by omega)
    · exact ⟨x, by simp only [impl_tag.l0]; rw [if_neg h]⟩

theorem FnExactTagOf : laws_FnExactTagOf.Pure := by
  intro s hn
  obtain ⟨r, hr⟩ := tag_ends s hn s.size (s.size + 1) 0 0 (by omega) (by omega) (by omega)
  refine ⟨s.size + 1, ?_⟩
  have hs : spec_l8Tag.f (s.size + 1) s = some r := by
    unfold spec_l8Tag.f
    rw [tag_same s hn _ _ _ (by omega)]
    exact hr
  have hi : impl_tag.f (s.size + 1) s = some r := hr
  unfold laws_FnExactTagOf.f spec_TagOf.f impl_TagOf.f spec_l8Text.f impl_isLetter.f
  rw [hs, hi]
  simp only [Option.bind_some]
  split
  · rfl
  · by_cases h : (s.size : Int) ≤ 24
    · simp [h]
    · simp [h]

end Go.Proofs.Ytileodpiahdhlaa.Pure
