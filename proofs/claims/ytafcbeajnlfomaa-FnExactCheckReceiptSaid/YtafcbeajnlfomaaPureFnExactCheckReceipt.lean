/- Proved: CheckReceipt of the program and of the reference answer alike at all arguments. Conditions: those of the given statement alone. -/
import Derived.Test.YtafcbeajnlfomaaPFnExactCheckReceiptx2
import Derived.Test.YtafcbeajnlfomaaBase
set_option linter.unusedVariables false
set_option linter.unusedSimpArgs false
namespace Go.Proofs.Ytafcbeajnlfomaa.Pure
open Go.RowKit Go.Proofs.Ytafcbeajnlfomaa.PFnExactCheckReceipt Go.Proofs.Ytafcbeajnlfomaa.Base Go.Proofs.YtafcbeajnlfomaaW.PrintWords Go.Proofs.YtafcbeajnlfomaaW.PrintLast Go.Proofs.YtafcbeajnlfomaaW.PrintMore

theorem l1In_eq (a b c : Int) : spec_l1In.f a b c = some (decide (b ≤ a ∧ a ≤ c)) := by
  unfold spec_l1In.f
  by_cases h : a ≥ b
  · rw [if_pos h]
    congr 1
    exact decide_eq_decide.2 ⟨fun h1 => ⟨h, h1⟩, fun h1 => h1.2⟩
  · rw [if_neg h, decide_eq_false (fun h1 => h h1.1)]

theorem within_eq (a b c : Int) : impl_within.f a b c = some (decide (b ≤ a ∧ a ≤ c)) := by
  unfold impl_within.f
  by_cases h : a ≥ b
  · rw [if_pos h]
    congr 1
    exact decide_eq_decide.2 ⟨fun h1 => ⟨h, h1⟩, fun h1 => h1.2⟩
  · rw [if_neg h, decide_eq_false (fun h1 => h h1.1)]

theorem specPower_l0 (n : Nat) : ∀ (k a e o : Nat), e < 2 ^ n → n < k → a < 2999 → o < 2999 → e ≤ 4294967296 → spec_l2Power.l0 k (a : Int) (e : Int) (o : Int) = some ((o * a ^ e % 2999 : Nat) : Int) := by
  induction n with
  | zero =>
    intro k a e o he hk ha ho _
    obtain ⟨k, rfl⟩ := rounds hk
    have h0 : e = 0 := by omega
    subst h0
    simp only [spec_l2Power.l0]
    rw [if_neg (by omega), Nat.pow_zero, Nat.mul_one, Nat.mod_eq_of_lt ho]
  | succ n ih =>
    intro k a e o he hk ha ho hm
    obtain ⟨k, rfl⟩ := rounds hk
    simp only [spec_l2Power.l0]
    by_cases h0 : e = 0
    · subst h0
      rw [if_neg (by omega), Nat.pow_zero, Nat.mul_one, Nat.mod_eq_of_lt ho]
    · have ha2 : a * a ≤ 2999 * 2999 := Nat.mul_le_mul (by omega) (by omega)
      have hoa : o * a ≤ 2999 * 2999 := Nat.mul_le_mul (by omega) (by omega)
      have hp : 2 ^ (n + 1) = 2 * 2 ^ n := by rw [Nat.pow_succ, Nat.mul_comm]
      have e1 : wrap64 ((a : Int) * (a : Int)) = ((a * a : Nat) : Int) := by rw [← Int.natCast_mul]; exact wnat _ (by omega)
      have e2 : wrap64 ((o : Int) * (a : Int)) = ((o * a : Nat) : Int) := by rw [← Int.natCast_mul]; exact wnat _ (by omega)
      have e3 : wrap64 (Int.tdiv (e : Int) 2) = ((e / 2 : Nat) : Int) := by rw [show Int.tdiv (e : Int) 2 = ((e / 2 : Nat) : Int) from tdiv_nat e 2]; exact wnat _ (by omega)
      rw [if_pos (by omega), e1, e2, e3]
      rw [show Int.tmod ((a * a : Nat) : Int) 2999 = ((a * a % 2999 : Nat) : Int) from tmod_nat _ 2999, show Int.tmod ((o * a : Nat) : Int) 2999 = ((o * a % 2999 : Nat) : Int) from tmod_nat _ 2999, show Int.tmod (e : Int) 2 = ((e % 2 : Nat) : Int) from tmod_nat e 2]
      by_cases h1 : e % 2 = 1
      · rw [if_pos (by omega), ih k _ _ _ (by omega) (by omega) (Nat.mod_lt _ (by omega)) (Nat.mod_lt _ (by omega)) (by omega), pow_round1]
        rw [show 2 * (e / 2) + 1 = e by omega]
      · rw [if_neg (by omega), ih k _ _ _ (by omega) (by omega) (Nat.mod_lt _ (by omega)) ho (by omega), pow_round0]
        rw [show 2 * (e / 2) = e by omega]

theorem specPower_eq (a e : Nat) (ha : a < 2999) (he : e ≤ 1048576) (k : Nat) (hk : 21 < k) : spec_l2Power.f k (a : Int) (e : Int) = some ((pwm a e : Nat) : Int) := by
  have h := specPower_l0 21 k a e 1 (by omega) hk ha (by omega) (by omega)
  rw [Nat.one_mul] at h
  exact h

theorem implPower_l0 (n : Nat) : ∀ (k a e o : Nat), e < 2 ^ n → n < k → a < 2999 → o < 2999 → e ≤ 4294967296 → impl_power.l0 k (a : Int) (e : Int) (o : Int) = some ((o * a ^ e % 2999 : Nat) : Int) := by
  induction n with
  | zero =>
    intro k a e o he hk ha ho _
    obtain ⟨k, rfl⟩ := rounds hk
    have h0 : e = 0 := by omega
    subst h0
    simp only [impl_power.l0]
    rw [if_neg (by omega), Nat.pow_zero, Nat.mul_one, Nat.mod_eq_of_lt ho]
  | succ n ih =>
    intro k a e o he hk ha ho hm
    obtain ⟨k, rfl⟩ := rounds hk
    simp only [impl_power.l0]
    by_cases h0 : e = 0
    · subst h0
      rw [if_neg (by omega), Nat.pow_zero, Nat.mul_one, Nat.mod_eq_of_lt ho]
    · have ha2 : a * a ≤ 2999 * 2999 := Nat.mul_le_mul (by omega) (by omega)
      have hoa : o * a ≤ 2999 * 2999 := Nat.mul_le_mul (by omega) (by omega)
      have hp : 2 ^ (n + 1) = 2 * 2 ^ n := by rw [Nat.pow_succ, Nat.mul_comm]
      have e1 : wrap64 ((a : Int) * (a : Int)) = ((a * a : Nat) : Int) := by rw [← Int.natCast_mul]; exact wnat _ (by omega)
      have e2 : wrap64 ((o : Int) * (a : Int)) = ((o * a : Nat) : Int) := by rw [← Int.natCast_mul]; exact wnat _ (by omega)
      have e3 : wrap64 (Int.tdiv (e : Int) 2) = ((e / 2 : Nat) : Int) := by rw [show Int.tdiv (e : Int) 2 = ((e / 2 : Nat) : Int) from tdiv_nat e 2]; exact wnat _ (by omega)
      rw [if_pos (by omega), e1, e2, e3]
      rw [show Int.tmod ((a * a : Nat) : Int) 2999 = ((a * a % 2999 : Nat) : Int) from tmod_nat _ 2999, show Int.tmod ((o * a : Nat) : Int) 2999 = ((o * a % 2999 : Nat) : Int) from tmod_nat _ 2999, show Int.tmod (e : Int) 2 = ((e % 2 : Nat) : Int) from tmod_nat e 2]
      by_cases h1 : e % 2 = 1
      · rw [if_pos (by omega), ih k _ _ _ (by omega) (by omega) (Nat.mod_lt _ (by omega)) (Nat.mod_lt _ (by omega)) (by omega), pow_round1]
        rw [show 2 * (e / 2) + 1 = e by omega]
      · rw [if_neg (by omega), ih k _ _ _ (by omega) (by omega) (Nat.mod_lt _ (by omega)) ho (by omega), pow_round0]
        rw [show 2 * (e / 2) = e by omega]

theorem implPower_eq (a e : Nat) (ha : a < 2999) (he : e ≤ 1048576) (k : Nat) (hk : 21 < k) : impl_power.f k (a : Int) (e : Int) = some ((pwm a e : Nat) : Int) := by
  have h := implPower_l0 21 k a e 1 (by omega) hk ha (by omega) (by omega)
  rw [Nat.one_mul] at h
  exact h

/-- A member: a unit whose power by 1499 is 1. -/
def isMem (a : Int) : Bool := decide (1 ≤ a ∧ a ≤ 2998) && decide (pwm a.toNat 1499 = 1)

theorem specMember_eq (a : Int) (k : Nat) (hk : 21 < k) : spec_IsMember.f k a = some (isMem a) := by
  unfold spec_IsMember.f spec_l2Unit.f
  simp only [l1In_eq, Option.bind_some]
  by_cases h : 1 ≤ a ∧ a ≤ 2998
  · obtain ⟨n, rfl⟩ := Int.eq_ofNat_of_zero_le (show 0 ≤ a by omega)
    have h2 := specPower_eq n 1499 (by omega) (by omega) k hk
    rw [decide_eq_true h, if_pos rfl, show ((1499 : Int)) = ((1499 : Nat) : Int) from rfl, h2]
    simp only [Option.bind_some, isMem, decide_eq_true h, Bool.true_and, Int.toNat_natCast]
    congr 1
    rw [Bool.eq_iff_iff, beq_iff_eq, decide_eq_true_iff]
    omega
  · rw [decide_eq_false h, if_neg (by simp)]
    simp [isMem, h]

theorem implMember_eq (a : Int) (k : Nat) (hk : 21 < k) : impl_IsMember.f k a = some (isMem a) := by
  unfold impl_IsMember.f impl_isUnit.f
  simp only [within_eq, Option.bind_some]
  by_cases h : 1 ≤ a ∧ a ≤ 2998
  · obtain ⟨n, rfl⟩ := Int.eq_ofNat_of_zero_le (show 0 ≤ a by omega)
    have h2 := implPower_eq n 1499 (by omega) (by omega) k hk
    rw [decide_eq_true h, if_pos rfl, show ((1499 : Int)) = ((1499 : Nat) : Int) from rfl, h2]
    simp only [Option.bind_some, isMem, decide_eq_true h, Bool.true_and, Int.toNat_natCast]
    congr 1
    rw [Bool.eq_iff_iff, beq_iff_eq, decide_eq_true_iff]
    omega
  · rw [decide_eq_false h, if_neg (by simp)]
    simp [isMem, h]

theorem mem_range {a : Int} (h : isMem a = true) : 1 ≤ a ∧ a ≤ 2998 := by
  unfold isMem at h
  rw [Bool.and_eq_true, decide_eq_true_iff, decide_eq_true_iff] at h
  exact h.1

/-- A receipt that is as said. -/
def isRcp (a b c d : Int) : Bool := decide ((-1 ≤ a ∧ a ≤ 4) ∧ b = a + 1 ∧ (0 ≤ c ∧ c ≤ 1000) ∧ (0 ≤ d ∧ d ≤ 1498))
/-- The number that a receipt signs. -/
def rcpNum (a c : Int) : Nat := ((c + 1001 * (a + 2) + 7) % 1499).toNat

theorem specReceipt_eq (a b c d : Int) : spec_l11Receipt.f a b c d = some (isRcp a b c d) := by
  unfold spec_l11Receipt.f spec_l11Letter.f isRcp
  simp only [l1In_eq, Option.bind_some]
  by_cases h1 : -1 ≤ a ∧ a ≤ 4
  · rw [w64 (n := a + 1) (by omega) (by omega)]
    by_cases h2 : b = a + 1
    · by_cases h3 : 0 ≤ c ∧ c ≤ 1000
      · simp [h1, h2, h3]
      · simp [h1, h2, h3]
    · simp [h1, h2]
  · simp [h1]

theorem implReceipt_eq (a b c d : Int) : impl_isReceipt.f a b c d = some (isRcp a b c d) := by
  unfold impl_isReceipt.f impl_isPassed.f impl_isLetterNumber.f impl_isValue.f isRcp
  simp only [within_eq, Option.bind_some]
  by_cases h1 : -1 ≤ a ∧ a ≤ 4
  · rw [w64 (n := a + 1) (by omega) (by omega)]
    by_cases h2 : b = a + 1
    · by_cases h3 : 0 ≤ c ∧ c ≤ 1000
      · simp [h1, h2, h3]
      · simp [h1, h2, h3]
    · simp [h1, h2]
  · simp [h1]

theorem number_eq (a c : Int) (ha : -1 ≤ a ∧ a ≤ 4) (hc : 0 ≤ c ∧ c ≤ 1000) : Int.tmod (wrap64 ((wrap64 (c + (wrap64 (1001 * (wrap64 (a + 2)))))) + 7)) 1499 = ((rcpNum a c : Nat) : Int) := by
  rw [w64 (n := a + 2) (by omega) (by omega), w64 (n := 1001 * (a + 2)) (by omega) (by omega), w64 (n := c + 1001 * (a + 2)) (by omega) (by omega), w64 (n := c + 1001 * (a + 2) + 7) (by omega) (by omega)]
  unfold rcpNum
  rw [Int.tmod_eq_emod_of_nonneg (by omega)]
  omega

theorem rcpNum_lt (a c : Int) : rcpNum a c < 1499 := by
  unfold rcpNum
  omega

theorem fits_same (p a b c d : Int) (hp : 1 ≤ p ∧ p ≤ 2998) (h : isRcp a b c d = true) (k : Nat) (hk : 21 < k) :
    ∃ r, spec_l11Check.f k p a b c d = some r ∧ impl_fits.f k p a b c d = some r := by
  unfold isRcp at h
  rw [decide_eq_true_iff] at h
  obtain ⟨ha, hb, hc, hd⟩ := h
  obtain ⟨q, rfl⟩ := Int.eq_ofNat_of_zero_le (show 0 ≤ p by omega)
  obtain ⟨s, rfl⟩ := Int.eq_ofNat_of_zero_le hd.1
  have hn := rcpNum_lt a c
  have h1 := specPower_eq 4 s (by omega) (by omega) k hk
  have h2 := implPower_eq 4 s (by omega) (by omega) k hk
  have h3 := specPower_eq q (rcpNum a c) (by omega) (by omega) k hk
  have h4 := implPower_eq q (rcpNum a c) (by omega) (by omega) k hk
  unfold spec_l11Check.f impl_fits.f spec_l11Number.f impl_numberOf.f
  rw [number_eq a c ha hc, show (4 : Int) = ((4 : Nat) : Int) from rfl, h1, h2]
  simp only [Option.bind_some]
  rw [h3, h4]
  exact ⟨_, rfl, rfl⟩

theorem FnExactCheckReceipt : laws_FnExactCheckReceipt.Pure := by
  intro p a b c d _ _ _ _ _
  obtain ⟨K, hK⟩ := some_nat 22
  refine ⟨K, ?_⟩
  have h : ∃ r, spec_CheckReceipt.f K p a b c d = some r ∧ impl_CheckReceipt.f K p a b c d = some r := by
    unfold spec_CheckReceipt.f impl_CheckReceipt.f
    rw [specMember_eq p K (by omega), implMember_eq p K (by omega), specReceipt_eq, implReceipt_eq]
    simp only [Option.bind_some]
    by_cases h1 : isMem p = true
    · by_cases h2 : isRcp a b c d = true
      · simp only [h1, h2, if_true]
        obtain ⟨r, h3, h4⟩ := fits_same p a b c d (mem_range h1) h2 K (by omega)
        rw [h3, h4]
        exact ⟨_, rfl, rfl⟩
      · simp only [h1, h2, if_true, if_false, Bool.false_eq_true]
        exact ⟨_, rfl, rfl⟩
    · simp only [h1, if_false, Bool.false_eq_true]
      exact ⟨_, rfl, rfl⟩
  obtain ⟨r, h1, h2⟩ := h
  unfold laws_FnExactCheckReceipt.f laws_toReceipt.f
  simp only [Option.bind_some, h1, h2, bne_self_eq_false, Bool.false_eq_true, if_false]

end Go.Proofs.Ytafcbeajnlfomaa.Pure
