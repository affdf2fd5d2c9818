/- Proved: WholeTrip of the program and of the reference answer alike at all arguments. Conditions: those of the given statement alone. -/
import Derived.Test.YtafcbeajnlfomaaPFnExactWholeTripx5
import Derived.Test.YtafcbeajnlfomaaBase
set_option linter.unusedVariables false
set_option linter.unusedSimpArgs false
namespace Go.Proofs.Ytafcbeajnlfomaa.Pure
open Go.RowKit Go.Proofs.Ytafcbeajnlfomaa.PFnExactWholeTrip Go.Proofs.Ytafcbeajnlfomaa.Base Go.Proofs.YtafcbeajnlfomaaW.PrintWords Go.Proofs.YtafcbeajnlfomaaW.PrintLast Go.Proofs.YtafcbeajnlfomaaW.PrintMore

theorem toIntS_l0 (l : List Int) (hl : l.length ≤ 1048576) : ∀ (d k i : Nat) (out : List Int), l.length - i = d → d < k → i ≤ l.length → out.length = l.length → out.take i = l.take i → laws_toIntS.l0 k l out (i : Int) = some l := by
  intro d
  induction d with
  | zero =>
    intro k i out hd hk hi ho ht
    obtain ⟨k, rfl⟩ := rounds hk
    simp only [laws_toIntS.l0]
    rw [if_neg (by omega), take_all out l i ht (by omega) (by omega)]
  | succ d ih =>
    intro k i out hd hk hi ho ht
    obtain ⟨k, rfl⟩ := rounds hk
    simp only [laws_toIntS.l0]
    rw [if_pos (by omega), if_pos (by omega), if_pos (by omega), w64 (by omega) (by omega), Int.toNat_natCast, rd_in l i (by omega)]
    exact ih k (i + 1) _ (by omega) (by omega) (by omega) (by rw [List.length_set]; exact ho) (take_set out l i _ ht (by omega) (by omega) rfl)

theorem toIntS_eq (l : List Int) (hl : l.length ≤ 1048576) (k : Nat) (hk : l.length < k) : laws_toIntS.f k l = some l := by
  unfold laws_toIntS.f
  rw [if_pos (by omega), if_pos (by omega)]
  exact toIntS_l0 l hl l.length k 0 _ (by omega) hk (by omega) (by simp) (by simp)

theorem eqIntS_l0 (l : List Int) (hl : l.length ≤ 1048576) : ∀ (d k i : Nat), l.length - i = d → d < k → laws_eqIntS.l0 k l l (i : Int) = some true := by
  intro d
  induction d with
  | zero =>
    intro k i hd hk
    obtain ⟨k, rfl⟩ := rounds hk
    simp only [laws_eqIntS.l0]
    rw [if_neg (by omega)]
  | succ d ih =>
    intro k i hd hk
    obtain ⟨k, rfl⟩ := rounds hk
    simp only [laws_eqIntS.l0]
    rw [if_pos (by omega), if_pos (by omega), if_pos (by omega), if_pos trivial, w64 (by omega) (by omega)]
    exact ih k (i + 1) (by omega) (by omega)

theorem eqIntS_self (l : List Int) (hl : l.length ≤ 1048576) (k : Nat) (hk : l.length < k) : laws_eqIntS.f k l l = some true := by
  unfold laws_eqIntS.f
  rw [if_pos rfl]
  exact eqIntS_l0 l hl l.length k 0 (by omega) hk

theorem l1In_eq (a b c : Int) : spec_l1In.f a b c = some (decide (b ≤ a ∧ a ≤ c)) := by
  unfold spec_l1In.f
  by_cases h : a ≥ b
  · rw [if_pos h]
    congr 1
    exact decide_eq_decide.2 ⟨fun h1 => ⟨h, h1⟩, fun h1 => h1.2⟩
  · rw [if_neg h, decide_eq_false (fun h1 => h h1.1)]

theorem within_eq (a b c : Int) : impl_within.f a b c = some (decide (b ≤ a ∧ a ≤ c)) := by
  unfold impl_within.f
  by_cases h : a ≥ b
  · rw [if_pos h]
    congr 1
    exact decide_eq_decide.2 ⟨fun h1 => ⟨h, h1⟩, fun h1 => h1.2⟩
  · rw [if_neg h, decide_eq_false (fun h1 => h h1.1)]

theorem specPower_l0 (n : Nat) : ∀ (k a e o : Nat), e < 2 ^ n → n < k → a < 2999 → o < 2999 → e ≤ 4294967296 → spec_l2Power.l0 k (a : Int) (e : Int) (o : Int) = some ((o * a ^ e % 2999 : Nat) : Int) := by
  induction n with
  | zero =>
    intro k a e o he hk ha ho _
    obtain ⟨k, rfl⟩ := rounds hk
    have h0 : e = 0 := by omega
    subst h0
    simp only [spec_l2Power.l0]
    rw [if_neg (by omega), Nat.pow_zero, Nat.mul_one, Nat.mod_eq_of_lt ho]
  | succ n ih =>
    intro k a e o he hk ha ho hm
    obtain ⟨k, rfl⟩ := rounds hk
    simp only [spec_l2Power.l0]
    by_cases h0 : e = 0
    · subst h0
      rw [if_neg (by omega), Nat.pow_zero, Nat.mul_one, Nat.mod_eq_of_lt ho]
    · have ha2 : a * a ≤ 2999 * 2999 := Nat.mul_le_mul (by omega) (by omega)
      have hoa : o * a ≤ 2999 * 2999 := Nat.mul_le_mul (by omega) (by omega)
      have hp : 2 ^ (n + 1) = 2 * 2 ^ n := by rw [Nat.pow_succ, Nat.mul_comm]
      have e1 : wrap64 ((a : Int) * (a : Int)) = ((a * a : Nat) : Int) := by rw [← Int.natCast_mul]; exact wnat _ (by omega)
      have e2 : wrap64 ((o : Int) * (a : Int)) = ((o * a : Nat) : Int) := by rw [← Int.natCast_mul]; exact wnat _ (by omega)
      have e3 : wrap64 (Int.tdiv (e : Int) 2) = ((e / 2 : Nat) : Int) := by rw [show Int.tdiv (e : Int) 2 = ((e / 2 : Nat) : Int) from tdiv_nat e 2]; exact wnat _ (by omega)
      rw [if_pos (by omega), e1, e2, e3]
      rw [show Int.tmod ((a * a : Nat) : Int) 2999 = ((a * a % 2999 : Nat) : Int) from tmod_nat _ 2999, show Int.tmod ((o * a : Nat) : Int) 2999 = ((o * a % 2999 : Nat) : Int) from tmod_nat _ 2999, show Int.tmod (e : Int) 2 = ((e % 2 : Nat) : Int) from tmod_nat e 2]
      by_cases h1 : e % 2 = 1
      · rw [if_pos (by omega), ih k _ _ _ (by omega) (by omega) (Nat.mod_lt _ (by omega)) (Nat.mod_lt _ (by omega)) (by omega), pow_round1]
        rw [show 2 * (e / 2) + 1 = e by omega]
      · rw [if_neg (by omega), ih k _ _ _ (by omega) (by omega) (Nat.mod_lt _ (by omega)) ho (by omega), pow_round0]
        rw [show 2 * (e / 2) = e by omega]

theorem specPower_eq (a e : Nat) (ha : a < 2999) (he : e ≤ 1048576) (k : Nat) (hk : 21 < k) : spec_l2Power.f k (a : Int) (e : Int) = some ((pwm a e : Nat) : Int) := by
  have h := specPower_l0 21 k a e 1 (by omega) hk ha (by omega) (by omega)
  rw [Nat.one_mul] at h
  exact h

theorem implPower_l0 (n : Nat) : ∀ (k a e o : Nat), e < 2 ^ n → n < k → a < 2999 → o < 2999 → e ≤ 4294967296 → impl_power.l0 k (a : Int) (e : Int) (o : Int) = some ((o * a ^ e % 2999 : Nat) : Int) := by
  induction n with
  | zero =>
    intro k a e o he hk ha ho _
    obtain ⟨k, rfl⟩ := rounds hk
    have h0 : e = 0 := by omega
    subst h0
    simp only [impl_power.l0]
    rw [if_neg (by omega), Nat.pow_zero, Nat.mul_one, Nat.mod_eq_of_lt ho]
  | succ n ih =>
    intro k a e o he hk ha ho hm
    obtain ⟨k, rfl⟩ := rounds hk
    simp only [impl_power.l0]
    by_cases h0 : e = 0
    · subst h0
      rw [if_neg (by omega), Nat.pow_zero, Nat.mul_one, Nat.mod_eq_of_lt ho]
    · have ha2 : a * a ≤ 2999 * 2999 := Nat.mul_le_mul (by omega) (by omega)
      have hoa : o * a ≤ 2999 * 2999 := Nat.mul_le_mul (by omega) (by omega)
      have hp : 2 ^ (n + 1) = 2 * 2 ^ n := by rw [Nat.pow_succ, Nat.mul_comm]
      have e1 : wrap64 ((a : Int) * (a : Int)) = ((a * a : Nat) : Int) := by rw [← Int.natCast_mul]; exact wnat _ (by omega)
      have e2 : wrap64 ((o : Int) * (a : Int)) = ((o * a : Nat) : Int) := by rw [← Int.natCast_mul]; exact wnat _ (by omega)
      have e3 : wrap64 (Int.tdiv (e : Int) 2) = ((e / 2 : Nat) : Int) := by rw [show Int.tdiv (e : Int) 2 = ((e / 2 : Nat) : Int) from tdiv_nat e 2]; exact wnat _ (by omega)
      rw [if_pos (by omega), e1, e2, e3]
      rw [show Int.tmod ((a * a : Nat) : Int) 2999 = ((a * a % 2999 : Nat) : Int) from tmod_nat _ 2999, show Int.tmod ((o * a : Nat) : Int) 2999 = ((o * a % 2999 : Nat) : Int) from tmod_nat _ 2999, show Int.tmod (e : Int) 2 = ((e % 2 : Nat) : Int) from tmod_nat e 2]
      by_cases h1 : e % 2 = 1
      · rw [if_pos (by omega), ih k _ _ _ (by omega) (by omega) (Nat.mod_lt _ (by omega)) (Nat.mod_lt _ (by omega)) (by omega), pow_round1]
        rw [show 2 * (e / 2) + 1 = e by omega]
      · rw [if_neg (by omega), ih k _ _ _ (by omega) (by omega) (Nat.mod_lt _ (by omega)) ho (by omega), pow_round0]
        rw [show 2 * (e / 2) = e by omega]

theorem implPower_eq (a e : Nat) (ha : a < 2999) (he : e ≤ 1048576) (k : Nat) (hk : 21 < k) : impl_power.f k (a : Int) (e : Int) = some ((pwm a e : Nat) : Int) := by
  have h := implPower_l0 21 k a e 1 (by omega) hk ha (by omega) (by omega)
  rw [Nat.one_mul] at h
  exact h

/-- A member: a unit whose power by 1499 is 1. -/
def isMem (a : Int) : Bool := decide (1 ≤ a ∧ a ≤ 2998) && decide (pwm a.toNat 1499 = 1)

theorem specMember_eq (a : Int) (k : Nat) (hk : 21 < k) : spec_IsMember.f k a = some (isMem a) := by
  unfold spec_IsMember.f spec_l2Unit.f
  simp only [l1In_eq, Option.bind_some]
  by_cases h : 1 ≤ a ∧ a ≤ 2998
  · obtain ⟨n, rfl⟩ := Int.eq_ofNat_of_zero_le (show 0 ≤ a by omega)
    have h2 := specPower_eq n 1499 (by omega) (by omega) k hk
    rw [decide_eq_true h, if_pos rfl, show ((1499 : Int)) = ((1499 : Nat) : Int) from rfl, h2]
    simp only [Option.bind_some, isMem, decide_eq_true h, Bool.true_and, Int.toNat_natCast]
    congr 1
    rw [Bool.eq_iff_iff, beq_iff_eq, decide_eq_true_iff]
    omega
  · rw [decide_eq_false h, if_neg (by simp)]
    simp [isMem, h]

theorem implMember_eq (a : Int) (k : Nat) (hk : 21 < k) : impl_IsMember.f k a = some (isMem a) := by
  unfold impl_IsMember.f impl_isUnit.f
  simp only [within_eq, Option.bind_some]
  by_cases h : 1 ≤ a ∧ a ≤ 2998
  · obtain ⟨n, rfl⟩ := Int.eq_ofNat_of_zero_le (show 0 ≤ a by omega)
    have h2 := implPower_eq n 1499 (by omega) (by omega) k hk
    rw [decide_eq_true h, if_pos rfl, show ((1499 : Int)) = ((1499 : Nat) : Int) from rfl, h2]
    simp only [Option.bind_some, isMem, decide_eq_true h, Bool.true_and, Int.toNat_natCast]
    congr 1
    rw [Bool.eq_iff_iff, beq_iff_eq, decide_eq_true_iff]
    omega
  · rw [decide_eq_false h, if_neg (by simp)]
    simp [isMem, h]

theorem mem_range {a : Int} (h : isMem a = true) : 1 ≤ a ∧ a ≤ 2998 := by
  unfold isMem at h
  rw [Bool.and_eq_true, decide_eq_true_iff, decide_eq_true_iff] at h
  exact h.1

/-- A receipt that is as said. -/
def isRcp (a b c d : Int) : Bool := decide ((-1 ≤ a ∧ a ≤ 4) ∧ b = a + 1 ∧ (0 ≤ c ∧ c ≤ 1000) ∧ (0 ≤ d ∧ d ≤ 1498))
/-- The number that a receipt signs. -/
def rcpNum (a c : Int) : Nat := ((c + 1001 * (a + 2) + 7) % 1499).toNat

theorem specReceipt_eq (a b c d : Int) : spec_l11Receipt.f a b c d = some (isRcp a b c d) := by
  unfold spec_l11Receipt.f spec_l11Letter.f isRcp
  simp only [l1In_eq, Option.bind_some]
  by_cases h1 : -1 ≤ a ∧ a ≤ 4
  · rw [w64 (n := a + 1) (by omega) (by omega)]
    by_cases h2 : b = a + 1
    · by_cases h3 : 0 ≤ c ∧ c ≤ 1000
      · simp [h1, h2, h3]
      · simp [h1, h2, h3]
    · simp [h1, h2]
  · simp [h1]

theorem implReceipt_eq (a b c d : Int) : impl_isReceipt.f a b c d = some (isRcp a b c d) := by
  unfold impl_isReceipt.f impl_isPassed.f impl_isLetterNumber.f impl_isValue.f isRcp
  simp only [within_eq, Option.bind_some]
  by_cases h1 : -1 ≤ a ∧ a ≤ 4
  · rw [w64 (n := a + 1) (by omega) (by omega)]
    by_cases h2 : b = a + 1
    · by_cases h3 : 0 ≤ c ∧ c ≤ 1000
      · simp [h1, h2, h3]
      · simp [h1, h2, h3]
    · simp [h1, h2]
  · simp [h1]

theorem number_eq (a c : Int) (ha : -1 ≤ a ∧ a ≤ 4) (hc : 0 ≤ c ∧ c ≤ 1000) : Int.tmod (wrap64 ((wrap64 (c + (wrap64 (1001 * (wrap64 (a + 2)))))) + 7)) 1499 = ((rcpNum a c : Nat) : Int) := by
  rw [w64 (n := a + 2) (by omega) (by omega), w64 (n := 1001 * (a + 2)) (by omega) (by omega), w64 (n := c + 1001 * (a + 2)) (by omega) (by omega), w64 (n := c + 1001 * (a + 2) + 7) (by omega) (by omega)]
  unfold rcpNum
  rw [Int.tmod_eq_emod_of_nonneg (by omega)]
  omega

theorem rcpNum_lt (a c : Int) : rcpNum a c < 1499 := by
  unfold rcpNum
  omega

theorem fits_same (p a b c d : Int) (hp : 1 ≤ p ∧ p ≤ 2998) (h : isRcp a b c d = true) (k : Nat) (hk : 21 < k) :
    ∃ r, spec_l11Check.f k p a b c d = some r ∧ impl_fits.f k p a b c d = some r := by
  unfold isRcp at h
  rw [decide_eq_true_iff] at h
  obtain ⟨ha, hb, hc, hd⟩ := h
  obtain ⟨q, rfl⟩ := Int.eq_ofNat_of_zero_le (show 0 ≤ p by omega)
  obtain ⟨s, rfl⟩ := Int.eq_ofNat_of_zero_le hd.1
  have hn := rcpNum_lt a c
  have h1 := specPower_eq 4 s (by omega) (by omega) k hk
  have h2 := implPower_eq 4 s (by omega) (by omega) k hk
  have h3 := specPower_eq q (rcpNum a c) (by omega) (by omega) k hk
  have h4 := implPower_eq q (rcpNum a c) (by omega) (by omega) k hk
  unfold spec_l11Check.f impl_fits.f spec_l11Number.f impl_numberOf.f
  rw [number_eq a c ha hc, show (4 : Int) = ((4 : Nat) : Int) from rfl, h1, h2]
  simp only [Option.bind_some]
  rw [h3, h4]
  exact ⟨_, rfl, rfl⟩

/-- Does the receipt fit who has the public number p? -/
def fitsB (p a c d : Int) : Bool := decide (pwm 4 d.toNat = pwm p.toNat (rcpNum a c))

theorem specFits_eq (p a b c d : Int) (hp : 1 ≤ p ∧ p ≤ 2998) (h : isRcp a b c d = true) (k : Nat) (hk : 21 < k) : spec_l11Check.f k p a b c d = some (fitsB p a c d) := by
  unfold isRcp at h
  rw [decide_eq_true_iff] at h
  obtain ⟨ha, hb, hc, hd⟩ := h
  obtain ⟨q, rfl⟩ := Int.eq_ofNat_of_zero_le (show 0 ≤ p by omega)
  obtain ⟨s, rfl⟩ := Int.eq_ofNat_of_zero_le hd.1
  have hn := rcpNum_lt a c
  have h1 := specPower_eq 4 s (by omega) (by omega) k hk
  have h3 := specPower_eq q (rcpNum a c) (by omega) (by omega) k hk
  unfold spec_l11Check.f spec_l11Number.f fitsB
  rw [number_eq a c ha hc, show (4 : Int) = ((4 : Nat) : Int) from rfl, h1]
  simp only [Option.bind_some]
  rw [h3]
  simp only [Option.bind_some, Int.toNat_natCast]
  congr 1
  rw [Bool.eq_iff_iff, beq_iff_eq, decide_eq_true_iff]
  omega

theorem implFits_eq (p a b c d : Int) (hp : 1 ≤ p ∧ p ≤ 2998) (h : isRcp a b c d = true) (k : Nat) (hk : 21 < k) : impl_fits.f k p a b c d = some (fitsB p a c d) := by
  unfold isRcp at h
  rw [decide_eq_true_iff] at h
  obtain ⟨ha, hb, hc, hd⟩ := h
  obtain ⟨q, rfl⟩ := Int.eq_ofNat_of_zero_le (show 0 ≤ p by omega)
  obtain ⟨s, rfl⟩ := Int.eq_ofNat_of_zero_le hd.1
  have hn := rcpNum_lt a c
  have h1 := implPower_eq 4 s (by omega) (by omega) k hk
  have h3 := implPower_eq q (rcpNum a c) (by omega) (by omega) k hk
  unfold impl_fits.f impl_numberOf.f fitsB
  rw [number_eq a c ha hc, show (4 : Int) = ((4 : Nat) : Int) from rfl, h1]
  simp only [Option.bind_some]
  rw [h3]
  simp only [Option.bind_some, Int.toNat_natCast]
  congr 1
  rw [Bool.eq_iff_iff, beq_iff_eq, decide_eq_true_iff]
  omega

def toR (x : S33) : S36 := ⟨x.f0, x.f1, x.f2, x.f3⟩
def toRs (l : List S33) : List S36 := l.map toR
theorem toRs_length (l : List S33) : (toRs l).length = l.length := by simp [toRs]
theorem toRs_get (l : List S33) (i : Nat) (d : S36) (h : i < l.length) : (toRs l).getD i d = toR l[i] := by
  rw [getD_in _ d i (by rw [toRs_length]; exact h)]
  simp [toRs]

theorem toReceiptS_eq (l : List S33) (hl : l.length ≤ 1048576) : ∀ k, l.length < k → laws_toReceiptS.f k l = some (toRs l) := by
  intro k hk
  have hz : (List.replicate l.length z36).length = l.length := by simp
  have h := loop_up (fun k (x : List S36 × Int) => laws_toReceiptS.l0 k l x.1 x.2) l.length 0 (fun i => (mixed (toRs l) (List.replicate l.length z36) i, (i : Int))) (toRs l) (fun i k hi _ => by
    have e : (toRs l).length = (List.replicate l.length z36).length := by rw [toRs_length, hz]
    have e2 := mixed_length (toRs l) (List.replicate l.length z36) i e
    have e3 := mixed_set (toRs l) (List.replicate l.length z36) i (toR l[i]) e (by omega) (toRs_get l i _ hi)
    simp only [laws_toReceiptS.l0, laws_toReceipt.f, rd_T33, Option.bind_some, Int.toNat_natCast]
    rw [if_pos (by omega), if_pos (by omega), if_pos (by rw [e2, hz]; omega), w64 (by omega) (by omega), getD_in l z33 i hi]
    unfold toR at e3
    rw [e3]
    rfl) (fun k _ => by
    simp only [laws_toReceiptS.l0]
    rw [if_neg (by omega), mixed_end _ _ _ (by rw [toRs_length]; omega) (by rw [hz]; omega)]) k hk
  rw [mixed_zero] at h
  unfold laws_toReceiptS.f
  rw [if_pos (by omega), if_pos (by omega)]
  exact h

theorem eqReceiptS_self (l : List S36) (hl : l.length ≤ 1048576) : ∀ k, l.length < k → laws_eqReceiptS.f k l l = some true := by
  intro k hk
  unfold laws_eqReceiptS.f
  rw [if_pos rfl]
  exact loop_up (fun k (x : Int) => laws_eqReceiptS.l0 k l l x) l.length 0 (fun i => (i : Int)) true (fun i k hi _ => by
    simp only [laws_eqReceiptS.l0, laws_eqReceipt.f, if_true, Option.bind_some]
    rw [if_pos (by omega), if_pos (by omega), if_pos (by omega), w64 (by omega) (by omega)]
    rfl) (fun k _ => by
    simp only [laws_eqReceiptS.l0]
    rw [if_neg (by omega)]) k hk

/-- Does a receipt say that hand h had the letter? -/
def okR (p letter : Int) (h : Nat) (r : S36) : Bool := isRcp r.f0 r.f1 r.f2 r.f3 && decide (r.f0 = (h : Int) - 1) && decide (r.f2 = letter) && fitsB p r.f0 r.f2 r.f3
def hasB (p letter : Int) (h : Nat) (l : List S36) : Bool := l.any (okR p letter h)

theorem any_drop (f : S36 → Bool) (l : List S36) (i : Nat) (h : i < l.length) : (l.drop i).any f = (f l[i] || (l.drop (i + 1)).any f) := by
  rw [List.drop_eq_getElem_cons h, List.any_cons]

theorem specHas_l0 (ps : List Int) (hps : ps.length ≤ 6) (letter : Int) (h : Nat) (hh : h < ps.length) (hp : 1 ≤ ps[h] ∧ ps[h] ≤ 2998) (l : List S36) (hl : l.length ≤ 40) :
    ∀ (d k i : Nat), l.length - i = d → d + 22 < k → i ≤ l.length → spec_l11Has.l0 k ps (h : Int) letter l (l.length : Int) (i : Int) = some ((l.drop i).any (okR ps[h] letter h)) := by
  intro d
  induction d with
  | zero =>
    intro k i hd hk hi
    obtain ⟨k, rfl⟩ := rounds hk
    simp only [spec_l11Has.l0]
    rw [if_neg (by omega), List.drop_of_length_le (by omega)]
    rfl
  | succ d ih =>
    intro k i hd hk hi
    obtain ⟨k, rfl⟩ := rounds hk
    have hlt : i < l.length := by omega
    have hn := ih k (i + 1) (by omega) (by omega) (by omega)
    have hn' : spec_l11Has.l0 k ps (h : Int) letter l (l.length : Int) ((i : Int) + 1) = some ((l.drop (i + 1)).any (okR ps[h] letter h)) := hn
    rw [any_drop _ l i hlt]
    simp only [spec_l11Has.l0, rd_T36, Int.toNat_natCast]
    rw [if_pos (by omega), if_pos (by omega), if_pos (by omega), w64 (n := (i : Int) + 1) (by omega) (by omega), w64 (n := (h : Int) - 1) (by omega) (by omega), rd_in ps h hh, hn']
    simp only [getD_in l z36 i hlt, specReceipt_eq, Option.bind_some]
    unfold okR
    by_cases h1 : isRcp l[i].f0 l[i].f1 l[i].f2 l[i].f3 = true
    · rw [h1, if_pos rfl]
      by_cases h2 : l[i].f0 = (h : Int) - 1
      · rw [if_pos h2, decide_eq_true h2]
        by_cases h3 : l[i].f2 = letter
        · rw [if_pos h3, if_pos (by omega), if_pos (by omega), decide_eq_true h3, specFits_eq _ _ _ _ _ hp h1 k (by omega)]
          simp only [Option.bind_some, Bool.true_and]
          by_cases h4 : fitsB ps[h] l[i].f0 l[i].f2 l[i].f3 = true
          · rw [if_pos h4, h4]; rfl
          · rw [if_neg h4]; simp [h4]
        · rw [if_neg h3]; simp [h3]
      · rw [if_neg h2]; simp [h2]
    · rw [if_neg h1]; simp [h1]

theorem specHas_eq (ps : List Int) (hps : ps.length ≤ 6) (letter : Int) (h : Nat) (hh : h < ps.length) (hp : 1 ≤ ps[h] ∧ ps[h] ≤ 2998) (l : List S36) (hl : l.length ≤ 40) (k : Nat) (hk : l.length + 22 < k) :
    spec_l11Has.f k ps (h : Int) letter l = some (hasB ps[h] letter h l) := by
  have h1 := specHas_l0 ps hps letter h hh hp l hl l.length k 0 (by omega) hk (by omega)
  rw [List.drop_zero] at h1
  exact h1

theorem implBlame_l1 (ps : List Int) (hps : ps.length ≤ 6) (letter : Int) (h : Nat) (hh : h < ps.length) (hp : 1 ≤ ps[h] ∧ ps[h] ≤ 2998) (l : List S36) (hl : l.length ≤ 40) (k : Nat) (hk : 21 < k) :
    ∀ (d i : Nat) (f : Bool), l.length - i = d → i ≤ l.length →
    impl_BlameOf.l1 (k + d + 1) ps letter l (h : Int) ps[h] f ps (ps.length : Int) (h : Int) l (l.length : Int) (i : Int) =
      if (f || (l.drop i).any (okR ps[h] letter h)) = true then impl_BlameOf.l0 k ps letter l ps (ps.length : Int) ((h : Int) + 1) else some ((h : Int) - 1, true) := by
  intro d
  induction d with
  | zero =>
    intro i f hd hi
    simp only [impl_BlameOf.l1, Nat.add_zero]
    rw [if_neg (by omega), List.drop_of_length_le (by omega), w64 (n := (h : Int) + 1) (by omega) (by omega), w64 (n := (h : Int) - 1) (by omega) (by omega)]
    simp
  | succ d ih =>
    intro i f hd hi
    have hlt : i < l.length := by omega
    have hn := fun f => ih (i + 1) f (by omega) (by omega)
    have hn' : ∀ f, impl_BlameOf.l1 (k + d + 1) ps letter l (h : Int) ps[h] f ps (ps.length : Int) (h : Int) l (l.length : Int) ((i : Int) + 1) =
      if (f || (l.drop (i + 1)).any (okR ps[h] letter h)) = true then impl_BlameOf.l0 k ps letter l ps (ps.length : Int) ((h : Int) + 1) else some ((h : Int) - 1, true) := hn
    rw [any_drop _ l i hlt, show k + (d + 1) + 1 = (k + d + 1) + 1 by omega, impl_BlameOf.l1]
    simp only [rd_T36, Int.toNat_natCast]
    rw [if_pos (by omega), if_pos (by omega), if_pos (by omega), w64 (n := (i : Int) + 1) (by omega) (by omega), w64 (n := (h : Int) - 1) (by omega) (by omega), hn', hn']
    simp only [getD_in l z36 i hlt, implReceipt_eq]
    cases f with
    | true => simp
    | false =>
      rw [if_neg (by simp)]
      unfold okR
      by_cases h2 : l[i].f0 = (h : Int) - 1
      · rw [if_pos h2, decide_eq_true h2]
        by_cases h3 : l[i].f2 = letter
        · rw [if_pos h3, decide_eq_true h3]
          simp only [Option.bind_some]
          by_cases h1 : isRcp l[i].f0 l[i].f1 l[i].f2 l[i].f3 = true
          · rw [h1, if_pos rfl, implFits_eq _ _ _ _ _ hp h1 _ (by omega)]
            simp only [Option.bind_some, Bool.true_and, Bool.false_or]
            exact hn' _
          · rw [if_neg h1]; simp [h1]
        · rw [if_neg h3]; simp [h3]
      · rw [if_neg h2]; simp [h2]

/-- The last hand that had it, from hand h on, d hands being left. -/
def blameR (n : Nat) (has : Nat → Bool) : Nat → Nat → Int
  | 0, _ => (n : Int) - 1
  | d + 1, h => if has h = true then blameR n has d (h + 1) else (h : Int) - 1
theorem blameR_range (n : Nat) (has : Nat → Bool) : ∀ d h, h + d = n → (h : Int) - 1 ≤ blameR n has d h ∧ blameR n has d h ≤ (n : Int) - 1 := by
  intro d
  induction d with
  | zero =>
    intro h hd
    simp only [blameR]
    omega
  | succ d ih =>
    intro h hd
    simp only [blameR]
    split
    · have := ih (h + 1) (by omega)
      omega
    · omega
def hasF (ps : List Int) (letter : Int) (l : List S36) (h : Nat) : Bool := hasB (ps.getD h 0) letter h l

theorem implBlame_l0 (ps : List Int) (hps : ps.length ≤ 6) (letter : Int) (hp : ∀ x ∈ ps, isMem x = true) (l : List S36) (hl : l.length ≤ 40) :
    ∀ (d h : Nat), ps.length - h = d → h ≤ ps.length → ∀ e, impl_BlameOf.l0 (d * (l.length + 2) + 23 + e) ps letter l ps (ps.length : Int) (h : Int) = some (blameR ps.length (hasF ps letter l) d h, true) := by
  intro d
  induction d with
  | zero =>
    intro h hd hh e
    rw [show 0 * (l.length + 2) + 23 + e = (22 + e) + 1 by omega, impl_BlameOf.l0]
    rw [if_neg (by omega), w64 (by omega) (by omega)]
    rfl
  | succ d ih =>
    intro h hd hh e
    have hlt : h < ps.length := by omega
    have hr := mem_range (hp ps[h] (List.getElem_mem hlt))
    have h2 := ih (h + 1) (by omega) (by omega) e
    rw [show (d + 1) * (l.length + 2) + 23 + e = ((d * (l.length + 2) + 23 + e) + l.length + 1) + 1 by rw [Nat.add_mul]; omega, impl_BlameOf.l0]
    rw [if_pos (by omega), if_pos (by omega), if_pos (by omega), rd_in ps h hlt]
    have h3 := implBlame_l1 ps hps letter h hlt hr l hl (d * (l.length + 2) + 23 + e) (by omega) l.length 0 false (by omega) (by omega)
    rw [List.drop_zero, Bool.false_or] at h3
    refine Eq.trans h3 ?_
    simp only [blameR, hasF, getD_in ps 0 h hlt]
    show (if hasB ps[h] letter h l = true then _ else _) = _
    by_cases hs : hasB ps[h] letter h l = true
    · rw [if_pos hs, if_pos hs]
      exact h2
    · rw [if_neg hs, if_neg hs]

def arePub (l : List Int) : Bool := l.all isMem && decide (1 ≤ (l.length : Int) ∧ (l.length : Int) ≤ 6)
theorem publics_l0 (l : List Int) (hl : l.length ≤ 1048576) : ∀ (d k i : Nat), l.length - i = d → d + 22 < k → i ≤ l.length →
    spec_l11Publics.l0 k l l (l.length : Int) (i : Int) = some ((l.drop i).all isMem && decide (1 ≤ (l.length : Int) ∧ (l.length : Int) ≤ 6)) ∧
    impl_arePublics.l0 k l l (l.length : Int) (i : Int) = some ((l.drop i).all isMem && decide (1 ≤ (l.length : Int) ∧ (l.length : Int) ≤ 6)) := by
  intro d
  induction d with
  | zero =>
    intro k i hd hk hi
    obtain ⟨k, rfl⟩ := rounds hk
    simp only [spec_l11Publics.l0, impl_arePublics.l0]
    rw [if_neg (by omega), if_neg (by omega), List.drop_of_length_le (by omega), l1In_eq, within_eq]
    simp
  | succ d ih =>
    intro k i hd hk hi
    obtain ⟨k, rfl⟩ := rounds hk
    have hlt : i < l.length := by omega
    obtain ⟨h1, h2⟩ := ih k (i + 1) (by omega) (by omega) (by omega)
    simp only [spec_l11Publics.l0, impl_arePublics.l0]
    rw [if_pos (by omega), if_pos (by omega), if_pos (by omega), if_pos (by omega), if_pos (by omega), if_pos (by omega), rd_in l i hlt, w64 (by omega) (by omega), specMember_eq _ k (by omega), implMember_eq _ k (by omega), List.drop_eq_getElem_cons hlt, List.all_cons]
    simp only [Option.bind_some]
    by_cases e : isMem l[i] = true
    · rw [e, if_pos rfl, if_pos rfl, Bool.true_and]
      exact ⟨h1, h2⟩
    · rw [if_neg e, if_neg e]
      simp [e]

theorem publics_eq (l : List Int) (hl : l.length ≤ 1048576) (k : Nat) (hk : l.length + 22 < k) : spec_l11Publics.f k l = some (arePub l) ∧ impl_arePublics.f k l = some (arePub l) := by
  have h := publics_l0 l hl l.length k 0 (by omega) hk (by omega)
  rw [List.drop_zero] at h
  exact h

/-- What impl blames. -/
theorem implBlame_eq (ps : List Int) (hl : ps.length ≤ 1048576) (letter : Int) (l : List S36) : ∃ k0, impl_BlameOf.f k0 ps letter l =
    some (if arePub ps = true ∧ (0 ≤ letter ∧ letter ≤ 1000) ∧ l.length ≤ 40 then (blameR ps.length (hasF ps letter l) ps.length 0, true) else (0, false)) := by
  obtain ⟨K, hK⟩ := some_nat (ps.length + 6 * 42 + 100)
  obtain ⟨h1, h2⟩ := publics_eq ps hl (K + 1) (by omega)
  refine ⟨K + 1, ?_⟩
  unfold impl_BlameOf.f impl_isLetterNumber.f
  rw [h2]
  simp only [within_eq, Option.bind_some]
  by_cases hp : arePub ps = true
  · have hp2 := hp
    unfold arePub at hp2
    rw [Bool.and_eq_true, List.all_eq_true, decide_eq_true_iff] at hp2
    by_cases hle : 0 ≤ letter ∧ letter ≤ 1000
    · rw [if_pos hp, decide_eq_true hle, if_pos rfl]
      by_cases hn : l.length ≤ 40
      · have hm : ps.length * (l.length + 2) ≤ 6 * 42 := Nat.mul_le_mul (by omega) (by omega)
        obtain ⟨e, he⟩ : ∃ e, K = ps.length * (l.length + 2) + 23 + e := ⟨K - (ps.length * (l.length + 2) + 23), by omega⟩
        have h5 := implBlame_l0 ps (by omega) letter hp2.1 l hn ps.length 0 (by omega) (by omega) e
        rw [← he] at h5
        rw [if_pos ⟨hp, hle, hn⟩, decide_eq_false (by omega : ¬ (l.length : Int) > 40)]
        exact h5
      · rw [if_neg (fun h => hn h.2.2), decide_eq_true (by omega : (l.length : Int) > 40)]
        rfl
    · rw [if_pos hp, decide_eq_false hle, if_neg Bool.false_ne_true, if_neg (fun h => hle h.2.1)]
      rfl
  · rw [if_neg hp, if_neg (fun h => hp h.1)]
    rfl

theorem specWhole_l0 (ps : List Int) (hps : ps.length ≤ 6) (letter : Int) (hp : ∀ x ∈ ps, isMem x = true) (l : List S36) (hl : l.length ≤ 40) :
    ∀ (d h : Nat), ps.length - h = d → h ≤ ps.length → ∀ k, d + 70 < k → spec_WholeTrip.l0 k ps letter l (ps.length : Int) (h : Int) = some (decide (blameR ps.length (hasF ps letter l) d h = (ps.length : Int) - 1), true) := by
  intro d
  induction d with
  | zero =>
    intro h hd hh k hk
    obtain ⟨k, rfl⟩ := rounds hk
    simp only [spec_WholeTrip.l0, blameR]
    rw [if_neg (by omega)]
    simp
  | succ d ih =>
    intro h hd hh k hk
    obtain ⟨k, rfl⟩ := rounds hk
    have hlt : h < ps.length := by omega
    have hr := mem_range (hp ps[h] (List.getElem_mem hlt))
    simp only [spec_WholeTrip.l0, blameR, hasF, getD_in ps 0 h hlt]
    rw [if_pos (by omega), specHas_eq ps hps letter h hlt hr l hl k (by omega), w64 (n := (h : Int) + 1) (by omega) (by omega)]
    simp only [Option.bind_some]
    by_cases hs : hasB ps[h] letter h l = true
    · rw [if_pos hs, if_pos hs]
      exact ih (h + 1) (by omega) (by omega) k (by omega)
    · rw [if_neg hs, if_neg hs, decide_eq_false (by omega)]

theorem specWhole_eq (ps : List Int) (hl : ps.length ≤ 1048576) (letter : Int) (l : List S36) : ∃ k0, spec_WholeTrip.f k0 ps letter l =
    some (if arePub ps = true ∧ (0 ≤ letter ∧ letter ≤ 1000) ∧ l.length ≤ 40 then (decide (blameR ps.length (hasF ps letter l) ps.length 0 = (ps.length : Int) - 1), true) else (false, false)) := by
  obtain ⟨K, hK⟩ := some_nat (ps.length + 6 * 42 + 100)
  obtain ⟨h1, h2⟩ := publics_eq ps hl (K + 1) (by omega)
  refine ⟨K + 1, ?_⟩
  unfold spec_WholeTrip.f spec_l11Letter.f
  rw [h1]
  simp only [l1In_eq, Option.bind_some]
  by_cases hp : arePub ps = true
  · have hp2 := hp
    unfold arePub at hp2
    rw [Bool.and_eq_true, List.all_eq_true, decide_eq_true_iff] at hp2
    by_cases hle : 0 ≤ letter ∧ letter ≤ 1000
    · rw [if_pos hp, decide_eq_true hle, if_pos rfl]
      by_cases hn : l.length ≤ 40
      · have h5 := specWhole_l0 ps (by omega) letter hp2.1 l hn ps.length 0 (by omega) (by omega) K (by omega)
        rw [if_pos ⟨hp, hle, hn⟩, decide_eq_false (by omega : ¬ (l.length : Int) > 40)]
        exact h5
      · rw [if_neg (fun h => hn h.2.2), decide_eq_true (by omega : (l.length : Int) > 40)]
        rfl
    · rw [if_pos hp, decide_eq_false hle, if_neg Bool.false_ne_true, if_neg (fun h => hle h.2.1)]
      rfl
  · rw [if_neg hp, if_neg (fun h => hp h.1)]
    rfl

theorem implWhole_eq (ps : List Int) (hl : ps.length ≤ 1048576) (letter : Int) (l : List S36) : ∃ k0, impl_WholeTrip.f k0 ps letter l =
    some (if arePub ps = true ∧ (0 ≤ letter ∧ letter ≤ 1000) ∧ l.length ≤ 40 then (decide (blameR ps.length (hasF ps letter l) ps.length 0 = (ps.length : Int) - 1), true) else (false, false)) := by
  obtain ⟨k0, h⟩ := implBlame_eq ps hl letter l
  refine ⟨k0, ?_⟩
  unfold impl_WholeTrip.f
  rw [h]
  simp only [Option.bind_some]
  by_cases hc : arePub ps = true ∧ (0 ≤ letter ∧ letter ≤ 1000) ∧ l.length ≤ 40
  · rw [if_pos hc, if_pos hc]
    simp only [if_true]
    rw [w64 (by omega) (by omega)]
    congr 1
  · rw [if_neg hc, if_neg hc]
    rfl

theorem FnExactWholeTrip : laws_FnExactWholeTrip.Pure := by
  intro ps letter l hps _ hlr
  have hmax : maxLen = 9223372036854775807 := rfl
  by_cases hl : ps.length ≤ 1048576
  · by_cases hn : l.length ≤ 1048576
    · obtain ⟨k1, h1⟩ := specWhole_eq ps hl letter (toRs l)
      obtain ⟨k2, h2⟩ := implWhole_eq ps hl letter (toRs l)
      generalize hg : (if arePub ps = true ∧ (0 ≤ letter ∧ letter ≤ 1000) ∧ (toRs l).length ≤ 40 then _ else _) = rb at h1 h2
      obtain ⟨r, b⟩ := rb
      have h3 := stay1 (spec_WholeTrip.mono ps letter (toRs l)) h1
      have h4 := stay1 (impl_WholeTrip.mono ps letter (toRs l)) h2
      obtain ⟨K, hK⟩ := some_nat (ps.length + l.length + k1 + k2 + 1)
      refine ⟨K + 2, ?_⟩
      have a1 := fun (k : Nat) (hk : ps.length < k) => toIntS_eq ps hl k hk
      have a2 := fun (k : Nat) (hk : ps.length < k) => eqIntS_self ps hl k hk
      have a3 := toReceiptS_eq l hn
      have a4 := eqReceiptS_self (toRs l) (by rw [toRs_length]; exact hn)
      rw [toRs_length] at a4
      unfold laws_FnExactWholeTrip.f laws_szReceiptS.f
      rw [if_neg (by omega), w64 (by omega) (by omega), if_neg (by omega)]
      simp only [Option.bind_some]
      rw [if_neg (by omega)]
      simp (disch := omega) only [a1, a2, a3, a4, h3, h4, Option.bind_some, if_true, bne_self_eq_false, Bool.false_eq_true, if_false]
      rw [laws_FnExactWholeTrip.j0]
      simp (disch := omega) only [a1, a2, a3, a4, Option.bind_some, if_true, if_false, bne_self_eq_false, Bool.false_eq_true]
    · refine ⟨0, ?_⟩
      unfold laws_FnExactWholeTrip.f laws_szReceiptS.f
      rw [if_neg (by omega), w64 (by omega) (by omega), if_pos (by omega)]
      simp only [Option.bind_some]
      rw [if_pos (by omega)]
  · exact ⟨0, by unfold laws_FnExactWholeTrip.f; rw [if_pos (by omega)]⟩



end Go.Proofs.Ytafcbeajnlfomaa.Pure
