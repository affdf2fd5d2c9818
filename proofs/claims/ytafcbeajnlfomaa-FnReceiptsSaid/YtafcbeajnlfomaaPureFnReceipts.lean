/- Proved: what is said of receipts holds for all bytes that they are drawn from. Conditions: those of the given statement alone. -/
import Derived.Test.YtafcbeajnlfomaaPFnReceiptsx8
import Derived.Test.YtafcbeajnlfomaaBase
set_option linter.unusedVariables false
set_option linter.unusedSimpArgs false
namespace Go.Proofs.Ytafcbeajnlfomaa.Pure
open Go.RowKit Go.Proofs.Ytafcbeajnlfomaa.PFnReceipts Go.Proofs.Ytafcbeajnlfomaa.Base Go.Proofs.YtafcbeajnlfomaaW.PrintWords Go.Proofs.YtafcbeajnlfomaaW.PrintLast Go.Proofs.YtafcbeajnlfomaaW.PrintMore

/-- The bits of a letter: where it stands is small, its bytes are bytes. -/
def Bytes (l : List Int) : Prop := l.length ≤ 1048576 ∧ ∀ x ∈ l, 0 ≤ x ∧ x ≤ 255
theorem and255 (E : Int) : 0 ≤ Go.bits .and .u64 E 255 ∧ Go.bits .and .u64 E 255 ≤ 255 := by
  have h : Go.bits .and .u64 E 255 = IntKind.u64.wrap (((BitVec.ofInt 64 E) &&& (BitVec.ofInt 64 255)).toNat : Int) := rfl
  have h2 : ((BitVec.ofInt 64 E) &&& (BitVec.ofInt 64 255)).toNat ≤ 255 := by
    rw [BitVec.toNat_and]
    exact Nat.and_le_right
  have h3 : IntKind.u64.wrap (((BitVec.ofInt 64 E) &&& (BitVec.ofInt 64 255)).toNat : Int) = (((BitVec.ofInt 64 E) &&& (BitVec.ofInt 64 255)).toNat : Int) := by
    show (_ : Int) % 2 ^ 64 = _
    omega
  rw [h, h3]
  omega
def CurOk (p' p : Int) : Prop := p ≤ p' ∧ p' ≤ p + 2
theorem next_tot (l : List Int) (hl : Bytes l) (p h : Int) (hp : 0 ≤ p ∧ p ≤ 1099511627776) : ∃ y, spec_l1Cur_next.f l p h = some y ∧ (0 ≤ y.1 ∧ y.1 ≤ 255 ∧ y.2.1 = p + 1) := by
  have hl1 := hl.1
  unfold spec_l1Cur_next.f
  rw [w64 (n := p + 1) (by omega) (by omega)]
  by_cases h1 : p < (l.length : Int)
  · obtain ⟨i, rfl⟩ := Int.eq_ofNat_of_zero_le hp.1
    have h2 := hl.2 _ (rd_mem l i (by omega))
    rw [if_pos h1, if_pos hp.1, if_pos (by omega)]
    refine ⟨_, rfl, ?_⟩
    simp only
    rw [w64 (by omega) (by omega)]
    exact ⟨h2.1, h2.2, trivial⟩
  · rw [if_neg h1, if_neg (by omega)]
    refine ⟨_, rfl, ?_⟩
    have h3 := and255 ((IntKind.u64.wrap ((IntKind.u64.wrap ((IntKind.u64.wrap (h * 6364136223846793005)) + 0)) + 1442695040888963407)) / 1099511627776)
    simp only
    rw [w64 (by omega) (by omega)]
    exact ⟨h3.1, h3.2, trivial⟩
theorem pick_tot (l : List Int) (hl : Bytes l) (p h a : Int) (hp : 0 ≤ p ∧ p ≤ 549755813888) (ha : a ≤ 1048576) : ∃ y, spec_l1Cur_pick.f l p h a = some y ∧ (0 ≤ y.1 ∧ (y.1 < a ∨ y.1 = 0) ∧ p ≤ y.2.1 ∧ y.2.1 ≤ p + 2) := by
  unfold spec_l1Cur_pick.f
  by_cases h1 : a ≤ 1
  · rw [if_pos h1]
    exact ⟨_, rfl, by simp only; omega, .inr rfl, by simp only; omega, by simp only; omega⟩
  · rw [if_neg h1]
    obtain ⟨⟨b, p1, h'⟩, e1, hb0, hb1, hp1⟩ := next_tot l hl p h (by omega)
    simp only at hb0 hb1 hp1
    rw [e1]
    simp only [Option.bind_some]
    by_cases h2 : a > 200
    · obtain ⟨⟨c, p2, h''⟩, e2, hc0, hc1, hp2⟩ := next_tot l hl p1 h' (by omega)
      simp only at hc0 hc1 hp2
      rw [if_pos h2, e2]
      simp only [Option.bind_some]
      rw [if_neg (by omega), w64 (n := b * 256) (by omega) (by omega), w64 (by omega) (by omega), Int.tmod_eq_emod_of_nonneg (by omega)]
      have h3 := Int.emod_nonneg (b * 256 + c) (show a ≠ 0 by omega)
      have h4 := Int.emod_lt_of_pos (b * 256 + c) (show 0 < a by omega)
      exact ⟨_, rfl, h3, .inl h4, by simp only; omega, by simp only; omega⟩
    · rw [if_neg h2, if_neg (by omega), Int.tmod_eq_emod_of_nonneg (by omega)]
      have h3 := Int.emod_nonneg b (show a ≠ 0 by omega)
      have h4 := Int.emod_lt_of_pos b (show 0 < a by omega)
      exact ⟨_, rfl, h3, .inl h4, by simp only; omega, by simp only; omega⟩

theorem bytes_of {l : List Int} (h : l.length ≤ 1048576) (hw : ∀ x ∈ l, (Lit.int .u8 x).wf = true) : Bytes l := by
  refine ⟨h, fun x hx => ?_⟩
  have h2 := hw x hx
  simp only [Lit.wf, Bool.and_eq_true, decide_eq_true_iff] at h2
  exact h2

theorem among_tot (l : List Int) (hl : Bytes l) (p h : Int) (m : List Int) (hp : 0 ≤ p ∧ p ≤ 549755813888) (hm : 0 < m.length) (hm2 : m.length ≤ 1048576) : ∃ y, spec_l1Cur_among.f l p h m = some y ∧ (y.1 ∈ m ∧ p ≤ y.2.1 ∧ y.2.1 ≤ p + 2) := by
  unfold spec_l1Cur_among.f
  obtain ⟨⟨b, p1, h'⟩, e1, hb0, hb1, hp0, hp1⟩ := pick_tot l hl p h (m.length : Int) hp (by omega)
  simp only at hb0 hb1 hp0 hp1
  rw [e1]
  simp only [Option.bind_some]
  obtain ⟨i, rfl⟩ := Int.eq_ofNat_of_zero_le hb0
  rw [if_pos hb0, if_pos (by omega)]
  exact ⟨_, rfl, rd_mem m i (by omega), by simp only; omega, by simp only; omega⟩

theorem secret_tot (l : List Int) (hl : Bytes l) (p h : Int) (hp : 0 ≤ p ∧ p ≤ 274877906944) : ∃ y, spec_l1Cur_secret.f l p h = some y ∧ (p ≤ y.2.1 ∧ y.2.1 ≤ p + 8) := by
  unfold spec_l1Cur_secret.f
  obtain ⟨⟨b1, p1, h1⟩, e1, _, _, a1, c1⟩ := pick_tot l hl p h 250 (by omega) (by omega)
  simp only at a1 c1
  rw [e1]
  simp only [Option.bind_some]
  obtain ⟨⟨b2, p2, h2⟩, e2, _, _, a2, c2⟩ := pick_tot l hl p1 h1 250 (by omega) (by omega)
  simp only at a2 c2
  rw [e2]
  simp only [Option.bind_some]
  obtain ⟨⟨b3, p3, h3⟩, e3, _, _, a3, c3⟩ := pick_tot l hl p2 h2 250 (by omega) (by omega)
  simp only at a3 c3
  rw [e3]
  simp only [Option.bind_some]
  obtain ⟨⟨b4, p4, h4⟩, e4, _, a4, c4⟩ := among_tot l hl p3 h3 [0, 1, 2, 7, 1498, 1499, wrap64 (1 + (wrap64 (b1 * 5))), wrap64 (1 + (wrap64 (b2 * 5))), wrap64 (1 + (wrap64 (b3 * 5)))] (by omega) (by simp) (by simp)
  simp only at a4 c4
  rw [e4]
  exact ⟨_, rfl, by simp only; omega, by simp only; omega⟩

theorem one_tot (l : List Int) (hl : Bytes l) (p h a : Int) (hp : 0 ≤ p ∧ p ≤ 549755813888) (ha : a ≤ 1048576) : ∃ y, spec_l1Cur_one.f l p h a = some y ∧ (p ≤ y.2.1 ∧ y.2.1 ≤ p + 2) := by
  unfold spec_l1Cur_one.f
  obtain ⟨⟨b, p1, h'⟩, e1, hb0, hb1, hp0, hp1⟩ := pick_tot l hl p h a hp ha
  simp only at hp0 hp1
  rw [e1]
  exact ⟨_, rfl, hp0, hp1⟩

theorem handSecrets_l0 (l : List Int) (hl : Bytes l) : ∀ (n : Nat) (out : List Int) (m p h : Int), m.toNat = n → n ≤ 100 → 0 < (out.length : Int) + m → 0 ≤ m → out.length + n ≤ 100 → 0 ≤ p ∧ p + 2 * (n : Int) ≤ 17179869184 →
    Tot (fun k => spec_l1Cur_handSecrets.l0 k out m l p h) (fun y => y.1.length = out.length + n ∧ p ≤ y.2.1 ∧ y.2.1 ≤ p + 2 * (n : Int) + 4) := by
  intro n
  induction n with
  | zero =>
    intro out m p h hm hn h0 hm0 ho hp
    refine Tot.up ?_
    simp only [spec_l1Cur_handSecrets.l0]
    refine Tot.neg (by omega) (Tot.bind (Tot.fix (one_tot l hl p h 20 (by omega) (by omega))) (fun y hy => ?_))
    refine Tot.ite (fun _ => ?_) (fun _ => Tot.some_ ⟨by simp, by simp only; omega, by simp only; omega⟩)
    refine Tot.bind (Tot.fix (among_tot l hl _ _ _ (by omega) (by simp) (by simp))) (fun z hz => ?_)
    refine Tot.pos (by omega) (Tot.some_ ⟨by simp, by simp only; omega, by simp only; omega⟩)
  | succ n ih =>
    intro out m p h hm hn h0 hm0 ho hp
    refine Tot.up ?_
    simp only [spec_l1Cur_handSecrets.l0]
    refine Tot.pos (by omega) (Tot.bind (Tot.fix (pick_tot l hl p h 250 (by omega) (by omega))) (fun y hy => ?_))
    refine Tot.pos (by omega) ?_
    rw [w64 (n := m - 1) (by omega) (by omega)]
    refine (ih (out ++ [wrap64 (1 + wrap64 (y.1 * 5))]) (m - 1) y.2.1 y.2.2 (by omega) (by omega) (by rw [List.length_append]; simp only [List.length_singleton]; omega) (by omega) (by rw [List.length_append]; simp only [List.length_singleton]; omega) (by omega)).imp (fun z hz => ?_)
    rw [List.length_append] at hz
    simp only [List.length_singleton] at hz
    omega
theorem handSecrets_tot (l : List Int) (hl : Bytes l) (p h : Int) (hp : 0 ≤ p ∧ p ≤ 1073741824) : Tot (fun k => spec_l1Cur_handSecrets.f k l p h) (fun y => 1 ≤ y.1.length ∧ y.1.length ≤ 5 ∧ p ≤ y.2.1 ∧ y.2.1 ≤ p + 100) := by
  simp only [spec_l1Cur_handSecrets.f]
  refine Tot.bind (Tot.fix (pick_tot l hl p h 5 (by omega) (by omega))) (fun y hy => ?_)
  rw [w64 (n := 1 + y.1) (by omega) (by omega)]
  refine (handSecrets_l0 l hl (1 + y.1).toNat [] (1 + y.1) y.2.1 y.2.2 rfl (by omega) (by simp; omega) (by omega) (by simp; omega) (by omega)).imp (fun z hz => ?_)
  rw [List.length_nil] at hz
  omega

theorem pwm_mod {a : Nat} (ha : Mem a) (e : Nat) : pwm a (e % 1499) = pwm a e := by
  have h : pwm a (1499 * (e / 1499) + e % 1499) = pwm a (1499 * (e / 1499)) * pwm a (e % 1499) % 2999 := pwm_add a _ _
  have h2 : pwm 1 (e / 1499) = 1 := by unfold pwm; rw [Nat.one_pow]
  rw [Nat.div_add_mod, ← pwm_mul, ha.2, h2, Nat.one_mul, Nat.mod_eq_of_lt (pwm_lt _ _)] at h
  exact h.symm
def noOne : Nat → Nat → Bool
  | 0, _ => true
  | n + 1, c => Nat.beq c 1 == false && noOne n (c * 4 % 2999)
theorem noOne_spec : ∀ (n d : Nat), noOne n (pwm 4 d) = true → ∀ i, i < n → pwm 4 (d + i) ≠ 1 := by
  intro n
  induction n with
  | zero => intro d _ i hi; omega
  | succ n ih =>
    intro d h i hi
    simp only [noOne, Bool.and_eq_true] at h
    have h1 : pwm 4 d ≠ 1 := by
      intro e
      have h3 := h.1
      rw [e] at h3
      simp at h3
    have h2 : pwm 4 d * 4 % 2999 = pwm 4 (d + 1) := by rw [pwm_add, pwm_one 4 (by omega)]
    rw [h2] at h
    rcases Nat.eq_zero_or_pos i with rfl | hi0
    · exact h1
    · have h4 := ih (d + 1) h.2 (i - 1) (by omega)
      rw [show d + 1 + (i - 1) = d + i by omega] at h4
      exact h4
theorem noOne_run : noOne 1498 4 = true := by decide +kernel
theorem four_ne (d : Nat) (h0 : 1 ≤ d) (h1 : d ≤ 1498) : pwm 4 d ≠ 1 := by
  have h := noOne_spec 1498 1 (by rw [pwm_one 4 (by omega)]; exact noOne_run) (d - 1) (by omega)
  rw [show 1 + (d - 1) = d by omega] at h
  exact h
theorem four_lt {a b : Nat} (hab : a < b) (hb : b < 1499) : pwm 4 a ≠ pwm 4 b := by
  intro e
  have h1 : pwm 4 (a + (1499 - a)) = pwm 4 a * pwm 4 (1499 - a) % 2999 := pwm_add 4 _ _
  have h2 : pwm 4 (b + (1499 - a)) = pwm 4 b * pwm 4 (1499 - a) % 2999 := pwm_add 4 _ _
  rw [← e, ← h1, show a + (1499 - a) = 1499 by omega, mem_four.2, show b + (1499 - a) = 1499 + (b - a) by omega, pwm_add, mem_four.2, Nat.one_mul, Nat.mod_eq_of_lt (pwm_lt _ _)] at h2
  exact four_ne (b - a) (by omega) (by omega) h2
theorem four_inj {a b : Nat} (ha : a < 1499) (hb : b < 1499) (h : pwm 4 a = pwm 4 b) : a = b := by
  rcases Nat.lt_trichotomy a b with h1 | h1 | h1
  · exact absurd h (four_lt h1 hb)
  · exact h1
  · exact absurd h.symm (four_lt h1 ha)

theorem l1In_eq (a b c : Int) : spec_l1In.f a b c = some (decide (b ≤ a ∧ a ≤ c)) := by
  unfold spec_l1In.f
  by_cases h : a ≥ b
  · rw [if_pos h]
    congr 1
    exact decide_eq_decide.2 ⟨fun h1 => ⟨h, h1⟩, fun h1 => h1.2⟩
  · rw [if_neg h, decide_eq_false (fun h1 => h h1.1)]

theorem within_eq (a b c : Int) : impl_within.f a b c = some (decide (b ≤ a ∧ a ≤ c)) := by
  unfold impl_within.f
  by_cases h : a ≥ b
  · rw [if_pos h]
    congr 1
    exact decide_eq_decide.2 ⟨fun h1 => ⟨h, h1⟩, fun h1 => h1.2⟩
  · rw [if_neg h, decide_eq_false (fun h1 => h h1.1)]

/-- The number that a receipt signs. -/
def rcpNum (a c : Int) : Nat := ((c + 1001 * (a + 2) + 7) % 1499).toNat

theorem number_eq (a c : Int) (ha : -1 ≤ a ∧ a ≤ 4) (hc : 0 ≤ c ∧ c ≤ 1000) : Int.tmod (wrap64 ((wrap64 (c + (wrap64 (1001 * (wrap64 (a + 2)))))) + 7)) 1499 = ((rcpNum a c : Nat) : Int) := by
  rw [w64 (n := a + 2) (by omega) (by omega), w64 (n := 1001 * (a + 2)) (by omega) (by omega), w64 (n := c + 1001 * (a + 2)) (by omega) (by omega), w64 (n := c + 1001 * (a + 2) + 7) (by omega) (by omega)]
  unfold rcpNum
  rw [Int.tmod_eq_emod_of_nonneg (by omega)]
  omega

theorem rcpNum_lt (a c : Int) : rcpNum a c < 1499 := by
  unfold rcpNum
  omega

def signOk (s a b c : Int) : Prop := (1 ≤ s ∧ s ≤ 1498) ∧ (-1 ≤ a ∧ a ≤ 4) ∧ b = a + 1 ∧ (0 ≤ c ∧ c ≤ 1000)
instance (s a b c : Int) : Decidable (signOk s a b c) := inferInstanceAs (Decidable (_ ∧ _ ∧ _ ∧ _))
def sigV (s a c : Int) : Nat := rcpNum a c * s.toNat % 1499
def signV (s a b c : Int) : Int × Int × Int × Int × Bool := if signOk s a b c then (a, a + 1, c, ((sigV s a c : Nat) : Int), true) else (0, 0, 0, 0, false)
theorem sigV_eq (s a c : Int) (hs : 1 ≤ s ∧ s ≤ 1498) : Int.tmod (wrap64 (((rcpNum a c : Nat) : Int) * s)) 1499 = ((sigV s a c : Nat) : Int) := by
  have hn := rcpNum_lt a c
  obtain ⟨q, rfl⟩ := Int.eq_ofNat_of_zero_le (show 0 ≤ s by omega)
  have hb : rcpNum a c * q ≤ 1499 * 1499 := Nat.mul_le_mul (by omega) (by omega)
  rw [← Int.natCast_mul, wnat _ (by omega)]
  exact tmod_nat _ 1499
theorem implSignFor_eq (s a b c : Int) : impl_SignFor.f s a b c = some (signV s a b c) := by
  unfold impl_SignFor.f impl_isSecret.f impl_isPassed.f impl_isLetterNumber.f impl_signed.f impl_numberOf.f signV signOk
  simp only [within_eq, Option.bind_some]
  by_cases h0 : 1 ≤ s ∧ s ≤ 1498
  · by_cases h1 : -1 ≤ a ∧ a ≤ 4
    · rw [w64 (n := a + 1) (by omega) (by omega)]
      by_cases h2 : b = a + 1
      · by_cases h3 : 0 ≤ c ∧ c ≤ 1000
        · rw [number_eq a c h1 h3, sigV_eq s a c h0]
          simp [h0, h1, h2, h3]
        · simp [h0, h1, h2, h3]
      · simp [h0, h1, h2]
    · simp [h0, h1]
  · simp [h0]
theorem specSignFor_eq (s a b c : Int) : spec_SignFor.f s a b c = some (signV s a b c) := by
  unfold spec_SignFor.f spec_l2Secret.f spec_l11Letter.f spec_l11Sign.f spec_l11Number.f signV signOk
  simp only [l1In_eq, Option.bind_some]
  by_cases h0 : 1 ≤ s ∧ s ≤ 1498
  · by_cases h1 : -1 ≤ a ∧ a ≤ 4
    · rw [w64 (n := a + 1) (by omega) (by omega)]
      by_cases h2 : b = a + 1
      · by_cases h3 : 0 ≤ c ∧ c ≤ 1000
        · rw [number_eq a c h1 h3, sigV_eq s a c h0]
          simp [h0, h1, h2, h3]
        · simp [h0, h1, h2, h3]
      · simp [h0, h1, h2]
    · simp [h0, h1]
  · simp [h0]

theorem specPower_l0 (n : Nat) : ∀ (k a e o : Nat), e < 2 ^ n → n < k → a < 2999 → o < 2999 → e ≤ 4294967296 → spec_l2Power.l0 k (a : Int) (e : Int) (o : Int) = some ((o * a ^ e % 2999 : Nat) : Int) := by
  induction n with
  | zero =>
    intro k a e o he hk ha ho _
    obtain ⟨k, rfl⟩ := rounds hk
    have h0 : e = 0 := by omega
    subst h0
    simp only [spec_l2Power.l0]
    rw [if_neg (by omega), Nat.pow_zero, Nat.mul_one, Nat.mod_eq_of_lt ho]
  | succ n ih =>
    intro k a e o he hk ha ho hm
    obtain ⟨k, rfl⟩ := rounds hk
    simp only [spec_l2Power.l0]
    by_cases h0 : e = 0
    · subst h0
      rw [if_neg (by omega), Nat.pow_zero, Nat.mul_one, Nat.mod_eq_of_lt ho]
    · have ha2 : a * a ≤ 2999 * 2999 := Nat.mul_le_mul (by omega) (by omega)
      have hoa : o * a ≤ 2999 * 2999 := Nat.mul_le_mul (by omega) (by omega)
      have hp : 2 ^ (n + 1) = 2 * 2 ^ n := by rw [Nat.pow_succ, Nat.mul_comm]
      have e1 : wrap64 ((a : Int) * (a : Int)) = ((a * a : Nat) : Int) := by rw [← Int.natCast_mul]; exact wnat _ (by omega)
      have e2 : wrap64 ((o : Int) * (a : Int)) = ((o * a : Nat) : Int) := by rw [← Int.natCast_mul]; exact wnat _ (by omega)
      have e3 : wrap64 (Int.tdiv (e : Int) 2) = ((e / 2 : Nat) : Int) := by rw [show Int.tdiv (e : Int) 2 = ((e / 2 : Nat) : Int) from tdiv_nat e 2]; exact wnat _ (by omega)
      rw [if_pos (by omega), e1, e2, e3]
      rw [show Int.tmod ((a * a : Nat) : Int) 2999 = ((a * a % 2999 : Nat) : Int) from tmod_nat _ 2999, show Int.tmod ((o * a : Nat) : Int) 2999 = ((o * a % 2999 : Nat) : Int) from tmod_nat _ 2999, show Int.tmod (e : Int) 2 = ((e % 2 : Nat) : Int) from tmod_nat e 2]
      by_cases h1 : e % 2 = 1
      · rw [if_pos (by omega), ih k _ _ _ (by omega) (by omega) (Nat.mod_lt _ (by omega)) (Nat.mod_lt _ (by omega)) (by omega), pow_round1]
        rw [show 2 * (e / 2) + 1 = e by omega]
      · rw [if_neg (by omega), ih k _ _ _ (by omega) (by omega) (Nat.mod_lt _ (by omega)) ho (by omega), pow_round0]
        rw [show 2 * (e / 2) = e by omega]

theorem specPower_eq (a e : Nat) (ha : a < 2999) (he : e ≤ 1048576) (k : Nat) (hk : 21 < k) : spec_l2Power.f k (a : Int) (e : Int) = some ((pwm a e : Nat) : Int) := by
  have h := specPower_l0 21 k a e 1 (by omega) hk ha (by omega) (by omega)
  rw [Nat.one_mul] at h
  exact h

theorem implPower_l0 (n : Nat) : ∀ (k a e o : Nat), e < 2 ^ n → n < k → a < 2999 → o < 2999 → e ≤ 4294967296 → impl_power.l0 k (a : Int) (e : Int) (o : Int) = some ((o * a ^ e % 2999 : Nat) : Int) := by
  induction n with
  | zero =>
    intro k a e o he hk ha ho _
    obtain ⟨k, rfl⟩ := rounds hk
    have h0 : e = 0 := by omega
    subst h0
    simp only [impl_power.l0]
    rw [if_neg (by omega), Nat.pow_zero, Nat.mul_one, Nat.mod_eq_of_lt ho]
  | succ n ih =>
    intro k a e o he hk ha ho hm
    obtain ⟨k, rfl⟩ := rounds hk
    simp only [impl_power.l0]
    by_cases h0 : e = 0
    · subst h0
      rw [if_neg (by omega), Nat.pow_zero, Nat.mul_one, Nat.mod_eq_of_lt ho]
    · have ha2 : a * a ≤ 2999 * 2999 := Nat.mul_le_mul (by omega) (by omega)
      have hoa : o * a ≤ 2999 * 2999 := Nat.mul_le_mul (by omega) (by omega)
      have hp : 2 ^ (n + 1) = 2 * 2 ^ n := by rw [Nat.pow_succ, Nat.mul_comm]
      have e1 : wrap64 ((a : Int) * (a : Int)) = ((a * a : Nat) : Int) := by rw [← Int.natCast_mul]; exact wnat _ (by omega)
      have e2 : wrap64 ((o : Int) * (a : Int)) = ((o * a : Nat) : Int) := by rw [← Int.natCast_mul]; exact wnat _ (by omega)
      have e3 : wrap64 (Int.tdiv (e : Int) 2) = ((e / 2 : Nat) : Int) := by rw [show Int.tdiv (e : Int) 2 = ((e / 2 : Nat) : Int) from tdiv_nat e 2]; exact wnat _ (by omega)
      rw [if_pos (by omega), e1, e2, e3]
      rw [show Int.tmod ((a * a : Nat) : Int) 2999 = ((a * a % 2999 : Nat) : Int) from tmod_nat _ 2999, show Int.tmod ((o * a : Nat) : Int) 2999 = ((o * a % 2999 : Nat) : Int) from tmod_nat _ 2999, show Int.tmod (e : Int) 2 = ((e % 2 : Nat) : Int) from tmod_nat e 2]
      by_cases h1 : e % 2 = 1
      · rw [if_pos (by omega), ih k _ _ _ (by omega) (by omega) (Nat.mod_lt _ (by omega)) (Nat.mod_lt _ (by omega)) (by omega), pow_round1]
        rw [show 2 * (e / 2) + 1 = e by omega]
      · rw [if_neg (by omega), ih k _ _ _ (by omega) (by omega) (Nat.mod_lt _ (by omega)) ho (by omega), pow_round0]
        rw [show 2 * (e / 2) = e by omega]

theorem implPower_eq (a e : Nat) (ha : a < 2999) (he : e ≤ 1048576) (k : Nat) (hk : 21 < k) : impl_power.f k (a : Int) (e : Int) = some ((pwm a e : Nat) : Int) := by
  have h := implPower_l0 21 k a e 1 (by omega) hk ha (by omega) (by omega)
  rw [Nat.one_mul] at h
  exact h

/-- A member: a unit whose power by 1499 is 1. -/
def isMem (a : Int) : Bool := decide (1 ≤ a ∧ a ≤ 2998) && decide (pwm a.toNat 1499 = 1)

theorem specMember_eq (a : Int) (k : Nat) (hk : 21 < k) : spec_IsMember.f k a = some (isMem a) := by
  unfold spec_IsMember.f spec_l2Unit.f
  simp only [l1In_eq, Option.bind_some]
  by_cases h : 1 ≤ a ∧ a ≤ 2998
  · obtain ⟨n, rfl⟩ := Int.eq_ofNat_of_zero_le (show 0 ≤ a by omega)
    have h2 := specPower_eq n 1499 (by omega) (by omega) k hk
    rw [decide_eq_true h, if_pos rfl, show ((1499 : Int)) = ((1499 : Nat) : Int) from rfl, h2]
    simp only [Option.bind_some, isMem, decide_eq_true h, Bool.true_and, Int.toNat_natCast]
    congr 1
    rw [Bool.eq_iff_iff, beq_iff_eq, decide_eq_true_iff]
    omega
  · rw [decide_eq_false h, if_neg (by simp)]
    simp [isMem, h]

theorem implMember_eq (a : Int) (k : Nat) (hk : 21 < k) : impl_IsMember.f k a = some (isMem a) := by
  unfold impl_IsMember.f impl_isUnit.f
  simp only [within_eq, Option.bind_some]
  by_cases h : 1 ≤ a ∧ a ≤ 2998
  · obtain ⟨n, rfl⟩ := Int.eq_ofNat_of_zero_le (show 0 ≤ a by omega)
    have h2 := implPower_eq n 1499 (by omega) (by omega) k hk
    rw [decide_eq_true h, if_pos rfl, show ((1499 : Int)) = ((1499 : Nat) : Int) from rfl, h2]
    simp only [Option.bind_some, isMem, decide_eq_true h, Bool.true_and, Int.toNat_natCast]
    congr 1
    rw [Bool.eq_iff_iff, beq_iff_eq, decide_eq_true_iff]
    omega
  · rw [decide_eq_false h, if_neg (by simp)]
    simp [isMem, h]

theorem mem_range {a : Int} (h : isMem a = true) : 1 ≤ a ∧ a ≤ 2998 := by
  unfold isMem at h
  rw [Bool.and_eq_true, decide_eq_true_iff, decide_eq_true_iff] at h
  exact h.1

/-- A receipt that is as said. -/
def isRcp (a b c d : Int) : Bool := decide ((-1 ≤ a ∧ a ≤ 4) ∧ b = a + 1 ∧ (0 ≤ c ∧ c ≤ 1000) ∧ (0 ≤ d ∧ d ≤ 1498))
theorem specReceipt_eq (a b c d : Int) : spec_l11Receipt.f a b c d = some (isRcp a b c d) := by
  unfold spec_l11Receipt.f spec_l11Letter.f isRcp
  simp only [l1In_eq, Option.bind_some]
  by_cases h1 : -1 ≤ a ∧ a ≤ 4
  · rw [w64 (n := a + 1) (by omega) (by omega)]
    by_cases h2 : b = a + 1
    · by_cases h3 : 0 ≤ c ∧ c ≤ 1000
      · simp [h1, h2, h3]
      · simp [h1, h2, h3]
    · simp [h1, h2]
  · simp [h1]

theorem implReceipt_eq (a b c d : Int) : impl_isReceipt.f a b c d = some (isRcp a b c d) := by
  unfold impl_isReceipt.f impl_isPassed.f impl_isLetterNumber.f impl_isValue.f isRcp
  simp only [within_eq, Option.bind_some]
  by_cases h1 : -1 ≤ a ∧ a ≤ 4
  · rw [w64 (n := a + 1) (by omega) (by omega)]
    by_cases h2 : b = a + 1
    · by_cases h3 : 0 ≤ c ∧ c ≤ 1000
      · simp [h1, h2, h3]
      · simp [h1, h2, h3]
    · simp [h1, h2]
  · simp [h1]

theorem fits_same (p a b c d : Int) (hp : 1 ≤ p ∧ p ≤ 2998) (h : isRcp a b c d = true) (k : Nat) (hk : 21 < k) :
    ∃ r, spec_l11Check.f k p a b c d = some r ∧ impl_fits.f k p a b c d = some r := by
  unfold isRcp at h
  rw [decide_eq_true_iff] at h
  obtain ⟨ha, hb, hc, hd⟩ := h
  obtain ⟨q, rfl⟩ := Int.eq_ofNat_of_zero_le (show 0 ≤ p by omega)
  obtain ⟨s, rfl⟩ := Int.eq_ofNat_of_zero_le hd.1
  have hn := rcpNum_lt a c
  have h1 := specPower_eq 4 s (by omega) (by omega) k hk
  have h2 := implPower_eq 4 s (by omega) (by omega) k hk
  have h3 := specPower_eq q (rcpNum a c) (by omega) (by omega) k hk
  have h4 := implPower_eq q (rcpNum a c) (by omega) (by omega) k hk
  unfold spec_l11Check.f impl_fits.f spec_l11Number.f impl_numberOf.f
  rw [number_eq a c ha hc, show (4 : Int) = ((4 : Nat) : Int) from rfl, h1, h2]
  simp only [Option.bind_some]
  rw [h3, h4]
  exact ⟨_, rfl, rfl⟩

/-- Does the receipt fit who has the public number p? -/
def fitsB (p a c d : Int) : Bool := decide (pwm 4 d.toNat = pwm p.toNat (rcpNum a c))

theorem specFits_eq (p a b c d : Int) (hp : 1 ≤ p ∧ p ≤ 2998) (h : isRcp a b c d = true) (k : Nat) (hk : 21 < k) : spec_l11Check.f k p a b c d = some (fitsB p a c d) := by
  unfold isRcp at h
  rw [decide_eq_true_iff] at h
  obtain ⟨ha, hb, hc, hd⟩ := h
  obtain ⟨q, rfl⟩ := Int.eq_ofNat_of_zero_le (show 0 ≤ p by omega)
  obtain ⟨s, rfl⟩ := Int.eq_ofNat_of_zero_le hd.1
  have hn := rcpNum_lt a c
  have h1 := specPower_eq 4 s (by omega) (by omega) k hk
  have h3 := specPower_eq q (rcpNum a c) (by omega) (by omega) k hk
  unfold spec_l11Check.f spec_l11Number.f fitsB
  rw [number_eq a c ha hc, show (4 : Int) = ((4 : Nat) : Int) from rfl, h1]
  simp only [Option.bind_some]
  rw [h3]
  simp only [Option.bind_some, Int.toNat_natCast]
  congr 1
  rw [Bool.eq_iff_iff, beq_iff_eq, decide_eq_true_iff]
  omega

theorem implFits_eq (p a b c d : Int) (hp : 1 ≤ p ∧ p ≤ 2998) (h : isRcp a b c d = true) (k : Nat) (hk : 21 < k) : impl_fits.f k p a b c d = some (fitsB p a c d) := by
  unfold isRcp at h
  rw [decide_eq_true_iff] at h
  obtain ⟨ha, hb, hc, hd⟩ := h
  obtain ⟨q, rfl⟩ := Int.eq_ofNat_of_zero_le (show 0 ≤ p by omega)
  obtain ⟨s, rfl⟩ := Int.eq_ofNat_of_zero_le hd.1
  have hn := rcpNum_lt a c
  have h1 := implPower_eq 4 s (by omega) (by omega) k hk
  have h3 := implPower_eq q (rcpNum a c) (by omega) (by omega) k hk
  unfold impl_fits.f impl_numberOf.f fitsB
  rw [number_eq a c ha hc, show (4 : Int) = ((4 : Nat) : Int) from rfl, h1]
  simp only [Option.bind_some]
  rw [h3]
  simp only [Option.bind_some, Int.toNat_natCast]
  congr 1
  rw [Bool.eq_iff_iff, beq_iff_eq, decide_eq_true_iff]
  omega

theorem specAll_l0 (l : List Int) (hl : l.length ≤ 1048576) (a b : Int) : ∀ (d k i : Nat), l.length - i = d → d < k → i ≤ l.length → spec_l1All.l0 k a b l (l.length : Int) (i : Int) = some (decide (∀ x ∈ l.drop i, a ≤ x ∧ x ≤ b)) := by
  intro d
  induction d with
  | zero =>
    intro k i hd hk hi
    obtain ⟨k, rfl⟩ := rounds hk
    simp only [spec_l1All.l0]
    rw [if_neg (by omega), List.drop_of_length_le (by omega)]
    simp
  | succ d ih =>
    intro k i hd hk hi
    obtain ⟨k, rfl⟩ := rounds hk
    have hlt : i < l.length := by omega
    simp only [spec_l1All.l0]
    rw [if_pos (by omega), if_pos (by omega), if_pos (by omega), rd_in l i hlt, w64 (by omega) (by omega), l1In_eq]
    simp only [Option.bind_some]
    have hdrop := List.drop_eq_getElem_cons hlt
    by_cases e : a ≤ l[i] ∧ l[i] ≤ b
    · have h := ih k (i + 1) (by omega) (by omega) (by omega)
      rw [decide_eq_true e, if_pos rfl]
      refine Eq.trans h ?_
      congr 1
      refine decide_eq_decide.2 ?_
      rw [hdrop]
      simp only [List.mem_cons, forall_eq_or_imp]
      exact ⟨fun h => ⟨e, h⟩, fun h => h.2⟩
    · rw [decide_eq_false e, if_neg (by simp)]
      congr 1
      refine (decide_eq_false (fun h => e (h l[i] (by rw [hdrop]; exact List.mem_cons_self)))).symm

theorem specAll_eq (l : List Int) (hl : l.length ≤ 1048576) (a b : Int) (k : Nat) (hk : l.length < k) : spec_l1All.f k l a b = some (decide (∀ x ∈ l, a ≤ x ∧ x ≤ b)) := by
  have h := specAll_l0 l hl a b l.length k 0 (by omega) hk (by omega)
  rw [List.drop_zero] at h
  exact h

def areSec (l : List Int) (n : Int) : Bool := decide (1 ≤ (l.length : Int) ∧ (l.length : Int) ≤ n) && decide (∀ x ∈ l, 1 ≤ x ∧ x ≤ 1498)
theorem specSecrets_eq (l : List Int) (hl : l.length ≤ 1048576) (k : Nat) (hk : l.length < k) : spec_l11Secrets.f k l = some (areSec l 6) := by
  unfold spec_l11Secrets.f areSec
  rw [l1In_eq, specAll_eq l hl 1 1498 k hk]
  simp only [Option.bind_some]
  by_cases h : 1 ≤ (l.length : Int) ∧ (l.length : Int) ≤ 6 <;> simp [h]
theorem areSec_true {l : List Int} {n : Int} (h : areSec l n = true) : 1 ≤ (l.length : Int) ∧ (l.length : Int) ≤ n ∧ ∀ x ∈ l, 1 ≤ x ∧ x ≤ 1498 := by
  unfold areSec at h
  rw [Bool.and_eq_true, decide_eq_true_iff, decide_eq_true_iff] at h
  exact ⟨h.1.1, h.1.2, h.2⟩

/-- A receipt that is signed. -/
def sgn (s : Int) (h : Nat) (letter : Int) : S36 := ⟨(h : Int) - 1, (h : Int), letter, ((rcpNum ((h : Int) - 1) letter * s.toNat % 1499 : Nat) : Int)⟩
def rcps (l : List Int) (letter : Int) (m : Nat) : List S36 := (List.range m).map fun h => sgn (l.getD h 0) h letter
theorem rcps_length (l : List Int) (letter : Int) (m : Nat) : (rcps l letter m).length = m := by simp [rcps]
theorem rcps_snoc (l : List Int) (letter : Int) (m : Nat) (h : m < l.length) : rcps l letter (m + 1) = rcps l letter m ++ [sgn l[m] m letter] := by
  unfold rcps
  rw [List.range_succ, List.map_append, List.map_singleton, getD_in l 0 m h]
theorem firsts_snoc (m : Nat) : firsts (m + 1) = firsts m ++ [(m : Int)] := by
  unfold firsts
  rw [List.range_succ, List.map_append, List.map_singleton]

theorem sign_val (s : Int) (h : Nat) (letter : Int) (hs : 1 ≤ s ∧ s ≤ 1498) : Int.tmod (wrap64 (((rcpNum ((h : Int) - 1) letter : Nat) : Int) * s)) 1499 = ((rcpNum ((h : Int) - 1) letter * s.toNat % 1499 : Nat) : Int) := by
  have hn := rcpNum_lt ((h : Int) - 1) letter
  obtain ⟨q, rfl⟩ := Int.eq_ofNat_of_zero_le (show 0 ≤ s by omega)
  have hb : rcpNum ((h : Int) - 1) letter * q ≤ 1499 * 1499 := Nat.mul_le_mul (by omega) (by omega)
  rw [← Int.natCast_mul, wnat _ (by omega), Int.toNat_natCast]
  exact tmod_nat _ 1499

theorem specSign_eq (s : Int) (h : Nat) (letter : Int) (hh : h ≤ 5) (hs : 1 ≤ s ∧ s ≤ 1498) (hl : 0 ≤ letter ∧ letter ≤ 1000) :
    spec_l11Sign.f s ((h : Int) - 1) letter = some ((sgn s h letter).f0, (sgn s h letter).f1, (sgn s h letter).f2, (sgn s h letter).f3) := by
  unfold spec_l11Sign.f spec_l11Number.f sgn
  rw [number_eq _ letter (by omega) hl]
  simp only [Option.bind_some]
  rw [sign_val s h letter hs, w64 (by omega) (by omega), show (h : Int) - 1 + 1 = (h : Int) by omega]
theorem specTrip_l1 (l : List Int) (hl : l.length ≤ 6) (hs : ∀ x ∈ l, 1 ≤ x ∧ x ≤ 1498) (letter : Int) (hle : 0 ≤ letter ∧ letter ≤ 1000) (at_ : Nat) (ha : at_ < l.length) (loses : Int)
    (hlo : loses = (at_ : Int) ∨ loses = -1 ∧ at_ + 1 = l.length) (hands : List Int) :
    ∀ k, at_ + 1 < k → spec_RunTrip.l1 k letter loses l (l.length : Int) 0 hands letter 0 [] loses = some (hands, letter, (at_ : Int), rcps l letter (at_ + 1), loses, true) := by
  intro k hk
  have h := loop_up (fun k (x : Int × Int × List S36) => spec_RunTrip.l1 k letter loses l (l.length : Int) x.1 hands letter x.2.1 x.2.2 loses) at_ 1
    (fun i => ((i : Int), ((i - 1 : Nat) : Int), rcps l letter i)) (hands, letter, (at_ : Int), rcps l letter (at_ + 1), loses, true) (fun i k hi _ => by
    have hi2 : i < l.length := by omega
    simp only [spec_RunTrip.l1]
    rw [if_pos (by omega), if_pos (by omega), if_pos (by omega), w64 (n := (i : Int) + 1) (by omega) (by omega), w64 (n := (i : Int) - 1) (by omega) (by omega), rd_in l i hi2, specSign_eq _ i letter (by omega) (hs _ (List.getElem_mem hi2)) hle]
    simp only [Option.bind_some]
    rw [if_pos (by rw [rcps_length]; omega), if_neg (by omega), rcps_snoc l letter i hi2]
    rfl) (fun k hB => by
    simp only [spec_RunTrip.l1]
    rw [if_pos (by omega), if_pos (by omega), if_pos (by omega), w64 (n := (at_ : Int) + 1) (by omega) (by omega), w64 (n := (at_ : Int) - 1) (by omega) (by omega), rd_in l at_ ha, specSign_eq _ at_ letter (by omega) (hs _ (List.getElem_mem ha)) hle]
    simp only [Option.bind_some]
    rw [if_pos (by rw [rcps_length]; omega)]
    rcases hlo with h1 | h1
    · rw [if_pos h1.symm, rcps_snoc l letter at_ ha]
    · rw [if_neg (by omega)]
      obtain ⟨k, rfl⟩ := rounds (show 0 < k by omega)
      rw [spec_RunTrip.l1, if_neg (by omega), rcps_snoc l letter at_ ha]) k hk
  exact h

theorem specTrip_l0 (l : List Int) (hl : l.length ≤ 6) (hs : ∀ x ∈ l, 1 ≤ x ∧ x ≤ 1498) (letter : Int) (hle : 0 ≤ letter ∧ letter ≤ 1000) (at_ : Nat) (ha : at_ < l.length) (loses : Int)
    (hlo : loses = (at_ : Int) ∨ loses = -1 ∧ at_ + 1 = l.length) :
    ∀ k, l.length + 10 < k → spec_RunTrip.l0 k l letter loses (l.length : Int) 0 [] letter 0 loses = some (firsts l.length, letter, (at_ : Int), rcps l letter (at_ + 1), loses, true) := by
  intro k hk
  have h := loop_up (fun k (x : Int × List Int) => spec_RunTrip.l0 k l letter loses (l.length : Int) x.1 x.2 letter 0 loses) l.length 10
    (fun i => ((i : Int), firsts i)) (firsts l.length, letter, (at_ : Int), rcps l letter (at_ + 1), loses, true) (fun i k hi _ => by
    simp only [spec_RunTrip.l0]
    rw [if_pos (by omega), if_pos (by rw [firsts_length]; omega), w64 (n := (i : Int) + 1) (by omega) (by omega), ← firsts_snoc]
    rfl) (fun k hB => by
    simp only [spec_RunTrip.l0]
    rw [if_neg (by omega)]
    exact specTrip_l1 l hl hs letter hle at_ ha loses hlo _ k (by omega)) k hk
  exact h

theorem specRun_tot (l : List Int) (hl : l.length ≤ 1048576) (letter loses : Int) : Tot (fun k => spec_RunTrip.f k l letter loses) (fun y => y.1.length ≤ 6 ∧ y.2.2.2.1.length ≤ 6) := by
  have bad : Tot (fun k => spec_RunTrip.j0 k l letter loses true) (fun y => y.1.length ≤ 6 ∧ y.2.2.2.1.length ≤ 6) := by
    refine Tot.up ?_
    simp only [spec_RunTrip.j0, if_true]
    exact Tot.some_ ⟨by simp, by simp⟩
  simp only [spec_RunTrip.f]
  refine Tot.bind (Q := fun y => y = areSec l 6) (Tot.at_ (l.length + 1) rfl (fun k hk => specSecrets_eq l hl k (by omega))) (fun y hy => ?_)
  subst hy
  refine Tot.ite (fun h => ?_) (fun _ => bad)
  obtain ⟨h1, h2, h3⟩ := areSec_true h
  simp only [spec_l11Letter.f, l1In_eq, Option.bind_some]
  refine Tot.ite (fun hle => ?_) (fun _ => bad)
  rw [decide_eq_true_iff] at hle
  by_cases hlo : -1 ≤ loses ∧ loses ≤ (l.length : Int) - 1
  · obtain ⟨at_, ha, hat⟩ : ∃ a : Nat, a < l.length ∧ (loses = (a : Int) ∨ loses = -1 ∧ a + 1 = l.length) := by
      by_cases h0 : loses ≥ 0
      · exact ⟨loses.toNat, by omega, .inl (by omega)⟩
      · exact ⟨l.length - 1, by omega, .inr (by omega)⟩
    rw [w64 (n := (l.length : Int) - 1) (by omega) (by omega), decide_eq_true hlo]
    refine Tot.up ?_
    simp only [spec_RunTrip.j0, Bool.not_true, Bool.false_eq_true, if_false]
    refine Tot.at_ (l.length + 11) ?_ (fun k hk => specTrip_l0 l (by omega) h3 letter hle at_ ha loses hat k (by omega))
    exact ⟨by rw [firsts_length]; omega, by rw [rcps_length]; omega⟩
  · rw [w64 (n := (l.length : Int) - 1) (by omega) (by omega), decide_eq_false hlo]
    exact bad

theorem l1Has_l0 (l : List Int) (hl : l.length ≤ 1048576) (v : Int) : ∀ (d k i : Nat), l.length - i = d → d < k → i ≤ l.length → spec_l1Has.l0 k v l (l.length : Int) (i : Int) = some (decide (v ∈ l.drop i)) := by
  intro d
  induction d with
  | zero =>
    intro k i hd hk hi
    obtain ⟨k, rfl⟩ := rounds hk
    simp only [spec_l1Has.l0]
    rw [if_neg (by omega), List.drop_of_length_le (by omega)]
    simp
  | succ d ih =>
    intro k i hd hk hi
    obtain ⟨k, rfl⟩ := rounds hk
    simp only [spec_l1Has.l0]
    rw [if_pos (by omega), if_pos (by omega), if_pos (by omega), rd_in l i (by omega), w64 (by omega) (by omega), List.drop_eq_getElem_cons (show i < l.length by omega)]
    by_cases e : l[i] = v
    · rw [if_pos e]
      simp [e]
    · have h := ih k (i + 1) (by omega) (by omega) (by omega)
      rw [if_neg e]
      have h' : spec_l1Has.l0 k v l (l.length : Int) ((i : Int) + 1) = some (decide (v ∈ l.drop (i + 1))) := h
      rw [h']
      congr 1
      refine decide_eq_decide.2 ?_
      rw [List.mem_cons]
      exact ⟨fun h => .inr h, fun h => h.resolve_left (fun h => e h.symm)⟩

theorem l1Has_eq (l : List Int) (hl : l.length ≤ 1048576) (v : Int) (k : Nat) (hk : l.length < k) : spec_l1Has.f k l v = some (decide (v ∈ l)) := by
  have h := l1Has_l0 l hl v l.length k 0 (by omega) hk (by omega)
  rw [List.drop_zero] at h
  exact h

theorem index_l0 (l : List Int) (hl : l.length ≤ 1048576) (v : Int) : ∀ (d k i : Nat), l.length - i = d → d < k → i ≤ l.length → ∃ r, slices_Index_int_int.l0 k l v (l.length : Int) (i : Int) = some r ∧ (r ≥ 0 ↔ v ∈ l.drop i) := by
  intro d
  induction d with
  | zero =>
    intro k i hd hk hi
    obtain ⟨k, rfl⟩ := rounds hk
    refine ⟨-1, ?_, ?_⟩
    · simp only [slices_Index_int_int.l0]
      rw [if_neg (by omega)]
    · rw [List.drop_of_length_le (by omega)]
      simp
  | succ d ih =>
    intro k i hd hk hi
    obtain ⟨k, rfl⟩ := rounds hk
    simp only [slices_Index_int_int.l0]
    rw [if_pos (by omega), if_pos (by omega), if_pos (by omega), rd_in l i (by omega), w64 (by omega) (by omega)]
    have hdrop := List.drop_eq_getElem_cons (show i < l.length by omega)
    by_cases e : v = l[i]
    · exact ⟨i, by rw [if_pos e], by rw [hdrop, ← e]; simp⟩
    · obtain ⟨r, hr, h⟩ := ih k (i + 1) (by omega) (by omega) (by omega)
      refine ⟨r, by rw [if_neg e]; exact hr, ?_⟩
      rw [h, hdrop, List.mem_cons]
      exact ⟨fun h => .inr h, fun h => h.resolve_left e⟩

theorem contains_eq (l : List Int) (hl : l.length ≤ 1048576) (v : Int) (k : Nat) (hk : l.length < k) : slices_Contains_int_int.f k l v = some (decide (v ∈ l)) := by
  obtain ⟨r, hr, h⟩ := index_l0 l hl v l.length k 0 (by omega) hk (by omega)
  unfold slices_Contains_int_int.f slices_Index_int_int.f
  have hr' : slices_Index_int_int.l0 k l v (l.length : Int) 0 = some r := hr
  rw [hr']
  simp only [Option.bind_some]
  rw [List.drop_zero] at h
  congr 1
  exact decide_eq_decide.2 h

theorem proof_l0 (l : List S36) (hl : l.length ≤ 1048576) (v : Int) : ∀ (d k i : Nat) (out : List S36), l.length - i = d → d < k → i ≤ l.length → out.length ≤ i →
    ∃ r : List S36, r.length ≤ l.length ∧ spec_ProofFor.l0 k v out l (l.length : Int) (i : Int) = some (r, true) ∧ impl_ProofFor.l0 k v out l (l.length : Int) (i : Int) = some (r, true) := by
  intro d
  induction d with
  | zero =>
    intro k i out hd hk hi ho
    obtain ⟨k, rfl⟩ := rounds hk
    refine ⟨out, by omega, ?_, ?_⟩
    · simp only [spec_ProofFor.l0]
      rw [if_neg (by omega)]
    · simp only [impl_ProofFor.l0]
      rw [if_neg (by omega)]
  | succ d ih =>
    intro k i out hd hk hi ho
    obtain ⟨k, rfl⟩ := rounds hk
    by_cases e : (rd_T36 l (i : Int)).f0 = v
    · obtain ⟨r, h0, h1, h2⟩ := ih k (i + 1) (out ++ [⟨(rd_T36 l (i : Int)).f0, (rd_T36 l (i : Int)).f1, (rd_T36 l (i : Int)).f2, (rd_T36 l (i : Int)).f3⟩]) (by omega) (by omega) (by omega) (by simp; omega)
      refine ⟨r, h0, ?_, ?_⟩
      · simp only [spec_ProofFor.l0]
        rw [if_pos (by omega), if_pos (by omega), if_pos (by omega), if_pos e, if_pos (by omega), w64 (by omega) (by omega)]
        exact h1
      · simp only [impl_ProofFor.l0]
        rw [if_pos (by omega), if_pos (by omega), if_pos (by omega), if_pos e, if_pos (by omega), w64 (by omega) (by omega)]
        exact h2
    · obtain ⟨r, h0, h1, h2⟩ := ih k (i + 1) out (by omega) (by omega) (by omega) (by omega)
      refine ⟨r, h0, ?_, ?_⟩
      · simp only [spec_ProofFor.l0]
        rw [if_pos (by omega), if_pos (by omega), if_pos (by omega), if_neg e, w64 (by omega) (by omega)]
        exact h1
      · simp only [impl_ProofFor.l0]
        rw [if_pos (by omega), if_pos (by omega), if_pos (by omega), if_neg e, w64 (by omega) (by omega)]
        exact h2

theorem proof_same (hs : List Int) (hl : hs.length ≤ 1048576) (a b : Int) (l : List S36) (hr : l.length ≤ 1048576) (c v : Int) :
    ∃ (r : List S36) (o : Bool) (k0 : Nat), r.length ≤ 1048576 ∧ spec_ProofFor.f k0 hs a b l c v = some (r, o) ∧ impl_ProofFor.f k0 hs a b l c v = some (r, o) := by
  obtain ⟨K, hK⟩ := some_nat (hs.length + l.length + 1)
  unfold spec_ProofFor.f impl_ProofFor.f
  by_cases h : v ∈ hs
  · obtain ⟨r, h0, h1, h2⟩ := proof_l0 l hr v l.length K 0 [] (by omega) (by omega) (by omega) (by simp)
    refine ⟨r, true, K, by omega, ?_, ?_⟩
    · rw [l1Has_eq hs hl v K (by omega), decide_eq_true h]
      exact h1
    · rw [contains_eq hs hl v K (by omega), decide_eq_true h]
      exact h2
  · refine ⟨[], false, K, by simp, ?_, ?_⟩
    · rw [l1Has_eq hs hl v K (by omega), decide_eq_false h]
      rfl
    · rw [contains_eq hs hl v K (by omega), decide_eq_false h]
      rfl

def checkV (p a b c d : Int) : Bool × Bool := if isMem p = true ∧ isRcp a b c d = true then (fitsB p a c d, true) else (false, false)
theorem specCheck_eq (p a b c d : Int) (k : Nat) (hk : 21 < k) : spec_CheckReceipt.f k p a b c d = some (checkV p a b c d) := by
  unfold spec_CheckReceipt.f checkV
  rw [specMember_eq p k hk, specReceipt_eq]
  simp only [Option.bind_some]
  by_cases h1 : isMem p = true
  · by_cases h2 : isRcp a b c d = true
    · rw [if_pos h1, if_pos h2, specFits_eq p a b c d (mem_range h1) h2 k hk, if_pos ⟨h1, h2⟩]
      rfl
    · rw [if_pos h1, if_neg h2, if_neg (fun h => h2 h.2)]
  · rw [if_neg h1, if_neg (fun h => h1 h.1)]
theorem implCheck_eq (p a b c d : Int) (k : Nat) (hk : 21 < k) : impl_CheckReceipt.f k p a b c d = some (checkV p a b c d) := by
  unfold impl_CheckReceipt.f checkV
  rw [implMember_eq p k hk, implReceipt_eq]
  simp only [Option.bind_some]
  by_cases h1 : isMem p = true
  · by_cases h2 : isRcp a b c d = true
    · rw [if_pos h1, if_pos h2, implFits_eq p a b c d (mem_range h1) h2 k hk, if_pos ⟨h1, h2⟩]
      rfl
    · rw [if_pos h1, if_neg h2, if_neg (fun h => h2 h.2)]
  · rw [if_neg h1, if_neg (fun h => h1 h.1)]
theorem four_isMem (s : Nat) : isMem ((pwm 4 s : Nat) : Int) = true := by
  have h := mem_four.pow s
  have h1 := h.pos
  have h2 := h.lt
  unfold isMem
  rw [Bool.and_eq_true, decide_eq_true_iff, decide_eq_true_iff]
  exact ⟨by omega, h.2⟩
theorem public_eq (s : Int) (hs : 1 ≤ s ∧ s ≤ 1498) (k : Nat) (hk : 21 < k) : impl_PublicFor.f k s = some (((pwm 4 s.toNat : Nat) : Int), true) := by
  obtain ⟨q, rfl⟩ := Int.eq_ofNat_of_zero_le (show 0 ≤ s by omega)
  unfold impl_PublicFor.f impl_isSecret.f
  rw [within_eq]
  simp only [Option.bind_some]
  rw [decide_eq_true hs, if_pos rfl, show (4 : Int) = ((4 : Nat) : Int) from rfl, implPower_eq 4 q (by omega) (by omega) k hk]
  rfl
theorem signed_fits (s a c : Int) : pwm 4 (sigV s a c) = pwm (pwm 4 s.toNat) (rcpNum a c) := by
  unfold sigV
  rw [pwm_mod mem_four, pwm_mul, Nat.mul_comm]
theorem signed_ok {s a b c : Int} (h : signOk s a b c) : checkV ((pwm 4 s.toNat : Nat) : Int) a (a + 1) c ((sigV s a c : Nat) : Int) = (true, true) := by
  have h1 : sigV s a c < 1499 := Nat.mod_lt _ (by omega)
  obtain ⟨h2, h3, h4, h5⟩ := h
  unfold checkV
  rw [if_pos ⟨four_isMem _, by unfold isRcp; rw [decide_eq_true_iff]; exact ⟨h3, rfl, h5, by omega⟩⟩]
  unfold fitsB
  rw [Int.toNat_natCast, Int.toNat_natCast, decide_eq_true (signed_fits s a c)]
theorem signed_not {s a b c n : Int} (h : signOk s a b c) (hn : 0 ≤ n ∧ n ≤ 1497) : checkV ((pwm 4 s.toNat : Nat) : Int) a (a + 1) c (Int.tmod (wrap64 (wrap64 (((sigV s a c : Nat) : Int) + 1) + n)) 1499) = (false, true) := by
  have h1 : sigV s a c < 1499 := Nat.mod_lt _ (by omega)
  obtain ⟨h2, h3, h4, h5⟩ := h
  rw [w64 (n := ((sigV s a c : Nat) : Int) + 1) (by omega) (by omega), w64 (by omega) (by omega), Int.tmod_eq_emod_of_nonneg (by omega)]
  obtain ⟨n, rfl⟩ := Int.eq_ofNat_of_zero_le hn.1
  have e : (((sigV s a c : Nat) : Int) + 1 + (n : Int)) % 1499 = (((sigV s a c + 1 + n) % 1499 : Nat) : Int) := by omega
  rw [e]
  unfold checkV
  rw [if_pos ⟨four_isMem _, by unfold isRcp; rw [decide_eq_true_iff]; exact ⟨h3, rfl, h5, by omega⟩⟩]
  unfold fitsB
  rw [Int.toNat_natCast, Int.toNat_natCast, ← signed_fits s a c, decide_eq_false]
  intro e2
  have h6 := four_inj (Nat.mod_lt _ (by omega)) h1 e2
  omega
theorem number_tot (l : List Int) (hl : Bytes l) : Tot (fun k => laws_numberOf.f k l) (fun y => 0 ≤ y ∧ y < 1000003) := by
  have h1 := hl.1
  have key : ∀ (d i : Nat) (x : Int), l.length - i = d → i ≤ l.length → 0 ≤ x ∧ x < 1000003 → Tot (fun k => laws_numberOf.l0 k x l (l.length : Int) (i : Int)) (fun y => 0 ≤ y ∧ y < 1000003) := by
    intro d
    induction d with
    | zero =>
      intro i x hd hi hx
      refine Tot.up ?_
      simp only [laws_numberOf.l0]
      exact Tot.neg (by omega) (Tot.some_ hx)
    | succ d ih =>
      intro i x hd hi hx
      have hb := hl.2 _ (rd_mem l i (by omega))
      refine Tot.up ?_
      simp only [laws_numberOf.l0]
      refine Tot.pos (by omega) (Tot.pos (by omega) (Tot.pos (by omega) ?_))
      rw [w64 (n := 31 * x) (by omega) (by omega), w64 (n := rd l (i : Int)) (by omega) (by omega), w64 (n := 31 * x + rd l (i : Int)) (by omega) (by omega), w64 (n := (i : Int) + 1) (by omega) (by omega), Int.tmod_eq_emod_of_nonneg (by omega)]
      exact ih (i + 1) _ (by omega) (by omega) (by omega)
  simp only [laws_numberOf.f]
  exact key l.length 0 0 (by omega) (by omega) (by omega)
theorem drawSign_tot (l : List Int) (hl : Bytes l) : ∃ y, spec_DrawSignFor.f l = some y ∧ True := by
  unfold spec_DrawSignFor.f
  obtain ⟨⟨b1, p1, h1⟩, e1, _, _, a1, c1⟩ := pick_tot l hl 0 0 7 (by omega) (by omega)
  simp only at a1 c1
  rw [e1]
  simp only [Option.bind_some]
  obtain ⟨⟨b2, p2, h2⟩, e2, a2, c2⟩ := secret_tot l hl p1 h1 (by omega)
  simp only at a2 c2
  rw [e2]
  simp only [Option.bind_some]
  obtain ⟨⟨b3, p3, h3⟩, e3, _, _, a3, c3⟩ := pick_tot l hl p2 h2 9 (by omega) (by omega)
  simp only at a3 c3
  rw [e3]
  simp only [Option.bind_some]
  obtain ⟨⟨b4, p4, h4⟩, e4, _, a4, c4⟩ := among_tot l hl p3 h3 [(-1), 0, 5, 1000, 1001] (by omega) (by simp) (by simp)
  rw [e4]
  exact ⟨_, rfl, trivial⟩
theorem specPublic_tot (s : Int) : Tot (fun k => spec_PublicFor.f k s) (fun _ => True) := by
  simp only [spec_PublicFor.f, spec_l2Secret.f, l1In_eq, Option.bind_some]
  refine Tot.ite (fun h => ?_) (fun _ => Tot.some_ trivial)
  rw [decide_eq_true_iff] at h
  obtain ⟨q, rfl⟩ := Int.eq_ofNat_of_zero_le (show 0 ≤ s by omega)
  refine Tot.bind (Q := fun _ => True) (Tot.at_ (y := ((pwm 4 q : Nat) : Int)) 22 trivial (fun k hk => ?_)) (fun _ _ => Tot.some_ trivial)
  exact specPower_eq 4 q (by omega) (by omega) k (by omega)
theorem drawCheck_tot (l : List Int) (hl : Bytes l) : Tot (fun k => spec_DrawCheckReceipt.f k l) (fun _ => True) := by
  have hj : ∀ (v p h a b c d : Int), 0 ≤ p ∧ p ≤ 1073741824 → Tot (fun k => spec_DrawCheckReceipt.j0 k v l p h a b c d) (fun _ => True) := by
    intro v p h a b c d hp
    refine Tot.up ?_
    simp only [spec_DrawCheckReceipt.j0]
    refine Tot.bind (Tot.fix (pick_tot l hl p h 6 (by omega) (by omega))) (fun y hy => ?_)
    refine Tot.ite (fun _ => ?_) (fun _ => Tot.ite (fun _ => Tot.some_ trivial) (fun _ => Tot.some_ trivial))
    exact Tot.bind (Tot.fix (among_tot l hl _ _ _ (by omega) (by simp) (by simp))) (fun z hz => Tot.some_ trivial)
  simp only [spec_DrawCheckReceipt.f]
  refine Tot.bind (Tot.fix (secret_tot l hl 0 0 (by omega))) (fun y1 h1 => ?_)
  refine Tot.bind (specPublic_tot _) (fun y2 _ => ?_)
  refine Tot.bind (Tot.fix (pick_tot l hl _ _ 4 (by omega) (by omega))) (fun y3 h3 => ?_)
  refine Tot.bind (Tot.fix (pick_tot l hl _ _ 9 (by omega) (by omega))) (fun y4 h4 => ?_)
  refine Tot.bind (Q := fun _ => True) (Tot.fix ⟨_, specSignFor_eq _ _ _ _, trivial⟩) (fun y5 _ => ?_)
  refine Tot.bind (Tot.fix (pick_tot l hl _ _ 4 (by omega) (by omega))) (fun y6 h6 => ?_)
  refine Tot.bind (Tot.fix (pick_tot l hl _ _ 9 (by omega) (by omega))) (fun y7 h7 => ?_)
  refine Tot.bind (Q := fun _ => True) (Tot.fix ⟨_, specSignFor_eq _ _ _ _, trivial⟩) (fun y8 _ => ?_)
  exact Tot.ite (fun _ => hj _ _ _ _ _ _ _ (by omega)) (fun _ => hj _ _ _ _ _ _ _ (by omega))
theorem drawRun_tot (l : List Int) (hl : Bytes l) : Tot (fun k => spec_DrawRunTrip.f k l) (fun y => y.1.length ≤ 5) := by
  simp only [spec_DrawRunTrip.f]
  refine Tot.bind (handSecrets_tot l hl 0 0 (by omega)) (fun y1 h1 => ?_)
  refine Tot.bind (Tot.fix (among_tot l hl _ _ _ (by omega) (by simp) (by simp))) (fun y2 h2 => ?_)
  refine Tot.bind (Tot.fix (pick_tot l hl _ _ _ (by omega) (by rw [w64 (by omega) (by omega)]; omega))) (fun y3 h3 => Tot.some_ (by simp only; omega))
theorem drawProof_tot (l : List Int) (hl : Bytes l) : Tot (fun k => spec_DrawProofFor.f k l) (fun y => y.1.length ≤ 6 ∧ y.2.2.2.1.length ≤ 6) := by
  simp only [spec_DrawProofFor.f]
  refine Tot.bind (drawRun_tot l hl) (fun y1 h1 => ?_)
  refine Tot.bind (specRun_tot y1.1 (by omega) _ _) (fun y2 h2 => ?_)
  refine Tot.bind (Tot.fix (pick_tot l hl _ _ _ (by omega) (by rw [w64 (by omega) (by omega)]; omega))) (fun y3 h3 => Tot.some_ h2)
theorem sameReceipts_self (l : List S36) (hl : l.length ≤ 1048576) : Tot (fun k => laws_sameReceipts.f k l l) (fun y => y = true) := by
  have h := fun k hk => loop_up (fun k (x : Int) => laws_sameReceipts.l0 k l l (l.length : Int) x) l.length 0 (fun i => (i : Int)) true (fun i k hi _ => by
    simp only [laws_sameReceipts.l0]
    rw [if_pos (by omega), if_pos (by omega), if_pos (by omega), if_pos (by omega), if_neg (by simp), w64 (by omega) (by omega)]
    rfl) (fun k _ => by
    simp only [laws_sameReceipts.l0]
    rw [if_neg (by omega)]) k hk
  simp only [laws_sameReceipts.f]
  exact Tot.pos trivial (Tot.at_ (l.length + 1) rfl (fun k hk => h k (by omega)))
theorem law_j2 (l : List Int) (hl : Bytes l) : Tot (fun k => laws_FnReceipts.j2 k l) (fun y => y = true) := by
  refine Tot.up ?_
  simp only [laws_FnReceipts.j2]
  refine Tot.bind (drawCheck_tot l hl) (fun y1 _ => ?_)
  refine Tot.bind (Q := fun y => y = checkV y1.1 y1.2.1 y1.2.2.1 y1.2.2.2.1 y1.2.2.2.2) (Tot.at_ 22 rfl (fun k hk => implCheck_eq _ _ _ _ _ k (by omega))) (fun y2 h2 => ?_)
  refine Tot.bind (Q := fun y => y = checkV y1.1 y1.2.1 y1.2.2.1 y1.2.2.2.1 y1.2.2.2.2) (Tot.at_ 22 rfl (fun k hk => specCheck_eq _ _ _ _ _ k (by omega))) (fun y3 h3 => ?_)
  rw [h2, h3]
  refine Tot.bind (drawProof_tot l hl) (fun y4 h4 => ?_)
  obtain ⟨r, o, k0, hr, h5, h6⟩ := proof_same y4.1 (by omega) y4.2.1 y4.2.2.1 y4.2.2.2.1 (by omega) y4.2.2.2.2.1 y4.2.2.2.2.2
  refine Tot.bind (Q := fun y => y = (r, o)) (Tot.stay (impl_ProofFor.mono _ _ _ _ _ _) h6 rfl) (fun y5 e5 => ?_)
  refine Tot.bind (Q := fun y => y = (r, o)) (Tot.stay (spec_ProofFor.mono _ _ _ _ _ _) h5 rfl) (fun y6 e6 => ?_)
  rw [e5, e6]
  refine Tot.pos (by simp) (Tot.pos (by simp) (Tot.pos (by simp) ?_))
  exact Tot.bind (sameReceipts_self r hr) (fun y7 h7 => Tot.some_ h7)
theorem FnReceipts : laws_FnReceipts.Pure := by
  intro l0 l1 hm0 _ hw0 hm1 _ hw1
  have hmx : maxLen = 9223372036854775807 := rfl
  refine Tot.ex ?_
  simp only [laws_FnReceipts.f]
  by_cases hn : (l0.length : Int) + (l1.length : Int) > 1048576
  · by_cases hov : (l0.length : Int) + (l1.length : Int) ≤ 9223372036854775807
    · rw [w64 (by omega) hov]
      exact Tot.pos hn (Tot.some_ rfl)
    · exfalso
      have h1 : l0.length * 1 ≤ 140737488351232 := by assumption
      have h2 : l1.length * 1 ≤ 140737488351232 := by assumption
      omega
  · have hb0 : Bytes l0 := bytes_of (by omega) hw0
    have hb1 : Bytes l1 := bytes_of (by omega) hw1
    rw [w64 (by omega) (by omega)]
    refine Tot.neg hn ?_
    refine Tot.bind (Tot.fix (drawSign_tot l0 hb0)) (fun y1 _ => ?_)
    simp only [implSignFor_eq, specSignFor_eq, Option.bind_some]
    refine Tot.neg (by simp) ?_
    simp only [beq_self_eq_true, Bool.not_true, Bool.or_self]
    have h2 := law_j2 l1 hb1
    refine Tot.up ?_
    simp only [laws_FnReceipts.j0]
    refine Tot.neg (by simp) ?_
    unfold signV
    by_cases ho : signOk y1.1 y1.2.1 y1.2.2.1 y1.2.2.2
    · simp only [if_pos ho, if_true]
      refine Tot.bind (Q := fun y => y = (((pwm 4 y1.1.toNat : Nat) : Int), true)) (Tot.at_ 22 rfl (fun k hk => public_eq y1.1 ho.1 k (by omega))) (fun y2 e2 => ?_)
      rw [e2]
      refine Tot.bind (Q := fun y => y = (true, true)) (Tot.at_ 22 rfl (fun k hk => by rw [implCheck_eq _ _ _ _ _ k (by omega), signed_ok ho])) (fun y3 e3 => ?_)
      rw [e3]
      refine Tot.pos rfl (Tot.pos rfl (Tot.pos rfl (Tot.up ?_)))
      have ha := ho.2.1
      simp only [laws_FnReceipts.j1]
      refine Tot.neg (by rw [w64 (by omega) (by omega)]; simp) ?_
      refine Tot.bind (number_tot l1 hb1) (fun y4 h4 => ?_)
      have h5 : 0 ≤ Int.tmod y4 1498 ∧ Int.tmod y4 1498 ≤ 1497 := by
        rw [Int.tmod_eq_emod_of_nonneg (by omega)]
        omega
      refine Tot.bind (Q := fun y => y = (false, true)) (Tot.at_ 22 rfl (fun k hk => by rw [implCheck_eq _ _ _ _ _ k (by omega), signed_not ho h5])) (fun y5 e5 => ?_)
      rw [e5]
      exact Tot.pos rfl (Tot.neg (by simp) h2)
    · simp only [if_neg ho]
      exact Tot.neg (by simp) h2

end Go.Proofs.Ytafcbeajnlfomaa.Pure
