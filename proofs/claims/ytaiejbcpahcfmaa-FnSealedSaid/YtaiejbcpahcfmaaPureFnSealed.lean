/- Proved: what is said of sealed numbers holds for all bytes that they are drawn from. Conditions: those of the given statement alone. -/
import Derived.Test.YtaiejbcpahcfmaaPFnSealedx6
import Derived.Test.YtaiejbcpahcfmaaBase
set_option linter.unusedVariables false
set_option linter.unusedSimpArgs false
namespace Go.Proofs.Ytaiejbcpahcfmaa.Pure
open Go.RowKit Go.Proofs.Ytaiejbcpahcfmaa.PFnSealed Go.Proofs.Ytaiejbcpahcfmaa.Base Go.Proofs.YtaiejbcpahcfmaaW.PrintWords Go.Proofs.YtaiejbcpahcfmaaW.PrintLast Go.Proofs.YtaiejbcpahcfmaaW.PrintMore

/-- The bits of a letter: where it stands is small, its bytes are bytes. -/
def Bytes (l : List Int) : Prop := l.length ≤ 1048576 ∧ ∀ x ∈ l, 0 ≤ x ∧ x ≤ 255
theorem and255 (E : Int) : 0 ≤ Go.bits .and .u64 E 255 ∧ Go.bits .and .u64 E 255 ≤ 255 := by
  have h : Go.bits .and .u64 E 255 = IntKind.u64.wrap (((BitVec.ofInt 64 E) &&& (BitVec.ofInt 64 255)).toNat : Int) := rfl
  have h2 : ((BitVec.ofInt 64 E) &&& (BitVec.ofInt 64 255)).toNat ≤ 255 := by
    rw [BitVec.toNat_and]
    exact Nat.and_le_right
  have h3 : IntKind.u64.wrap (((BitVec.ofInt 64 E) &&& (BitVec.ofInt 64 255)).toNat : Int) = (((BitVec.ofInt 64 E) &&& (BitVec.ofInt 64 255)).toNat : Int) := by
    show (_ : Int) % 2 ^ 64 = _
    omega
  rw [h, h3]
  omega
def CurOk (p' p : Int) : Prop := p ≤ p' ∧ p' ≤ p + 2
theorem next_tot (l : List Int) (hl : Bytes l) (p h : Int) (hp : 0 ≤ p ∧ p ≤ 1099511627776) : ∃ y, spec_l1Cur_next.f l p h = some y ∧ (0 ≤ y.1 ∧ y.1 ≤ 255 ∧ y.2.1 = p + 1) := by
  have hl1 := hl.1
  unfold spec_l1Cur_next.f
  rw [w64 (n := p + 1) (by omega) (by omega)]
  by_cases h1 : p < (l.length : Int)
  · obtain ⟨i, rfl⟩ := Int.eq_ofNat_of_zero_le hp.1
    have h2 := hl.2 _ (rd_mem l i (by omega))
    rw [if_pos h1, if_pos hp.1, if_pos (by omega)]
    refine ⟨_, rfl, ?_⟩
    simp only
    rw [w64 (by omega) (by omega)]
    exact ⟨h2.1, h2.2, trivial⟩
  · rw [if_neg h1, if_neg (by omega)]
    refine ⟨_, rfl, ?_⟩
    have h3 := and255 ((IntKind.u64.wrap ((IntKind.u64.wrap ((IntKind.u64.wrap (h * 6364136223846793005)) + 0)) + 1442695040888963407)) / 1099511627776)
    simp only
    rw [w64 (by omega) (by omega)]
    exact ⟨h3.1, h3.2, trivial⟩
theorem pick_tot (l : List Int) (hl : Bytes l) (p h a : Int) (hp : 0 ≤ p ∧ p ≤ 549755813888) (ha : a ≤ 1048576) : ∃ y, spec_l1Cur_pick.f l p h a = some y ∧ (0 ≤ y.1 ∧ (y.1 < a ∨ y.1 = 0) ∧ p ≤ y.2.1 ∧ y.2.1 ≤ p + 2) := by
  unfold spec_l1Cur_pick.f
  by_cases h1 : a ≤ 1
  · rw [if_pos h1]
    exact ⟨_, rfl, by simp only; omega, .inr rfl, by simp only; omega, by simp only; omega⟩
  · rw [if_neg h1]
    obtain ⟨⟨b, p1, h'⟩, e1, hb0, hb1, hp1⟩ := next_tot l hl p h (by omega)
    simp only at hb0 hb1 hp1
    rw [e1]
    simp only [Option.bind_some]
    by_cases h2 : a > 200
    · obtain ⟨⟨c, p2, h''⟩, e2, hc0, hc1, hp2⟩ := next_tot l hl p1 h' (by omega)
      simp only at hc0 hc1 hp2
      rw [if_pos h2, e2]
      simp only [Option.bind_some]
      rw [if_neg (by omega), w64 (n := b * 256) (by omega) (by omega), w64 (by omega) (by omega), Int.tmod_eq_emod_of_nonneg (by omega)]
      have h3 := Int.emod_nonneg (b * 256 + c) (show a ≠ 0 by omega)
      have h4 := Int.emod_lt_of_pos (b * 256 + c) (show 0 < a by omega)
      exact ⟨_, rfl, h3, .inl h4, by simp only; omega, by simp only; omega⟩
    · rw [if_neg h2, if_neg (by omega), Int.tmod_eq_emod_of_nonneg (by omega)]
      have h3 := Int.emod_nonneg b (show a ≠ 0 by omega)
      have h4 := Int.emod_lt_of_pos b (show 0 < a by omega)
      exact ⟨_, rfl, h3, .inl h4, by simp only; omega, by simp only; omega⟩

theorem bytes_of {l : List Int} (h : l.length ≤ 1048576) (hw : ∀ x ∈ l, (Lit.int .u8 x).wf = true) : Bytes l := by
  refine ⟨h, fun x hx => ?_⟩
  have h2 := hw x hx
  simp only [Lit.wf, Bool.and_eq_true, decide_eq_true_iff] at h2
  exact h2

theorem number_tot (l : List Int) (hl : Bytes l) : Tot (fun k => laws_numberOf.f k l) (fun y => 0 ≤ y ∧ y < 1000003) := by
  have h1 := hl.1
  have key : ∀ (d i : Nat) (x : Int), l.length - i = d → i ≤ l.length → 0 ≤ x ∧ x < 1000003 → Tot (fun k => laws_numberOf.l0 k x l (l.length : Int) (i : Int)) (fun y => 0 ≤ y ∧ y < 1000003) := by
    intro d
    induction d with
    | zero =>
      intro i x hd hi hx
      refine Tot.up ?_
      simp only [laws_numberOf.l0]
      exact Tot.neg (by omega) (Tot.some_ hx)
    | succ d ih =>
      intro i x hd hi hx
      have hb := hl.2 _ (rd_mem l i (by omega))
      refine Tot.up ?_
      simp only [laws_numberOf.l0]
      refine Tot.pos (by omega) (Tot.pos (by omega) (Tot.pos (by omega) ?_))
      rw [w64 (n := 31 * x) (by omega) (by omega), w64 (n := rd l (i : Int)) (by omega) (by omega), w64 (n := 31 * x + rd l (i : Int)) (by omega) (by omega), w64 (n := (i : Int) + 1) (by omega) (by omega), Int.tmod_eq_emod_of_nonneg (by omega)]
      exact ih (i + 1) _ (by omega) (by omega) (by omega)
  simp only [laws_numberOf.f]
  exact key l.length 0 0 (by omega) (by omega) (by omega)

theorem among_tot (l : List Int) (hl : Bytes l) (p h : Int) (m : List Int) (hp : 0 ≤ p ∧ p ≤ 549755813888) (hm : 0 < m.length) (hm2 : m.length ≤ 1048576) : ∃ y, spec_l1Cur_among.f l p h m = some y ∧ (y.1 ∈ m ∧ p ≤ y.2.1 ∧ y.2.1 ≤ p + 2) := by
  unfold spec_l1Cur_among.f
  obtain ⟨⟨b, p1, h'⟩, e1, hb0, hb1, hp0, hp1⟩ := pick_tot l hl p h (m.length : Int) hp (by omega)
  simp only at hb0 hb1 hp0 hp1
  rw [e1]
  simp only [Option.bind_some]
  obtain ⟨i, rfl⟩ := Int.eq_ofNat_of_zero_le hb0
  rw [if_pos hb0, if_pos (by omega)]
  exact ⟨_, rfl, rd_mem m i (by omega), by simp only; omega, by simp only; omega⟩

theorem secret_tot (l : List Int) (hl : Bytes l) (p h : Int) (hp : 0 ≤ p ∧ p ≤ 274877906944) : ∃ y, spec_l1Cur_secret.f l p h = some y ∧ (p ≤ y.2.1 ∧ y.2.1 ≤ p + 8) := by
  unfold spec_l1Cur_secret.f
  obtain ⟨⟨b1, p1, h1⟩, e1, _, _, a1, c1⟩ := pick_tot l hl p h 250 (by omega) (by omega)
  simp only at a1 c1
  rw [e1]
  simp only [Option.bind_some]
  obtain ⟨⟨b2, p2, h2⟩, e2, _, _, a2, c2⟩ := pick_tot l hl p1 h1 250 (by omega) (by omega)
  simp only at a2 c2
  rw [e2]
  simp only [Option.bind_some]
  obtain ⟨⟨b3, p3, h3⟩, e3, _, _, a3, c3⟩ := pick_tot l hl p2 h2 250 (by omega) (by omega)
  simp only at a3 c3
  rw [e3]
  simp only [Option.bind_some]
  obtain ⟨⟨b4, p4, h4⟩, e4, _, a4, c4⟩ := among_tot l hl p3 h3 [0, 1, 2, 7, 1498, 1499, wrap64 (1 + (wrap64 (b1 * 5))), wrap64 (1 + (wrap64 (b2 * 5))), wrap64 (1 + (wrap64 (b3 * 5)))] (by omega) (by simp) (by simp)
  simp only at a4 c4
  rw [e4]
  exact ⟨_, rfl, by simp only; omega, by simp only; omega⟩

theorem one_tot (l : List Int) (hl : Bytes l) (p h a : Int) (hp : 0 ≤ p ∧ p ≤ 549755813888) (ha : a ≤ 1048576) : ∃ y, spec_l1Cur_one.f l p h a = some y ∧ (p ≤ y.2.1 ∧ y.2.1 ≤ p + 2) := by
  unfold spec_l1Cur_one.f
  obtain ⟨⟨b, p1, h'⟩, e1, hb0, hb1, hp0, hp1⟩ := pick_tot l hl p h a hp ha
  simp only at hp0 hp1
  rw [e1]
  exact ⟨_, rfl, hp0, hp1⟩

theorem l1In_eq (a b c : Int) : spec_l1In.f a b c = some (decide (b ≤ a ∧ a ≤ c)) := by
  unfold spec_l1In.f
  by_cases h : a ≥ b
  · rw [if_pos h]
    congr 1
    exact decide_eq_decide.2 ⟨fun h1 => ⟨h, h1⟩, fun h1 => h1.2⟩
  · rw [if_neg h, decide_eq_false (fun h1 => h h1.1)]

theorem within_eq (a b c : Int) : impl_within.f a b c = some (decide (b ≤ a ∧ a ≤ c)) := by
  unfold impl_within.f
  by_cases h : a ≥ b
  · rw [if_pos h]
    congr 1
    exact decide_eq_decide.2 ⟨fun h1 => ⟨h, h1⟩, fun h1 => h1.2⟩
  · rw [if_neg h, decide_eq_false (fun h1 => h h1.1)]

theorem specPower_l0 (n : Nat) : ∀ (k a e o : Nat), e < 2 ^ n → n < k → a < 2999 → o < 2999 → e ≤ 4294967296 → spec_l2Power.l0 k (a : Int) (e : Int) (o : Int) = some ((o * a ^ e % 2999 : Nat) : Int) := by
  induction n with
  | zero =>
    intro k a e o he hk ha ho _
    obtain ⟨k, rfl⟩ := rounds hk
    have h0 : e = 0 := by omega
    subst h0
    simp only [spec_l2Power.l0]
    rw [if_neg (by omega), Nat.pow_zero, Nat.mul_one, Nat.mod_eq_of_lt ho]
  | succ n ih =>
    intro k a e o he hk ha ho hm
    obtain ⟨k, rfl⟩ := rounds hk
    simp only [spec_l2Power.l0]
    by_cases h0 : e = 0
    · subst h0
      rw [if_neg (by omega), Nat.pow_zero, Nat.mul_one, Nat.mod_eq_of_lt ho]
    · have ha2 : a * a ≤ 2999 * 2999 := Nat.mul_le_mul (by omega) (by omega)
      have hoa : o * a ≤ 2999 * 2999 := Nat.mul_le_mul (by omega) (by omega)
      have hp : 2 ^ (n + 1) = 2 * 2 ^ n := by rw [Nat.pow_succ, Nat.mul_comm]
      have e1 : wrap64 ((a : Int) * (a : Int)) = ((a * a : Nat) : Int) := by rw [← Int.natCast_mul]; exact wnat _ (by omega)
      have e2 : wrap64 ((o : Int) * (a : Int)) = ((o * a : Nat) : Int) := by rw [← Int.natCast_mul]; exact wnat _ (by omega)
      have e3 : wrap64 (Int.tdiv (e : Int) 2) = ((e / 2 : Nat) : Int) := by rw [show Int.tdiv (e : Int) 2 = ((e / 2 : Nat) : Int) from tdiv_nat e 2]; exact wnat _ (by omega)
      rw [if_pos (by omega), e1, e2, e3]
      rw [show Int.tmod ((a * a : Nat) : Int) 2999 = ((a * a % 2999 : Nat) : Int) from tmod_nat _ 2999, show Int.tmod ((o * a : Nat) : Int) 2999 = ((o * a % 2999 : Nat) : Int) from tmod_nat _ 2999, show Int.tmod (e : Int) 2 = ((e % 2 : Nat) : Int) from tmod_nat e 2]
      by_cases h1 : e % 2 = 1
      · rw [if_pos (by omega), ih k _ _ _ (by omega) (by omega) (Nat.mod_lt _ (by omega)) (Nat.mod_lt _ (by omega)) (by omega), pow_round1]
        rw [show 2 * (e / 2) + 1 = e by omega]
      · rw [if_neg (by omega), ih k _ _ _ (by omega) (by omega) (Nat.mod_lt _ (by omega)) ho (by omega), pow_round0]
        rw [show 2 * (e / 2) = e by omega]

theorem specPower_eq (a e : Nat) (ha : a < 2999) (he : e ≤ 1048576) (k : Nat) (hk : 21 < k) : spec_l2Power.f k (a : Int) (e : Int) = some ((pwm a e : Nat) : Int) := by
  have h := specPower_l0 21 k a e 1 (by omega) hk ha (by omega) (by omega)
  rw [Nat.one_mul] at h
  exact h

theorem implPower_l0 (n : Nat) : ∀ (k a e o : Nat), e < 2 ^ n → n < k → a < 2999 → o < 2999 → e ≤ 4294967296 → impl_power.l0 k (a : Int) (e : Int) (o : Int) = some ((o * a ^ e % 2999 : Nat) : Int) := by
  induction n with
  | zero =>
    intro k a e o he hk ha ho _
    obtain ⟨k, rfl⟩ := rounds hk
    have h0 : e = 0 := by omega
    subst h0
    simp only [impl_power.l0]
    rw [if_neg (by omega), Nat.pow_zero, Nat.mul_one, Nat.mod_eq_of_lt ho]
  | succ n ih =>
    intro k a e o he hk ha ho hm
    obtain ⟨k, rfl⟩ := rounds hk
    simp only [impl_power.l0]
    by_cases h0 : e = 0
    · subst h0
      rw [if_neg (by omega), Nat.pow_zero, Nat.mul_one, Nat.mod_eq_of_lt ho]
    · have ha2 : a * a ≤ 2999 * 2999 := Nat.mul_le_mul (by omega) (by omega)
      have hoa : o * a ≤ 2999 * 2999 := Nat.mul_le_mul (by omega) (by omega)
      have hp : 2 ^ (n + 1) = 2 * 2 ^ n := by rw [Nat.pow_succ, Nat.mul_comm]
      have e1 : wrap64 ((a : Int) * (a : Int)) = ((a * a : Nat) : Int) := by rw [← Int.natCast_mul]; exact wnat _ (by omega)
      have e2 : wrap64 ((o : Int) * (a : Int)) = ((o * a : Nat) : Int) := by rw [← Int.natCast_mul]; exact wnat _ (by omega)
      have e3 : wrap64 (Int.tdiv (e : Int) 2) = ((e / 2 : Nat) : Int) := by rw [show Int.tdiv (e : Int) 2 = ((e / 2 : Nat) : Int) from tdiv_nat e 2]; exact wnat _ (by omega)
      rw [if_pos (by omega), e1, e2, e3]
      rw [show Int.tmod ((a * a : Nat) : Int) 2999 = ((a * a % 2999 : Nat) : Int) from tmod_nat _ 2999, show Int.tmod ((o * a : Nat) : Int) 2999 = ((o * a % 2999 : Nat) : Int) from tmod_nat _ 2999, show Int.tmod (e : Int) 2 = ((e % 2 : Nat) : Int) from tmod_nat e 2]
      by_cases h1 : e % 2 = 1
      · rw [if_pos (by omega), ih k _ _ _ (by omega) (by omega) (Nat.mod_lt _ (by omega)) (Nat.mod_lt _ (by omega)) (by omega), pow_round1]
        rw [show 2 * (e / 2) + 1 = e by omega]
      · rw [if_neg (by omega), ih k _ _ _ (by omega) (by omega) (Nat.mod_lt _ (by omega)) ho (by omega), pow_round0]
        rw [show 2 * (e / 2) = e by omega]

theorem implPower_eq (a e : Nat) (ha : a < 2999) (he : e ≤ 1048576) (k : Nat) (hk : 21 < k) : impl_power.f k (a : Int) (e : Int) = some ((pwm a e : Nat) : Int) := by
  have h := implPower_l0 21 k a e 1 (by omega) hk ha (by omega) (by omega)
  rw [Nat.one_mul] at h
  exact h

/-- A member: a unit whose power by 1499 is 1. -/
def isMem (a : Int) : Bool := decide (1 ≤ a ∧ a ≤ 2998) && decide (pwm a.toNat 1499 = 1)

theorem specMember_eq (a : Int) (k : Nat) (hk : 21 < k) : spec_IsMember.f k a = some (isMem a) := by
  unfold spec_IsMember.f spec_l2Unit.f
  simp only [l1In_eq, Option.bind_some]
  by_cases h : 1 ≤ a ∧ a ≤ 2998
  · obtain ⟨n, rfl⟩ := Int.eq_ofNat_of_zero_le (show 0 ≤ a by omega)
    have h2 := specPower_eq n 1499 (by omega) (by omega) k hk
    rw [decide_eq_true h, if_pos rfl, show ((1499 : Int)) = ((1499 : Nat) : Int) from rfl, h2]
    simp only [Option.bind_some, isMem, decide_eq_true h, Bool.true_and, Int.toNat_natCast]
    congr 1
    rw [Bool.eq_iff_iff, beq_iff_eq, decide_eq_true_iff]
    omega
  · rw [decide_eq_false h, if_neg (by simp)]
    simp [isMem, h]

theorem implMember_eq (a : Int) (k : Nat) (hk : 21 < k) : impl_IsMember.f k a = some (isMem a) := by
  unfold impl_IsMember.f impl_isUnit.f
  simp only [within_eq, Option.bind_some]
  by_cases h : 1 ≤ a ∧ a ≤ 2998
  · obtain ⟨n, rfl⟩ := Int.eq_ofNat_of_zero_le (show 0 ≤ a by omega)
    have h2 := implPower_eq n 1499 (by omega) (by omega) k hk
    rw [decide_eq_true h, if_pos rfl, show ((1499 : Int)) = ((1499 : Nat) : Int) from rfl, h2]
    simp only [Option.bind_some, isMem, decide_eq_true h, Bool.true_and, Int.toNat_natCast]
    congr 1
    rw [Bool.eq_iff_iff, beq_iff_eq, decide_eq_true_iff]
    omega
  · rw [decide_eq_false h, if_neg (by simp)]
    simp [isMem, h]

theorem mem_range {a : Int} (h : isMem a = true) : 1 ≤ a ∧ a ≤ 2998 := by
  unfold isMem at h
  rw [Bool.and_eq_true, decide_eq_true_iff, decide_eq_true_iff] at h
  exact h.1

theorem member_tot (l : List Int) (hl : Bytes l) (p h : Int) (hp : 0 ≤ p ∧ p ≤ 274877906944) : Tot (fun k => spec_l1Cur_member.f k l p h) (fun y => p ≤ y.2.1 ∧ y.2.1 ≤ p + 4) := by
  simp only [spec_l1Cur_member.f]
  refine Tot.bind (Tot.fix (one_tot l hl p h 8 (by omega) (by omega))) (fun y hy => ?_)
  refine Tot.ite (fun _ => ?_) (fun _ => ?_)
  · exact Tot.bind (Tot.fix (among_tot l hl _ _ _ (by omega) (by simp) (by simp))) (fun z hz => Tot.some_ ⟨by simp only; omega, by simp only; omega⟩)
  · refine Tot.bind (Tot.fix (pick_tot l hl _ _ 256 (by omega) (by omega))) (fun z hz => ?_)
    obtain ⟨q, hq⟩ := Int.eq_ofNat_of_zero_le hz.1
    rw [w64 (n := z.1 * 6) (by omega) (by omega)]
    refine Tot.bind (Q := fun _ => True) (Tot.at_ (y := ((pwm 4 (q * 6) : Nat) : Int)) 22 trivial (fun k hk => ?_)) (fun _ _ => Tot.some_ ⟨by simp only; omega, by simp only; omega⟩)
    have h2 := specPower_eq 4 (q * 6) (by omega) (by omega) k (by omega)
    rw [show z.1 * 6 = ((q * 6 : Nat) : Int) by rw [hq]; omega]
    exact h2

theorem sealed_tot (l : List Int) (hl : Bytes l) (p h : Int) (hp : 0 ≤ p ∧ p ≤ 137438953472) : Tot (fun k => spec_l1Cur_sealed.f k l p h) (fun y => p ≤ y.2.2.1 ∧ y.2.2.1 ≤ p + 8) := by
  simp only [spec_l1Cur_sealed.f]
  refine Tot.bind (member_tot l hl p h (by omega)) (fun y hy => ?_)
  exact Tot.bind (member_tot l hl _ _ (by omega)) (fun z hz => Tot.some_ ⟨by simp only; omega, by simp only; omega⟩)

theorem mul4 (m x n y : Nat) : (m * x % 2999) * (n * y % 2999) % 2999 = (m * n % 2999) * (x * y % 2999) % 2999 := by
  rw [← Nat.mul_mod, ← Nat.mul_mod, Nat.mul_mul_mul_comm]
theorem pwm_base (a b e : Nat) : pwm (a * b % 2999) e = pwm a e * pwm b e % 2999 := by
  unfold pwm
  rw [← Nat.pow_mod, Nat.mul_pow, Nat.mul_mod]
/-- (a, b) opens to m under the secret s. -/
def Opens1 (s a b m : Nat) : Prop := b = m * pwm a s % 2999
theorem Opens1.mul {s a b m c d n : Nat} (h1 : Opens1 s a b m) (h2 : Opens1 s c d n) : Opens1 s (a * c % 2999) (b * d % 2999) (m * n % 2999) := by
  unfold Opens1 at *
  rw [h1, h2, mul4, pwm_base]
theorem Opens1.ofR (s r m : Nat) : Opens1 s (pwm 4 r) (m * pwm (pwm 4 s) r % 2999) m := by
  unfold Opens1
  rw [pwm_mul, pwm_mul, Nat.mul_comm s r]
theorem Opens1.open_ {s a b m : Nat} (ha : Mem a) (hm : m < 2999) (h : Opens1 s a b m) : b * pwm (pwm a s) 2997 % 2999 = m := by
  unfold Opens1 at h
  rw [h, Nat.mod_mul_mod, Nat.mul_assoc, Nat.mul_mod, Nat.mul_comm (pwm a s), (ha.pow s).inv, Nat.mul_one, Nat.mod_mod, Nat.mod_eq_of_lt hm]

theorem isMem_mem {a : Int} (h : isMem a = true) : ∃ n : Nat, a = (n : Int) ∧ Mem n := by
  unfold isMem at h
  rw [Bool.and_eq_true, decide_eq_true_iff, decide_eq_true_iff] at h
  obtain ⟨n, rfl⟩ := Int.eq_ofNat_of_zero_le (show 0 ≤ a by omega)
  exact ⟨n, rfl, by omega, h.2⟩
theorem mem_isMem {n : Nat} (h : Mem n) : isMem (n : Int) = true := by
  have h1 := h.pos
  have h2 := h.lt
  unfold isMem
  rw [Bool.and_eq_true, decide_eq_true_iff, decide_eq_true_iff]
  exact ⟨by omega, h.2⟩
def isSea (a b : Int) : Bool := isMem a && isMem b
theorem specSealed_eq (a b : Int) (k : Nat) (hk : 21 < k) : spec_l2Sealed.f k a b = some (isSea a b) := by
  unfold spec_l2Sealed.f isSea
  rw [specMember_eq a k hk, specMember_eq b k hk]
  simp only [Option.bind_some]
  cases isMem a <;> rfl
theorem implSealed_eq (a b : Int) (k : Nat) (hk : 21 < k) : impl_isSealed.f k a b = some (isSea a b) := by
  unfold impl_isSealed.f isSea
  rw [implMember_eq a k hk, implMember_eq b k hk]
  simp only [Option.bind_some]
  cases isMem a <;> rfl
theorem isSea_mem {a b : Int} (h : isSea a b = true) : ∃ n m : Nat, a = (n : Int) ∧ b = (m : Int) ∧ Mem n ∧ Mem m := by
  unfold isSea at h
  rw [Bool.and_eq_true] at h
  obtain ⟨n, h1, h2⟩ := isMem_mem h.1
  obtain ⟨m, h3, h4⟩ := isMem_mem h.2
  exact ⟨n, m, h1, h3, h2, h4⟩
theorem mem_isSea {n m : Nat} (h1 : Mem n) (h2 : Mem m) : isSea (n : Int) (m : Int) = true := by
  unfold isSea
  rw [mem_isMem h1, mem_isMem h2]
  rfl

theorem specInv_eq (a : Nat) (ha : a < 2999) (k : Nat) (hk : 21 < k) : spec_l2Inverse.f k (a : Int) = some ((pwm a 2997 : Nat) : Int) := by
  unfold spec_l2Inverse.f
  rw [show (2997 : Int) = ((2997 : Nat) : Int) from rfl, specPower_eq a 2997 ha (by omega) k hk]
  rfl

theorem implInv_eq (a : Nat) (ha : a < 2999) (k : Nat) (hk : 21 < k) : impl_inverse.f k (a : Int) = some ((pwm a 2997 : Nat) : Int) := by
  unfold impl_inverse.f
  rw [show (2997 : Int) = ((2997 : Nat) : Int) from rfl, implPower_eq a 2997 ha (by omega) k hk]
  rfl



def isSec (r : Int) : Prop := 1 ≤ r ∧ r ≤ 1498
instance (r : Int) : Decidable (isSec r) := inferInstanceAs (Decidable (_ ∧ _))
def sealV (p r m : Int) : Int × Int × Bool := if isMem p = true ∧ isSec r ∧ isMem m = true then (((pwm 4 r.toNat : Nat) : Int), ((m.toNat * pwm p.toNat r.toNat % 2999 : Nat) : Int), true) else (0, 0, false)
def openNV (s a b : Int) : Int × Bool := if isSec s ∧ isSea a b = true then (((b.toNat * pwm (pwm a.toNat s.toNat) 2997 % 2999 : Nat) : Int), true) else (0, false)
def againV (p r a b : Int) : Int × Int × Bool := if isMem p = true ∧ isSec r ∧ isSea a b = true then (((a.toNat * pwm 4 r.toNat % 2999 : Nat) : Int), ((b.toNat * pwm p.toNat r.toNat % 2999 : Nat) : Int), true) else (0, 0, false)
def timesV (a b c d : Int) : Int × Int × Bool := if isSea a b = true ∧ isSea c d = true then (((a.toNat * c.toNat % 2999 : Nat) : Int), ((b.toNat * d.toNat % 2999 : Nat) : Int), true) else (0, 0, false)

theorem implSec_eq (r : Int) : impl_isSecret.f r = some (decide (isSec r)) := by
  unfold impl_isSecret.f
  rw [within_eq]
  rfl
theorem specSec_eq (r : Int) : spec_l2Secret.f r = some (decide (isSec r)) := by
  unfold spec_l2Secret.f
  rw [l1In_eq]
  rfl
theorem implSeal_eq (p r m : Nat) (hp : p < 2999) (hm : m < 2999) (hr : r ≤ 1498) (k : Nat) (hk : 21 < k) : impl_seal.f k (p : Int) (r : Int) (m : Int) = some (((pwm 4 r : Nat) : Int), ((m * pwm p r % 2999 : Nat) : Int)) := by
  unfold impl_seal.f
  rw [show (4 : Int) = ((4 : Nat) : Int) from rfl, implPower_eq 4 r (by omega) (by omega) k hk, implPower_eq p r hp (by omega) k hk]
  simp only [Option.bind_some]
  rw [mulm _ _ hm (pwm_lt _ _)]
theorem specAgain_eq (p r a b : Nat) (hp : p < 2999) (ha : a < 2999) (hb : b < 2999) (hr : r ≤ 1498) (k : Nat) (hk : 21 < k) : spec_l2Again.f k (p : Int) (r : Int) (a : Int) (b : Int) = some (((a * pwm 4 r % 2999 : Nat) : Int), ((b * pwm p r % 2999 : Nat) : Int)) := by
  unfold spec_l2Again.f
  rw [show (4 : Int) = ((4 : Nat) : Int) from rfl, specPower_eq 4 r (by omega) (by omega) k hk, specPower_eq p r hp (by omega) k hk]
  simp only [Option.bind_some]
  rw [mulm _ _ ha (pwm_lt _ _), mulm _ _ hb (pwm_lt _ _)]
theorem implSealNumber_eq (p r m : Int) (k : Nat) (hk : 21 < k) : impl_SealNumber.f k p r m = some (sealV p r m) := by
  unfold impl_SealNumber.f sealV
  rw [implMember_eq p k hk, implMember_eq m k hk, implSec_eq]
  simp only [Option.bind_some]
  by_cases h1 : isMem p = true
  · by_cases h2 : isSec r
    · by_cases h3 : isMem m = true
      · obtain ⟨p, rfl, hp⟩ := isMem_mem h1
        obtain ⟨m, rfl, hm⟩ := isMem_mem h3
        have h2' := h2
        unfold isSec at h2'
        obtain ⟨r, rfl⟩ := Int.eq_ofNat_of_zero_le (show 0 ≤ r by omega)
        rw [if_pos h1, decide_eq_true h2, if_pos rfl, if_pos h3, implSeal_eq p r m hp.lt hm.lt (by omega) k hk, if_pos ⟨h1, h2, h3⟩]
        rfl
      · rw [if_pos h1, decide_eq_true h2, if_pos rfl, if_neg h3, if_neg (fun h => h3 h.2.2)]
    · rw [if_pos h1, decide_eq_false h2, if_neg (by simp), if_neg (fun h => h2 h.2.1)]
  · rw [if_neg h1, if_neg (fun h => h1 h.1)]
theorem specSealNumber_eq (p r m : Int) (k : Nat) (hk : 21 < k) : spec_SealNumber.f k p r m = some (sealV p r m) := by
  unfold spec_SealNumber.f sealV
  rw [specMember_eq p k hk, specMember_eq m k hk, specSec_eq]
  simp only [Option.bind_some]
  by_cases h1 : isMem p = true
  · by_cases h2 : isSec r
    · by_cases h3 : isMem m = true
      · obtain ⟨p, rfl, hp⟩ := isMem_mem h1
        obtain ⟨m, rfl, hm⟩ := isMem_mem h3
        have h2' := h2
        unfold isSec at h2'
        obtain ⟨r, rfl⟩ := Int.eq_ofNat_of_zero_le (show 0 ≤ r by omega)
        rw [if_pos h1, decide_eq_true h2, if_pos rfl, if_pos h3, show (1 : Int) = ((1 : Nat) : Int) from rfl, specAgain_eq p r 1 m hp.lt (by omega) hm.lt (by omega) k hk, if_pos ⟨h1, h2, h3⟩, Nat.one_mul, Nat.mod_eq_of_lt (pwm_lt _ _)]
        rfl
      · rw [if_pos h1, decide_eq_true h2, if_pos rfl, if_neg h3, if_neg (fun h => h3 h.2.2)]
    · rw [if_pos h1, decide_eq_false h2, if_neg (by simp), if_neg (fun h => h2 h.2.1)]
  · rw [if_neg h1, if_neg (fun h => h1 h.1)]
theorem implOpenNumber_eq (s a b : Int) (k : Nat) (hk : 22 < k) : impl_OpenNumber.f k s a b = some (openNV s a b) := by
  obtain ⟨k, rfl⟩ := rounds hk
  unfold impl_OpenNumber.f openNV
  rw [implSec_eq, implSealed_eq a b _ (by omega)]
  simp only [Option.bind_some]
  by_cases h2 : isSec s
  · by_cases h3 : isSea a b = true
    · obtain ⟨a, b, rfl, rfl, ha, hb⟩ := isSea_mem h3
      have h2' := h2
      unfold isSec at h2'
      obtain ⟨s, rfl⟩ := Int.eq_ofNat_of_zero_le (show 0 ≤ s by omega)
      rw [decide_eq_true h2, if_pos rfl, h3, if_pos ⟨h2, rfl⟩]
      simp only [impl_OpenNumber.j0, Bool.not_true, Bool.false_eq_true, if_false]
      rw [implPower_eq a s ha.lt (by omega) k (by omega)]
      simp only [Option.bind_some]
      rw [implInv_eq _ (pwm_lt _ _) k (by omega)]
      simp only [Option.bind_some]
      rw [mulm _ _ hb.lt (pwm_lt _ _)]
      rfl
    · rw [decide_eq_true h2, if_pos rfl, if_neg (fun h => h3 h.2)]
      rw [Bool.not_eq_true] at h3
      rw [h3]
      simp only [impl_OpenNumber.j0, Bool.not_false, if_true]
  · rw [decide_eq_false h2, if_neg (by simp), if_neg (fun h => h2 h.1)]
    simp only [impl_OpenNumber.j0, if_true]
theorem specOpenNumber_eq (s a b : Int) (k : Nat) (hk : 22 < k) : spec_OpenNumber.f k s a b = some (openNV s a b) := by
  obtain ⟨k, rfl⟩ := rounds hk
  unfold spec_OpenNumber.f openNV
  rw [specSec_eq, specSealed_eq a b _ (by omega)]
  simp only [Option.bind_some]
  by_cases h2 : isSec s
  · by_cases h3 : isSea a b = true
    · obtain ⟨a, b, rfl, rfl, ha, hb⟩ := isSea_mem h3
      have h2' := h2
      unfold isSec at h2'
      obtain ⟨s, rfl⟩ := Int.eq_ofNat_of_zero_le (show 0 ≤ s by omega)
      rw [decide_eq_true h2, if_pos rfl, h3, if_pos ⟨h2, rfl⟩]
      simp only [spec_OpenNumber.j0, Bool.not_true, Bool.false_eq_true, if_false]
      rw [specPower_eq a s ha.lt (by omega) k (by omega)]
      simp only [Option.bind_some]
      rw [specInv_eq _ (pwm_lt _ _) k (by omega)]
      simp only [Option.bind_some]
      rw [mulm _ _ hb.lt (pwm_lt _ _)]
      rfl
    · rw [decide_eq_true h2, if_pos rfl, if_neg (fun h => h3 h.2)]
      rw [Bool.not_eq_true] at h3
      rw [h3]
      simp only [spec_OpenNumber.j0, Bool.not_false, if_true]
  · rw [decide_eq_false h2, if_neg (by simp), if_neg (fun h => h2 h.1)]
    simp only [spec_OpenNumber.j0, if_true]
theorem implSealAgain_eq (p r a b : Int) (k : Nat) (hk : 22 < k) : impl_SealAgain.f k p r a b = some (againV p r a b) := by
  obtain ⟨k, rfl⟩ := rounds hk
  unfold impl_SealAgain.f againV
  rw [implMember_eq p _ (by omega), implSec_eq, implSealed_eq a b _ (by omega)]
  simp only [Option.bind_some]
  by_cases h1 : isMem p = true
  · by_cases h2 : isSec r
    · by_cases h3 : isSea a b = true
      · obtain ⟨p, rfl, hp⟩ := isMem_mem h1
        obtain ⟨a, b, rfl, rfl, ha, hb⟩ := isSea_mem h3
        have h2' := h2
        unfold isSec at h2'
        obtain ⟨r, rfl⟩ := Int.eq_ofNat_of_zero_le (show 0 ≤ r by omega)
        rw [if_pos h1, decide_eq_true h2, if_pos rfl, h3, if_pos ⟨h1, h2, rfl⟩]
        simp only [impl_SealAgain.j0, Bool.not_true, Bool.false_eq_true, if_false]
        rw [show (1 : Int) = ((1 : Nat) : Int) from rfl, implSeal_eq p r 1 hp.lt (by omega) (by omega) k (by omega)]
        simp only [Option.bind_some, impl_multiplied.f]
        rw [Nat.one_mul, Nat.mod_eq_of_lt (pwm_lt _ _), mulm _ _ ha.lt (pwm_lt _ _), mulm _ _ hb.lt (pwm_lt _ _)]
        rfl
      · rw [if_pos h1, decide_eq_true h2, if_pos rfl, if_neg (fun h => h3 h.2.2)]
        rw [Bool.not_eq_true] at h3
        rw [h3]
        simp only [impl_SealAgain.j0, Bool.not_false, if_true]
    · rw [if_pos h1, decide_eq_false h2, if_neg (by simp), if_neg (fun h => h2 h.2.1)]
      simp only [impl_SealAgain.j0, if_true]
  · rw [if_neg h1, if_neg (fun h => h1 h.1)]
    simp only [impl_SealAgain.j0, if_true]
theorem specSealAgain_eq (p r a b : Int) (k : Nat) (hk : 22 < k) : spec_SealAgain.f k p r a b = some (againV p r a b) := by
  unfold spec_SealAgain.f againV
  rw [specMember_eq p k (by omega), specSec_eq, specSealed_eq a b k (by omega)]
  simp only [Option.bind_some]
  by_cases h1 : isMem p = true
  · by_cases h2 : isSec r
    · by_cases h3 : isSea a b = true
      · obtain ⟨p, rfl, hp⟩ := isMem_mem h1
        obtain ⟨a, b, rfl, rfl, ha, hb⟩ := isSea_mem h3
        have h2' := h2
        unfold isSec at h2'
        obtain ⟨r, rfl⟩ := Int.eq_ofNat_of_zero_le (show 0 ≤ r by omega)
        rw [if_pos h1, decide_eq_true h2, if_pos rfl, if_pos h3, specAgain_eq p r a b hp.lt ha.lt hb.lt (by omega) k (by omega), if_pos ⟨h1, h2, h3⟩]
        rfl
      · rw [if_pos h1, decide_eq_true h2, if_pos rfl, if_neg h3, if_neg (fun h => h3 h.2.2)]
    · rw [if_pos h1, decide_eq_false h2, if_neg (by simp), if_neg (fun h => h2 h.2.1)]
  · rw [if_neg h1, if_neg (fun h => h1 h.1)]
theorem implTimes_eq (a b c d : Int) (k : Nat) (hk : 22 < k) : impl_TimesSealed.f k a b c d = some (timesV a b c d) := by
  unfold impl_TimesSealed.f timesV
  rw [implSealed_eq a b k (by omega), implSealed_eq c d k (by omega)]
  simp only [Option.bind_some]
  by_cases h1 : isSea a b = true
  · by_cases h3 : isSea c d = true
    · obtain ⟨a, b, rfl, rfl, ha, hb⟩ := isSea_mem h1
      obtain ⟨c, d, rfl, rfl, hc, hd⟩ := isSea_mem h3
      rw [if_pos h1, if_pos h3, if_pos ⟨h1, h3⟩]
      simp only [Option.bind_some, impl_multiplied.f]
      rw [mulm _ _ ha.lt hc.lt, mulm _ _ hb.lt hd.lt]
      rfl
    · rw [if_pos h1, if_neg h3, if_neg (fun h => h3 h.2)]
  · rw [if_neg h1, if_neg (fun h => h1 h.1)]
theorem specTimes_eq (a b c d : Int) (k : Nat) (hk : 22 < k) : spec_TimesSealed.f k a b c d = some (timesV a b c d) := by
  unfold spec_TimesSealed.f timesV
  rw [specSealed_eq a b k (by omega), specSealed_eq c d k (by omega)]
  simp only [Option.bind_some]
  by_cases h1 : isSea a b = true
  · by_cases h3 : isSea c d = true
    · obtain ⟨a, b, rfl, rfl, ha, hb⟩ := isSea_mem h1
      obtain ⟨c, d, rfl, rfl, hc, hd⟩ := isSea_mem h3
      rw [if_pos h1, if_pos h3, if_pos ⟨h1, h3⟩, mulm _ _ ha.lt hc.lt, mulm _ _ hb.lt hd.lt]
      rfl
    · rw [if_pos h1, if_neg h3, if_neg (fun h => h3 h.2)]
  · rw [if_neg h1, if_neg (fun h => h1 h.1)]
theorem implPublic_eq (s : Int) (hs : isSec s) (k : Nat) (hk : 21 < k) : impl_PublicFor.f k s = some (((pwm 4 s.toNat : Nat) : Int), true) := by
  unfold isSec at hs
  obtain ⟨q, rfl⟩ := Int.eq_ofNat_of_zero_le (show 0 ≤ s by omega)
  unfold impl_PublicFor.f
  rw [implSec_eq]
  simp only [Option.bind_some]
  rw [decide_eq_true (show isSec (q : Int) from hs), if_pos rfl, show (4 : Int) = ((4 : Nat) : Int) from rfl, implPower_eq 4 q (by omega) (by omega) k hk]
  rfl

theorem drawSeal_tot (l : List Int) (hl : Bytes l) : Tot (fun k => spec_DrawSealNumber.f k l) (fun _ => True) := by
  simp only [spec_DrawSealNumber.f]
  refine Tot.bind (member_tot l hl 0 0 (by omega)) (fun y hy => ?_)
  refine Tot.bind (Tot.fix (secret_tot l hl _ _ (by omega))) (fun z hz => ?_)
  exact Tot.bind (member_tot l hl _ _ (by omega)) (fun u hu => Tot.some_ trivial)
theorem drawOpen_tot (l : List Int) (hl : Bytes l) : Tot (fun k => spec_DrawOpenNumber.f k l) (fun _ => True) := by
  simp only [spec_DrawOpenNumber.f]
  refine Tot.bind (Tot.fix (secret_tot l hl 0 0 (by omega))) (fun z hz => ?_)
  exact Tot.bind (sealed_tot l hl _ _ (by omega)) (fun u hu => Tot.some_ trivial)
theorem drawAgain_tot (l : List Int) (hl : Bytes l) : Tot (fun k => spec_DrawSealAgain.f k l) (fun _ => True) := by
  simp only [spec_DrawSealAgain.f]
  refine Tot.bind (member_tot l hl 0 0 (by omega)) (fun y hy => ?_)
  refine Tot.bind (Tot.fix (secret_tot l hl _ _ (by omega))) (fun z hz => ?_)
  exact Tot.bind (sealed_tot l hl _ _ (by omega)) (fun u hu => Tot.some_ trivial)
theorem drawTimes_tot (l : List Int) (hl : Bytes l) : Tot (fun k => spec_DrawTimesSealed.f k l) (fun _ => True) := by
  simp only [spec_DrawTimesSealed.f]
  refine Tot.bind (sealed_tot l hl 0 0 (by omega)) (fun z hz => ?_)
  exact Tot.bind (sealed_tot l hl _ _ (by omega)) (fun u hu => Tot.some_ trivial)
theorem law_j1 (l : List Int) (hl : Bytes l) : Tot (fun k => laws_FnSealed.j1 k l) (fun y => y = true) := by
  refine Tot.up ?_
  simp only [laws_FnSealed.j1]
  refine Tot.bind (drawOpen_tot l hl) (fun y1 _ => ?_)
  refine Tot.bind (Q := fun y => y = openNV y1.1 y1.2.1 y1.2.2) (Tot.at_ 23 rfl (fun k hk => implOpenNumber_eq _ _ _ k (by omega))) (fun y2 h2 => ?_)
  refine Tot.bind (Q := fun y => y = openNV y1.1 y1.2.1 y1.2.2) (Tot.at_ 23 rfl (fun k hk => specOpenNumber_eq _ _ _ k (by omega))) (fun y3 h3 => ?_)
  refine Tot.bind (drawAgain_tot l hl) (fun y4 _ => ?_)
  refine Tot.bind (Q := fun y => y = againV y4.1 y4.2.1 y4.2.2.1 y4.2.2.2) (Tot.at_ 23 rfl (fun k hk => implSealAgain_eq _ _ _ _ k (by omega))) (fun y5 h5 => ?_)
  refine Tot.bind (Q := fun y => y = againV y4.1 y4.2.1 y4.2.2.1 y4.2.2.2) (Tot.at_ 23 rfl (fun k hk => specSealAgain_eq _ _ _ _ k (by omega))) (fun y6 h6 => ?_)
  refine Tot.bind (drawTimes_tot l hl) (fun y7 _ => ?_)
  refine Tot.bind (Q := fun y => y = timesV y7.1 y7.2.1 y7.2.2.1 y7.2.2.2) (Tot.at_ 23 rfl (fun k hk => implTimes_eq _ _ _ _ k (by omega))) (fun y8 h8 => ?_)
  refine Tot.bind (Q := fun y => y = timesV y7.1 y7.2.1 y7.2.2.1 y7.2.2.2) (Tot.at_ 23 rfl (fun k hk => specTimes_eq _ _ _ _ k (by omega))) (fun y9 h9 => ?_)
  rw [h2, h3, h5, h6, h8, h9]
  refine Tot.pos (by simp) (Tot.pos rfl (Tot.pos (by simp) (Tot.pos (by simp) (Tot.pos (by simp) (Tot.some_ (by simp))))))
theorem FnSealed : laws_FnSealed.Pure := by
  intro l0 l1 hm0 hx0 hw0 hm1 hx1 hw1
  have hmx : maxLen = 9223372036854775807 := rfl
  refine Tot.ex ?_
  simp only [laws_FnSealed.f]
  rw [w64 (n := (l0.length : Int) + (l1.length : Int)) (by omega) (by omega)]
  by_cases hn : (l0.length : Int) + (l1.length : Int) > 1048576
  · exact Tot.pos hn (Tot.some_ rfl)
  · have hb0 : Bytes l0 := bytes_of (by omega) hw0
    have hb1 : Bytes l1 := bytes_of (by omega) hw1
    refine Tot.neg hn ?_
    refine Tot.bind (drawSeal_tot l0 hb0) (fun y1 _ => ?_)
    obtain ⟨p, r, m⟩ := y1
    simp only
    refine Tot.bind (number_tot l1 hb1) (fun y2 h2 => ?_)
    have h3 : 0 ≤ Int.tmod y2 1498 ∧ Int.tmod y2 1498 ≤ 1497 := by
      rw [Int.tmod_eq_emod_of_nonneg (by omega)]
      omega
    rw [w64 (n := 1 + Int.tmod y2 1498) (by omega) (by omega)]
    obtain ⟨s, hs⟩ := Int.eq_ofNat_of_zero_le (show 0 ≤ 1 + Int.tmod y2 1498 by omega)
    rw [hs]
    have hsec : isSec (s : Int) := by unfold isSec; omega
    refine Tot.bind (Q := fun y => y = sealV p r m) (Tot.at_ 23 rfl (fun k hk => implSealNumber_eq _ _ _ k (by omega))) (fun y3 e3 => ?_)
    refine Tot.bind (Q := fun y => y = sealV p r m) (Tot.at_ 23 rfl (fun k hk => specSealNumber_eq _ _ _ k (by omega))) (fun y4 e4 => ?_)
    rw [e3, e4]
    refine Tot.bind (Q := fun y => y = (((pwm 4 s : Nat) : Int), true)) (Tot.at_ 23 rfl (fun k hk => implPublic_eq _ hsec k (by omega))) (fun y5 e5 => ?_)
    rw [e5]
    refine Tot.bind (Q := fun y => y = sealV ((pwm 4 s : Nat) : Int) r m) (Tot.at_ 23 rfl (fun k hk => implSealNumber_eq _ _ _ k (by omega))) (fun y6 e6 => ?_)
    rw [e6]
    refine Tot.neg (by simp) (Tot.neg (by simp) ?_)
    refine Tot.up ?_
    simp only [laws_FnSealed.j0]
    refine Tot.neg (by simp) ?_
    unfold sealV
    by_cases ho : isMem ((pwm 4 s : Nat) : Int) = true ∧ isSec r ∧ isMem m = true
    · simp only [if_pos ho]
      obtain ⟨hk4, hr, hm⟩ := ho
      obtain ⟨m, rfl, hmm⟩ := isMem_mem hm
      have hr' := hr
      unfold isSec at hr'
      obtain ⟨r, rfl⟩ := Int.eq_ofNat_of_zero_le (show 0 ≤ r by omega)
      simp only [Int.toNat_natCast]
      have M1 : Mem (pwm 4 r) := mem_four.pow r
      have M2 : Mem (m * pwm (pwm 4 s) r % 2999) := hmm.mul ((mem_four.pow s).pow r)
      have O1 := Opens1.ofR s r m
      have E1 := O1.open_ M1 hmm.lt
      refine Tot.pos trivial ?_
      refine Tot.bind (Q := fun y => y = ((m : Int), true)) (Tot.at_ 23 rfl (fun k hk => by
        rw [implOpenNumber_eq _ _ _ k (by omega)]
        unfold openNV
        rw [if_pos ⟨hsec, mem_isSea M1 M2⟩]
        simp only [Int.toNat_natCast]
        rw [E1])) (fun y7 e7 => ?_)
      rw [e7]
      refine Tot.bind (number_tot l0 hb0) (fun y8 h8 => ?_)
      have h9 : 0 ≤ Int.tmod y8 1498 ∧ Int.tmod y8 1498 ≤ 1497 := by
        rw [Int.tmod_eq_emod_of_nonneg (by omega)]
        omega
      rw [w64 (n := 1 + Int.tmod y8 1498) (by omega) (by omega)]
      obtain ⟨q, hq⟩ := Int.eq_ofNat_of_zero_le (show 0 ≤ 1 + Int.tmod y8 1498 by omega)
      rw [hq]
      have hqsec : isSec (q : Int) := by unfold isSec; omega
      have M3 : Mem (pwm 4 r * pwm 4 q % 2999) := M1.mul (mem_four.pow q)
      have M4 : Mem (m * pwm (pwm 4 s) r % 2999 * pwm (pwm 4 s) q % 2999) := M2.mul ((mem_four.pow s).pow q)
      have O2 : Opens1 s (pwm 4 r * pwm 4 q % 2999) (m * pwm (pwm 4 s) r % 2999 * pwm (pwm 4 s) q % 2999) m := by
        have h := O1.mul (Opens1.ofR s q 1)
        rw [Nat.one_mul, Nat.mod_eq_of_lt (pwm_lt _ _), Nat.mul_one, Nat.mod_eq_of_lt hmm.lt] at h
        exact h
      have E2 := O2.open_ M3 hmm.lt
      refine Tot.bind (Q := fun y => y = (((pwm 4 r * pwm 4 q % 2999 : Nat) : Int), ((m * pwm (pwm 4 s) r % 2999 * pwm (pwm 4 s) q % 2999 : Nat) : Int), true)) (Tot.at_ 23 rfl (fun k hk => by
        rw [implSealAgain_eq _ _ _ _ k (by omega)]
        unfold againV
        rw [if_pos ⟨hk4, hqsec, mem_isSea M1 M2⟩]
        simp only [Int.toNat_natCast])) (fun y9 e9 => ?_)
      rw [e9]
      simp only
      refine Tot.bind (Q := fun y => y = ((m : Int), true)) (Tot.at_ 23 rfl (fun k hk => by
        rw [implOpenNumber_eq _ _ _ k (by omega)]
        unfold openNV
        rw [if_pos ⟨hsec, mem_isSea M3 M4⟩]
        simp only [Int.toNat_natCast]
        rw [E2])) (fun y10 e10 => ?_)
      rw [e10]
      have M5 := M1.mul M3
      have M6 := M2.mul M4
      have O3 := O1.mul O2
      have E3 := O3.open_ M5 (Nat.mod_lt _ (by omega))
      refine Tot.bind (Q := fun y => y = (((pwm 4 r * (pwm 4 r * pwm 4 q % 2999) % 2999 : Nat) : Int), ((m * pwm (pwm 4 s) r % 2999 * (m * pwm (pwm 4 s) r % 2999 * pwm (pwm 4 s) q % 2999) % 2999 : Nat) : Int), true)) (Tot.at_ 23 rfl (fun k hk => by
        rw [implTimes_eq _ _ _ _ k (by omega)]
        unfold timesV
        rw [if_pos ⟨mem_isSea M1 M2, mem_isSea M3 M4⟩]
        simp only [Int.toNat_natCast])) (fun y11 e11 => ?_)
      rw [e11]
      simp only
      refine Tot.bind (Q := fun y => y = (((m * m % 2999 : Nat) : Int), true)) (Tot.at_ 23 rfl (fun k hk => by
        rw [implOpenNumber_eq _ _ _ k (by omega)]
        unfold openNV
        rw [if_pos ⟨hsec, mem_isSea M5 M6⟩]
        simp only [Int.toNat_natCast]
        rw [E3])) (fun y12 e12 => ?_)
      rw [e12, mulm m m hmm.lt hmm.lt]
      exact Tot.pos (by trivial) (Tot.pos (by trivial) (Tot.pos (by trivial) (Tot.pos (by trivial) (Tot.pos (by trivial) (Tot.pos (by trivial) (Tot.pos (by trivial) (Tot.pos (by trivial) (law_j1 l1 hb1))))))))
    · simp only [if_neg ho]
      exact Tot.neg (by simp) (law_j1 l1 hb1)

end Go.Proofs.Ytaiejbcpahcfmaa.Pure
