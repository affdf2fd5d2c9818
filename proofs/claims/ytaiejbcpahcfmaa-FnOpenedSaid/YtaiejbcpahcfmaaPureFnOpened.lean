/- Proved: what is said of numbers that all open together holds for all bytes that they are drawn from. Conditions: those of the given statement alone. -/
import Derived.Test.YtaiejbcpahcfmaaPFnOpenedx10
import Derived.Test.YtaiejbcpahcfmaaBase
set_option linter.unusedVariables false
set_option linter.unusedSimpArgs false
namespace Go.Proofs.Ytaiejbcpahcfmaa.Pure
open Go.RowKit Go.Proofs.Ytaiejbcpahcfmaa.PFnOpened Go.Proofs.Ytaiejbcpahcfmaa.Base Go.Proofs.YtaiejbcpahcfmaaW.PrintWords Go.Proofs.YtaiejbcpahcfmaaW.PrintLast Go.Proofs.YtaiejbcpahcfmaaW.PrintMore Go.Proofs.Ytaiejbcpahcfmaa

/-- The bits of a letter: where it stands is small, its bytes are bytes. -/
def Bytes (l : List Int) : Prop := l.length ≤ 1048576 ∧ ∀ x ∈ l, 0 ≤ x ∧ x ≤ 255
theorem and255 (E : Int) : 0 ≤ Go.bits .and .u64 E 255 ∧ Go.bits .and .u64 E 255 ≤ 255 := by
  have h : Go.bits .and .u64 E 255 = IntKind.u64.wrap (((BitVec.ofInt 64 E) &&& (BitVec.ofInt 64 255)).toNat : Int) := rfl
  have h2 : ((BitVec.ofInt 64 E) &&& (BitVec.ofInt 64 255)).toNat ≤ 255 := by
    rw [BitVec.toNat_and]
    exact Nat.and_le_right
  have h3 : IntKind.u64.wrap (((BitVec.ofInt 64 E) &&& (BitVec.ofInt 64 255)).toNat : Int) = (((BitVec.ofInt 64 E) &&& (BitVec.ofInt 64 255)).toNat : Int) := by
    show (_ : Int) % 2 ^ 64 = _
    omega
  rw [h, h3]
  omega
def CurOk (p' p : Int) : Prop := p ≤ p' ∧ p' ≤ p + 2
theorem next_tot (l : List Int) (hl : Bytes l) (p h : Int) (hp : 0 ≤ p ∧ p ≤ 1099511627776) : ∃ y, spec_l1Cur_next.f l p h = some y ∧ (0 ≤ y.1 ∧ y.1 ≤ 255 ∧ y.2.1 = p + 1) := by
  have hl1 := hl.1
  unfold spec_l1Cur_next.f
  rw [w64 (n := p + 1) (by omega) (by omega)]
  by_cases h1 : p < (l.length : Int)
  · obtain ⟨i, rfl⟩ := Int.eq_ofNat_of_zero_le hp.1
    have h2 := hl.2 _ (rd_mem l i (by omega))
    rw [if_pos h1, if_pos hp.1, if_pos (by omega)]
    refine ⟨_, rfl, ?_⟩
    simp only
    rw [w64 (by omega) (by omega)]
    exact ⟨h2.1, h2.2, trivial⟩
  · rw [if_neg h1, if_neg (by omega)]
    refine ⟨_, rfl, ?_⟩
    have h3 := and255 ((IntKind.u64.wrap ((IntKind.u64.wrap ((IntKind.u64.wrap (h * 6364136223846793005)) + 0)) + 1442695040888963407)) / 1099511627776)
    simp only
    rw [w64 (by omega) (by omega)]
    exact ⟨h3.1, h3.2, trivial⟩
theorem pick_tot (l : List Int) (hl : Bytes l) (p h a : Int) (hp : 0 ≤ p ∧ p ≤ 549755813888) (ha : a ≤ 1048576) : ∃ y, spec_l1Cur_pick.f l p h a = some y ∧ (0 ≤ y.1 ∧ (y.1 < a ∨ y.1 = 0) ∧ p ≤ y.2.1 ∧ y.2.1 ≤ p + 2) := by
  unfold spec_l1Cur_pick.f
  by_cases h1 : a ≤ 1
  · rw [if_pos h1]
    exact ⟨_, rfl, by simp only; omega, .inr rfl, by simp only; omega, by simp only; omega⟩
  · rw [if_neg h1]
    obtain ⟨⟨b, p1, h'⟩, e1, hb0, hb1, hp1⟩ := next_tot l hl p h (by omega)
    simp only at hb0 hb1 hp1
    rw [e1]
    simp only [Option.bind_some]
    by_cases h2 : a > 200
    · obtain ⟨⟨c, p2, h''⟩, e2, hc0, hc1, hp2⟩ := next_tot l hl p1 h' (by omega)
      simp only at hc0 hc1 hp2
      rw [if_pos h2, e2]
      simp only [Option.bind_some]
      rw [if_neg (by omega), w64 (n := b * 256) (by omega) (by omega), w64 (by omega) (by omega), Int.tmod_eq_emod_of_nonneg (by omega)]
      have h3 := Int.emod_nonneg (b * 256 + c) (show a ≠ 0 by omega)
      have h4 := Int.emod_lt_of_pos (b * 256 + c) (show 0 < a by omega)
      exact ⟨_, rfl, h3, .inl h4, by simp only; omega, by simp only; omega⟩
    · rw [if_neg h2, if_neg (by omega), Int.tmod_eq_emod_of_nonneg (by omega)]
      have h3 := Int.emod_nonneg b (show a ≠ 0 by omega)
      have h4 := Int.emod_lt_of_pos b (show 0 < a by omega)
      exact ⟨_, rfl, h3, .inl h4, by simp only; omega, by simp only; omega⟩

theorem bytes_of {l : List Int} (h : l.length ≤ 1048576) (hw : ∀ x ∈ l, (Lit.int .u8 x).wf = true) : Bytes l := by
  refine ⟨h, fun x hx => ?_⟩
  have h2 := hw x hx
  simp only [Lit.wf, Bool.and_eq_true, decide_eq_true_iff] at h2
  exact h2

theorem among_tot (l : List Int) (hl : Bytes l) (p h : Int) (m : List Int) (hp : 0 ≤ p ∧ p ≤ 549755813888) (hm : 0 < m.length) (hm2 : m.length ≤ 1048576) : ∃ y, spec_l1Cur_among.f l p h m = some y ∧ (y.1 ∈ m ∧ p ≤ y.2.1 ∧ y.2.1 ≤ p + 2) := by
  unfold spec_l1Cur_among.f
  obtain ⟨⟨b, p1, h'⟩, e1, hb0, hb1, hp0, hp1⟩ := pick_tot l hl p h (m.length : Int) hp (by omega)
  simp only at hb0 hb1 hp0 hp1
  rw [e1]
  simp only [Option.bind_some]
  obtain ⟨i, rfl⟩ := Int.eq_ofNat_of_zero_le hb0
  rw [if_pos hb0, if_pos (by omega)]
  exact ⟨_, rfl, rd_mem m i (by omega), by simp only; omega, by simp only; omega⟩

theorem secret_tot (l : List Int) (hl : Bytes l) (p h : Int) (hp : 0 ≤ p ∧ p ≤ 274877906944) : ∃ y, spec_l1Cur_secret.f l p h = some y ∧ (p ≤ y.2.1 ∧ y.2.1 ≤ p + 8) := by
  unfold spec_l1Cur_secret.f
  obtain ⟨⟨b1, p1, h1⟩, e1, _, _, a1, c1⟩ := pick_tot l hl p h 250 (by omega) (by omega)
  simp only at a1 c1
  rw [e1]
  simp only [Option.bind_some]
  obtain ⟨⟨b2, p2, h2⟩, e2, _, _, a2, c2⟩ := pick_tot l hl p1 h1 250 (by omega) (by omega)
  simp only at a2 c2
  rw [e2]
  simp only [Option.bind_some]
  obtain ⟨⟨b3, p3, h3⟩, e3, _, _, a3, c3⟩ := pick_tot l hl p2 h2 250 (by omega) (by omega)
  simp only at a3 c3
  rw [e3]
  simp only [Option.bind_some]
  obtain ⟨⟨b4, p4, h4⟩, e4, _, a4, c4⟩ := among_tot l hl p3 h3 [0, 1, 2, 7, 1498, 1499, wrap64 (1 + (wrap64 (b1 * 5))), wrap64 (1 + (wrap64 (b2 * 5))), wrap64 (1 + (wrap64 (b3 * 5)))] (by omega) (by simp) (by simp)
  simp only at a4 c4
  rw [e4]
  exact ⟨_, rfl, by simp only; omega, by simp only; omega⟩

theorem curSecrets_l1 (l : List Int) (p h : Int) : ∀ (d i : Nat) (x : List Int), x.length - i = d → i ≤ x.length → x.length ≤ 1048576 → Tot (fun k => spec_l1Cur_secrets.l1 k x (x.length : Int) (i : Int) l p h) (fun y => y.1.length = x.length ∧ y.2.1 = p) := by
  intro d
  induction d with
  | zero =>
    intro i x hd hi hx
    refine Tot.up ?_
    simp only [spec_l1Cur_secrets.l1]
    exact Tot.neg (by omega) (Tot.some_ ⟨rfl, rfl⟩)
  | succ d ih =>
    intro i x hd hi hx
    refine Tot.up ?_
    simp only [spec_l1Cur_secrets.l1]
    refine Tot.pos (by omega) (Tot.pos (by omega) (Tot.pos (by omega) ?_))
    rw [w64 (n := (i : Int) + 1) (by omega) (by omega)]
    have hh := ih (i + 1) (x.set ((i : Int)).toNat 7) (by rw [List.length_set]; omega) (by rw [List.length_set]; omega) (by rw [List.length_set]; omega)
    rw [List.length_set] at hh
    exact hh
theorem curSecrets_l0 (l : List Int) (hl : Bytes l) : ∀ (n : Nat) (out : List Int) (m p h : Int), m.toNat = n → n ≤ 100 → 0 < (out.length : Int) + m → 0 ≤ m → out.length + n ≤ 100 → 0 ≤ p ∧ p + 2 * (n : Int) ≤ 17179869184 →
    Tot (fun k => spec_l1Cur_secrets.l0 k out m l p h) (fun y => y.1.length ≤ 100 ∧ p ≤ y.2.1 ∧ y.2.1 ≤ p + 2 * (n : Int) + 4) := by
  intro n
  induction n with
  | zero =>
    intro out m p h hm hn h0 hm0 ho hp
    refine Tot.up ?_
    simp only [spec_l1Cur_secrets.l0]
    refine Tot.neg (by omega) (Tot.bind (Tot.fix (pick_tot l hl p h 20 (by omega) (by omega))) (fun y hy => ?_))
    refine Tot.ite (fun _ => ?_) (fun _ => Tot.ite (fun _ => ?_) (fun _ => Tot.some_ ⟨by simp only; omega, by simp only; omega, by simp only; omega⟩))
    · refine Tot.bind (Tot.fix (among_tot l hl _ _ _ (by omega) (by simp) (by simp))) (fun z hz => ?_)
      exact Tot.pos (by omega) (Tot.some_ ⟨by simp; omega, by simp only; omega, by simp only; omega⟩)
    · refine Tot.bind (Tot.fix (among_tot l hl _ _ _ (by omega) (by simp) (by simp))) (fun z hz => ?_)
      have hz1 : 0 ≤ z.1 ∧ z.1 ≤ 6 := by
        have := hz.1
        simp only [List.mem_cons, List.not_mem_nil, or_false] at this
        omega
      refine Tot.pos (by omega) (Tot.pos (by omega) (Tot.bind (Q := fun y => y = List.replicate z.1.toNat 0) (Tot.some_ rfl) (fun u hu => ?_)))
      rw [hu]
      have hlen : (List.replicate z.1.toNat (0 : Int)).length = z.1.toNat := by simp
      refine (curSecrets_l1 l z.2.1 z.2.2 z.1.toNat 0 (List.replicate z.1.toNat 0) (by omega) (by omega) (by omega)).imp (fun v hv => ?_)
      omega
  | succ n ih =>
    intro out m p h hm hn h0 hm0 ho hp
    refine Tot.up ?_
    simp only [spec_l1Cur_secrets.l0]
    refine Tot.pos (by omega) (Tot.bind (Tot.fix (pick_tot l hl p h 250 (by omega) (by omega))) (fun y hy => ?_))
    refine Tot.pos (by omega) ?_
    rw [w64 (n := m - 1) (by omega) (by omega)]
    refine (ih (out ++ [wrap64 (1 + wrap64 (y.1 * 5))]) (m - 1) y.2.1 y.2.2 (by omega) (by omega) (by rw [List.length_append]; simp only [List.length_singleton]; omega) (by omega) (by rw [List.length_append]; simp only [List.length_singleton]; omega) (by omega)).imp (fun z hz => ?_)
    omega
theorem curSecrets_tot (l : List Int) (hl : Bytes l) (p h : Int) (hp : 0 ≤ p ∧ p ≤ 1073741824) : Tot (fun k => spec_l1Cur_secrets.f k l p h) (fun y => y.1.length ≤ 100 ∧ p ≤ y.2.1 ∧ y.2.1 ≤ p + 100) := by
  simp only [spec_l1Cur_secrets.f]
  refine Tot.bind (Tot.fix (pick_tot l hl p h 4 (by omega) (by omega))) (fun y hy => ?_)
  rw [w64 (n := 1 + y.1) (by omega) (by omega)]
  refine (curSecrets_l0 l hl (1 + y.1).toNat [] (1 + y.1) y.2.1 y.2.2 rfl (by omega) (by simp; omega) (by omega) (by simp; omega) (by omega)).imp (fun z hz => ?_)
  omega

theorem one_tot (l : List Int) (hl : Bytes l) (p h a : Int) (hp : 0 ≤ p ∧ p ≤ 549755813888) (ha : a ≤ 1048576) : ∃ y, spec_l1Cur_one.f l p h a = some y ∧ (p ≤ y.2.1 ∧ y.2.1 ≤ p + 2) := by
  unfold spec_l1Cur_one.f
  obtain ⟨⟨b, p1, h'⟩, e1, hb0, hb1, hp0, hp1⟩ := pick_tot l hl p h a hp ha
  simp only at hp0 hp1
  rw [e1]
  exact ⟨_, rfl, hp0, hp1⟩

theorem l1In_eq (a b c : Int) : spec_l1In.f a b c = some (decide (b ≤ a ∧ a ≤ c)) := by
  unfold spec_l1In.f
  by_cases h : a ≥ b
  · rw [if_pos h]
    congr 1
    exact decide_eq_decide.2 ⟨fun h1 => ⟨h, h1⟩, fun h1 => h1.2⟩
  · rw [if_neg h, decide_eq_false (fun h1 => h h1.1)]

theorem within_eq (a b c : Int) : impl_within.f a b c = some (decide (b ≤ a ∧ a ≤ c)) := by
  unfold impl_within.f
  by_cases h : a ≥ b
  · rw [if_pos h]
    congr 1
    exact decide_eq_decide.2 ⟨fun h1 => ⟨h, h1⟩, fun h1 => h1.2⟩
  · rw [if_neg h, decide_eq_false (fun h1 => h h1.1)]

theorem specPower_l0 (n : Nat) : ∀ (k a e o : Nat), e < 2 ^ n → n < k → a < 2999 → o < 2999 → e ≤ 4294967296 → spec_l2Power.l0 k (a : Int) (e : Int) (o : Int) = some ((o * a ^ e % 2999 : Nat) : Int) := by
  induction n with
  | zero =>
    intro k a e o he hk ha ho _
    obtain ⟨k, rfl⟩ := rounds hk
    have h0 : e = 0 := by omega
    subst h0
    simp only [spec_l2Power.l0]
    rw [if_neg (by omega), Nat.pow_zero, Nat.mul_one, Nat.mod_eq_of_lt ho]
  | succ n ih =>
    intro k a e o he hk ha ho hm
    obtain ⟨k, rfl⟩ := rounds hk
    simp only [spec_l2Power.l0]
    by_cases h0 : e = 0
    · subst h0
      rw [if_neg (by omega), Nat.pow_zero, Nat.mul_one, Nat.mod_eq_of_lt ho]
    · have ha2 : a * a ≤ 2999 * 2999 := Nat.mul_le_mul (by omega) (by omega)
      have hoa : o * a ≤ 2999 * 2999 := Nat.mul_le_mul (by omega) (by omega)
      have hp : 2 ^ (n + 1) = 2 * 2 ^ n := by rw [Nat.pow_succ, Nat.mul_comm]
      have e1 : wrap64 ((a : Int) * (a : Int)) = ((a * a : Nat) : Int) := by rw [← Int.natCast_mul]; exact wnat _ (by omega)
      have e2 : wrap64 ((o : Int) * (a : Int)) = ((o * a : Nat) : Int) := by rw [← Int.natCast_mul]; exact wnat _ (by omega)
      have e3 : wrap64 (Int.tdiv (e : Int) 2) = ((e / 2 : Nat) : Int) := by rw [show Int.tdiv (e : Int) 2 = ((e / 2 : Nat) : Int) from tdiv_nat e 2]; exact wnat _ (by omega)
      rw [if_pos (by omega), e1, e2, e3]
      rw [show Int.tmod ((a * a : Nat) : Int) 2999 = ((a * a % 2999 : Nat) : Int) from tmod_nat _ 2999, show Int.tmod ((o * a : Nat) : Int) 2999 = ((o * a % 2999 : Nat) : Int) from tmod_nat _ 2999, show Int.tmod (e : Int) 2 = ((e % 2 : Nat) : Int) from tmod_nat e 2]
      by_cases h1 : e % 2 = 1
      · rw [if_pos (by omega), ih k _ _ _ (by omega) (by omega) (Nat.mod_lt _ (by omega)) (Nat.mod_lt _ (by omega)) (by omega), pow_round1]
        rw [show 2 * (e / 2) + 1 = e by omega]
      · rw [if_neg (by omega), ih k _ _ _ (by omega) (by omega) (Nat.mod_lt _ (by omega)) ho (by omega), pow_round0]
        rw [show 2 * (e / 2) = e by omega]

theorem specPower_eq (a e : Nat) (ha : a < 2999) (he : e ≤ 1048576) (k : Nat) (hk : 21 < k) : spec_l2Power.f k (a : Int) (e : Int) = some ((pwm a e : Nat) : Int) := by
  have h := specPower_l0 21 k a e 1 (by omega) hk ha (by omega) (by omega)
  rw [Nat.one_mul] at h
  exact h

theorem implPower_l0 (n : Nat) : ∀ (k a e o : Nat), e < 2 ^ n → n < k → a < 2999 → o < 2999 → e ≤ 4294967296 → impl_power.l0 k (a : Int) (e : Int) (o : Int) = some ((o * a ^ e % 2999 : Nat) : Int) := by
  induction n with
  | zero =>
    intro k a e o he hk ha ho _
    obtain ⟨k, rfl⟩ := rounds hk
    have h0 : e = 0 := by omega
    subst h0
    simp only [impl_power.l0]
    rw [if_neg (by omega), Nat.pow_zero, Nat.mul_one, Nat.mod_eq_of_lt ho]
  | succ n ih =>
    intro k a e o he hk ha ho hm
    obtain ⟨k, rfl⟩ := rounds hk
    simp only [impl_power.l0]
    by_cases h0 : e = 0
    · subst h0
      rw [if_neg (by omega), Nat.pow_zero, Nat.mul_one, Nat.mod_eq_of_lt ho]
    · have ha2 : a * a ≤ 2999 * 2999 := Nat.mul_le_mul (by omega) (by omega)
      have hoa : o * a ≤ 2999 * 2999 := Nat.mul_le_mul (by omega) (by omega)
      have hp : 2 ^ (n + 1) = 2 * 2 ^ n := by rw [Nat.pow_succ, Nat.mul_comm]
      have e1 : wrap64 ((a : Int) * (a : Int)) = ((a * a : Nat) : Int) := by rw [← Int.natCast_mul]; exact wnat _ (by omega)
      have e2 : wrap64 ((o : Int) * (a : Int)) = ((o * a : Nat) : Int) := by rw [← Int.natCast_mul]; exact wnat _ (by omega)
      have e3 : wrap64 (Int.tdiv (e : Int) 2) = ((e / 2 : Nat) : Int) := by rw [show Int.tdiv (e : Int) 2 = ((e / 2 : Nat) : Int) from tdiv_nat e 2]; exact wnat _ (by omega)
      rw [if_pos (by omega), e1, e2, e3]
      rw [show Int.tmod ((a * a : Nat) : Int) 2999 = ((a * a % 2999 : Nat) : Int) from tmod_nat _ 2999, show Int.tmod ((o * a : Nat) : Int) 2999 = ((o * a % 2999 : Nat) : Int) from tmod_nat _ 2999, show Int.tmod (e : Int) 2 = ((e % 2 : Nat) : Int) from tmod_nat e 2]
      by_cases h1 : e % 2 = 1
      · rw [if_pos (by omega), ih k _ _ _ (by omega) (by omega) (Nat.mod_lt _ (by omega)) (Nat.mod_lt _ (by omega)) (by omega), pow_round1]
        rw [show 2 * (e / 2) + 1 = e by omega]
      · rw [if_neg (by omega), ih k _ _ _ (by omega) (by omega) (Nat.mod_lt _ (by omega)) ho (by omega), pow_round0]
        rw [show 2 * (e / 2) = e by omega]

theorem implPower_eq (a e : Nat) (ha : a < 2999) (he : e ≤ 1048576) (k : Nat) (hk : 21 < k) : impl_power.f k (a : Int) (e : Int) = some ((pwm a e : Nat) : Int) := by
  have h := implPower_l0 21 k a e 1 (by omega) hk ha (by omega) (by omega)
  rw [Nat.one_mul] at h
  exact h

/-- A member: a unit whose power by 1499 is 1. -/
def isMem (a : Int) : Bool := decide (1 ≤ a ∧ a ≤ 2998) && decide (pwm a.toNat 1499 = 1)

theorem specMember_eq (a : Int) (k : Nat) (hk : 21 < k) : spec_IsMember.f k a = some (isMem a) := by
  unfold spec_IsMember.f spec_l2Unit.f
  simp only [l1In_eq, Option.bind_some]
  by_cases h : 1 ≤ a ∧ a ≤ 2998
  · obtain ⟨n, rfl⟩ := Int.eq_ofNat_of_zero_le (show 0 ≤ a by omega)
    have h2 := specPower_eq n 1499 (by omega) (by omega) k hk
    rw [decide_eq_true h, if_pos rfl, show ((1499 : Int)) = ((1499 : Nat) : Int) from rfl, h2]
    simp only [Option.bind_some, isMem, decide_eq_true h, Bool.true_and, Int.toNat_natCast]
    congr 1
    rw [Bool.eq_iff_iff, beq_iff_eq, decide_eq_true_iff]
    omega
  · rw [decide_eq_false h, if_neg (by simp)]
    simp [isMem, h]

theorem implMember_eq (a : Int) (k : Nat) (hk : 21 < k) : impl_IsMember.f k a = some (isMem a) := by
  unfold impl_IsMember.f impl_isUnit.f
  simp only [within_eq, Option.bind_some]
  by_cases h : 1 ≤ a ∧ a ≤ 2998
  · obtain ⟨n, rfl⟩ := Int.eq_ofNat_of_zero_le (show 0 ≤ a by omega)
    have h2 := implPower_eq n 1499 (by omega) (by omega) k hk
    rw [decide_eq_true h, if_pos rfl, show ((1499 : Int)) = ((1499 : Nat) : Int) from rfl, h2]
    simp only [Option.bind_some, isMem, decide_eq_true h, Bool.true_and, Int.toNat_natCast]
    congr 1
    rw [Bool.eq_iff_iff, beq_iff_eq, decide_eq_true_iff]
    omega
  · rw [decide_eq_false h, if_neg (by simp)]
    simp [isMem, h]

theorem mem_range {a : Int} (h : isMem a = true) : 1 ≤ a ∧ a ≤ 2998 := by
  unfold isMem at h
  rw [Bool.and_eq_true, decide_eq_true_iff, decide_eq_true_iff] at h
  exact h.1

theorem member_tot (l : List Int) (hl : Bytes l) (p h : Int) (hp : 0 ≤ p ∧ p ≤ 274877906944) : Tot (fun k => spec_l1Cur_member.f k l p h) (fun y => p ≤ y.2.1 ∧ y.2.1 ≤ p + 4) := by
  simp only [spec_l1Cur_member.f]
  refine Tot.bind (Tot.fix (one_tot l hl p h 8 (by omega) (by omega))) (fun y hy => ?_)
  refine Tot.ite (fun _ => ?_) (fun _ => ?_)
  · exact Tot.bind (Tot.fix (among_tot l hl _ _ _ (by omega) (by simp) (by simp))) (fun z hz => Tot.some_ ⟨by simp only; omega, by simp only; omega⟩)
  · refine Tot.bind (Tot.fix (pick_tot l hl _ _ 256 (by omega) (by omega))) (fun z hz => ?_)
    obtain ⟨q, hq⟩ := Int.eq_ofNat_of_zero_le hz.1
    rw [w64 (n := z.1 * 6) (by omega) (by omega)]
    refine Tot.bind (Q := fun _ => True) (Tot.at_ (y := ((pwm 4 (q * 6) : Nat) : Int)) 22 trivial (fun k hk => ?_)) (fun _ _ => Tot.some_ ⟨by simp only; omega, by simp only; omega⟩)
    have h2 := specPower_eq 4 (q * 6) (by omega) (by omega) k (by omega)
    rw [show z.1 * 6 = ((q * 6 : Nat) : Int) by rw [hq]; omega]
    exact h2

theorem sealed_tot (l : List Int) (hl : Bytes l) (p h : Int) (hp : 0 ≤ p ∧ p ≤ 137438953472) : Tot (fun k => spec_l1Cur_sealed.f k l p h) (fun y => p ≤ y.2.2.1 ∧ y.2.2.1 ≤ p + 8) := by
  simp only [spec_l1Cur_sealed.f]
  refine Tot.bind (member_tot l hl p h (by omega)) (fun y hy => ?_)
  exact Tot.bind (member_tot l hl _ _ (by omega)) (fun z hz => Tot.some_ ⟨by simp only; omega, by simp only; omega⟩)

theorem isMem_mem {a : Int} (h : isMem a = true) : ∃ n : Nat, a = (n : Int) ∧ Mem n := by
  unfold isMem at h
  rw [Bool.and_eq_true, decide_eq_true_iff, decide_eq_true_iff] at h
  obtain ⟨n, rfl⟩ := Int.eq_ofNat_of_zero_le (show 0 ≤ a by omega)
  exact ⟨n, rfl, by omega, h.2⟩
theorem mem_isMem {n : Nat} (h : Mem n) : isMem (n : Int) = true := by
  have h1 := h.pos
  have h2 := h.lt
  unfold isMem
  rw [Bool.and_eq_true, decide_eq_true_iff, decide_eq_true_iff]
  exact ⟨by omega, h.2⟩
def isSea (a b : Int) : Bool := isMem a && isMem b
theorem specSealed_eq (a b : Int) (k : Nat) (hk : 21 < k) : spec_l2Sealed.f k a b = some (isSea a b) := by
  unfold spec_l2Sealed.f isSea
  rw [specMember_eq a k hk, specMember_eq b k hk]
  simp only [Option.bind_some]
  cases isMem a <;> rfl
theorem implSealed_eq (a b : Int) (k : Nat) (hk : 21 < k) : impl_isSealed.f k a b = some (isSea a b) := by
  unfold impl_isSealed.f isSea
  rw [implMember_eq a k hk, implMember_eq b k hk]
  simp only [Option.bind_some]
  cases isMem a <;> rfl
theorem isSea_mem {a b : Int} (h : isSea a b = true) : ∃ n m : Nat, a = (n : Int) ∧ b = (m : Int) ∧ Mem n ∧ Mem m := by
  unfold isSea at h
  rw [Bool.and_eq_true] at h
  obtain ⟨n, h1, h2⟩ := isMem_mem h.1
  obtain ⟨m, h3, h4⟩ := isMem_mem h.2
  exact ⟨n, m, h1, h3, h2, h4⟩
/-- The key of all. -/
def kyf (y : Nat) (s : Int) : Nat := y * pwm 4 s.toNat % 2999
def keyV (l : List Int) : Nat := l.foldl kyf 1
theorem keyV_mem (l : List Int) : Mem (keyV l) := foldl_all kyf 1 l Mem Mem.one (fun y hy s _ => hy.mul (mem_four.pow _))

theorem specKey_eq (l : List Int) (hl : l.length ≤ 5) (hs : ∀ x ∈ l, 1 ≤ x ∧ x ≤ 1498) (k : Nat) (hk : l.length + 22 < k) : spec_l6Key.f k l = some ((keyV l : Nat) : Int) := by
  have hm := fun i => fv_all kyf 1 l Mem Mem.one (fun y hy s _ => hy.mul (mem_four.pow _)) i
  have h := loop_up (fun k (x : Int × Int) => spec_l6Key.l0 k x.1 l (l.length : Int) x.2) l.length 22
    (fun i => (((fv kyf 1 l i : Nat) : Int), (i : Int))) ((keyV l : Nat) : Int) (fun i k hi hB => by
    have hx := hs l[i] (List.getElem_mem hi)
    simp only [spec_l6Key.l0]
    rw [if_pos (by omega), if_pos (by omega), if_pos (by omega), rd_in l i hi, w64 (n := (i : Int) + 1) (by omega) (by omega)]
    rw [show l[i] = ((l[i].toNat : Nat) : Int) by omega, show (4 : Int) = ((4 : Nat) : Int) from rfl, specPower_eq 4 _ (by omega) (by omega) k (by omega)]
    simp only [Option.bind_some]
    rw [mulm _ _ (hm i).lt (pwm_lt _ _), fv_succ _ _ _ _ hi]
    rfl) (fun k _ => by
    simp only [spec_l6Key.l0]
    rw [if_neg (by omega), fv_end]
    rfl) k hk
  rw [fv_zero] at h
  exact h

def castS (key : Nat) (r c : Int) : S28 := ⟨((pwm 4 r.toNat : Nat) : Int), ((pwm 4 c.toNat * pwm key r.toNat % 2999 : Nat) : Int)⟩
def castOk (r c : Int) : Bool := decide (1 ≤ r ∧ r ≤ 1498) && decide (0 ≤ c ∧ c ≤ 3)
def castV (key : Nat) (r c : Int) : Int × Int × Bool := if castOk r c then ((castS key r c).f0, (castS key r c).f1, true) else (0, 0, false)
theorem specCast_eq (key : Nat) (hkey : Mem key) (r c : Int) (k : Nat) (hk : 21 < k) : spec_CastVote.f k (key : Int) r c = some (castV key r c) := by
  unfold spec_CastVote.f spec_SealNumber.f spec_l2Secret.f spec_l2Again.f castV castOk castS
  rw [specMember_eq _ k hk, mem_isMem hkey]
  simp only [Option.bind_some, l1In_eq, if_true]
  by_cases h2 : 0 ≤ c ∧ c ≤ 3
  · obtain ⟨c, rfl⟩ := Int.eq_ofNat_of_zero_le h2.1
    rw [decide_eq_true h2, if_pos rfl, show (4 : Int) = ((4 : Nat) : Int) from rfl, specPower_eq 4 c (by omega) (by omega) k hk]
    simp only [Option.bind_some]
    rw [specMember_eq _ k hk, mem_isMem (mem_four.pow c)]
    simp only [Option.bind_some, if_true]
    by_cases h1 : 1 ≤ r ∧ r ≤ 1498
    · obtain ⟨r, rfl⟩ := Int.eq_ofNat_of_zero_le (show 0 ≤ r by omega)
      rw [decide_eq_true h1, if_pos rfl, specPower_eq 4 r (by omega) (by omega) k hk, specPower_eq key r hkey.lt (by omega) k hk]
      simp only [Option.bind_some, Bool.and_self, if_true]
      rw [show (1 : Int) = ((1 : Nat) : Int) from rfl, mulm 1 _ (by omega) (pwm_lt _ _), mulm _ _ (pwm_lt _ _) (pwm_lt _ _), Int.toNat_natCast, Int.toNat_natCast, Nat.one_mul, Nat.mod_eq_of_lt (pwm_lt _ _)]
    · rw [decide_eq_false h1, if_neg (by simp)]
      rfl
  · rw [decide_eq_false h2, if_neg (by simp), Bool.and_false]
    rfl

theorem votes_l0 (l : List Int) (hl : Bytes l) : ∀ (n : Nat) (out : List S28) (m p h : Int), m.toNat = n → n ≤ 100 → 0 ≤ m → out.length + n ≤ 100 → 0 ≤ p ∧ p + 6 * (n : Int) ≤ 17179869184 →
    Tot (fun k => spec_l1Cur_votes.l0 k out m l p h) (fun y => y.1.length ≤ 100) := by
  intro n
  induction n with
  | zero =>
    intro out m p h hm hn hm0 ho hp
    refine Tot.up ?_
    simp only [spec_l1Cur_votes.l0]
    refine Tot.neg (by omega) (Tot.ite (fun h0 => ?_) (fun _ => Tot.some_ (by simp only; omega)))
    refine Tot.bind (Tot.fix (one_tot l hl p h 20 (by omega) (by omega))) (fun y hy => ?_)
    refine Tot.ite (fun _ => ?_) (fun _ => Tot.some_ (by simp only; omega))
    refine Tot.bind (sealed_tot l hl _ _ (by omega)) (fun z hz => ?_)
    exact Tot.pos (by omega) (Tot.some_ (by simp; omega))
  | succ n ih =>
    intro out m p h hm hn hm0 ho hp
    refine Tot.up ?_
    simp only [spec_l1Cur_votes.l0]
    refine Tot.pos (by omega) (Tot.bind (Tot.fix (pick_tot l hl p h 200 (by omega) (by omega))) (fun y hy => ?_))
    obtain ⟨q, hq⟩ := Int.eq_ofNat_of_zero_le hy.1
    rw [w64 (n := 1 + y.1) (by omega) (by omega)]
    refine Tot.bind (Q := fun z => z = ((pwm 4 (1 + q) : Nat) : Int)) (Tot.at_ 22 rfl (fun k hk => ?_)) (fun z hz => ?_)
    · rw [show 1 + y.1 = ((1 + q : Nat) : Int) by omega]
      exact specPower_eq 4 (1 + q) (by omega) (by omega) k (by omega)
    · rw [hz]
      refine Tot.bind (Tot.fix (pick_tot l hl _ _ 200 (by omega) (by omega))) (fun u hu => ?_)
      refine Tot.bind (Tot.fix (pick_tot l hl _ _ 4 (by omega) (by omega))) (fun v hv => ?_)
      rw [w64 (n := m - 1) (by omega) (by omega)]
      refine Tot.bind (Q := fun z => True) (Tot.at_ (y := castV (pwm 4 (1 + q)) (wrap64 (1 + u.1)) v.1) 22 trivial (fun k hk => specCast_eq _ (mem_four.pow _) _ _ k (by omega))) (fun x hx => ?_)
      refine Tot.ite (fun _ => Tot.pos (by omega) ?_) (fun _ => ?_)
      · exact ih _ (m - 1) _ _ (by omega) (by omega) (by omega) (by rw [List.length_append]; simp only [List.length_singleton]; omega) (by omega)
      · exact ih _ (m - 1) _ _ (by omega) (by omega) (by omega) (by omega) (by omega)
theorem votes_tot (l : List Int) (hl : Bytes l) : Tot (fun k => spec_l1Cur_votes.f k l 0 0) (fun y => y.1.length ≤ 100) := by
  simp only [spec_l1Cur_votes.f]
  refine Tot.bind (Tot.fix (pick_tot l hl 0 0 6 (by omega) (by omega))) (fun y hy => ?_)
  refine Tot.bind (Tot.fix (one_tot l hl _ _ 20 (by omega) (by omega))) (fun z hz => ?_)
  refine Tot.ite (fun _ => ?_) (fun _ => ?_)
  · refine Tot.bind (Tot.fix (pick_tot l hl _ _ 2 (by omega) (by omega))) (fun u hu => ?_)
    rw [w64 (n := 12 + u.1) (by omega) (by omega)]
    refine Tot.up ?_
    simp only [spec_l1Cur_votes.j0]
    exact votes_l0 l hl (12 + u.1).toNat [] _ _ _ rfl (by omega) (by omega) (by simp; omega) (by omega)
  · refine Tot.up ?_
    simp only [spec_l1Cur_votes.j0]
    exact votes_l0 l hl y.1.toNat [] _ _ _ rfl (by omega) (by omega) (by simp; omega) (by omega)

def isSec (r : Int) : Prop := 1 ≤ r ∧ r ≤ 1498
instance (r : Int) : Decidable (isSec r) := inferInstanceAs (Decidable (_ ∧ _))
theorem implSec_eq (r : Int) : impl_isSecret.f r = some (decide (isSec r)) := by
  unfold impl_isSecret.f
  rw [within_eq]
  rfl
theorem specSec_eq (r : Int) : spec_l2Secret.f r = some (decide (isSec r)) := by
  unfold spec_l2Secret.f
  rw [l1In_eq]
  rfl

def partV (s a b : Int) : Int × Bool := if isSec s ∧ isSea a b = true then (((pwm a.toNat s.toNat : Nat) : Int), true) else (0, false)
theorem implPart_eq (s a b : Int) (k : Nat) (hk : 22 < k) : impl_OpenPart.f k s a b = some (partV s a b) := by
  unfold impl_OpenPart.f partV
  rw [implSec_eq, implSealed_eq a b k (by omega)]
  simp only [Option.bind_some]
  by_cases h2 : isSec s
  · by_cases h3 : isSea a b = true
    · obtain ⟨a, b, rfl, rfl, ha, hb⟩ := isSea_mem h3
      have h2' := h2
      unfold isSec at h2'
      obtain ⟨s, rfl⟩ := Int.eq_ofNat_of_zero_le (show 0 ≤ s by omega)
      rw [decide_eq_true h2, if_pos rfl, if_pos h3, if_pos ⟨h2, h3⟩, implPower_eq a s ha.lt (by omega) k (by omega)]
      rfl
    · rw [decide_eq_true h2, if_pos rfl, if_neg h3, if_neg (fun h => h3 h.2)]
  · rw [decide_eq_false h2, if_neg (by simp), if_neg (fun h => h2 h.1)]
theorem specPart_eq (s a b : Int) (k : Nat) (hk : 22 < k) : spec_OpenPart.f k s a b = some (partV s a b) := by
  unfold spec_OpenPart.f partV
  rw [specSec_eq, specSealed_eq a b k (by omega)]
  simp only [Option.bind_some]
  by_cases h2 : isSec s
  · by_cases h3 : isSea a b = true
    · obtain ⟨a, b, rfl, rfl, ha, hb⟩ := isSea_mem h3
      have h2' := h2
      unfold isSec at h2'
      obtain ⟨s, rfl⟩ := Int.eq_ofNat_of_zero_le (show 0 ≤ s by omega)
      rw [decide_eq_true h2, if_pos rfl, if_pos h3, if_pos ⟨h2, h3⟩, specPower_eq a s ha.lt (by omega) k (by omega)]
      rfl
    · rw [decide_eq_true h2, if_pos rfl, if_neg h3, if_neg (fun h => h3 h.2)]
  · rw [decide_eq_false h2, if_neg (by simp), if_neg (fun h => h2 h.1)]

theorem specInv_eq (a : Nat) (ha : a < 2999) (k : Nat) (hk : 21 < k) : spec_l2Inverse.f k (a : Int) = some ((pwm a 2997 : Nat) : Int) := by
  unfold spec_l2Inverse.f
  rw [show (2997 : Int) = ((2997 : Nat) : Int) from rfl, specPower_eq a 2997 ha (by omega) k hk]
  rfl

theorem implInv_eq (a : Nat) (ha : a < 2999) (k : Nat) (hk : 21 < k) : impl_inverse.f k (a : Int) = some ((pwm a 2997 : Nat) : Int) := by
  unfold impl_inverse.f
  rw [show (2997 : Int) = ((2997 : Nat) : Int) from rfl, implPower_eq a 2997 ha (by omega) k hk]
  rfl



def openNV (s a b : Int) : Int × Bool := if isSec s ∧ isSea a b = true then (((b.toNat * pwm (pwm a.toNat s.toNat) 2997 % 2999 : Nat) : Int), true) else (0, false)
theorem implOpenNumber_eq (s a b : Int) (k : Nat) (hk : 22 < k) : impl_OpenNumber.f k s a b = some (openNV s a b) := by
  obtain ⟨k, rfl⟩ := rounds hk
  unfold impl_OpenNumber.f openNV
  rw [implSec_eq, implSealed_eq a b _ (by omega)]
  simp only [Option.bind_some]
  by_cases h2 : isSec s
  · by_cases h3 : isSea a b = true
    · obtain ⟨a, b, rfl, rfl, ha, hb⟩ := isSea_mem h3
      have h2' := h2
      unfold isSec at h2'
      obtain ⟨s, rfl⟩ := Int.eq_ofNat_of_zero_le (show 0 ≤ s by omega)
      rw [decide_eq_true h2, if_pos rfl, h3, if_pos ⟨h2, rfl⟩]
      simp only [impl_OpenNumber.j0, Bool.not_true, Bool.false_eq_true, if_false]
      rw [implPower_eq a s ha.lt (by omega) k (by omega)]
      simp only [Option.bind_some]
      rw [implInv_eq _ (pwm_lt _ _) k (by omega)]
      simp only [Option.bind_some]
      rw [mulm _ _ hb.lt (pwm_lt _ _)]
      rfl
    · rw [decide_eq_true h2, if_pos rfl, if_neg (fun h => h3 h.2)]
      rw [Bool.not_eq_true] at h3
      rw [h3]
      simp only [impl_OpenNumber.j0, Bool.not_false, if_true]
  · rw [decide_eq_false h2, if_neg (by simp), if_neg (fun h => h2 h.1)]
    simp only [impl_OpenNumber.j0, if_true]

theorem pwm_mod {a : Nat} (ha : Mem a) (e : Nat) : pwm a (e % 1499) = pwm a e := by
  have h : pwm a (1499 * (e / 1499) + e % 1499) = pwm a (1499 * (e / 1499)) * pwm a (e % 1499) % 2999 := pwm_add a _ _
  have h2 : pwm 1 (e / 1499) = 1 := by unfold pwm; rw [Nat.one_pow]
  rw [Nat.div_add_mod, ← pwm_mul, ha.2, h2, Nat.one_mul, Nat.mod_eq_of_lt (pwm_lt _ _)] at h
  exact h.symm
def noOne : Nat → Nat → Bool
  | 0, _ => true
  | n + 1, c => Nat.beq c 1 == false && noOne n (c * 4 % 2999)
theorem mul4 (m x n y : Nat) : (m * x % 2999) * (n * y % 2999) % 2999 = (m * n % 2999) * (x * y % 2999) % 2999 := by
  rw [← Nat.mul_mod, ← Nat.mul_mod, Nat.mul_mul_mul_comm]
theorem pwm_base (a b e : Nat) : pwm (a * b % 2999) e = pwm a e * pwm b e % 2999 := by
  unfold pwm
  rw [← Nat.pow_mod, Nat.mul_pow, Nat.mul_mod]
/-- (a, b) opens to m under the secret s. -/
def Opens1 (s a b m : Nat) : Prop := b = m * pwm a s % 2999
theorem Opens1.mul {s a b m c d n : Nat} (h1 : Opens1 s a b m) (h2 : Opens1 s c d n) : Opens1 s (a * c % 2999) (b * d % 2999) (m * n % 2999) := by
  unfold Opens1 at *
  rw [h1, h2, mul4, pwm_base]
theorem specAll_l0 (l : List Int) (hl : l.length ≤ 1048576) (a b : Int) : ∀ (d k i : Nat), l.length - i = d → d < k → i ≤ l.length → spec_l1All.l0 k a b l (l.length : Int) (i : Int) = some (decide (∀ x ∈ l.drop i, a ≤ x ∧ x ≤ b)) := by
  intro d
  induction d with
  | zero =>
    intro k i hd hk hi
    obtain ⟨k, rfl⟩ := rounds hk
    simp only [spec_l1All.l0]
    rw [if_neg (by omega), List.drop_of_length_le (by omega)]
    simp
  | succ d ih =>
    intro k i hd hk hi
    obtain ⟨k, rfl⟩ := rounds hk
    have hlt : i < l.length := by omega
    simp only [spec_l1All.l0]
    rw [if_pos (by omega), if_pos (by omega), if_pos (by omega), rd_in l i hlt, w64 (by omega) (by omega), l1In_eq]
    simp only [Option.bind_some]
    have hdrop := List.drop_eq_getElem_cons hlt
    by_cases e : a ≤ l[i] ∧ l[i] ≤ b
    · have h := ih k (i + 1) (by omega) (by omega) (by omega)
      rw [decide_eq_true e, if_pos rfl]
      refine Eq.trans h ?_
      congr 1
      refine decide_eq_decide.2 ?_
      rw [hdrop]
      simp only [List.mem_cons, forall_eq_or_imp]
      exact ⟨fun h => ⟨e, h⟩, fun h => h.2⟩
    · rw [decide_eq_false e, if_neg (by simp)]
      congr 1
      refine (decide_eq_false (fun h => e (h l[i] (by rw [hdrop]; exact List.mem_cons_self)))).symm

theorem specAll_eq (l : List Int) (hl : l.length ≤ 1048576) (a b : Int) (k : Nat) (hk : l.length < k) : spec_l1All.f k l a b = some (decide (∀ x ∈ l, a ≤ x ∧ x ≤ b)) := by
  have h := specAll_l0 l hl a b l.length k 0 (by omega) hk (by omega)
  rw [List.drop_zero] at h
  exact h

theorem implAll_l0 (l : List Int) (hl : l.length ≤ 1048576) (a b : Int) : ∀ (d k i : Nat), l.length - i = d → d < k → i ≤ l.length → impl_allWithin.l0 k a b l (l.length : Int) (i : Int) = some (decide (∀ x ∈ l.drop i, a ≤ x ∧ x ≤ b)) := by
  intro d
  induction d with
  | zero =>
    intro k i hd hk hi
    obtain ⟨k, rfl⟩ := rounds hk
    simp only [impl_allWithin.l0]
    rw [if_neg (by omega), List.drop_of_length_le (by omega)]
    simp
  | succ d ih =>
    intro k i hd hk hi
    obtain ⟨k, rfl⟩ := rounds hk
    have hlt : i < l.length := by omega
    simp only [impl_allWithin.l0]
    rw [if_pos (by omega), if_pos (by omega), if_pos (by omega), rd_in l i hlt, w64 (by omega) (by omega), within_eq]
    simp only [Option.bind_some]
    have hdrop := List.drop_eq_getElem_cons hlt
    by_cases e : a ≤ l[i] ∧ l[i] ≤ b
    · have h := ih k (i + 1) (by omega) (by omega) (by omega)
      rw [decide_eq_true e, if_pos rfl]
      refine Eq.trans h ?_
      congr 1
      refine decide_eq_decide.2 ?_
      rw [hdrop]
      simp only [List.mem_cons, forall_eq_or_imp]
      exact ⟨fun h => ⟨e, h⟩, fun h => h.2⟩
    · rw [decide_eq_false e, if_neg (by simp)]
      congr 1
      refine (decide_eq_false (fun h => e (h l[i] (by rw [hdrop]; exact List.mem_cons_self)))).symm

theorem implAll_eq (l : List Int) (hl : l.length ≤ 1048576) (a b : Int) (k : Nat) (hk : l.length < k) : impl_allWithin.f k l a b = some (decide (∀ x ∈ l, a ≤ x ∧ x ≤ b)) := by
  have h := implAll_l0 l hl a b l.length k 0 (by omega) hk (by omega)
  rw [List.drop_zero] at h
  exact h

def areSec (l : List Int) (n : Int) : Bool := decide (1 ≤ (l.length : Int) ∧ (l.length : Int) ≤ n) && decide (∀ x ∈ l, 1 ≤ x ∧ x ≤ 1498)
theorem specSecrets_eq (l : List Int) (hl : l.length ≤ 1048576) (k : Nat) (hk : l.length < k) : spec_l6Secrets.f k l = some (areSec l 5) := by
  unfold spec_l6Secrets.f areSec
  rw [l1In_eq, specAll_eq l hl 1 1498 k hk]
  simp only [Option.bind_some]
  by_cases h : 1 ≤ (l.length : Int) ∧ (l.length : Int) ≤ 5 <;> simp [h]
theorem implSecrets_eq (l : List Int) (hl : l.length ≤ 1048576) (n : Int) (k : Nat) (hk : l.length < k) : impl_areSecrets.f k l n = some (areSec l n) := by
  unfold impl_areSecrets.f areSec
  rw [within_eq, implAll_eq l hl 1 1498 k hk]
  simp only [Option.bind_some]
  by_cases h : 1 ≤ (l.length : Int) ∧ (l.length : Int) ≤ n <;> simp [h]
theorem areSec_true {l : List Int} {n : Int} (h : areSec l n = true) : 1 ≤ (l.length : Int) ∧ (l.length : Int) ≤ n ∧ ∀ x ∈ l, 1 ≤ x ∧ x ≤ 1498 := by
  unfold areSec at h
  rw [Bool.and_eq_true, decide_eq_true_iff, decide_eq_true_iff] at h
  exact ⟨h.1.1, h.1.2, h.2⟩

/-- What is opened by all in turn. -/
def opf (a : Nat) (y : Nat) (s : Int) : Nat := y * pwm (pwm a s.toNat) 2997 % 2999
def openV (l : List Int) (a b : Nat) : Nat := l.foldl (opf a) b
theorem specOpen_l0 (l : List Int) (hl : l.length ≤ 5) (hs : ∀ x ∈ l, 1 ≤ x ∧ x ≤ 1498) (a b : Nat) (ha : Mem a) (hb : Mem b) (k : Nat) (hk : l.length + 22 < k) :
    spec_OpenAll.l0 k (b : Int) l (l.length : Int) 0 (a : Int) (b : Int) = some (((openV l a b : Nat) : Int), true) := by
  have hm := fun i => fv_all (opf a) b l Mem hb (fun y hy s _ => hy.mul ((ha.pow _).pow _)) i
  have h := loop_up (fun k (x : Int × Int) => spec_OpenAll.l0 k x.1 l (l.length : Int) x.2 (a : Int) (b : Int)) l.length 22
    (fun i => (((fv (opf a) b l i : Nat) : Int), (i : Int))) (((openV l a b : Nat) : Int), true) (fun i k hi hB => by
    have hx := hs l[i] (List.getElem_mem hi)
    simp only [spec_OpenAll.l0]
    rw [if_pos (by omega), if_pos (by omega), if_pos (by omega), rd_in l i hi, w64 (n := (i : Int) + 1) (by omega) (by omega)]
    rw [show l[i] = ((l[i].toNat : Nat) : Int) by omega, specPower_eq a _ ha.lt (by omega) k (by omega)]
    simp only [Option.bind_some]
    rw [specInv_eq _ (pwm_lt _ _) k (by omega)]
    simp only [Option.bind_some]
    rw [mulm _ _ (hm i).lt (pwm_lt _ _), fv_succ _ _ _ _ hi]
    rfl) (fun k _ => by
    simp only [spec_OpenAll.l0]
    rw [if_neg (by omega), fv_end]
    rfl) k hk
  rw [fv_zero] at h
  exact h

theorem implOpen_l0 (l : List Int) (hl : l.length ≤ 5) (hs : ∀ x ∈ l, 1 ≤ x ∧ x ≤ 1498) (a b : Nat) (ha : Mem a) (hb : Mem b) (k : Nat) (hk : l.length + 22 < k) :
    impl_OpenAll.l0 k (b : Int) l (l.length : Int) 0 (a : Int) (b : Int) = some (((openV l a b : Nat) : Int), true) := by
  have hm := fun i => fv_all (opf a) b l Mem hb (fun y hy s _ => hy.mul ((ha.pow _).pow _)) i
  have h := loop_up (fun k (x : Int × Int) => impl_OpenAll.l0 k x.1 l (l.length : Int) x.2 (a : Int) (b : Int)) l.length 22
    (fun i => (((fv (opf a) b l i : Nat) : Int), (i : Int))) (((openV l a b : Nat) : Int), true) (fun i k hi hB => by
    have hx := hs l[i] (List.getElem_mem hi)
    simp only [impl_OpenAll.l0]
    rw [if_pos (by omega), if_pos (by omega), if_pos (by omega), rd_in l i hi, w64 (n := (i : Int) + 1) (by omega) (by omega)]
    rw [show l[i] = ((l[i].toNat : Nat) : Int) by omega, implPower_eq a _ ha.lt (by omega) k (by omega)]
    simp only [Option.bind_some]
    rw [implInv_eq _ (pwm_lt _ _) k (by omega)]
    simp only [Option.bind_some]
    rw [mulm _ _ (hm i).lt (pwm_lt _ _), fv_succ _ _ _ _ hi]
    rfl) (fun k _ => by
    simp only [impl_OpenAll.l0]
    rw [if_neg (by omega), fv_end]
    rfl) k hk
  rw [fv_zero] at h
  exact h

def openAV (l : List Int) (a b : Int) : Int × Bool := if areSec l 5 = true ∧ isSea a b = true then (((openV l a.toNat b.toNat : Nat) : Int), true) else (0, false)
theorem specOpenAll_eq (l : List Int) (hl : l.length ≤ 1048576) (a b : Int) (k : Nat) (hk : l.length + 30 < k) : spec_OpenAll.f k l a b = some (openAV l a b) := by
  obtain ⟨k, rfl⟩ := rounds hk
  unfold spec_OpenAll.f openAV
  rw [specSecrets_eq l hl _ (by omega), specSealed_eq _ _ _ (by omega)]
  simp only [Option.bind_some, spec_OpenAll.j0]
  by_cases h : areSec l 5 = true ∧ isSea a b = true
  · rw [if_pos h]
    obtain ⟨n, m, rfl, rfl, hn, hm⟩ := isSea_mem h.2
    obtain ⟨h1, h2, h3⟩ := areSec_true h.1
    rw [if_pos h.1, h.2]
    simp only [Bool.not_true, Bool.false_eq_true, if_false]
    exact specOpen_l0 l (by omega) h3 n m hn hm k (by omega)
  · rw [if_neg h]
    cases h1 : areSec l 5
    · simp
    · cases h2 : isSea a b
      · simp
      · exact absurd ⟨h1, h2⟩ h
theorem implOpenAll_eq (l : List Int) (hl : l.length ≤ 1048576) (a b : Int) (k : Nat) (hk : l.length + 30 < k) : impl_OpenAll.f k l a b = some (openAV l a b) := by
  obtain ⟨k, rfl⟩ := rounds hk
  unfold impl_OpenAll.f openAV
  rw [implSecrets_eq l hl 5 _ (by omega), implSealed_eq _ _ _ (by omega)]
  simp only [Option.bind_some, impl_OpenAll.j0]
  by_cases h : areSec l 5 = true ∧ isSea a b = true
  · rw [if_pos h]
    obtain ⟨n, m, rfl, rfl, hn, hm⟩ := isSea_mem h.2
    obtain ⟨h1, h2, h3⟩ := areSec_true h.1
    rw [if_pos h.1, h.2]
    simp only [Bool.not_true, Bool.false_eq_true, if_false]
    exact implOpen_l0 l (by omega) h3 n m hn hm k (by omega)
  · rw [if_neg h]
    cases h1 : areSec l 5
    · simp
    · cases h2 : isSea a b
      · simp
      · exact absurd ⟨h1, h2⟩ h

/-- What is multiplied in turn. -/
def adf (y : Nat × Nat) (x : S28) : Nat × Nat := (y.1 * x.f0.toNat % 2999, y.2 * x.f1.toNat % 2999)
def adV (l : List S28) : Nat × Nat := l.foldl adf (1, 1)
def allSea (l : List S28) : Prop := ∀ x ∈ l, isSea x.f0 x.f1 = true
def Mem2 (y : Nat × Nat) : Prop := Mem y.1 ∧ Mem y.2
theorem adf_mem (l : List S28) (hs : allSea l) (y : Nat × Nat) (hy : Mem2 y) (x : S28) (h : x ∈ l) : Mem2 (adf y x) := by
  obtain ⟨n, m, h1, h2, h3, h4⟩ := isSea_mem (hs x h)
  unfold adf
  rw [h1, h2, Int.toNat_natCast, Int.toNat_natCast]
  exact ⟨hy.1.mul h3, hy.2.mul h4⟩
instance (l : List S28) : Decidable (allSea l) := inferInstanceAs (Decidable (∀ x ∈ l, isSea x.f0 x.f1 = true))
def addV (l : List S28) : Int × Int × Bool := if allSea l ∧ l.length ≤ 12 then ((((adV l).1 : Nat) : Int), (((adV l).2 : Nat) : Int), true) else (0, 0, false)

theorem rd28 (l : List S28) (i : Nat) (h : i < l.length) : rd_T28 l (i : Int) = l[i] := by
  unfold rd_T28
  rw [Int.toNat_natCast]
  exact getDin l _ i h

theorem specAdd_l0 (l : List S28) (hl : l.length ≤ 1048576) : ∀ (d k i : Nat), l.length - i = d → d + 22 < k → i ≤ l.length → allSea (l.take i) →
    spec_AddVotes.l0 k l l (l.length : Int) (i : Int) (((fv adf (1, 1) l i).1 : Nat) : Int) (((fv adf (1, 1) l i).2 : Nat) : Int) = some (addV l) := by
  intro d
  induction d with
  | zero =>
    intro k i hd hk hi ht
    obtain ⟨k, rfl⟩ := rounds hk
    have e : i = l.length := by omega
    subst e
    rw [List.take_length] at ht
    simp only [spec_AddVotes.l0]
    rw [if_neg (by omega), fv_end]
    unfold addV
    by_cases h : l.length ≤ 12
    · rw [if_neg (by omega), if_pos ⟨ht, h⟩]
      rfl
    · rw [if_pos (by omega), if_neg (fun e => h e.2)]
  | succ d ih =>
    intro k i hd hk hi ht
    obtain ⟨k, rfl⟩ := rounds hk
    have hlt : i < l.length := by omega
    simp only [spec_AddVotes.l0]
    rw [if_pos (by omega), if_pos (by omega), if_pos (by omega), rd28 l i hlt, w64 (n := (i : Int) + 1) (by omega) (by omega), specSealed_eq _ _ k (by omega)]
    simp only [Option.bind_some]
    by_cases e : isSea l[i].f0 l[i].f1 = true
    · have hm : Mem2 (fv adf (1, 1) l i) := by
        unfold fv
        exact foldl_all adf (1, 1) _ Mem2 ⟨Mem.one, Mem.one⟩ (adf_mem _ ht)
      obtain ⟨n, m, h1, h2, h3, h4⟩ := isSea_mem e
      have h5 := ih k (i + 1) (by omega) (by omega) (by omega) (fun x hx => by
        rw [List.take_succ_eq_append_getElem hlt, List.mem_append, List.mem_singleton] at hx
        rcases hx with hx | rfl
        · exact ht x hx
        · exact e)
      rw [fv_succ _ _ _ _ hlt] at h5
      unfold adf at h5
      rw [h1, h2, Int.toNat_natCast, Int.toNat_natCast] at h5
      rw [if_pos e, h1, h2, mulm _ _ hm.1.lt h3.lt, mulm _ _ hm.2.lt h4.lt]
      exact h5
    · rw [if_neg e]
      congr 1
      unfold addV
      rw [if_neg (fun h => e (h.1 _ (List.getElem_mem hlt)))]
theorem specAddVotes_eq (l : List S28) (hl : l.length ≤ 1048576) (k : Nat) (hk : l.length + 22 < k) : spec_AddVotes.f k l = some (addV l) := by
  have h := specAdd_l0 l hl l.length k 0 (by omega) hk (by omega) (fun x hx => by simp at hx)
  rw [fv_zero] at h
  exact h
theorem indexSea (l : List S28) (hl : l.length ≤ 1048576) : ∀ (d k i : Nat), l.length - i = d → d + 22 < k → i ≤ l.length →
    ∃ t, impl_Sealed_146.l0 k l (l.length : Int) (i : Int) = some t ∧ (t ≥ 0 ↔ ¬ allSea (l.drop i)) := by
  intro d
  induction d with
  | zero =>
    intro k i hd hk hi
    obtain ⟨k, rfl⟩ := rounds hk
    refine ⟨-1, ?_, ?_⟩
    · simp only [impl_Sealed_146.l0]
      rw [if_neg (by omega)]
    · rw [List.drop_of_length_le (by omega)]
      simp [allSea]
  | succ d ih =>
    intro k i hd hk hi
    obtain ⟨k, rfl⟩ := rounds hk
    have hlt : i < l.length := by omega
    obtain ⟨t, h1, h2⟩ := ih k (i + 1) (by omega) (by omega) (by omega)
    simp only [impl_Sealed_146.l0, impl_AddVotes_1.f]
    rw [if_pos (by omega), if_pos (by omega), if_pos (by omega), rd28 l i hlt, w64 (by omega) (by omega), implSealed_eq _ _ k (by omega), List.drop_eq_getElem_cons hlt]
    unfold allSea at h2 ⊢
    simp only [Option.bind_some, List.mem_cons, forall_eq_or_imp]
    cases e : isSea l[i].f0 l[i].f1
    · exact ⟨(i : Int), by simp, by simp⟩
    · exact ⟨t, by simpa using h1, by simpa using h2⟩
theorem containsSea (l : List S28) (hl : l.length ≤ 1048576) (k : Nat) (hk : l.length + 22 < k) : impl_Sealed_92.f k l = some (!decide (allSea l)) := by
  obtain ⟨t, h1, h2⟩ := indexSea l hl l.length k 0 (by omega) hk (by omega)
  unfold impl_Sealed_92.f impl_Sealed_146.f
  have h3 : impl_Sealed_146.l0 k l (l.length : Int) 0 = some t := h1
  rw [h3]
  simp only [Option.bind_some]
  rw [List.drop_zero] at h2
  congr 1
  by_cases e : allSea l
  · rw [decide_eq_true e, decide_eq_false (fun h => (h2.1 h) e)]
    rfl
  · rw [decide_eq_false e, decide_eq_true (h2.2 e)]
    rfl
theorem implAdd_l0 (l : List S28) (hl : l.length ≤ 12) (hs : allSea l) (k : Nat) (hk : l.length < k) :
    impl_AddVotes.l0 k l (l.length : Int) 0 1 1 = some ((((adV l).1 : Nat) : Int), (((adV l).2 : Nat) : Int), true) := by
  have hm := fun i => fv_all adf (1, 1) l Mem2 ⟨Mem.one, Mem.one⟩ (adf_mem l hs) i
  have h := loop_up (fun k (x : Int × Int × Int) => impl_AddVotes.l0 k l (l.length : Int) x.1 x.2.1 x.2.2) l.length 0
    (fun i => ((i : Int), (((fv adf (1, 1) l i).1 : Nat) : Int), (((fv adf (1, 1) l i).2 : Nat) : Int))) ((((adV l).1 : Nat) : Int), (((adV l).2 : Nat) : Int), true) (fun i k hi _ => by
    obtain ⟨n, m, h1, h2, h3, h4⟩ := isSea_mem (hs l[i] (List.getElem_mem hi))
    have hmi := hm i
    simp only [impl_AddVotes.l0, impl_multiplied.f]
    rw [if_pos (by omega), if_pos (by omega), if_pos (by omega), rd28 l i hi, w64 (n := (i : Int) + 1) (by omega) (by omega), fv_succ _ _ _ _ hi]
    unfold adf at hmi ⊢
    rw [h1, h2, Int.toNat_natCast, Int.toNat_natCast, mulm _ _ hmi.1.lt h3.lt, mulm _ _ hmi.2.lt h4.lt]
    rfl) (fun k _ => by
    simp only [impl_AddVotes.l0]
    rw [if_neg (by omega), fv_end]
    rfl) k hk
  rw [fv_zero] at h
  exact h
theorem implAddVotes_eq (l : List S28) (hl : l.length ≤ 1048576) (k : Nat) (hk : l.length + 22 < k) : impl_AddVotes.f k l = some (addV l) := by
  obtain ⟨k, rfl⟩ := rounds hk
  unfold impl_AddVotes.f addV
  by_cases h : l.length ≤ 12
  · rw [if_neg (by omega), containsSea l hl _ (by omega)]
    simp only [Option.bind_some, impl_AddVotes.j0]
    by_cases hs : allSea l
    · rw [decide_eq_true hs, if_neg (by simp), if_pos ⟨hs, h⟩]
      exact implAdd_l0 l h hs k (by omega)
    · rw [decide_eq_false hs, if_pos (by simp), if_neg (fun e => hs e.1)]
  · rw [if_pos (by omega), if_neg (fun e => h e.2)]
    simp only [impl_AddVotes.j0, if_true]

/-- The first x from here on, of d of them, whose power of 4 is a. -/
def logG (a : Nat) : Nat → Nat → Option Nat
  | 0, _ => none
  | d + 1, x => if pwm 4 x = a then some x else logG a d (x + 1)
def logI (o : Option Nat) : Int := match o with | some x => (x : Int) | none => -1
def logP (o : Option Nat) : Int × Bool := match o with | some x => ((x : Int), true) | none => (0, false)
theorem four_next (x : Nat) : Int.tmod (wrap64 (((pwm 4 x : Nat) : Int) * 4)) 2999 = ((pwm 4 (x + 1) : Nat) : Int) := by
  rw [show (4 : Int) = ((4 : Nat) : Int) from rfl, mulm _ 4 (pwm_lt _ _) (by omega), pwm_add, pwm_one 4 (by omega)]
theorem specLog_l0 (a m : Nat) (hm : m ≤ 100) : ∀ (d k x : Nat), m + 1 - x = d → x ≤ m + 1 → d < k → spec_l6Log.l0 k (a : Int) (m : Int) ((pwm 4 x : Nat) : Int) (x : Int) = some (logI (logG a d x)) := by
  intro d
  induction d with
  | zero =>
    intro k x hd hx hk
    obtain ⟨k, rfl⟩ := rounds hk
    simp only [spec_l6Log.l0]
    rw [if_neg (by omega)]
    rfl
  | succ d ih =>
    intro k x hd hx hk
    obtain ⟨k, rfl⟩ := rounds hk
    simp only [spec_l6Log.l0, logG]
    rw [if_pos (by omega)]
    by_cases e : pwm 4 x = a
    · rw [if_pos (by omega), if_pos e]
      rfl
    · rw [if_neg (by omega), if_neg e, four_next, w64 (by omega) (by omega)]
      exact ih k (x + 1) (by omega) (by omega) (by omega)
theorem implLog_l0 (a m : Nat) (hm : m ≤ 100) : ∀ (d k x : Nat), m + 1 - x = d → x ≤ m + 1 → d < k → impl_LogOf.l0 k (a : Int) (m : Int) (x : Int) ((pwm 4 x : Nat) : Int) = some (logP (logG a d x)) := by
  intro d
  induction d with
  | zero =>
    intro k x hd hx hk
    obtain ⟨k, rfl⟩ := rounds hk
    simp only [impl_LogOf.l0]
    rw [if_neg (by omega)]
    rfl
  | succ d ih =>
    intro k x hd hx hk
    obtain ⟨k, rfl⟩ := rounds hk
    simp only [impl_LogOf.l0, logG]
    rw [if_pos (by omega)]
    by_cases e : pwm 4 x = a
    · rw [if_pos (by omega), if_pos e]
      rfl
    · rw [if_neg (by omega), if_neg e, four_next, w64 (by omega) (by omega)]
      exact ih k (x + 1) (by omega) (by omega) (by omega)
def logV (a m : Int) : Int × Bool := if isMem a = true ∧ 0 ≤ m ∧ m ≤ 100 then logP (logG a.toNat (m.toNat + 1) 0) else (0, false)
theorem specLogOf_eq (a m : Int) (k : Nat) (hk : 103 < k) : spec_LogOf.f k a m = some (logV a m) := by
  unfold spec_LogOf.f logV spec_l6Log.f
  rw [specMember_eq a k (by omega)]
  simp only [Option.bind_some, l1In_eq]
  by_cases h : isMem a = true
  · obtain ⟨n, rfl, hn⟩ := isMem_mem h
    by_cases h2 : 0 ≤ m ∧ m ≤ 100
    · obtain ⟨q, rfl⟩ := Int.eq_ofNat_of_zero_le h2.1
      have h3 := specLog_l0 n q (by omega) (q + 1) k 0 (by omega) (by omega) (by omega)
      rw [pwm_zero] at h3
      have h4 : spec_l6Log.l0 k (n : Int) (q : Int) 1 0 = some (logI (logG n (q + 1) 0)) := h3
      rw [h, if_pos rfl, decide_eq_true h2, if_pos rfl, h4, if_pos ⟨rfl, h2⟩, Int.toNat_natCast, Int.toNat_natCast]
      simp only [Option.bind_some]
      cases logG n (q + 1) 0 with
      | none => rfl
      | some x => exact if_neg (by simp only [logI]; omega)
    · rw [h, if_pos rfl, decide_eq_false h2, if_neg (by simp), if_neg (fun e => h2 e.2)]
  · rw [if_neg h, if_neg (fun e => h e.1)]
theorem implLogOf_eq (a m : Int) (k : Nat) (hk : 103 < k) : impl_LogOf.f k a m = some (logV a m) := by
  obtain ⟨k, rfl⟩ := rounds hk
  unfold impl_LogOf.f logV
  rw [implMember_eq a (k + 1) (by omega)]
  simp only [Option.bind_some, within_eq]
  by_cases h : isMem a = true
  · obtain ⟨n, rfl, hn⟩ := isMem_mem h
    by_cases h2 : 0 ≤ m ∧ m ≤ 100
    · obtain ⟨q, rfl⟩ := Int.eq_ofNat_of_zero_le h2.1
      have h3 := implLog_l0 n q (by omega) (q + 1) k 0 (by omega) (by omega) (by omega)
      rw [pwm_zero] at h3
      have h4 : impl_LogOf.l0 k (n : Int) (q : Int) 0 1 = some (logP (logG n (q + 1) 0)) := h3
      rw [h, if_pos rfl, decide_eq_true h2, if_pos ⟨rfl, h2⟩, Int.toNat_natCast, Int.toNat_natCast]
      simp only [impl_LogOf.j0, Bool.not_true, Bool.false_eq_true, if_false]
      exact h4
    · rw [h, if_pos rfl, decide_eq_false h2, if_neg (fun e => h2 e.2)]
      simp only [impl_LogOf.j0, Bool.not_false, if_true]
  · rw [if_neg h, if_neg (fun e => h e.1)]
    simp only [impl_LogOf.j0, if_true]

/-- What is divided by all in turn. -/
def lsf (y : Nat) (p : Int) : Nat := y * pwm p.toNat 2997 % 2999
def lessV (l : List Int) (b : Nat) : Nat := l.foldl lsf b
theorem lsf_mem (l : List Int) (hs : ∀ x ∈ l, isMem x = true) (y : Nat) (hy : Mem y) (s : Int) (h : s ∈ l) : Mem (lsf y s) := by
  obtain ⟨n, hn, hmn⟩ := isMem_mem (hs s h)
  unfold lsf
  rw [hn, Int.toNat_natCast]
  exact hy.mul (hmn.pow _)
theorem implSum_l0 (l : List Int) (hl : l.length ≤ 1048576) (hs : ∀ x ∈ l, isMem x = true) (m : Int) (b : Nat) (hb : Mem b) (k : Nat) (hk : l.length + 104 < k) :
    impl_OpenSum.l0 k m (b : Int) l (l.length : Int) 0 = some (logV ((lessV l b : Nat) : Int) m) := by
  have hm := fun i => fv_all lsf b l Mem hb (lsf_mem l hs) i
  have h := loop_up (fun k (x : Int × Int) => impl_OpenSum.l0 k m x.1 l (l.length : Int) x.2) l.length 104
    (fun i => (((fv lsf b l i : Nat) : Int), (i : Int))) (logV ((lessV l b : Nat) : Int) m) (fun i k hi hB => by
    obtain ⟨n, hn, hmn⟩ := isMem_mem (hs l[i] (List.getElem_mem hi))
    simp only [impl_OpenSum.l0]
    rw [if_pos (by omega), if_pos (by omega), if_pos (by omega), rd_in l i hi, w64 (n := (i : Int) + 1) (by omega) (by omega)]
    rw [hn, implInv_eq _ hmn.lt k (by omega)]
    simp only [Option.bind_some]
    rw [mulm _ _ (hm i).lt (pwm_lt _ _), fv_succ _ _ _ _ hi]
    rw [lsf, hn, Int.toNat_natCast]
    rfl) (fun k hB => by
    simp only [impl_OpenSum.l0]
    rw [if_neg (by omega), fv_end, implLogOf_eq _ _ _ (by omega)]
    rfl) k hk
  rw [fv_zero] at h
  exact h

def sumV (a b : Int) (l : List Int) (m : Int) : Int × Bool := if isSea a b = true ∧ l.length ≤ 5 ∧ (∀ x ∈ l, isMem x = true) then logV ((lessV l b.toNat : Nat) : Int) m else (0, false)

theorem indexMem (l : List Int) (hl : l.length ≤ 1048576) : ∀ (d k i : Nat), l.length - i = d → d + 22 < k → i ≤ l.length →
    ∃ t, slices_IndexFunc_int_int.l0 k l (l.length : Int) (i : Int) = some t ∧ (t ≥ 0 ↔ ¬ ∀ x ∈ l.drop i, isMem x = true) := by
  intro d
  induction d with
  | zero =>
    intro k i hd hk hi
    obtain ⟨k, rfl⟩ := rounds hk
    refine ⟨-1, ?_, ?_⟩
    · simp only [slices_IndexFunc_int_int.l0]
      rw [if_neg (by omega)]
    · rw [List.drop_of_length_le (by omega)]
      simp
  | succ d ih =>
    intro k i hd hk hi
    obtain ⟨k, rfl⟩ := rounds hk
    have hlt : i < l.length := by omega
    obtain ⟨t, h1, h2⟩ := ih k (i + 1) (by omega) (by omega) (by omega)
    simp only [slices_IndexFunc_int_int.l0, impl_OpenSum_1.f]
    rw [if_pos (by omega), if_pos (by omega), if_pos (by omega), rd_in l i hlt, w64 (by omega) (by omega), implMember_eq _ k (by omega), List.drop_eq_getElem_cons hlt]
    simp only [Option.bind_some, List.mem_cons, forall_eq_or_imp]
    cases e : isMem l[i]
    · exact ⟨(i : Int), by simp, by simp⟩
    · exact ⟨t, by simpa using h1, by simpa using h2⟩
theorem containsMem (l : List Int) (hl : l.length ≤ 1048576) (k : Nat) (hk : l.length + 22 < k) : slices_ContainsFunc_int_int.f k l = some (!decide (∀ x ∈ l, isMem x = true)) := by
  obtain ⟨t, h1, h2⟩ := indexMem l hl l.length k 0 (by omega) hk (by omega)
  unfold slices_ContainsFunc_int_int.f slices_IndexFunc_int_int.f
  have h3 : slices_IndexFunc_int_int.l0 k l (l.length : Int) 0 = some t := h1
  rw [h3]
  simp only [Option.bind_some]
  rw [List.drop_zero] at h2
  congr 1
  by_cases e : ∀ x ∈ l, isMem x = true
  · rw [decide_eq_true e, decide_eq_false (fun h => (h2.1 h) e)]
    rfl
  · rw [decide_eq_false e, decide_eq_true (h2.2 e)]
    rfl
theorem implOpenSum_eq (a b : Int) (l : List Int) (hl : l.length ≤ 1048576) (m : Int) (k : Nat) (hk : l.length + 110 < k) : impl_OpenSum.f k a b l m = some (sumV a b l m) := by
  obtain ⟨k, rfl⟩ := rounds hk
  unfold impl_OpenSum.f sumV
  rw [implSealed_eq _ _ _ (by omega), containsMem l hl _ (by omega)]
  simp only [Option.bind_some]
  by_cases h1 : isSea a b = true
  · obtain ⟨n, q, rfl, rfl, hn, hq⟩ := isSea_mem h1
    rw [if_pos h1]
    by_cases h2 : l.length ≤ 5
    · rw [if_neg (by omega)]
      by_cases h3 : ∀ x ∈ l, isMem x = true
      · rw [if_pos ⟨h1, h2, h3⟩, decide_eq_true h3]
        simp only [impl_OpenSum.j0, Bool.not_true, Bool.false_eq_true, if_false]
        exact implSum_l0 l hl h3 m q hq k (by omega)
      · rw [if_neg (fun h => h3 h.2.2), decide_eq_false h3]
        simp only [impl_OpenSum.j0, Bool.not_false, if_true]
    · rw [if_pos (by omega), if_neg (fun h => h2 h.2.1)]
      simp only [impl_OpenSum.j0, if_true]
  · rw [if_neg h1, if_neg (fun h => h1 h.1)]
    simp only [impl_OpenSum.j0, if_true]

theorem specLess_eq (l : List Int) (hl : l.length ≤ 1048576) (hs : ∀ x ∈ l, isMem x = true) (b : Nat) (hb : Mem b) (k : Nat) (hk : l.length + 22 < k) :
    spec_l6Less.f k (b : Int) l = some ((lessV l b : Nat) : Int) := by
  have hm := fun i => fv_all lsf b l Mem hb (lsf_mem l hs) i
  have h := loop_up (fun k (x : Int × Int) => spec_l6Less.l0 k x.1 l (l.length : Int) x.2) l.length 22
    (fun i => (((fv lsf b l i : Nat) : Int), (i : Int))) ((lessV l b : Nat) : Int) (fun i k hi hB => by
    obtain ⟨n, hn, hmn⟩ := isMem_mem (hs l[i] (List.getElem_mem hi))
    simp only [spec_l6Less.l0]
    rw [if_pos (by omega), if_pos (by omega), if_pos (by omega), rd_in l i hi, w64 (n := (i : Int) + 1) (by omega) (by omega)]
    rw [hn, specInv_eq _ hmn.lt k (by omega)]
    simp only [Option.bind_some]
    rw [mulm _ _ (hm i).lt (pwm_lt _ _), fv_succ _ _ _ _ hi]
    rw [lsf, hn, Int.toNat_natCast]
    rfl) (fun k _ => by
    simp only [spec_l6Less.l0]
    rw [if_neg (by omega), fv_end]
    rfl) k hk
  rw [fv_zero] at h
  exact h
theorem specSum_end (l : List Int) (hl : l.length ≤ 1048576) (hs : ∀ x ∈ l, isMem x = true) (m a b : Int) (k : Nat) (hk : 130 < k) :
    spec_OpenSum.l0 k l m l (l.length : Int) (l.length : Int) a b = some (sumV a b l m) := by
  obtain ⟨k, rfl⟩ := rounds hk
  obtain ⟨j, rfl⟩ := rounds (show 0 < k by omega)
  simp only [spec_OpenSum.l0]
  rw [if_neg (by omega), specSealed_eq _ _ _ (by omega)]
  simp only [Option.bind_some, spec_OpenSum.j1]
  by_cases h1 : isSea a b = true
  · obtain ⟨n, q, rfl, rfl, hn, hq⟩ := isSea_mem h1
    rw [if_pos h1]
    by_cases h2 : l.length ≤ 5
    · rw [decide_eq_false (show ¬ (l.length : Int) > 5 by omega), if_neg (by simp), specLess_eq l hl hs q hq j (by omega)]
      simp only [Option.bind_some]
      rw [specLogOf_eq _ _ _ (by omega), sumV, if_pos ⟨h1, h2, hs⟩]
      rfl
    · rw [decide_eq_true (show (l.length : Int) > 5 by omega), if_pos rfl, sumV, if_neg (fun h => h2 h.2.1)]
  · rw [if_neg h1, if_pos trivial, sumV, if_neg (fun h => h1 h.1)]
theorem specSum_l0 (l : List Int) (hl : l.length ≤ 1048576) (m a b : Int) : ∀ (d k i : Nat), l.length - i = d → d + 130 < k → i ≤ l.length → (∀ x ∈ l.take i, isMem x = true) →
    spec_OpenSum.l0 k l m l (l.length : Int) (i : Int) a b = some (sumV a b l m) := by
  intro d
  induction d with
  | zero =>
    intro k i hd hk hi ht
    have e : i = l.length := by omega
    subst e
    rw [List.take_length] at ht
    exact specSum_end l hl ht m a b k (by omega)
  | succ d ih =>
    intro k i hd hk hi ht
    obtain ⟨k, rfl⟩ := rounds hk
    have hlt : i < l.length := by omega
    simp only [spec_OpenSum.l0]
    rw [if_pos (by omega), if_pos (by omega), if_pos (by omega), rd_in l i hlt, w64 (by omega) (by omega), specMember_eq _ k (by omega)]
    simp only [Option.bind_some]
    by_cases e : isMem l[i] = true
    · rw [if_pos e]
      exact ih k (i + 1) (by omega) (by omega) (by omega) (fun x hx => by
        rw [List.take_succ_eq_append_getElem hlt, List.mem_append, List.mem_singleton] at hx
        rcases hx with hx | rfl
        · exact ht x hx
        · exact e)
    · rw [if_neg e]
      congr 1
      unfold sumV
      rw [if_neg (fun h => e (h.2.2 _ (List.getElem_mem hlt)))]
theorem specOpenSum_eq (a b : Int) (l : List Int) (hl : l.length ≤ 1048576) (m : Int) (k : Nat) (hk : l.length + 130 < k) : spec_OpenSum.f k a b l m = some (sumV a b l m) :=
  specSum_l0 l hl m a b l.length k 0 (by omega) hk (by omega) (by simp)

def smf (y : Nat) (s : Int) : Nat := (y + s.toNat) % 1499
theorem open_sum (a : Nat) (ha : Mem a) (b : Nat) : ∀ (l : List Int) (x : Nat), l.foldl (opf a) (b * pwm (pwm a x) 2997 % 2999) = b * pwm (pwm a (l.foldl smf x)) 2997 % 2999 := by
  intro l
  induction l with
  | nil => intro x; rfl
  | cons s l ih =>
    intro x
    simp only [List.foldl_cons]
    have e : opf a (b * pwm (pwm a x) 2997 % 2999) s = b * pwm (pwm a (smf x s)) 2997 % 2999 := by
      unfold opf smf
      rw [pwm_mod ha, pwm_add, pwm_base, Nat.mod_mul_mod, Nat.mul_mod_mod, Nat.mul_assoc]
    rw [e]
    exact ih _
theorem pwm_of_one (e : Nat) : pwm 1 e = 1 := by unfold pwm; rw [Nat.one_pow]
theorem open_one (l : List Int) (a b : Nat) (ha : Mem a) (hb : Mem b) : openV l a b = b * pwm (pwm a (l.foldl smf 0)) 2997 % 2999 := by
  have h := open_sum a ha b l 0
  have h1 : pwm 1 2997 = 1 := pwm_of_one 2997
  rw [pwm_zero, h1, Nat.mul_one, Nat.mod_eq_of_lt hb.lt] at h
  exact h
theorem logG_spec (a : Nat) : ∀ (d x z : Nat), logG a d x = some z → pwm 4 z = a ∧ z < x + d := by
  intro d
  induction d with
  | zero => intro x z h; simp [logG] at h
  | succ d ih =>
    intro x z h
    simp only [logG] at h
    split at h
    · injection h with h
      subst h
      exact ⟨by assumption, by omega⟩
    · have := ih _ _ h
      exact ⟨this.1, by omega⟩
theorem log_power (a m x : Int) (h : logV a m = (x, true)) : ∃ z : Nat, x = (z : Int) ∧ z ≤ 100 ∧ a = ((pwm 4 z : Nat) : Int) := by
  unfold logV at h
  by_cases hc : isMem a = true ∧ 0 ≤ m ∧ m ≤ 100
  · rw [if_pos hc] at h
    cases hg : logG a.toNat (m.toNat + 1) 0 with
    | none =>
      rw [hg] at h
      simp [logP] at h
    | some z =>
      rw [hg] at h
      have h2 := logG_spec _ _ _ _ hg
      obtain ⟨n, rfl, _⟩ := isMem_mem hc.1
      simp only [logP, Prod.mk.injEq, and_true] at h
      rw [Int.toNat_natCast] at h2
      exact ⟨z, h.symm, by omega, by rw [h2.1]⟩
  · rw [if_neg hc] at h
    simp at h
theorem powerOf_eq (z : Nat) (hz : z ≤ 100) (k : Nat) (hk : 21 < k) : impl_PowerOf.f k 4 (z : Int) = some (((pwm 4 z : Nat) : Int), true) := by
  unfold impl_PowerOf.f impl_isUnit.f
  simp only [within_eq, Option.bind_some]
  rw [decide_eq_true (show (1 : Int) ≤ 4 ∧ (4 : Int) ≤ 2998 by omega), if_pos rfl, decide_eq_true (show (0 : Int) ≤ (z : Int) ∧ (z : Int) ≤ 1000000 by omega), if_pos rfl, show (4 : Int) = ((4 : Nat) : Int) from rfl, implPower_eq 4 z (by omega) (by omega) k hk]
  rfl
theorem keyOf_tot (l : List Int) (hl : l.length ≤ 1048576) : Tot (fun k => spec_KeyOf.f k l) (fun y => y.2 = true → ∃ n : Nat, y.1 = (n : Int) ∧ Mem n) := by
  simp only [spec_KeyOf.f]
  refine Tot.bind (Q := fun y => y = areSec l 5) (Tot.at_ (l.length + 1) rfl (fun k hk => specSecrets_eq l hl k (by omega))) (fun y e => ?_)
  refine Tot.ite (fun h => ?_) (fun h => Tot.some_ (by simp))
  obtain ⟨h1, h2, h3⟩ := areSec_true (e.symm.trans h)
  exact Tot.bind (Q := fun y => y = ((keyV l : Nat) : Int)) (Tot.at_ (l.length + 23) rfl (fun k hk => specKey_eq l (by omega) h3 k (by omega))) (fun z hz => Tot.some_ (fun _ => ⟨keyV l, hz, keyV_mem l⟩))
theorem drawOpenAll_tot (l : List Int) (hl : Bytes l) : Tot (fun k => spec_DrawOpenAll.f k l) (fun y => y.1.length ≤ 100) := by
  simp only [spec_DrawOpenAll.f]
  refine Tot.bind (curSecrets_tot l hl 0 0 (by omega)) (fun y hy => ?_)
  exact Tot.bind (sealed_tot l hl _ _ (by omega)) (fun z hz => Tot.some_ hy.1)
theorem drawSum_l0 (l : List Int) (hl : Bytes l) (s : List Int) (hs : s.length ≤ 100) (p h a b : Int) (hp : 0 ≤ p ∧ p ≤ 1073741824) : ∀ (d i : Nat) (out : List Int), s.length - i = d → i ≤ s.length → out.length ≤ i →
    Tot (fun k => spec_DrawOpenSum.l0 k out s (s.length : Int) (i : Int) l p h a b) (fun y => y.2.2.1.length ≤ 100) := by
  intro d
  induction d with
  | zero =>
    intro i out hd hi ho
    refine Tot.up ?_
    simp only [spec_DrawOpenSum.l0]
    exact Tot.neg (by omega) (Tot.bind (Tot.fix (among_tot l hl _ _ _ (by omega) (by simp) (by simp))) (fun z hz => Tot.some_ (by simp only; omega)))
  | succ d ih =>
    intro i out hd hi ho
    refine Tot.up ?_
    simp only [spec_DrawOpenSum.l0]
    refine Tot.pos (by omega) (Tot.pos (by omega) (Tot.pos (by omega) ?_))
    rw [w64 (n := (i : Int) + 1) (by omega) (by omega)]
    refine Tot.bind (Q := fun y => y = partV (rd s (i : Int)) a b) (Tot.at_ 23 rfl (fun k hk => specPart_eq _ _ _ k (by omega))) (fun y e => ?_)
    refine Tot.ite (fun _ => Tot.pos (by omega) ?_) (fun _ => ?_)
    · exact ih (i + 1) _ (by omega) (by omega) (by rw [List.length_append, List.length_singleton]; omega)
    · exact ih (i + 1) _ (by omega) (by omega) (by omega)
theorem drawSum_tot (l : List Int) (hl : Bytes l) : Tot (fun k => spec_DrawOpenSum.f k l) (fun y => y.2.2.1.length ≤ 100) := by
  have hj : ∀ (s : List Int) (p h a b : Int), s.length ≤ 100 → 0 ≤ p ∧ p ≤ 1073741824 → Tot (fun k => spec_DrawOpenSum.j0 k s l p h a b) (fun y => y.2.2.1.length ≤ 100) := by
    intro s p h a b hs hp
    refine Tot.up ?_
    simp only [spec_DrawOpenSum.j0]
    exact drawSum_l0 l hl s hs p h a b hp s.length 0 [] (by omega) (by omega) (by simp)
  simp only [spec_DrawOpenSum.f]
  refine Tot.bind (curSecrets_tot l hl 0 0 (by omega)) (fun y hy => ?_)
  refine Tot.bind (sealed_tot l hl _ _ (by omega)) (fun z hz => ?_)
  refine Tot.bind (keyOf_tot y.1 (by omega)) (fun u hu => ?_)
  refine Tot.ite (fun h => ?_) (fun h => hj _ _ _ _ _ (by omega) (by omega))
  obtain ⟨n, hn, hm⟩ := hu h
  rw [hn]
  refine Tot.bind (Tot.fix (pick_tot l hl _ _ 200 (by omega) (by omega))) (fun v hv => ?_)
  refine Tot.bind (Tot.fix (pick_tot l hl _ _ 4 (by omega) (by omega))) (fun w hw => ?_)
  refine Tot.bind (Q := fun x => True) (Tot.at_ (y := castV n (wrap64 (1 + v.1)) w.1) 22 trivial (fun k hk => specCast_eq n hm _ _ k (by omega))) (fun x hx => ?_)
  refine Tot.ite (fun _ => ?_) (fun _ => hj _ _ _ _ _ (by omega) (by omega))
  refine Tot.bind (Tot.fix (one_tot l hl _ _ 2 (by omega) (by omega))) (fun q hq => ?_)
  exact Tot.ite (fun _ => hj _ _ _ _ _ (by omega) (by omega)) (fun _ => hj _ _ _ _ _ (by omega) (by omega))
theorem drawLog_tot (l : List Int) (hl : Bytes l) : Tot (fun k => spec_DrawLogOf.f k l) (fun _ => True) := by
  simp only [spec_DrawLogOf.f]
  refine Tot.bind (Tot.fix (pick_tot l hl 0 0 130 (by omega) (by omega))) (fun y hy => ?_)
  obtain ⟨q, hq⟩ := Int.eq_ofNat_of_zero_le hy.1
  refine Tot.bind (Q := fun _ => True) (Tot.at_ (y := ((pwm 4 q : Nat) : Int)) 22 trivial (fun k hk => by
    rw [hq]
    exact specPower_eq 4 q (by omega) (by omega) k (by omega))) (fun z _ => ?_)
  refine Tot.bind (Tot.fix (pick_tot l hl _ _ 9 (by omega) (by omega))) (fun u hu => ?_)
  exact Tot.bind (Tot.fix (among_tot l hl _ _ _ (by omega) (by simp) (by simp))) (fun v hv => Tot.some_ trivial)
theorem drawAdd_tot (l : List Int) (hl : Bytes l) : Tot (fun k => spec_DrawAddVotes.f k l) (fun y => y.length ≤ 100) := by
  simp only [spec_DrawAddVotes.f]
  exact Tot.bind (votes_tot l hl) (fun y hy => Tot.some_ hy)
theorem drawPart_tot (l : List Int) (hl : Bytes l) : Tot (fun k => spec_DrawOpenPart.f k l) (fun _ => True) := by
  simp only [spec_DrawOpenPart.f, spec_DrawOpenNumber.f]
  refine Tot.bind (Q := fun _ => True) (Tot.bind (Tot.fix (secret_tot l hl 0 0 (by omega))) (fun y hy => Tot.bind (sealed_tot l hl _ _ (by omega)) (fun z hz => Tot.some_ trivial))) (fun _ _ => Tot.some_ trivial)
theorem law_j2 (l : List Int) (hl : Bytes l) : Tot (fun k => laws_FnOpened.j2 k l) (fun y => y = true) := by
  refine Tot.up ?_
  simp only [laws_FnOpened.j2]
  refine Tot.bind (drawSum_tot l hl) (fun y1 h1 => ?_)
  refine Tot.bind (Q := fun y => y = sumV y1.1 y1.2.1 y1.2.2.1 y1.2.2.2) (Tot.at_ (y1.2.2.1.length + 131) rfl (fun k hk => implOpenSum_eq _ _ _ (by omega) _ k (by omega))) (fun y2 e2 => ?_)
  refine Tot.bind (Q := fun y => y = sumV y1.1 y1.2.1 y1.2.2.1 y1.2.2.2) (Tot.at_ (y1.2.2.1.length + 131) rfl (fun k hk => specOpenSum_eq _ _ _ (by omega) _ k (by omega))) (fun y3 e3 => ?_)
  refine Tot.bind (drawLog_tot l hl) (fun y4 _ => ?_)
  refine Tot.bind (Q := fun y => y = logV y4.1 y4.2) (Tot.at_ 104 rfl (fun k hk => implLogOf_eq _ _ k (by omega))) (fun y5 e5 => ?_)
  refine Tot.bind (Q := fun y => y = logV y4.1 y4.2) (Tot.at_ 104 rfl (fun k hk => specLogOf_eq _ _ k (by omega))) (fun y6 e6 => ?_)
  refine Tot.bind (drawAdd_tot l hl) (fun y7 h7 => ?_)
  refine Tot.bind (Q := fun y => y = addV y7) (Tot.at_ (y7.length + 23) rfl (fun k hk => implAddVotes_eq _ (by omega) k (by omega))) (fun y8 e8 => ?_)
  refine Tot.bind (Q := fun y => y = addV y7) (Tot.at_ (y7.length + 23) rfl (fun k hk => specAddVotes_eq _ (by omega) k (by omega))) (fun y9 e9 => ?_)
  refine Tot.bind (drawPart_tot l hl) (fun y10 _ => ?_)
  refine Tot.bind (Q := fun y => y = partV y10.1 y10.2.1 y10.2.2) (Tot.at_ 23 rfl (fun k hk => implPart_eq _ _ _ k (by omega))) (fun y11 e11 => ?_)
  refine Tot.bind (Q := fun y => y = partV y10.1 y10.2.1 y10.2.2) (Tot.at_ 23 rfl (fun k hk => specPart_eq _ _ _ k (by omega))) (fun y12 e12 => ?_)
  rw [e2, e3, e5, e6, e8, e9, e11, e12]
  refine Tot.neg (by simp) (Tot.pos rfl (Tot.neg (by simp) (Tot.pos rfl (Tot.neg (by simp) (Tot.neg (by simp) (Tot.neg (by simp) (Tot.up ?_)))))))
  simp only [laws_FnOpened.j3, bne_self_eq_false]
  refine Tot.neg (by simp) (Tot.ite (fun h => ?_) (fun _ => Tot.some_ rfl))
  obtain ⟨z, h13, h14, h15⟩ := log_power y4.1 y4.2 (logV y4.1 y4.2).1 (by rw [← h])
  rw [h13]
  refine Tot.bind (Q := fun y => y = (((pwm 4 z : Nat) : Int), true)) (Tot.at_ 22 rfl (fun k hk => powerOf_eq z h14 k (by omega))) (fun y13 e13 => ?_)
  rw [e13]
  exact Tot.pos rfl (Tot.some_ (by rw [h15]; simp))
theorem law_l0 (l1 : List Int) (hb1 : Bytes l1) (l : List Int) (hl : l.length ≤ 5) (hs : ∀ x ∈ l, 1 ≤ x ∧ x ≤ 1498) (a b : Nat) (ha : Mem a) (hb : Mem b) : ∀ (d i : Nat), l.length - i = d → i ≤ l.length →
    Tot (fun k => laws_FnOpened.l0 k l1 ((openV l a b : Nat) : Int) ((fv smf 0 l i : Nat) : Int) l (l.length : Int) (i : Int) (a : Int) (b : Int)) (fun y => y = true) := by
  have hlt : ∀ i, fv smf 0 l i < 1499 := fun i => fv_all smf 0 l (fun y => y < 1499) (by omega) (fun y _ s _ => Nat.mod_lt _ (by omega)) i
  intro d
  induction d with
  | zero =>
    intro i hd hi
    have e : i = l.length := by omega
    subst e
    have hlt1 := hlt l.length
    refine Tot.up ?_
    simp only [laws_FnOpened.l0]
    refine Tot.neg (by omega) ?_
    refine Tot.bind (Q := fun y => y = openNV ((fv smf 0 l l.length : Nat) : Int) (a : Int) (b : Int)) (Tot.at_ 23 rfl (fun k hk => implOpenNumber_eq _ _ _ k (by omega))) (fun y e => ?_)
    rw [e]
    refine Tot.ite (fun h => Tot.pos ?_ (law_j2 l1 hb1)) (fun _ => law_j2 l1 hb1)
    unfold openNV at h ⊢
    by_cases hc : isSec ((fv smf 0 l l.length : Nat) : Int) ∧ isSea (a : Int) (b : Int) = true
    · rw [if_pos hc, open_one l a b ha hb, fv_end, Int.toNat_natCast, Int.toNat_natCast, Int.toNat_natCast]
    · rw [if_neg hc] at h
      simp at h
  | succ d ih =>
    intro i hd hi
    have hil : i < l.length := by omega
    have hx := hs _ (List.getElem_mem hil)
    have hlt1 := hlt i
    refine Tot.up ?_
    simp only [laws_FnOpened.l0]
    refine Tot.pos (by omega) (Tot.pos (by omega) (Tot.pos (by omega) ?_))
    have e : Int.tmod (wrap64 (((fv smf 0 l i : Nat) : Int) + rd l (i : Int))) 1499 = ((fv smf 0 l (i + 1) : Nat) : Int) := by
      rw [rd_in l i hil, w64 (by omega) (by omega), Int.tmod_eq_emod_of_nonneg (by omega), fv_succ _ _ _ _ hil]
      unfold smf
      omega
    rw [e, w64 (n := (i : Int) + 1) (by omega) (by omega)]
    exact ih (i + 1) (by omega) (by omega)
theorem FnOpened : laws_FnOpened.Pure := by
  intro l0 l1 hm0 hx0 hw0 hm1 hx1 hw1
  have hmx : maxLen = 9223372036854775807 := rfl
  refine Tot.ex ?_
  simp only [laws_FnOpened.f]
  rw [w64 (n := (l0.length : Int) + (l1.length : Int)) (by omega) (by omega)]
  by_cases hn : (l0.length : Int) + (l1.length : Int) > 1048576
  · exact Tot.pos hn (Tot.some_ rfl)
  · have hb0 : Bytes l0 := bytes_of (by omega) hw0
    have hb1 : Bytes l1 := bytes_of (by omega) hw1
    refine Tot.neg hn ?_
    refine Tot.bind (drawOpenAll_tot l0 hb0) (fun y1 h1 => ?_)
    obtain ⟨l, a, b⟩ := y1
    simp only at h1 ⊢
    refine Tot.bind (Q := fun y => y = openAV l a b) (Tot.at_ (l.length + 31) rfl (fun k hk => implOpenAll_eq l (by omega) a b k (by omega))) (fun y2 e2 => ?_)
    refine Tot.bind (Q := fun y => y = openAV l a b) (Tot.at_ (l.length + 31) rfl (fun k hk => specOpenAll_eq l (by omega) a b k (by omega))) (fun y3 e3 => ?_)
    rw [e2, e3]
    refine Tot.neg (by simp) (Tot.up ?_)
    simp only [laws_FnOpened.j0, bne_self_eq_false]
    refine Tot.neg (by simp) ?_
    unfold openAV
    by_cases hc : areSec l 5 = true ∧ isSea a b = true
    · rw [if_pos hc]
      obtain ⟨n, m, rfl, rfl, hn, hm⟩ := isSea_mem hc.2
      obtain ⟨h2, h3, h4⟩ := areSec_true hc.1
      refine Tot.pos rfl ?_
      have h := law_l0 l1 hb1 l (by omega) h4 n m hn hm l.length 0 (by omega) (by omega)
      rw [fv_zero] at h
      exact h
    · rw [if_neg hc]
      exact Tot.neg (by simp) (law_j2 l1 hb1)

end Go.Proofs.Ytaiejbcpahcfmaa.Pure
