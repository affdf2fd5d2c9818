/- Proved: a count tells the sum of the choices, and so does who does its steps one by one, for all bytes that the poll is drawn from. Conditions: those of the given statement alone. -/
import Derived.Test.YtaiejbcpahcfmaaPFnPollx11
import Derived.Test.YtaiejbcpahcfmaaBase
set_option linter.unusedVariables false
set_option linter.unusedSimpArgs false
namespace Go.Proofs.Ytaiejbcpahcfmaa.Pure
open Go.RowKit Go.Proofs.Ytaiejbcpahcfmaa.PFnPoll Go.Proofs.Ytaiejbcpahcfmaa.Base Go.Proofs.YtaiejbcpahcfmaaW.PrintWords Go.Proofs.YtaiejbcpahcfmaaW.PrintLast Go.Proofs.YtaiejbcpahcfmaaW.PrintMore Go.Proofs.Ytaiejbcpahcfmaa

/-- The bits of a letter: where it stands is small, its bytes are bytes. -/
def Bytes (l : List Int) : Prop := l.length ≤ 1048576 ∧ ∀ x ∈ l, 0 ≤ x ∧ x ≤ 255
theorem and255 (E : Int) : 0 ≤ Go.bits .and .u64 E 255 ∧ Go.bits .and .u64 E 255 ≤ 255 := by
  have h : Go.bits .and .u64 E 255 = IntKind.u64.wrap (((BitVec.ofInt 64 E) &&& (BitVec.ofInt 64 255)).toNat : Int) := rfl
  have h2 : ((BitVec.ofInt 64 E) &&& (BitVec.ofInt 64 255)).toNat ≤ 255 := by
    rw [BitVec.toNat_and]
    exact Nat.and_le_right
  have h3 : IntKind.u64.wrap (((BitVec.ofInt 64 E) &&& (BitVec.ofInt 64 255)).toNat : Int) = (((BitVec.ofInt 64 E) &&& (BitVec.ofInt 64 255)).toNat : Int) := by
    show (_ : Int) % 2 ^ 64 = _
    omega
  rw [h, h3]
  omega
def CurOk (p' p : Int) : Prop := p ≤ p' ∧ p' ≤ p + 2
theorem next_tot (l : List Int) (hl : Bytes l) (p h : Int) (hp : 0 ≤ p ∧ p ≤ 1099511627776) : ∃ y, spec_l1Cur_next.f l p h = some y ∧ (0 ≤ y.1 ∧ y.1 ≤ 255 ∧ y.2.1 = p + 1) := by
  have hl1 := hl.1
  unfold spec_l1Cur_next.f
  rw [w64 (n := p + 1) (by omega) (by omega)]
  by_cases h1 : p < (l.length : Int)
  · obtain ⟨i, rfl⟩ := Int.eq_ofNat_of_zero_le hp.1
    have h2 := hl.2 _ (rd_mem l i (by omega))
    rw [if_pos h1, if_pos hp.1, if_pos (by omega)]
    refine ⟨_, rfl, ?_⟩
    simp only
    rw [w64 (by omega) (by omega)]
    exact ⟨h2.1, h2.2, trivial⟩
  · rw [if_neg h1, if_neg (by omega)]
    refine ⟨_, rfl, ?_⟩
    have h3 := and255 ((IntKind.u64.wrap ((IntKind.u64.wrap ((IntKind.u64.wrap (h * 6364136223846793005)) + 0)) + 1442695040888963407)) / 1099511627776)
    simp only
    rw [w64 (by omega) (by omega)]
    exact ⟨h3.1, h3.2, trivial⟩
theorem pick_tot (l : List Int) (hl : Bytes l) (p h a : Int) (hp : 0 ≤ p ∧ p ≤ 549755813888) (ha : a ≤ 1048576) : ∃ y, spec_l1Cur_pick.f l p h a = some y ∧ (0 ≤ y.1 ∧ (y.1 < a ∨ y.1 = 0) ∧ p ≤ y.2.1 ∧ y.2.1 ≤ p + 2) := by
  unfold spec_l1Cur_pick.f
  by_cases h1 : a ≤ 1
  · rw [if_pos h1]
    exact ⟨_, rfl, by simp only; omega, .inr rfl, by simp only; omega, by simp only; omega⟩
  · rw [if_neg h1]
    obtain ⟨⟨b, p1, h'⟩, e1, hb0, hb1, hp1⟩ := next_tot l hl p h (by omega)
    simp only at hb0 hb1 hp1
    rw [e1]
    simp only [Option.bind_some]
    by_cases h2 : a > 200
    · obtain ⟨⟨c, p2, h''⟩, e2, hc0, hc1, hp2⟩ := next_tot l hl p1 h' (by omega)
      simp only at hc0 hc1 hp2
      rw [if_pos h2, e2]
      simp only [Option.bind_some]
      rw [if_neg (by omega), w64 (n := b * 256) (by omega) (by omega), w64 (by omega) (by omega), Int.tmod_eq_emod_of_nonneg (by omega)]
      have h3 := Int.emod_nonneg (b * 256 + c) (show a ≠ 0 by omega)
      have h4 := Int.emod_lt_of_pos (b * 256 + c) (show 0 < a by omega)
      exact ⟨_, rfl, h3, .inl h4, by simp only; omega, by simp only; omega⟩
    · rw [if_neg h2, if_neg (by omega), Int.tmod_eq_emod_of_nonneg (by omega)]
      have h3 := Int.emod_nonneg b (show a ≠ 0 by omega)
      have h4 := Int.emod_lt_of_pos b (show 0 < a by omega)
      exact ⟨_, rfl, h3, .inl h4, by simp only; omega, by simp only; omega⟩

theorem bytes_of {l : List Int} (h : l.length ≤ 1048576) (hw : ∀ x ∈ l, (Lit.int .u8 x).wf = true) : Bytes l := by
  refine ⟨h, fun x hx => ?_⟩
  have h2 := hw x hx
  simp only [Lit.wf, Bool.and_eq_true, decide_eq_true_iff] at h2
  exact h2

theorem one_tot (l : List Int) (hl : Bytes l) (p h a : Int) (hp : 0 ≤ p ∧ p ≤ 549755813888) (ha : a ≤ 1048576) : ∃ y, spec_l1Cur_one.f l p h a = some y ∧ (p ≤ y.2.1 ∧ y.2.1 ≤ p + 2) := by
  unfold spec_l1Cur_one.f
  obtain ⟨⟨b, p1, h'⟩, e1, hb0, hb1, hp0, hp1⟩ := pick_tot l hl p h a hp ha
  simp only at hp0 hp1
  rw [e1]
  exact ⟨_, rfl, hp0, hp1⟩

theorem among_tot (l : List Int) (hl : Bytes l) (p h : Int) (m : List Int) (hp : 0 ≤ p ∧ p ≤ 549755813888) (hm : 0 < m.length) (hm2 : m.length ≤ 1048576) : ∃ y, spec_l1Cur_among.f l p h m = some y ∧ (y.1 ∈ m ∧ p ≤ y.2.1 ∧ y.2.1 ≤ p + 2) := by
  unfold spec_l1Cur_among.f
  obtain ⟨⟨b, p1, h'⟩, e1, hb0, hb1, hp0, hp1⟩ := pick_tot l hl p h (m.length : Int) hp (by omega)
  simp only at hb0 hb1 hp0 hp1
  rw [e1]
  simp only [Option.bind_some]
  obtain ⟨i, rfl⟩ := Int.eq_ofNat_of_zero_le hb0
  rw [if_pos hb0, if_pos (by omega)]
  exact ⟨_, rfl, rd_mem m i (by omega), by simp only; omega, by simp only; omega⟩

theorem secret_tot (l : List Int) (hl : Bytes l) (p h : Int) (hp : 0 ≤ p ∧ p ≤ 274877906944) : ∃ y, spec_l1Cur_secret.f l p h = some y ∧ (p ≤ y.2.1 ∧ y.2.1 ≤ p + 8) := by
  unfold spec_l1Cur_secret.f
  obtain ⟨⟨b1, p1, h1⟩, e1, _, _, a1, c1⟩ := pick_tot l hl p h 250 (by omega) (by omega)
  simp only at a1 c1
  rw [e1]
  simp only [Option.bind_some]
  obtain ⟨⟨b2, p2, h2⟩, e2, _, _, a2, c2⟩ := pick_tot l hl p1 h1 250 (by omega) (by omega)
  simp only at a2 c2
  rw [e2]
  simp only [Option.bind_some]
  obtain ⟨⟨b3, p3, h3⟩, e3, _, _, a3, c3⟩ := pick_tot l hl p2 h2 250 (by omega) (by omega)
  simp only at a3 c3
  rw [e3]
  simp only [Option.bind_some]
  obtain ⟨⟨b4, p4, h4⟩, e4, _, a4, c4⟩ := among_tot l hl p3 h3 [0, 1, 2, 7, 1498, 1499, wrap64 (1 + (wrap64 (b1 * 5))), wrap64 (1 + (wrap64 (b2 * 5))), wrap64 (1 + (wrap64 (b3 * 5)))] (by omega) (by simp) (by simp)
  simp only at a4 c4
  rw [e4]
  exact ⟨_, rfl, by simp only; omega, by simp only; omega⟩

theorem curSecrets_l1 (l : List Int) (p h : Int) : ∀ (d i : Nat) (x : List Int), x.length - i = d → i ≤ x.length → x.length ≤ 1048576 → Tot (fun k => spec_l1Cur_secrets.l1 k x (x.length : Int) (i : Int) l p h) (fun y => y.1.length = x.length ∧ y.2.1 = p) := by
  intro d
  induction d with
  | zero =>
    intro i x hd hi hx
    refine Tot.up ?_
    simp only [spec_l1Cur_secrets.l1]
    exact Tot.neg (by omega) (Tot.some_ ⟨rfl, rfl⟩)
  | succ d ih =>
    intro i x hd hi hx
    refine Tot.up ?_
    simp only [spec_l1Cur_secrets.l1]
    refine Tot.pos (by omega) (Tot.pos (by omega) (Tot.pos (by omega) ?_))
    rw [w64 (n := (i : Int) + 1) (by omega) (by omega)]
    have hh := ih (i + 1) (x.set ((i : Int)).toNat 7) (by rw [List.length_set]; omega) (by rw [List.length_set]; omega) (by rw [List.length_set]; omega)
    rw [List.length_set] at hh
    exact hh
theorem curSecrets_l0 (l : List Int) (hl : Bytes l) : ∀ (n : Nat) (out : List Int) (m p h : Int), m.toNat = n → n ≤ 100 → 0 < (out.length : Int) + m → 0 ≤ m → out.length + n ≤ 100 → 0 ≤ p ∧ p + 2 * (n : Int) ≤ 17179869184 →
    Tot (fun k => spec_l1Cur_secrets.l0 k out m l p h) (fun y => y.1.length ≤ 100 ∧ p ≤ y.2.1 ∧ y.2.1 ≤ p + 2 * (n : Int) + 4) := by
  intro n
  induction n with
  | zero =>
    intro out m p h hm hn h0 hm0 ho hp
    refine Tot.up ?_
    simp only [spec_l1Cur_secrets.l0]
    refine Tot.neg (by omega) (Tot.bind (Tot.fix (pick_tot l hl p h 20 (by omega) (by omega))) (fun y hy => ?_))
    refine Tot.ite (fun _ => ?_) (fun _ => Tot.ite (fun _ => ?_) (fun _ => Tot.some_ ⟨by simp only; omega, by simp only; omega, by simp only; omega⟩))
    · refine Tot.bind (Tot.fix (among_tot l hl _ _ _ (by omega) (by simp) (by simp))) (fun z hz => ?_)
      exact Tot.pos (by omega) (Tot.some_ ⟨by simp; omega, by simp only; omega, by simp only; omega⟩)
    · refine Tot.bind (Tot.fix (among_tot l hl _ _ _ (by omega) (by simp) (by simp))) (fun z hz => ?_)
      have hz1 : 0 ≤ z.1 ∧ z.1 ≤ 6 := by
        have := hz.1
        simp only [List.mem_cons, List.not_mem_nil, or_false] at this
        omega
      refine Tot.pos (by omega) (Tot.pos (by omega) (Tot.bind (Q := fun y => y = List.replicate z.1.toNat 0) (Tot.some_ rfl) (fun u hu => ?_)))
      rw [hu]
      have hlen : (List.replicate z.1.toNat (0 : Int)).length = z.1.toNat := by simp
      refine (curSecrets_l1 l z.2.1 z.2.2 z.1.toNat 0 (List.replicate z.1.toNat 0) (by omega) (by omega) (by omega)).imp (fun v hv => ?_)
      omega
  | succ n ih =>
    intro out m p h hm hn h0 hm0 ho hp
    refine Tot.up ?_
    simp only [spec_l1Cur_secrets.l0]
    refine Tot.pos (by omega) (Tot.bind (Tot.fix (pick_tot l hl p h 250 (by omega) (by omega))) (fun y hy => ?_))
    refine Tot.pos (by omega) ?_
    rw [w64 (n := m - 1) (by omega) (by omega)]
    refine (ih (out ++ [wrap64 (1 + wrap64 (y.1 * 5))]) (m - 1) y.2.1 y.2.2 (by omega) (by omega) (by rw [List.length_append]; simp only [List.length_singleton]; omega) (by omega) (by rw [List.length_append]; simp only [List.length_singleton]; omega) (by omega)).imp (fun z hz => ?_)
    omega
theorem curSecrets_tot (l : List Int) (hl : Bytes l) (p h : Int) (hp : 0 ≤ p ∧ p ≤ 1073741824) : Tot (fun k => spec_l1Cur_secrets.f k l p h) (fun y => y.1.length ≤ 100 ∧ p ≤ y.2.1 ∧ y.2.1 ≤ p + 100) := by
  simp only [spec_l1Cur_secrets.f]
  refine Tot.bind (Tot.fix (pick_tot l hl p h 4 (by omega) (by omega))) (fun y hy => ?_)
  rw [w64 (n := 1 + y.1) (by omega) (by omega)]
  refine (curSecrets_l0 l hl (1 + y.1).toNat [] (1 + y.1) y.2.1 y.2.2 rfl (by omega) (by simp; omega) (by omega) (by simp; omega) (by omega)).imp (fun z hz => ?_)
  omega

theorem l1In_eq (a b c : Int) : spec_l1In.f a b c = some (decide (b ≤ a ∧ a ≤ c)) := by
  unfold spec_l1In.f
  by_cases h : a ≥ b
  · rw [if_pos h]
    congr 1
    exact decide_eq_decide.2 ⟨fun h1 => ⟨h, h1⟩, fun h1 => h1.2⟩
  · rw [if_neg h, decide_eq_false (fun h1 => h h1.1)]

theorem within_eq (a b c : Int) : impl_within.f a b c = some (decide (b ≤ a ∧ a ≤ c)) := by
  unfold impl_within.f
  by_cases h : a ≥ b
  · rw [if_pos h]
    congr 1
    exact decide_eq_decide.2 ⟨fun h1 => ⟨h, h1⟩, fun h1 => h1.2⟩
  · rw [if_neg h, decide_eq_false (fun h1 => h h1.1)]

theorem specPower_l0 (n : Nat) : ∀ (k a e o : Nat), e < 2 ^ n → n < k → a < 2999 → o < 2999 → e ≤ 4294967296 → spec_l2Power.l0 k (a : Int) (e : Int) (o : Int) = some ((o * a ^ e % 2999 : Nat) : Int) := by
  induction n with
  | zero =>
    intro k a e o he hk ha ho _
    obtain ⟨k, rfl⟩ := rounds hk
    have h0 : e = 0 := by omega
    subst h0
    simp only [spec_l2Power.l0]
    rw [if_neg (by omega), Nat.pow_zero, Nat.mul_one, Nat.mod_eq_of_lt ho]
  | succ n ih =>
    intro k a e o he hk ha ho hm
    obtain ⟨k, rfl⟩ := rounds hk
    simp only [spec_l2Power.l0]
    by_cases h0 : e = 0
    · subst h0
      rw [if_neg (by omega), Nat.pow_zero, Nat.mul_one, Nat.mod_eq_of_lt ho]
    · have ha2 : a * a ≤ 2999 * 2999 := Nat.mul_le_mul (by omega) (by omega)
      have hoa : o * a ≤ 2999 * 2999 := Nat.mul_le_mul (by omega) (by omega)
      have hp : 2 ^ (n + 1) = 2 * 2 ^ n := by rw [Nat.pow_succ, Nat.mul_comm]
      have e1 : wrap64 ((a : Int) * (a : Int)) = ((a * a : Nat) : Int) := by rw [← Int.natCast_mul]; exact wnat _ (by omega)
      have e2 : wrap64 ((o : Int) * (a : Int)) = ((o * a : Nat) : Int) := by rw [← Int.natCast_mul]; exact wnat _ (by omega)
      have e3 : wrap64 (Int.tdiv (e : Int) 2) = ((e / 2 : Nat) : Int) := by rw [show Int.tdiv (e : Int) 2 = ((e / 2 : Nat) : Int) from tdiv_nat e 2]; exact wnat _ (by omega)
      rw [if_pos (by omega), e1, e2, e3]
      rw [show Int.tmod ((a * a : Nat) : Int) 2999 = ((a * a % 2999 : Nat) : Int) from tmod_nat _ 2999, show Int.tmod ((o * a : Nat) : Int) 2999 = ((o * a % 2999 : Nat) : Int) from tmod_nat _ 2999, show Int.tmod (e : Int) 2 = ((e % 2 : Nat) : Int) from tmod_nat e 2]
      by_cases h1 : e % 2 = 1
      · rw [if_pos (by omega), ih k _ _ _ (by omega) (by omega) (Nat.mod_lt _ (by omega)) (Nat.mod_lt _ (by omega)) (by omega), pow_round1]
        rw [show 2 * (e / 2) + 1 = e by omega]
      · rw [if_neg (by omega), ih k _ _ _ (by omega) (by omega) (Nat.mod_lt _ (by omega)) ho (by omega), pow_round0]
        rw [show 2 * (e / 2) = e by omega]

theorem specPower_eq (a e : Nat) (ha : a < 2999) (he : e ≤ 1048576) (k : Nat) (hk : 21 < k) : spec_l2Power.f k (a : Int) (e : Int) = some ((pwm a e : Nat) : Int) := by
  have h := specPower_l0 21 k a e 1 (by omega) hk ha (by omega) (by omega)
  rw [Nat.one_mul] at h
  exact h

theorem implPower_l0 (n : Nat) : ∀ (k a e o : Nat), e < 2 ^ n → n < k → a < 2999 → o < 2999 → e ≤ 4294967296 → impl_power.l0 k (a : Int) (e : Int) (o : Int) = some ((o * a ^ e % 2999 : Nat) : Int) := by
  induction n with
  | zero =>
    intro k a e o he hk ha ho _
    obtain ⟨k, rfl⟩ := rounds hk
    have h0 : e = 0 := by omega
    subst h0
    simp only [impl_power.l0]
    rw [if_neg (by omega), Nat.pow_zero, Nat.mul_one, Nat.mod_eq_of_lt ho]
  | succ n ih =>
    intro k a e o he hk ha ho hm
    obtain ⟨k, rfl⟩ := rounds hk
    simp only [impl_power.l0]
    by_cases h0 : e = 0
    · subst h0
      rw [if_neg (by omega), Nat.pow_zero, Nat.mul_one, Nat.mod_eq_of_lt ho]
    · have ha2 : a * a ≤ 2999 * 2999 := Nat.mul_le_mul (by omega) (by omega)
      have hoa : o * a ≤ 2999 * 2999 := Nat.mul_le_mul (by omega) (by omega)
      have hp : 2 ^ (n + 1) = 2 * 2 ^ n := by rw [Nat.pow_succ, Nat.mul_comm]
      have e1 : wrap64 ((a : Int) * (a : Int)) = ((a * a : Nat) : Int) := by rw [← Int.natCast_mul]; exact wnat _ (by omega)
      have e2 : wrap64 ((o : Int) * (a : Int)) = ((o * a : Nat) : Int) := by rw [← Int.natCast_mul]; exact wnat _ (by omega)
      have e3 : wrap64 (Int.tdiv (e : Int) 2) = ((e / 2 : Nat) : Int) := by rw [show Int.tdiv (e : Int) 2 = ((e / 2 : Nat) : Int) from tdiv_nat e 2]; exact wnat _ (by omega)
      rw [if_pos (by omega), e1, e2, e3]
      rw [show Int.tmod ((a * a : Nat) : Int) 2999 = ((a * a % 2999 : Nat) : Int) from tmod_nat _ 2999, show Int.tmod ((o * a : Nat) : Int) 2999 = ((o * a % 2999 : Nat) : Int) from tmod_nat _ 2999, show Int.tmod (e : Int) 2 = ((e % 2 : Nat) : Int) from tmod_nat e 2]
      by_cases h1 : e % 2 = 1
      · rw [if_pos (by omega), ih k _ _ _ (by omega) (by omega) (Nat.mod_lt _ (by omega)) (Nat.mod_lt _ (by omega)) (by omega), pow_round1]
        rw [show 2 * (e / 2) + 1 = e by omega]
      · rw [if_neg (by omega), ih k _ _ _ (by omega) (by omega) (Nat.mod_lt _ (by omega)) ho (by omega), pow_round0]
        rw [show 2 * (e / 2) = e by omega]

theorem implPower_eq (a e : Nat) (ha : a < 2999) (he : e ≤ 1048576) (k : Nat) (hk : 21 < k) : impl_power.f k (a : Int) (e : Int) = some ((pwm a e : Nat) : Int) := by
  have h := implPower_l0 21 k a e 1 (by omega) hk ha (by omega) (by omega)
  rw [Nat.one_mul] at h
  exact h

/-- A member: a unit whose power by 1499 is 1. -/
def isMem (a : Int) : Bool := decide (1 ≤ a ∧ a ≤ 2998) && decide (pwm a.toNat 1499 = 1)

theorem specMember_eq (a : Int) (k : Nat) (hk : 21 < k) : spec_IsMember.f k a = some (isMem a) := by
  unfold spec_IsMember.f spec_l2Unit.f
  simp only [l1In_eq, Option.bind_some]
  by_cases h : 1 ≤ a ∧ a ≤ 2998
  · obtain ⟨n, rfl⟩ := Int.eq_ofNat_of_zero_le (show 0 ≤ a by omega)
    have h2 := specPower_eq n 1499 (by omega) (by omega) k hk
    rw [decide_eq_true h, if_pos rfl, show ((1499 : Int)) = ((1499 : Nat) : Int) from rfl, h2]
    simp only [Option.bind_some, isMem, decide_eq_true h, Bool.true_and, Int.toNat_natCast]
    congr 1
    rw [Bool.eq_iff_iff, beq_iff_eq, decide_eq_true_iff]
    omega
  · rw [decide_eq_false h, if_neg (by simp)]
    simp [isMem, h]

theorem implMember_eq (a : Int) (k : Nat) (hk : 21 < k) : impl_IsMember.f k a = some (isMem a) := by
  unfold impl_IsMember.f impl_isUnit.f
  simp only [within_eq, Option.bind_some]
  by_cases h : 1 ≤ a ∧ a ≤ 2998
  · obtain ⟨n, rfl⟩ := Int.eq_ofNat_of_zero_le (show 0 ≤ a by omega)
    have h2 := implPower_eq n 1499 (by omega) (by omega) k hk
    rw [decide_eq_true h, if_pos rfl, show ((1499 : Int)) = ((1499 : Nat) : Int) from rfl, h2]
    simp only [Option.bind_some, isMem, decide_eq_true h, Bool.true_and, Int.toNat_natCast]
    congr 1
    rw [Bool.eq_iff_iff, beq_iff_eq, decide_eq_true_iff]
    omega
  · rw [decide_eq_false h, if_neg (by simp)]
    simp [isMem, h]

theorem mem_range {a : Int} (h : isMem a = true) : 1 ≤ a ∧ a ≤ 2998 := by
  unfold isMem at h
  rw [Bool.and_eq_true, decide_eq_true_iff, decide_eq_true_iff] at h
  exact h.1

theorem member_tot (l : List Int) (hl : Bytes l) (p h : Int) (hp : 0 ≤ p ∧ p ≤ 274877906944) : Tot (fun k => spec_l1Cur_member.f k l p h) (fun y => p ≤ y.2.1 ∧ y.2.1 ≤ p + 4) := by
  simp only [spec_l1Cur_member.f]
  refine Tot.bind (Tot.fix (one_tot l hl p h 8 (by omega) (by omega))) (fun y hy => ?_)
  refine Tot.ite (fun _ => ?_) (fun _ => ?_)
  · exact Tot.bind (Tot.fix (among_tot l hl _ _ _ (by omega) (by simp) (by simp))) (fun z hz => Tot.some_ ⟨by simp only; omega, by simp only; omega⟩)
  · refine Tot.bind (Tot.fix (pick_tot l hl _ _ 256 (by omega) (by omega))) (fun z hz => ?_)
    obtain ⟨q, hq⟩ := Int.eq_ofNat_of_zero_le hz.1
    rw [w64 (n := z.1 * 6) (by omega) (by omega)]
    refine Tot.bind (Q := fun _ => True) (Tot.at_ (y := ((pwm 4 (q * 6) : Nat) : Int)) 22 trivial (fun k hk => ?_)) (fun _ _ => Tot.some_ ⟨by simp only; omega, by simp only; omega⟩)
    have h2 := specPower_eq 4 (q * 6) (by omega) (by omega) k (by omega)
    rw [show z.1 * 6 = ((q * 6 : Nat) : Int) by rw [hq]; omega]
    exact h2

theorem specAll_l0 (l : List Int) (hl : l.length ≤ 1048576) (a b : Int) : ∀ (d k i : Nat), l.length - i = d → d < k → i ≤ l.length → spec_l1All.l0 k a b l (l.length : Int) (i : Int) = some (decide (∀ x ∈ l.drop i, a ≤ x ∧ x ≤ b)) := by
  intro d
  induction d with
  | zero =>
    intro k i hd hk hi
    obtain ⟨k, rfl⟩ := rounds hk
    simp only [spec_l1All.l0]
    rw [if_neg (by omega), List.drop_of_length_le (by omega)]
    simp
  | succ d ih =>
    intro k i hd hk hi
    obtain ⟨k, rfl⟩ := rounds hk
    have hlt : i < l.length := by omega
    simp only [spec_l1All.l0]
    rw [if_pos (by omega), if_pos (by omega), if_pos (by omega), rd_in l i hlt, w64 (by omega) (by omega), l1In_eq]
    simp only [Option.bind_some]
    have hdrop := List.drop_eq_getElem_cons hlt
    by_cases e : a ≤ l[i] ∧ l[i] ≤ b
    · have h := ih k (i + 1) (by omega) (by omega) (by omega)
      rw [decide_eq_true e, if_pos rfl]
      refine Eq.trans h ?_
      congr 1
      refine decide_eq_decide.2 ?_
      rw [hdrop]
      simp only [List.mem_cons, forall_eq_or_imp]
      exact ⟨fun h => ⟨e, h⟩, fun h => h.2⟩
    · rw [decide_eq_false e, if_neg (by simp)]
      congr 1
      refine (decide_eq_false (fun h => e (h l[i] (by rw [hdrop]; exact List.mem_cons_self)))).symm

theorem specAll_eq (l : List Int) (hl : l.length ≤ 1048576) (a b : Int) (k : Nat) (hk : l.length < k) : spec_l1All.f k l a b = some (decide (∀ x ∈ l, a ≤ x ∧ x ≤ b)) := by
  have h := specAll_l0 l hl a b l.length k 0 (by omega) hk (by omega)
  rw [List.drop_zero] at h
  exact h

theorem implAll_l0 (l : List Int) (hl : l.length ≤ 1048576) (a b : Int) : ∀ (d k i : Nat), l.length - i = d → d < k → i ≤ l.length → impl_allWithin.l0 k a b l (l.length : Int) (i : Int) = some (decide (∀ x ∈ l.drop i, a ≤ x ∧ x ≤ b)) := by
  intro d
  induction d with
  | zero =>
    intro k i hd hk hi
    obtain ⟨k, rfl⟩ := rounds hk
    simp only [impl_allWithin.l0]
    rw [if_neg (by omega), List.drop_of_length_le (by omega)]
    simp
  | succ d ih =>
    intro k i hd hk hi
    obtain ⟨k, rfl⟩ := rounds hk
    have hlt : i < l.length := by omega
    simp only [impl_allWithin.l0]
    rw [if_pos (by omega), if_pos (by omega), if_pos (by omega), rd_in l i hlt, w64 (by omega) (by omega), within_eq]
    simp only [Option.bind_some]
    have hdrop := List.drop_eq_getElem_cons hlt
    by_cases e : a ≤ l[i] ∧ l[i] ≤ b
    · have h := ih k (i + 1) (by omega) (by omega) (by omega)
      rw [decide_eq_true e, if_pos rfl]
      refine Eq.trans h ?_
      congr 1
      refine decide_eq_decide.2 ?_
      rw [hdrop]
      simp only [List.mem_cons, forall_eq_or_imp]
      exact ⟨fun h => ⟨e, h⟩, fun h => h.2⟩
    · rw [decide_eq_false e, if_neg (by simp)]
      congr 1
      refine (decide_eq_false (fun h => e (h l[i] (by rw [hdrop]; exact List.mem_cons_self)))).symm

theorem implAll_eq (l : List Int) (hl : l.length ≤ 1048576) (a b : Int) (k : Nat) (hk : l.length < k) : impl_allWithin.f k l a b = some (decide (∀ x ∈ l, a ≤ x ∧ x ≤ b)) := by
  have h := implAll_l0 l hl a b l.length k 0 (by omega) hk (by omega)
  rw [List.drop_zero] at h
  exact h

def areSec (l : List Int) (n : Int) : Bool := decide (1 ≤ (l.length : Int) ∧ (l.length : Int) ≤ n) && decide (∀ x ∈ l, 1 ≤ x ∧ x ≤ 1498)
theorem specSecrets_eq (l : List Int) (hl : l.length ≤ 1048576) (k : Nat) (hk : l.length < k) : spec_l6Secrets.f k l = some (areSec l 5) := by
  unfold spec_l6Secrets.f areSec
  rw [l1In_eq, specAll_eq l hl 1 1498 k hk]
  simp only [Option.bind_some]
  by_cases h : 1 ≤ (l.length : Int) ∧ (l.length : Int) ≤ 5 <;> simp [h]
theorem implSecrets_eq (l : List Int) (hl : l.length ≤ 1048576) (n : Int) (k : Nat) (hk : l.length < k) : impl_areSecrets.f k l n = some (areSec l n) := by
  unfold impl_areSecrets.f areSec
  rw [within_eq, implAll_eq l hl 1 1498 k hk]
  simp only [Option.bind_some]
  by_cases h : 1 ≤ (l.length : Int) ∧ (l.length : Int) ≤ n <;> simp [h]
theorem areSec_true {l : List Int} {n : Int} (h : areSec l n = true) : 1 ≤ (l.length : Int) ∧ (l.length : Int) ≤ n ∧ ∀ x ∈ l, 1 ≤ x ∧ x ≤ 1498 := by
  unfold areSec at h
  rw [Bool.and_eq_true, decide_eq_true_iff, decide_eq_true_iff] at h
  exact ⟨h.1.1, h.1.2, h.2⟩

theorem isMem_mem {a : Int} (h : isMem a = true) : ∃ n : Nat, a = (n : Int) ∧ Mem n := by
  unfold isMem at h
  rw [Bool.and_eq_true, decide_eq_true_iff, decide_eq_true_iff] at h
  obtain ⟨n, rfl⟩ := Int.eq_ofNat_of_zero_le (show 0 ≤ a by omega)
  exact ⟨n, rfl, by omega, h.2⟩
theorem mem_isMem {n : Nat} (h : Mem n) : isMem (n : Int) = true := by
  have h1 := h.pos
  have h2 := h.lt
  unfold isMem
  rw [Bool.and_eq_true, decide_eq_true_iff, decide_eq_true_iff]
  exact ⟨by omega, h.2⟩
def isSea (a b : Int) : Bool := isMem a && isMem b
theorem specSealed_eq (a b : Int) (k : Nat) (hk : 21 < k) : spec_l2Sealed.f k a b = some (isSea a b) := by
  unfold spec_l2Sealed.f isSea
  rw [specMember_eq a k hk, specMember_eq b k hk]
  simp only [Option.bind_some]
  cases isMem a <;> rfl
theorem implSealed_eq (a b : Int) (k : Nat) (hk : 21 < k) : impl_isSealed.f k a b = some (isSea a b) := by
  unfold impl_isSealed.f isSea
  rw [implMember_eq a k hk, implMember_eq b k hk]
  simp only [Option.bind_some]
  cases isMem a <;> rfl
theorem isSea_mem {a b : Int} (h : isSea a b = true) : ∃ n m : Nat, a = (n : Int) ∧ b = (m : Int) ∧ Mem n ∧ Mem m := by
  unfold isSea at h
  rw [Bool.and_eq_true] at h
  obtain ⟨n, h1, h2⟩ := isMem_mem h.1
  obtain ⟨m, h3, h4⟩ := isMem_mem h.2
  exact ⟨n, m, h1, h3, h2, h4⟩
theorem mem_isSea {n m : Nat} (h1 : Mem n) (h2 : Mem m) : isSea (n : Int) (m : Int) = true := by
  unfold isSea
  rw [mem_isMem h1, mem_isMem h2]
  rfl

theorem specInv_eq (a : Nat) (ha : a < 2999) (k : Nat) (hk : 21 < k) : spec_l2Inverse.f k (a : Int) = some ((pwm a 2997 : Nat) : Int) := by
  unfold spec_l2Inverse.f
  rw [show (2997 : Int) = ((2997 : Nat) : Int) from rfl, specPower_eq a 2997 ha (by omega) k hk]
  rfl

theorem implInv_eq (a : Nat) (ha : a < 2999) (k : Nat) (hk : 21 < k) : impl_inverse.f k (a : Int) = some ((pwm a 2997 : Nat) : Int) := by
  unfold impl_inverse.f
  rw [show (2997 : Int) = ((2997 : Nat) : Int) from rfl, implPower_eq a 2997 ha (by omega) k hk]
  rfl



/-- What is opened by all in turn. -/
def opf (a : Nat) (y : Nat) (s : Int) : Nat := y * pwm (pwm a s.toNat) 2997 % 2999
def openV (l : List Int) (a b : Nat) : Nat := l.foldl (opf a) b
theorem openV_mem (l : List Int) (a b : Nat) (ha : Mem a) (hb : Mem b) : Mem (openV l a b) := foldl_all (opf a) b l Mem hb (fun y hy s _ => hy.mul ((ha.pow _).pow _))

/-- What is multiplied in turn. -/
def adf (y : Nat × Nat) (x : S28) : Nat × Nat := (y.1 * x.f0.toNat % 2999, y.2 * x.f1.toNat % 2999)
def adV (l : List S28) : Nat × Nat := l.foldl adf (1, 1)
def allSea (l : List S28) : Prop := ∀ x ∈ l, isSea x.f0 x.f1 = true
def Mem2 (y : Nat × Nat) : Prop := Mem y.1 ∧ Mem y.2
theorem adf_mem (l : List S28) (hs : allSea l) (y : Nat × Nat) (hy : Mem2 y) (x : S28) (h : x ∈ l) : Mem2 (adf y x) := by
  obtain ⟨n, m, h1, h2, h3, h4⟩ := isSea_mem (hs x h)
  unfold adf
  rw [h1, h2, Int.toNat_natCast, Int.toNat_natCast]
  exact ⟨hy.1.mul h3, hy.2.mul h4⟩
theorem adV_mem (l : List S28) (hs : allSea l) : Mem2 (adV l) := foldl_all adf (1, 1) l Mem2 ⟨Mem.one, Mem.one⟩ (adf_mem l hs)
instance (l : List S28) : Decidable (allSea l) := inferInstanceAs (Decidable (∀ x ∈ l, isSea x.f0 x.f1 = true))
def addV (l : List S28) : Int × Int × Bool := if allSea l ∧ l.length ≤ 12 then ((((adV l).1 : Nat) : Int), (((adV l).2 : Nat) : Int), true) else (0, 0, false)

theorem rd28 (l : List S28) (i : Nat) (h : i < l.length) : rd_T28 l (i : Int) = l[i] := by
  unfold rd_T28
  rw [Int.toNat_natCast]
  exact getDin l _ i h

theorem specAdd_l0 (l : List S28) (hl : l.length ≤ 1048576) : ∀ (d k i : Nat), l.length - i = d → d + 22 < k → i ≤ l.length → allSea (l.take i) →
    spec_AddVotes.l0 k l l (l.length : Int) (i : Int) (((fv adf (1, 1) l i).1 : Nat) : Int) (((fv adf (1, 1) l i).2 : Nat) : Int) = some (addV l) := by
  intro d
  induction d with
  | zero =>
    intro k i hd hk hi ht
    obtain ⟨k, rfl⟩ := rounds hk
    have e : i = l.length := by omega
    subst e
    rw [List.take_length] at ht
    simp only [spec_AddVotes.l0]
    rw [if_neg (by omega), fv_end]
    unfold addV
    by_cases h : l.length ≤ 12
    · rw [if_neg (by omega), if_pos ⟨ht, h⟩]
      rfl
    · rw [if_pos (by omega), if_neg (fun e => h e.2)]
  | succ d ih =>
    intro k i hd hk hi ht
    obtain ⟨k, rfl⟩ := rounds hk
    have hlt : i < l.length := by omega
    simp only [spec_AddVotes.l0]
    rw [if_pos (by omega), if_pos (by omega), if_pos (by omega), rd28 l i hlt, w64 (n := (i : Int) + 1) (by omega) (by omega), specSealed_eq _ _ k (by omega)]
    simp only [Option.bind_some]
    by_cases e : isSea l[i].f0 l[i].f1 = true
    · have hm : Mem2 (fv adf (1, 1) l i) := by
        unfold fv
        exact foldl_all adf (1, 1) _ Mem2 ⟨Mem.one, Mem.one⟩ (adf_mem _ ht)
      obtain ⟨n, m, h1, h2, h3, h4⟩ := isSea_mem e
      have h5 := ih k (i + 1) (by omega) (by omega) (by omega) (fun x hx => by
        rw [List.take_succ_eq_append_getElem hlt, List.mem_append, List.mem_singleton] at hx
        rcases hx with hx | rfl
        · exact ht x hx
        · exact e)
      rw [fv_succ _ _ _ _ hlt] at h5
      unfold adf at h5
      rw [h1, h2, Int.toNat_natCast, Int.toNat_natCast] at h5
      rw [if_pos e, h1, h2, mulm _ _ hm.1.lt h3.lt, mulm _ _ hm.2.lt h4.lt]
      exact h5
    · rw [if_neg e]
      congr 1
      unfold addV
      rw [if_neg (fun h => e (h.1 _ (List.getElem_mem hlt)))]
theorem specAddVotes_eq (l : List S28) (hl : l.length ≤ 1048576) (k : Nat) (hk : l.length + 22 < k) : spec_AddVotes.f k l = some (addV l) := by
  have h := specAdd_l0 l hl l.length k 0 (by omega) hk (by omega) (fun x hx => by simp at hx)
  rw [fv_zero] at h
  exact h
theorem addV_mem (l : List S28) (hs : allSea l) (h : l.length ≤ 12) : addV l = ((((adV l).1 : Nat) : Int), (((adV l).2 : Nat) : Int), true) := if_pos ⟨hs, h⟩

/-- The first x from here on, of d of them, whose power of 4 is a. -/
def logG (a : Nat) : Nat → Nat → Option Nat
  | 0, _ => none
  | d + 1, x => if pwm 4 x = a then some x else logG a d (x + 1)
def logI (o : Option Nat) : Int := match o with | some x => (x : Int) | none => -1
def logP (o : Option Nat) : Int × Bool := match o with | some x => ((x : Int), true) | none => (0, false)
theorem four_next (x : Nat) : Int.tmod (wrap64 (((pwm 4 x : Nat) : Int) * 4)) 2999 = ((pwm 4 (x + 1) : Nat) : Int) := by
  rw [show (4 : Int) = ((4 : Nat) : Int) from rfl, mulm _ 4 (pwm_lt _ _) (by omega), pwm_add, pwm_one 4 (by omega)]
theorem specLog_l0 (a m : Nat) (hm : m ≤ 100) : ∀ (d k x : Nat), m + 1 - x = d → x ≤ m + 1 → d < k → spec_l6Log.l0 k (a : Int) (m : Int) ((pwm 4 x : Nat) : Int) (x : Int) = some (logI (logG a d x)) := by
  intro d
  induction d with
  | zero =>
    intro k x hd hx hk
    obtain ⟨k, rfl⟩ := rounds hk
    simp only [spec_l6Log.l0]
    rw [if_neg (by omega)]
    rfl
  | succ d ih =>
    intro k x hd hx hk
    obtain ⟨k, rfl⟩ := rounds hk
    simp only [spec_l6Log.l0, logG]
    rw [if_pos (by omega)]
    by_cases e : pwm 4 x = a
    · rw [if_pos (by omega), if_pos e]
      rfl
    · rw [if_neg (by omega), if_neg e, four_next, w64 (by omega) (by omega)]
      exact ih k (x + 1) (by omega) (by omega) (by omega)
theorem implLog_l0 (a m : Nat) (hm : m ≤ 100) : ∀ (d k x : Nat), m + 1 - x = d → x ≤ m + 1 → d < k → impl_LogOf.l0 k (a : Int) (m : Int) (x : Int) ((pwm 4 x : Nat) : Int) = some (logP (logG a d x)) := by
  intro d
  induction d with
  | zero =>
    intro k x hd hx hk
    obtain ⟨k, rfl⟩ := rounds hk
    simp only [impl_LogOf.l0]
    rw [if_neg (by omega)]
    rfl
  | succ d ih =>
    intro k x hd hx hk
    obtain ⟨k, rfl⟩ := rounds hk
    simp only [impl_LogOf.l0, logG]
    rw [if_pos (by omega)]
    by_cases e : pwm 4 x = a
    · rw [if_pos (by omega), if_pos e]
      rfl
    · rw [if_neg (by omega), if_neg e, four_next, w64 (by omega) (by omega)]
      exact ih k (x + 1) (by omega) (by omega) (by omega)
def logV (a m : Int) : Int × Bool := if isMem a = true ∧ 0 ≤ m ∧ m ≤ 100 then logP (logG a.toNat (m.toNat + 1) 0) else (0, false)
theorem specLogOf_eq (a m : Int) (k : Nat) (hk : 103 < k) : spec_LogOf.f k a m = some (logV a m) := by
  unfold spec_LogOf.f logV spec_l6Log.f
  rw [specMember_eq a k (by omega)]
  simp only [Option.bind_some, l1In_eq]
  by_cases h : isMem a = true
  · obtain ⟨n, rfl, hn⟩ := isMem_mem h
    by_cases h2 : 0 ≤ m ∧ m ≤ 100
    · obtain ⟨q, rfl⟩ := Int.eq_ofNat_of_zero_le h2.1
      have h3 := specLog_l0 n q (by omega) (q + 1) k 0 (by omega) (by omega) (by omega)
      rw [pwm_zero] at h3
      have h4 : spec_l6Log.l0 k (n : Int) (q : Int) 1 0 = some (logI (logG n (q + 1) 0)) := h3
      rw [h, if_pos rfl, decide_eq_true h2, if_pos rfl, h4, if_pos ⟨rfl, h2⟩, Int.toNat_natCast, Int.toNat_natCast]
      simp only [Option.bind_some]
      cases logG n (q + 1) 0 with
      | none => rfl
      | some x => exact if_neg (by simp only [logI]; omega)
    · rw [h, if_pos rfl, decide_eq_false h2, if_neg (by simp), if_neg (fun e => h2 e.2)]
  · rw [if_neg h, if_neg (fun e => h e.1)]
theorem implLogOf_eq (a m : Int) (k : Nat) (hk : 103 < k) : impl_LogOf.f k a m = some (logV a m) := by
  obtain ⟨k, rfl⟩ := rounds hk
  unfold impl_LogOf.f logV
  rw [implMember_eq a (k + 1) (by omega)]
  simp only [Option.bind_some, within_eq]
  by_cases h : isMem a = true
  · obtain ⟨n, rfl, hn⟩ := isMem_mem h
    by_cases h2 : 0 ≤ m ∧ m ≤ 100
    · obtain ⟨q, rfl⟩ := Int.eq_ofNat_of_zero_le h2.1
      have h3 := implLog_l0 n q (by omega) (q + 1) k 0 (by omega) (by omega) (by omega)
      rw [pwm_zero] at h3
      have h4 : impl_LogOf.l0 k (n : Int) (q : Int) 0 1 = some (logP (logG n (q + 1) 0)) := h3
      rw [h, if_pos rfl, decide_eq_true h2, if_pos ⟨rfl, h2⟩, Int.toNat_natCast, Int.toNat_natCast]
      simp only [impl_LogOf.j0, Bool.not_true, Bool.false_eq_true, if_false]
      exact h4
    · rw [h, if_pos rfl, decide_eq_false h2, if_neg (fun e => h2 e.2)]
      simp only [impl_LogOf.j0, Bool.not_false, if_true]
  · rw [if_neg h, if_neg (fun e => h e.1)]
    simp only [impl_LogOf.j0, if_true]

/-- What is divided by all in turn. -/
def lsf (y : Nat) (p : Int) : Nat := y * pwm p.toNat 2997 % 2999
def lessV (l : List Int) (b : Nat) : Nat := l.foldl lsf b
theorem lsf_mem (l : List Int) (hs : ∀ x ∈ l, isMem x = true) (y : Nat) (hy : Mem y) (s : Int) (h : s ∈ l) : Mem (lsf y s) := by
  obtain ⟨n, hn, hmn⟩ := isMem_mem (hs s h)
  unfold lsf
  rw [hn, Int.toNat_natCast]
  exact hy.mul (hmn.pow _)
theorem lessV_mem (l : List Int) (hs : ∀ x ∈ l, isMem x = true) (b : Nat) (hb : Mem b) : Mem (lessV l b) := foldl_all lsf b l Mem hb (lsf_mem l hs)

theorem implSum_l0 (l : List Int) (hl : l.length ≤ 1048576) (hs : ∀ x ∈ l, isMem x = true) (m : Int) (b : Nat) (hb : Mem b) (k : Nat) (hk : l.length + 104 < k) :
    impl_OpenSum.l0 k m (b : Int) l (l.length : Int) 0 = some (logV ((lessV l b : Nat) : Int) m) := by
  have hm := fun i => fv_all lsf b l Mem hb (lsf_mem l hs) i
  have h := loop_up (fun k (x : Int × Int) => impl_OpenSum.l0 k m x.1 l (l.length : Int) x.2) l.length 104
    (fun i => (((fv lsf b l i : Nat) : Int), (i : Int))) (logV ((lessV l b : Nat) : Int) m) (fun i k hi hB => by
    obtain ⟨n, hn, hmn⟩ := isMem_mem (hs l[i] (List.getElem_mem hi))
    simp only [impl_OpenSum.l0]
    rw [if_pos (by omega), if_pos (by omega), if_pos (by omega), rd_in l i hi, w64 (n := (i : Int) + 1) (by omega) (by omega)]
    rw [hn, implInv_eq _ hmn.lt k (by omega)]
    simp only [Option.bind_some]
    rw [mulm _ _ (hm i).lt (pwm_lt _ _), fv_succ _ _ _ _ hi]
    rw [lsf, hn, Int.toNat_natCast]
    rfl) (fun k hB => by
    simp only [impl_OpenSum.l0]
    rw [if_neg (by omega), fv_end, implLogOf_eq _ _ _ (by omega)]
    rfl) k hk
  rw [fv_zero] at h
  exact h

def sumV (a b : Int) (l : List Int) (m : Int) : Int × Bool := if isSea a b = true ∧ l.length ≤ 5 ∧ (∀ x ∈ l, isMem x = true) then logV ((lessV l b.toNat : Nat) : Int) m else (0, false)

theorem indexMem (l : List Int) (hl : l.length ≤ 1048576) : ∀ (d k i : Nat), l.length - i = d → d + 22 < k → i ≤ l.length →
    ∃ t, slices_IndexFunc_int_int.l0 k l (l.length : Int) (i : Int) = some t ∧ (t ≥ 0 ↔ ¬ ∀ x ∈ l.drop i, isMem x = true) := by
  intro d
  induction d with
  | zero =>
    intro k i hd hk hi
    obtain ⟨k, rfl⟩ := rounds hk
    refine ⟨-1, ?_, ?_⟩
    · simp only [slices_IndexFunc_int_int.l0]
      rw [if_neg (by omega)]
    · rw [List.drop_of_length_le (by omega)]
      simp
  | succ d ih =>
    intro k i hd hk hi
    obtain ⟨k, rfl⟩ := rounds hk
    have hlt : i < l.length := by omega
    obtain ⟨t, h1, h2⟩ := ih k (i + 1) (by omega) (by omega) (by omega)
    simp only [slices_IndexFunc_int_int.l0, impl_OpenSum_1.f]
    rw [if_pos (by omega), if_pos (by omega), if_pos (by omega), rd_in l i hlt, w64 (by omega) (by omega), implMember_eq _ k (by omega), List.drop_eq_getElem_cons hlt]
    simp only [Option.bind_some, List.mem_cons, forall_eq_or_imp]
    cases e : isMem l[i]
    · exact ⟨(i : Int), by simp, by simp⟩
    · exact ⟨t, by simpa using h1, by simpa using h2⟩
theorem containsMem (l : List Int) (hl : l.length ≤ 1048576) (k : Nat) (hk : l.length + 22 < k) : slices_ContainsFunc_int_int.f k l = some (!decide (∀ x ∈ l, isMem x = true)) := by
  obtain ⟨t, h1, h2⟩ := indexMem l hl l.length k 0 (by omega) hk (by omega)
  unfold slices_ContainsFunc_int_int.f slices_IndexFunc_int_int.f
  have h3 : slices_IndexFunc_int_int.l0 k l (l.length : Int) 0 = some t := h1
  rw [h3]
  simp only [Option.bind_some]
  rw [List.drop_zero] at h2
  congr 1
  by_cases e : ∀ x ∈ l, isMem x = true
  · rw [decide_eq_true e, decide_eq_false (fun h => (h2.1 h) e)]
    rfl
  · rw [decide_eq_false e, decide_eq_true (h2.2 e)]
    rfl
theorem implOpenSum_eq (a b : Int) (l : List Int) (hl : l.length ≤ 1048576) (m : Int) (k : Nat) (hk : l.length + 110 < k) : impl_OpenSum.f k a b l m = some (sumV a b l m) := by
  obtain ⟨k, rfl⟩ := rounds hk
  unfold impl_OpenSum.f sumV
  rw [implSealed_eq _ _ _ (by omega), containsMem l hl _ (by omega)]
  simp only [Option.bind_some]
  by_cases h1 : isSea a b = true
  · obtain ⟨n, q, rfl, rfl, hn, hq⟩ := isSea_mem h1
    rw [if_pos h1]
    by_cases h2 : l.length ≤ 5
    · rw [if_neg (by omega)]
      by_cases h3 : ∀ x ∈ l, isMem x = true
      · rw [if_pos ⟨h1, h2, h3⟩, decide_eq_true h3]
        simp only [impl_OpenSum.j0, Bool.not_true, Bool.false_eq_true, if_false]
        exact implSum_l0 l hl h3 m q hq k (by omega)
      · rw [if_neg (fun h => h3 h.2.2), decide_eq_false h3]
        simp only [impl_OpenSum.j0, Bool.not_false, if_true]
    · rw [if_pos (by omega), if_neg (fun h => h2 h.2.1)]
      simp only [impl_OpenSum.j0, if_true]
  · rw [if_neg h1, if_neg (fun h => h1 h.1)]
    simp only [impl_OpenSum.j0, if_true]

/-- The key of all. -/
def kyf (y : Nat) (s : Int) : Nat := y * pwm 4 s.toNat % 2999
def keyV (l : List Int) : Nat := l.foldl kyf 1
theorem keyV_mem (l : List Int) : Mem (keyV l) := foldl_all kyf 1 l Mem Mem.one (fun y hy s _ => hy.mul (mem_four.pow _))

theorem specKey_eq (l : List Int) (hl : l.length ≤ 5) (hs : ∀ x ∈ l, 1 ≤ x ∧ x ≤ 1498) (k : Nat) (hk : l.length + 22 < k) : spec_l6Key.f k l = some ((keyV l : Nat) : Int) := by
  have hm := fun i => fv_all kyf 1 l Mem Mem.one (fun y hy s _ => hy.mul (mem_four.pow _)) i
  have h := loop_up (fun k (x : Int × Int) => spec_l6Key.l0 k x.1 l (l.length : Int) x.2) l.length 22
    (fun i => (((fv kyf 1 l i : Nat) : Int), (i : Int))) ((keyV l : Nat) : Int) (fun i k hi hB => by
    have hx := hs l[i] (List.getElem_mem hi)
    simp only [spec_l6Key.l0]
    rw [if_pos (by omega), if_pos (by omega), if_pos (by omega), rd_in l i hi, w64 (n := (i : Int) + 1) (by omega) (by omega)]
    rw [show l[i] = ((l[i].toNat : Nat) : Int) by omega, show (4 : Int) = ((4 : Nat) : Int) from rfl, specPower_eq 4 _ (by omega) (by omega) k (by omega)]
    simp only [Option.bind_some]
    rw [mulm _ _ (hm i).lt (pwm_lt _ _), fv_succ _ _ _ _ hi]
    rfl) (fun k _ => by
    simp only [spec_l6Key.l0]
    rw [if_neg (by omega), fv_end]
    rfl) k hk
  rw [fv_zero] at h
  exact h

def castS (key : Nat) (r c : Int) : S28 := ⟨((pwm 4 r.toNat : Nat) : Int), ((pwm 4 c.toNat * pwm key r.toNat % 2999 : Nat) : Int)⟩
def castOk (r c : Int) : Bool := decide (1 ≤ r ∧ r ≤ 1498) && decide (0 ≤ c ∧ c ≤ 3)
def castV (key : Nat) (r c : Int) : Int × Int × Bool := if castOk r c then ((castS key r c).f0, (castS key r c).f1, true) else (0, 0, false)
theorem castS_sea (key : Nat) (hk : Mem key) (r c : Int) : isSea (castS key r c).f0 (castS key r c).f1 = true := mem_isSea (mem_four.pow _) ((mem_four.pow _).mul (hk.pow _))
theorem specCast_eq (key : Nat) (hkey : Mem key) (r c : Int) (k : Nat) (hk : 21 < k) : spec_CastVote.f k (key : Int) r c = some (castV key r c) := by
  unfold spec_CastVote.f spec_SealNumber.f spec_l2Secret.f spec_l2Again.f castV castOk castS
  rw [specMember_eq _ k hk, mem_isMem hkey]
  simp only [Option.bind_some, l1In_eq, if_true]
  by_cases h2 : 0 ≤ c ∧ c ≤ 3
  · obtain ⟨c, rfl⟩ := Int.eq_ofNat_of_zero_le h2.1
    rw [decide_eq_true h2, if_pos rfl, show (4 : Int) = ((4 : Nat) : Int) from rfl, specPower_eq 4 c (by omega) (by omega) k hk]
    simp only [Option.bind_some]
    rw [specMember_eq _ k hk, mem_isMem (mem_four.pow c)]
    simp only [Option.bind_some, if_true]
    by_cases h1 : 1 ≤ r ∧ r ≤ 1498
    · obtain ⟨r, rfl⟩ := Int.eq_ofNat_of_zero_le (show 0 ≤ r by omega)
      rw [decide_eq_true h1, if_pos rfl, specPower_eq 4 r (by omega) (by omega) k hk, specPower_eq key r hkey.lt (by omega) k hk]
      simp only [Option.bind_some, Bool.and_self, if_true]
      rw [show (1 : Int) = ((1 : Nat) : Int) from rfl, mulm 1 _ (by omega) (pwm_lt _ _), mulm _ _ (pwm_lt _ _) (pwm_lt _ _), Int.toNat_natCast, Int.toNat_natCast, Nat.one_mul, Nat.mod_eq_of_lt (pwm_lt _ _)]
    · rw [decide_eq_false h1, if_neg (by simp)]
      rfl
  · rw [decide_eq_false h2, if_neg (by simp), Bool.and_false]
    rfl

theorem implKey_eq (l : List Int) (hl : l.length ≤ 5) (hs : ∀ x ∈ l, 1 ≤ x ∧ x ≤ 1498) (k : Nat) (hk : l.length + 22 < k) : impl_key.f k l = some ((keyV l : Nat) : Int) := by
  have hm := fun i => fv_all kyf 1 l Mem Mem.one (fun y hy s _ => hy.mul (mem_four.pow _)) i
  have h := loop_up (fun k (x : Int × Int) => impl_key.l0 k x.1 l (l.length : Int) x.2) l.length 22
    (fun i => (((fv kyf 1 l i : Nat) : Int), (i : Int))) ((keyV l : Nat) : Int) (fun i k hi hB => by
    have hx := hs l[i] (List.getElem_mem hi)
    simp only [impl_key.l0]
    rw [if_pos (by omega), if_pos (by omega), if_pos (by omega), rd_in l i hi, w64 (n := (i : Int) + 1) (by omega) (by omega)]
    rw [show l[i] = ((l[i].toNat : Nat) : Int) by omega, show (4 : Int) = ((4 : Nat) : Int) from rfl, implPower_eq 4 _ (by omega) (by omega) k (by omega)]
    simp only [Option.bind_some]
    rw [mulm _ _ (hm i).lt (pwm_lt _ _), fv_succ _ _ _ _ hi]
    rfl) (fun k _ => by
    simp only [impl_key.l0]
    rw [if_neg (by omega), fv_end]
    rfl) k hk
  rw [fv_zero] at h
  exact h

theorem implCast_eq (key : Nat) (hkey : Mem key) (r c : Int) (k : Nat) (hk : 22 < k) : impl_CastVote.f k (key : Int) r c = some (castV key r c) := by
  obtain ⟨k, rfl⟩ := rounds hk
  unfold impl_CastVote.f impl_isSecret.f castV castOk castS
  rw [implMember_eq _ _ (by omega), mem_isMem hkey]
  simp only [Option.bind_some, within_eq, if_true]
  by_cases h1 : 1 ≤ r ∧ r ≤ 1498
  · obtain ⟨r, rfl⟩ := Int.eq_ofNat_of_zero_le (show 0 ≤ r by omega)
    rw [decide_eq_true h1, if_pos rfl]
    simp only [impl_CastVote.j0]
    by_cases h2 : 0 ≤ c ∧ c ≤ 3
    · obtain ⟨c, rfl⟩ := Int.eq_ofNat_of_zero_le h2.1
      rw [decide_eq_true h2, if_neg (by simp), show (4 : Int) = ((4 : Nat) : Int) from rfl, implPower_eq 4 c (by omega) (by omega) k (by omega)]
      simp only [Option.bind_some]
      unfold impl_seal.f
      rw [show (4 : Int) = ((4 : Nat) : Int) from rfl, implPower_eq 4 r (by omega) (by omega) k (by omega), implPower_eq key r hkey.lt (by omega) k (by omega)]
      simp only [Option.bind_some, Bool.and_self, if_true]
      rw [mulm _ _ (pwm_lt _ _) (pwm_lt _ _), Int.toNat_natCast, Int.toNat_natCast]
    · rw [decide_eq_false h2, if_pos (by simp), Bool.and_false]
      rfl
  · rw [decide_eq_false h1, if_neg (by simp)]
    simp only [impl_CastVote.j0, if_true, Bool.false_and]
    rfl

theorem specOpen_l0 (l : List Int) (hl : l.length ≤ 5) (hs : ∀ x ∈ l, 1 ≤ x ∧ x ≤ 1498) (a b : Nat) (ha : Mem a) (hb : Mem b) (k : Nat) (hk : l.length + 22 < k) :
    spec_OpenAll.l0 k (b : Int) l (l.length : Int) 0 (a : Int) (b : Int) = some (((openV l a b : Nat) : Int), true) := by
  have hm := fun i => fv_all (opf a) b l Mem hb (fun y hy s _ => hy.mul ((ha.pow _).pow _)) i
  have h := loop_up (fun k (x : Int × Int) => spec_OpenAll.l0 k x.1 l (l.length : Int) x.2 (a : Int) (b : Int)) l.length 22
    (fun i => (((fv (opf a) b l i : Nat) : Int), (i : Int))) (((openV l a b : Nat) : Int), true) (fun i k hi hB => by
    have hx := hs l[i] (List.getElem_mem hi)
    simp only [spec_OpenAll.l0]
    rw [if_pos (by omega), if_pos (by omega), if_pos (by omega), rd_in l i hi, w64 (n := (i : Int) + 1) (by omega) (by omega)]
    rw [show l[i] = ((l[i].toNat : Nat) : Int) by omega, specPower_eq a _ ha.lt (by omega) k (by omega)]
    simp only [Option.bind_some]
    rw [specInv_eq _ (pwm_lt _ _) k (by omega)]
    simp only [Option.bind_some]
    rw [mulm _ _ (hm i).lt (pwm_lt _ _), fv_succ _ _ _ _ hi]
    rfl) (fun k _ => by
    simp only [spec_OpenAll.l0]
    rw [if_neg (by omega), fv_end]
    rfl) k hk
  rw [fv_zero] at h
  exact h

theorem specOpen_eq (l : List Int) (n m : Nat) (hn : Mem n) (hm : Mem m) (hs : areSec l 5 = true) (k : Nat) (hk : 40 < k) : spec_OpenAll.f k l (n : Int) (m : Int) = some (((openV l n m : Nat) : Int), true) := by
  obtain ⟨k, rfl⟩ := rounds hk
  obtain ⟨h1, h2, h3⟩ := areSec_true hs
  unfold spec_OpenAll.f
  rw [specSecrets_eq l (by omega) _ (by omega), specSealed_eq _ _ _ (by omega), hs, mem_isSea hn hm]
  simp only [Option.bind_some, if_true, spec_OpenAll.j0, Bool.not_true, Bool.false_eq_true, if_false]
  exact specOpen_l0 l (by omega) h3 n m hn hm k (by omega)

def castsV (key : Nat) (rs cs : List Int) : List S28 := List.zipWith (castS key) rs cs
theorem castsV_length (key : Nat) (rs cs : List Int) (h : rs.length = cs.length) : (castsV key rs cs).length = rs.length := by
  unfold castsV
  rw [List.length_zipWith]
  omega
theorem castsV_get (key : Nat) (rs cs : List Int) (h : rs.length = cs.length) (i : Nat) (hi : i < rs.length) : (castsV key rs cs)[i]'(by rw [castsV_length key rs cs h]; exact hi) = castS key rs[i] (cs[i]'(by omega)) := by
  unfold castsV
  rw [List.getElem_zipWith]
theorem castsV_sea (key : Nat) (hk : Mem key) (rs cs : List Int) (h : rs.length = cs.length) : allSea (castsV key rs cs) := by
  intro x hx
  obtain ⟨i, hi, rfl⟩ := List.mem_iff_getElem.1 hx
  rw [castsV_length key rs cs h] at hi
  rw [castsV_get key rs cs h i hi]
  exact castS_sea key hk _ _

/-- What a count tells when all votes before i are good. -/
def pollV (l rs cs : List Int) : Int × Bool := if ∀ i, (h : i < rs.length) → castOk rs[i] (cs.getD i 0) = true then
  logV ((openV l (adV (castsV (keyV l) rs cs)).1 (adV (castsV (keyV l) rs cs)).2 : Nat) : Int) 100 else (0, false)

theorem specCount_l0 (l rs cs : List Int) (hs : areSec l 5 = true) (he : rs.length = cs.length) (hr : rs.length ≤ 12) : ∀ (d k i : Nat), rs.length - i = d → d + 200 < k → i ≤ rs.length → (∀ j, (h : j < rs.length) → j < i → castOk rs[j] (cs.getD j 0) = true) →
    spec_CountPoll.l0 k l cs ((castsV (keyV l) rs cs).take i) rs (rs.length : Int) (i : Int) = some (pollV l rs cs) := by
  have hc := castsV_length (keyV l) rs cs he
  obtain ⟨hl1, hl5, h3⟩ := areSec_true hs
  intro d
  induction d with
  | zero =>
    intro k i hd hk hi ht
    obtain ⟨k, rfl⟩ := rounds hk
    have e : i = rs.length := by omega
    subst e
    have hm := adV_mem _ (castsV_sea (keyV l) (keyV_mem l) rs cs he)
    simp only [spec_CountPoll.l0]
    rw [if_neg (by omega), List.take_of_length_le (by omega), specAddVotes_eq _ (by omega) _ (by omega), addV_mem _ (castsV_sea _ (keyV_mem l) rs cs he) (by omega)]
    simp only [Option.bind_some]
    rw [specOpen_eq l _ _ hm.1 hm.2 hs _ (by omega)]
    simp only [Option.bind_some]
    rw [specLogOf_eq _ _ _ (by omega), pollV, if_pos (fun j h => ht j h h)]
    rfl
  | succ d ih =>
    intro k i hd hk hi ht
    obtain ⟨k, rfl⟩ := rounds hk
    have hlt : i < rs.length := by omega
    have hlc : i < cs.length := by omega
    simp only [spec_CountPoll.l0]
    rw [if_pos (by omega), if_pos (by omega), if_pos (by omega), specKey_eq l (by omega) h3 k (by omega)]
    simp only [Option.bind_some]
    rw [if_pos (by omega), rd_in rs i hlt, rd_in cs i hlc, specCast_eq _ (keyV_mem l) _ _ k (by omega)]
    simp only [Option.bind_some]
    unfold castV
    by_cases e : castOk rs[i] cs[i] = true
    · rw [if_pos e, if_pos rfl, if_pos (by rw [List.length_take]; omega), w64 (n := (i : Int) + 1) (by omega) (by omega)]
      have h4 := ih k (i + 1) (by omega) (by omega) (by omega) (fun j h hj => by
        by_cases hji : j < i
        · exact ht j h hji
        · have : j = i := by omega
          subst this
          rw [getDin cs 0 j hlc]
          exact e)
      rw [List.take_succ_eq_append_getElem (by omega), castsV_get _ rs cs he i hlt] at h4
      exact h4
    · rw [if_neg e, if_neg (by simp), pollV, if_neg (fun h => e (by rw [← getDin cs 0 i hlc]; exact h i hlt))]

theorem less_open (l : List Int) (a b : Nat) : lessV (l.map fun s => ((pwm a s.toNat : Nat) : Int)) b = openV l a b := by
  unfold lessV openV
  rw [List.foldl_map]
  rfl

theorem implCount_l1 (l : List Int) (hs : areSec l 5 = true) (a b : Nat) (ha : Mem a) (hb : Mem b) (k : Nat) (hk : l.length + 130 < k) :
    impl_CountPoll.l1 k [] l (l.length : Int) 0 (a : Int) (b : Int) = some (logV ((openV l a b : Nat) : Int) 100) := by
  obtain ⟨hl1, hl5, h3⟩ := areSec_true hs
  have hP : (l.map fun s => ((pwm a s.toNat : Nat) : Int)).length = l.length := by simp
  have h := loop_up (fun k (x : List Int × Int) => impl_CountPoll.l1 k x.1 l (l.length : Int) x.2 (a : Int) (b : Int)) l.length 130
    (fun i => ((l.map fun s => ((pwm a s.toNat : Nat) : Int)).take i, (i : Int))) (logV ((openV l a b : Nat) : Int) 100) (fun i k hi hB => by
    have hx := h3 l[i] (List.getElem_mem hi)
    simp only [impl_CountPoll.l1]
    rw [if_pos (by omega), if_pos (by omega), if_pos (by omega), rd_in l i hi, w64 (n := (i : Int) + 1) (by omega) (by omega), List.take_succ_eq_append_getElem (by omega), List.getElem_map]
    have h4 := implPower_eq a l[i].toNat ha.lt (by omega) k (by omega)
    rw [show ((l[i].toNat : Nat) : Int) = l[i] by omega] at h4
    rw [h4]
    simp only [Option.bind_some]
    rw [if_pos (by rw [List.length_take]; omega)]
    rfl) (fun k hB => by
    simp only [impl_CountPoll.l1]
    rw [if_neg (by omega), List.take_of_length_le (by omega), implOpenSum_eq _ _ _ (by omega) _ _ (by omega), sumV, if_pos ⟨mem_isSea ha hb, by omega, fun x hx => by
      obtain ⟨s, _, rfl⟩ := List.mem_map.1 hx
      exact mem_isMem (ha.pow _)⟩, Int.toNat_natCast, less_open]
    rfl) k hk
  exact h

theorem implCount_l0 (l rs cs : List Int) (hs : areSec l 5 = true) (he : rs.length = cs.length) (hr : rs.length ≤ 12) : ∀ (d k i : Nat), rs.length - i = d → d + 200 < k → i ≤ rs.length → (∀ j, (h : j < rs.length) → j < i → castOk rs[j] (cs.getD j 0) = true) →
    impl_CountPoll.l0 k l cs ((keyV l : Nat) : Int) rs (rs.length : Int) (i : Int) (((fv adf (1, 1) (castsV (keyV l) rs cs) i).1 : Nat) : Int) (((fv adf (1, 1) (castsV (keyV l) rs cs) i).2 : Nat) : Int) = some (pollV l rs cs) := by
  have hc := castsV_length (keyV l) rs cs he
  have hsea := castsV_sea (keyV l) (keyV_mem l) rs cs he
  have hm := fun i => fv_all adf (1, 1) (castsV (keyV l) rs cs) Mem2 ⟨Mem.one, Mem.one⟩ (adf_mem _ hsea) i
  obtain ⟨hl1, hl5, h3⟩ := areSec_true hs
  intro d
  induction d with
  | zero =>
    intro k i hd hk hi ht
    obtain ⟨k, rfl⟩ := rounds hk
    have e : i = (castsV (keyV l) rs cs).length := by omega
    have hmi := hm i
    subst e
    rw [fv_end] at hmi ⊢
    simp only [impl_CountPoll.l0]
    rw [if_neg (by omega)]
    have h4 := implCount_l1 l hs _ _ hmi.1 hmi.2 k (by omega)
    rw [h4, pollV, if_pos (fun j h => ht j h (by omega))]
    rfl
  | succ d ih =>
    intro k i hd hk hi ht
    obtain ⟨k, rfl⟩ := rounds hk
    have hlt : i < rs.length := by omega
    have hlc : i < cs.length := by omega
    have hlz : i < (castsV (keyV l) rs cs).length := by omega
    simp only [impl_CountPoll.l0]
    rw [if_pos (by omega), if_pos (by omega), if_pos (by omega), if_pos (by omega), rd_in rs i hlt, rd_in cs i hlc, implCast_eq _ (keyV_mem l) _ _ k (by omega)]
    simp only [Option.bind_some]
    unfold castV
    by_cases e : castOk rs[i] cs[i] = true
    · rw [if_pos e, if_pos rfl, w64 (n := (i : Int) + 1) (by omega) (by omega)]
      have h4 := ih k (i + 1) (by omega) (by omega) (by omega) (fun j h hj => by
        by_cases hji : j < i
        · exact ht j h hji
        · have : j = i := by omega
          subst this
          rw [getDin cs 0 j hlc]
          exact e)
      have hmi := hm i
      obtain ⟨n, m, h5, h6, h7, h8⟩ := isSea_mem (hsea _ (List.getElem_mem hlz))
      rw [fv_succ _ _ _ _ hlz] at h4
      rw [castsV_get _ rs cs he i hlt] at h4 h5 h6
      unfold adf at h4 hmi
      simp only [impl_multiplied.f, Option.bind_some]
      rw [h5, h6, Int.toNat_natCast, Int.toNat_natCast] at h4
      rw [h5, h6]
      unfold adf
      rw [mulm _ _ hmi.1.lt h7.lt, mulm _ _ hmi.2.lt h8.lt]
      exact h4
    · rw [if_neg e, if_neg (by simp), pollV, if_neg (fun h => e (by rw [← getDin cs 0 i hlc]; exact h i hlt))]

def countV (l rs cs : List Int) : Int × Bool := if areSec l 5 = true ∧ rs.length = cs.length ∧ rs.length ≤ 12 then pollV l rs cs else (0, false)
theorem count_eq (l rs cs : List Int) (hl : l.length ≤ 1048576) (h1 : rs.length ≤ 1048576) (h2 : cs.length ≤ 1048576) :
    ∀ k, l.length + 300 < k → spec_CountPoll.f k l rs cs = some (countV l rs cs) ∧ impl_CountPoll.f k l rs cs = some (countV l rs cs) := by
  by_cases hs : areSec l 5 = true
  · obtain ⟨_, hl5, h3⟩ := areSec_true hs
    by_cases he : rs.length = cs.length
    · by_cases hr : rs.length ≤ 12
      · rw [show countV l rs cs = pollV l rs cs from if_pos ⟨hs, he, hr⟩]
        intro k hk
        obtain ⟨k, rfl⟩ := rounds hk
        have ha := specCount_l0 l rs cs hs he hr rs.length k 0 (by omega) (by omega) (by omega) (fun j h hj => by omega)
        have hb := implCount_l0 l rs cs hs he hr rs.length k 0 (by omega) (by omega) (by omega) (fun j h hj => by omega)
        rw [fv_zero] at hb
        rw [List.take_zero] at ha
        unfold spec_CountPoll.f impl_CountPoll.f impl_KeyOf.f
        rw [specSecrets_eq l hl _ (by omega), implSecrets_eq l hl 5 _ (by omega), hs, specKey_eq l (by omega) h3 _ (by omega), implKey_eq l (by omega) h3 _ (by omega)]
        simp only [Option.bind_some, if_true]
        rw [if_pos (by omega), if_neg (by omega), if_neg (by omega), specMember_eq _ _ (by omega), mem_isMem (keyV_mem l)]
        simp only [Option.bind_some, spec_CountPoll.j0, impl_CountPoll.j0, Bool.not_true, Bool.false_eq_true, if_false]
        rw [show ((cs.length : Int) != (rs.length : Int)) = false by rw [he]; exact bne_self_eq_false _, if_neg (by simp)]
        exact ⟨ha, hb⟩
      · rw [show countV l rs cs = (0, false) from if_neg (fun h => hr h.2.2)]
        intro k hk
        obtain ⟨k, rfl⟩ := rounds hk
        unfold spec_CountPoll.f impl_CountPoll.f impl_KeyOf.f
        rw [specSecrets_eq l hl _ (by omega), implSecrets_eq l hl 5 _ (by omega), hs, implKey_eq l (by omega) h3 _ (by omega)]
        simp only [Option.bind_some, if_true]
        rw [if_pos (by omega), if_pos (by omega), if_pos (by omega)]
        simp only [spec_CountPoll.j0, impl_CountPoll.j0, if_true, and_self]
    · rw [show countV l rs cs = (0, false) from if_neg (fun h => he h.2.1)]
      intro k hk
      obtain ⟨k, rfl⟩ := rounds hk
      unfold spec_CountPoll.f impl_CountPoll.f impl_KeyOf.f
      rw [specSecrets_eq l hl _ (by omega), implSecrets_eq l hl 5 _ (by omega), hs, implKey_eq l (by omega) h3 _ (by omega)]
      simp only [Option.bind_some, if_true]
      rw [if_neg (by omega), show ((cs.length : Int) != (rs.length : Int)) = true by rw [bne_iff_ne]; omega]
      simp only [spec_CountPoll.j0, impl_CountPoll.j0, if_true, true_and]
      split <;> rfl
  · rw [Bool.not_eq_true] at hs
    rw [show countV l rs cs = (0, false) from if_neg (fun h => by rw [hs] at h; simp at h)]
    intro k hk
    obtain ⟨k, rfl⟩ := rounds hk
    unfold spec_CountPoll.f impl_CountPoll.f impl_KeyOf.f
    rw [specSecrets_eq l hl _ (by omega), implSecrets_eq l hl 5 _ (by omega), hs]
    simp only [Option.bind_some, Bool.false_eq_true, if_false, spec_CountPoll.j0, impl_CountPoll.j0, if_true, and_self]

theorem indexSea (l : List S28) (hl : l.length ≤ 1048576) : ∀ (d k i : Nat), l.length - i = d → d + 22 < k → i ≤ l.length →
    ∃ t, impl_Sealed_146.l0 k l (l.length : Int) (i : Int) = some t ∧ (t ≥ 0 ↔ ¬ allSea (l.drop i)) := by
  intro d
  induction d with
  | zero =>
    intro k i hd hk hi
    obtain ⟨k, rfl⟩ := rounds hk
    refine ⟨-1, ?_, ?_⟩
    · simp only [impl_Sealed_146.l0]
      rw [if_neg (by omega)]
    · rw [List.drop_of_length_le (by omega)]
      simp [allSea]
  | succ d ih =>
    intro k i hd hk hi
    obtain ⟨k, rfl⟩ := rounds hk
    have hlt : i < l.length := by omega
    obtain ⟨t, h1, h2⟩ := ih k (i + 1) (by omega) (by omega) (by omega)
    simp only [impl_Sealed_146.l0, impl_AddVotes_1.f]
    rw [if_pos (by omega), if_pos (by omega), if_pos (by omega), rd28 l i hlt, w64 (by omega) (by omega), implSealed_eq _ _ k (by omega), List.drop_eq_getElem_cons hlt]
    unfold allSea at h2 ⊢
    simp only [Option.bind_some, List.mem_cons, forall_eq_or_imp]
    cases e : isSea l[i].f0 l[i].f1
    · exact ⟨(i : Int), by simp, by simp⟩
    · exact ⟨t, by simpa using h1, by simpa using h2⟩
theorem containsSea (l : List S28) (hl : l.length ≤ 1048576) (k : Nat) (hk : l.length + 22 < k) : impl_Sealed_92.f k l = some (!decide (allSea l)) := by
  obtain ⟨t, h1, h2⟩ := indexSea l hl l.length k 0 (by omega) hk (by omega)
  unfold impl_Sealed_92.f impl_Sealed_146.f
  have h3 : impl_Sealed_146.l0 k l (l.length : Int) 0 = some t := h1
  rw [h3]
  simp only [Option.bind_some]
  rw [List.drop_zero] at h2
  congr 1
  by_cases e : allSea l
  · rw [decide_eq_true e, decide_eq_false (fun h => (h2.1 h) e)]
    rfl
  · rw [decide_eq_false e, decide_eq_true (h2.2 e)]
    rfl
theorem implAdd_l0 (l : List S28) (hl : l.length ≤ 12) (hs : allSea l) (k : Nat) (hk : l.length < k) :
    impl_AddVotes.l0 k l (l.length : Int) 0 1 1 = some ((((adV l).1 : Nat) : Int), (((adV l).2 : Nat) : Int), true) := by
  have hm := fun i => fv_all adf (1, 1) l Mem2 ⟨Mem.one, Mem.one⟩ (adf_mem l hs) i
  have h := loop_up (fun k (x : Int × Int × Int) => impl_AddVotes.l0 k l (l.length : Int) x.1 x.2.1 x.2.2) l.length 0
    (fun i => ((i : Int), (((fv adf (1, 1) l i).1 : Nat) : Int), (((fv adf (1, 1) l i).2 : Nat) : Int))) ((((adV l).1 : Nat) : Int), (((adV l).2 : Nat) : Int), true) (fun i k hi _ => by
    obtain ⟨n, m, h1, h2, h3, h4⟩ := isSea_mem (hs l[i] (List.getElem_mem hi))
    have hmi := hm i
    simp only [impl_AddVotes.l0, impl_multiplied.f]
    rw [if_pos (by omega), if_pos (by omega), if_pos (by omega), rd28 l i hi, w64 (n := (i : Int) + 1) (by omega) (by omega), fv_succ _ _ _ _ hi]
    unfold adf at hmi ⊢
    rw [h1, h2, Int.toNat_natCast, Int.toNat_natCast, mulm _ _ hmi.1.lt h3.lt, mulm _ _ hmi.2.lt h4.lt]
    rfl) (fun k _ => by
    simp only [impl_AddVotes.l0]
    rw [if_neg (by omega), fv_end]
    rfl) k hk
  rw [fv_zero] at h
  exact h
theorem implAddVotes_eq (l : List S28) (hl : l.length ≤ 1048576) (k : Nat) (hk : l.length + 22 < k) : impl_AddVotes.f k l = some (addV l) := by
  obtain ⟨k, rfl⟩ := rounds hk
  unfold impl_AddVotes.f addV
  by_cases h : l.length ≤ 12
  · rw [if_neg (by omega), containsSea l hl _ (by omega)]
    simp only [Option.bind_some, impl_AddVotes.j0]
    by_cases hs : allSea l
    · rw [decide_eq_true hs, if_neg (by simp), if_pos ⟨hs, h⟩]
      exact implAdd_l0 l h hs k (by omega)
    · rw [decide_eq_false hs, if_pos (by simp), if_neg (fun e => hs e.1)]
  · rw [if_pos (by omega), if_neg (fun e => h e.2)]
    simp only [impl_AddVotes.j0, if_true]

def isSec (r : Int) : Prop := 1 ≤ r ∧ r ≤ 1498
instance (r : Int) : Decidable (isSec r) := inferInstanceAs (Decidable (_ ∧ _))
theorem implSec_eq (r : Int) : impl_isSecret.f r = some (decide (isSec r)) := by
  unfold impl_isSecret.f
  rw [within_eq]
  rfl
theorem specSec_eq (r : Int) : spec_l2Secret.f r = some (decide (isSec r)) := by
  unfold spec_l2Secret.f
  rw [l1In_eq]
  rfl

def partV (s a b : Int) : Int × Bool := if isSec s ∧ isSea a b = true then (((pwm a.toNat s.toNat : Nat) : Int), true) else (0, false)
theorem implPart_eq (s a b : Int) (k : Nat) (hk : 22 < k) : impl_OpenPart.f k s a b = some (partV s a b) := by
  unfold impl_OpenPart.f partV
  rw [implSec_eq, implSealed_eq a b k (by omega)]
  simp only [Option.bind_some]
  by_cases h2 : isSec s
  · by_cases h3 : isSea a b = true
    · obtain ⟨a, b, rfl, rfl, ha, hb⟩ := isSea_mem h3
      have h2' := h2
      unfold isSec at h2'
      obtain ⟨s, rfl⟩ := Int.eq_ofNat_of_zero_le (show 0 ≤ s by omega)
      rw [decide_eq_true h2, if_pos rfl, if_pos h3, if_pos ⟨h2, h3⟩, implPower_eq a s ha.lt (by omega) k (by omega)]
      rfl
    · rw [decide_eq_true h2, if_pos rfl, if_neg h3, if_neg (fun h => h3 h.2)]
  · rw [decide_eq_false h2, if_neg (by simp), if_neg (fun h => h2 h.1)]

theorem pwm_mod {a : Nat} (ha : Mem a) (e : Nat) : pwm a (e % 1499) = pwm a e := by
  have h : pwm a (1499 * (e / 1499) + e % 1499) = pwm a (1499 * (e / 1499)) * pwm a (e % 1499) % 2999 := pwm_add a _ _
  have h2 : pwm 1 (e / 1499) = 1 := by unfold pwm; rw [Nat.one_pow]
  rw [Nat.div_add_mod, ← pwm_mul, ha.2, h2, Nat.one_mul, Nat.mod_eq_of_lt (pwm_lt _ _)] at h
  exact h.symm
def noOne : Nat → Nat → Bool
  | 0, _ => true
  | n + 1, c => Nat.beq c 1 == false && noOne n (c * 4 % 2999)
theorem noOne_spec : ∀ (n d : Nat), noOne n (pwm 4 d) = true → ∀ i, i < n → pwm 4 (d + i) ≠ 1 := by
  intro n
  induction n with
  | zero => intro d _ i hi; omega
  | succ n ih =>
    intro d h i hi
    simp only [noOne, Bool.and_eq_true] at h
    have h1 : pwm 4 d ≠ 1 := by
      intro e
      have h3 := h.1
      rw [e] at h3
      simp at h3
    have h2 : pwm 4 d * 4 % 2999 = pwm 4 (d + 1) := by rw [pwm_add, pwm_one 4 (by omega)]
    rw [h2] at h
    rcases Nat.eq_zero_or_pos i with rfl | hi0
    · exact h1
    · have h4 := ih (d + 1) h.2 (i - 1) (by omega)
      rw [show d + 1 + (i - 1) = d + i by omega] at h4
      exact h4
theorem noOne_run : noOne 1498 4 = true := by decide +kernel
theorem four_ne (d : Nat) (h0 : 1 ≤ d) (h1 : d ≤ 1498) : pwm 4 d ≠ 1 := by
  have h := noOne_spec 1498 1 (by rw [pwm_one 4 (by omega)]; exact noOne_run) (d - 1) (by omega)
  rw [show 1 + (d - 1) = d by omega] at h
  exact h
theorem four_lt {a b : Nat} (hab : a < b) (hb : b < 1499) : pwm 4 a ≠ pwm 4 b := by
  intro e
  have h1 : pwm 4 (a + (1499 - a)) = pwm 4 a * pwm 4 (1499 - a) % 2999 := pwm_add 4 _ _
  have h2 : pwm 4 (b + (1499 - a)) = pwm 4 b * pwm 4 (1499 - a) % 2999 := pwm_add 4 _ _
  rw [← e, ← h1, show a + (1499 - a) = 1499 by omega, mem_four.2, show b + (1499 - a) = 1499 + (b - a) by omega, pwm_add, mem_four.2, Nat.one_mul, Nat.mod_eq_of_lt (pwm_lt _ _)] at h2
  exact four_ne (b - a) (by omega) (by omega) h2
theorem four_inj {a b : Nat} (ha : a < 1499) (hb : b < 1499) (h : pwm 4 a = pwm 4 b) : a = b := by
  rcases Nat.lt_trichotomy a b with h1 | h1 | h1
  · exact absurd h (four_lt h1 hb)
  · exact h1
  · exact absurd h.symm (four_lt h1 ha)

theorem mul4 (m x n y : Nat) : (m * x % 2999) * (n * y % 2999) % 2999 = (m * n % 2999) * (x * y % 2999) % 2999 := by
  rw [← Nat.mul_mod, ← Nat.mul_mod, Nat.mul_mul_mul_comm]
theorem pwm_base (a b e : Nat) : pwm (a * b % 2999) e = pwm a e * pwm b e % 2999 := by
  unfold pwm
  rw [← Nat.pow_mod, Nat.mul_pow, Nat.mul_mod]
/-- (a, b) opens to m under the secret s. -/
def Opens1 (s a b m : Nat) : Prop := b = m * pwm a s % 2999
theorem Opens1.mul {s a b m c d n : Nat} (h1 : Opens1 s a b m) (h2 : Opens1 s c d n) : Opens1 s (a * c % 2999) (b * d % 2999) (m * n % 2999) := by
  unfold Opens1 at *
  rw [h1, h2, mul4, pwm_base]
theorem Opens1.ofR (s r m : Nat) : Opens1 s (pwm 4 r) (m * pwm (pwm 4 s) r % 2999) m := by
  unfold Opens1
  rw [pwm_mul, pwm_mul, Nat.mul_comm s r]
theorem Opens1.open_ {s a b m : Nat} (ha : Mem a) (hm : m < 2999) (h : Opens1 s a b m) : b * pwm (pwm a s) 2997 % 2999 = m := by
  unfold Opens1 at h
  rw [h, Nat.mod_mul_mod, Nat.mul_assoc, Nat.mul_mod, Nat.mul_comm (pwm a s), (ha.pow s).inv, Nat.mul_one, Nat.mod_mod, Nat.mod_eq_of_lt hm]

def smf (y : Nat) (s : Int) : Nat := (y + s.toNat) % 1499
theorem open_sum (a : Nat) (ha : Mem a) (b : Nat) : ∀ (l : List Int) (x : Nat), l.foldl (opf a) (b * pwm (pwm a x) 2997 % 2999) = b * pwm (pwm a (l.foldl smf x)) 2997 % 2999 := by
  intro l
  induction l with
  | nil => intro x; rfl
  | cons s l ih =>
    intro x
    simp only [List.foldl_cons]
    have e : opf a (b * pwm (pwm a x) 2997 % 2999) s = b * pwm (pwm a (smf x s)) 2997 % 2999 := by
      unfold opf smf
      rw [pwm_mod ha, pwm_add, pwm_base, Nat.mod_mul_mod, Nat.mul_mod_mod, Nat.mul_assoc]
    rw [e]
    exact ih _
theorem pwm_of_one (e : Nat) : pwm 1 e = 1 := by unfold pwm; rw [Nat.one_pow]
theorem open_one (l : List Int) (a b : Nat) (ha : Mem a) (hb : Mem b) : openV l a b = b * pwm (pwm a (l.foldl smf 0)) 2997 % 2999 := by
  have h := open_sum a ha b l 0
  have h1 : pwm 1 2997 = 1 := pwm_of_one 2997
  rw [pwm_zero, h1, Nat.mul_one, Nat.mod_eq_of_lt hb.lt] at h
  exact h

theorem key_pow : ∀ (l : List Int) (x : Nat), l.foldl kyf (pwm 4 x) = pwm 4 (l.foldl smf x)
  | [], _ => rfl
  | s :: l, x => by
    simp only [List.foldl_cons]
    rw [show kyf (pwm 4 x) s = pwm 4 (smf x s) by unfold kyf smf; rw [← pwm_add, pwm_mod mem_four]]
    exact key_pow l _
theorem keyV_pow (l : List Int) : keyV l = pwm 4 (l.foldl smf 0) := by
  have h := key_pow l 0
  rw [pwm_zero] at h
  exact h
def nsum (l : List Int) : Nat := (l.map fun x => x.toNat).sum
theorem casts_fold (key : Nat) : ∀ (rs cs : List Int) (r c : Nat), rs.length = cs.length → (List.zipWith (castS key) rs cs).foldl adf (pwm 4 r, pwm 4 c * pwm key r % 2999) = (pwm 4 (r + nsum rs), pwm 4 (c + nsum cs) * pwm key (r + nsum rs) % 2999)
  | [], [], r, c, _ => by simp [nsum]
  | x :: rs, y :: cs, r, c, h => by
    have h2 : rs.length = cs.length := by simpa using h
    simp only [List.zipWith_cons_cons, List.foldl_cons]
    have e : adf (pwm 4 r, pwm 4 c * pwm key r % 2999) (castS key x y) = (pwm 4 (r + x.toNat), pwm 4 (c + y.toNat) * pwm key (r + x.toNat) % 2999) := by
      unfold adf castS
      simp only [Int.toNat_natCast]
      rw [← pwm_add, pwm_add 4 c y.toNat, pwm_add key r x.toNat]
      congr 1
      rw [Nat.mod_mul_mod, Nat.mul_mod_mod, Nat.mod_mul_mod, Nat.mul_mod_mod]
      congr 1
      rw [Nat.mul_assoc, Nat.mul_left_comm (pwm key r), ← Nat.mul_assoc]
    rw [e, casts_fold key rs cs _ _ h2]
    simp only [nsum, List.map_cons, List.sum_cons, Nat.add_assoc]
theorem poll_open (l rs cs : List Int) (h : rs.length = cs.length) : openV l ((List.zipWith (castS (keyV l)) rs cs).foldl adf (1, 1)).1 ((List.zipWith (castS (keyV l)) rs cs).foldl adf (1, 1)).2 = pwm 4 (nsum cs) := by
  have h0 := casts_fold (keyV l) rs cs 0 0 h
  rw [pwm_zero, pwm_zero, show (1 * 1 % 2999 : Nat) = 1 from rfl, Nat.zero_add, Nat.zero_add] at h0
  rw [h0]
  simp only
  have hk := keyV_mem l
  rw [open_one l _ _ (mem_four.pow _) ((mem_four.pow _).mul (hk.pow _))]
  obtain ⟨X, hX⟩ : ∃ X, X = pwm (keyV l) (nsum rs) := ⟨_, rfl⟩
  have e : pwm (pwm 4 (nsum rs)) (l.foldl smf 0) = X := by rw [hX, keyV_pow, pwm_mul, pwm_mul, Nat.mul_comm]
  rw [e, ← hX]
  have hm : Mem X := by rw [hX]; exact hk.pow _
  have hi := hm.inv
  rw [Nat.mod_mul_mod, Nat.mul_assoc, ← Nat.mul_mod_mod, Nat.mul_comm X, hi, Nat.mul_one]
  exact Nat.mod_eq_of_lt (pwm_lt 4 _)
theorem logG_hit (c : Nat) (hc : c < 1499) : ∀ (d x : Nat), x ≤ c → c < x + d → logG (pwm 4 c) d x = some c
  | 0, x, h1, h2 => by omega
  | d + 1, x, h1, h2 => by
    simp only [logG]
    by_cases h : pwm 4 x = pwm 4 c
    · have := four_inj (by omega) hc h
      rw [if_pos h, this]
    · rw [if_neg h]
      refine logG_hit c hc d (x + 1) ?_ (by omega)
      rcases Nat.eq_or_lt_of_le h1 with rfl | h3
      · exact absurd rfl h
      · exact h3
theorem logV_four (c : Nat) (hc : c ≤ 100) : logV ((pwm 4 c : Nat) : Int) 100 = ((c : Int), true) := by
  unfold logV
  rw [if_pos ⟨mem_isMem (mem_four.pow c), by omega, by omega⟩, Int.toNat_natCast, show ((100 : Int).toNat + 1) = 101 from rfl, logG_hit c (by omega) 101 0 (by omega) (by omega)]
  rfl

set_option maxHeartbeats 1000000
theorem drawPoll_l0 (l : List Int) (hl : Bytes l) (s : List Int) (hs : s.length ≤ 100) : ∀ (d : Nat) (n v : List Int) (m p h : Int), m ≤ d → d ≤ 100 → n.length + d ≤ 200 → v.length + d ≤ 200 → 0 ≤ p ∧ p + 4 * (d : Int) ≤ 100000 → Tot (fun k => spec_DrawCountPoll.l0 k s n v m l p h) (fun y => y.1.length ≤ 100 ∧ y.2.1.length ≤ 200 ∧ y.2.2.length ≤ 200) := by
  intro d
  induction d with
  | zero =>
    intro n v m p h hm hd hn hv hp
    refine Tot.up ?_
    simp only [spec_DrawCountPoll.l0]
    refine Tot.neg (by omega) (Tot.ite (fun h1 => ?_) (fun h1 => Tot.some_ ⟨hs, by simp only; omega, by simp only; omega⟩))
    refine Tot.bind (Tot.fix (one_tot l hl p h 20 (by omega) (by omega))) (fun y hy => Tot.ite (fun _ => Tot.pos h1 (Tot.some_ ⟨hs, by simp only; omega, by simp only [List.length_set]; omega⟩)) (fun _ => Tot.some_ ⟨hs, by simp only; omega, by simp only; omega⟩))
  | succ d ih =>
    intro n v m p h hm hd hn hv hp
    refine Tot.up ?_
    simp only [spec_DrawCountPoll.l0]
    refine Tot.ite (fun h0 => ?_) (fun h0 => Tot.ite (fun h1 => ?_) (fun h1 => Tot.some_ ⟨hs, by simp only; omega, by simp only; omega⟩))
    · have w := Aside0.mk (show wrap64 (m - 1) = m - 1 from w64 (by omega) (by omega))
      refine Tot.bind (Tot.fix (pick_tot l hl p h 200 (by omega) (by omega))) (fun y hy => Tot.pos (by omega) (Tot.bind (Tot.fix (pick_tot l hl y.2.1 y.2.2 4 (by omega) (by omega))) (fun z hz => Tot.pos (by omega) ?_)))
      rw [w.out]
      exact ih _ _ _ _ _ (by omega) (by omega) (by rw [List.length_append, List.length_singleton]; omega) (by rw [List.length_append, List.length_singleton]; omega) (by omega)
    · refine Tot.bind (Tot.fix (one_tot l hl p h 20 (by omega) (by omega))) (fun y hy => Tot.ite (fun _ => Tot.pos h1 (Tot.some_ ⟨hs, by simp only; omega, by simp only [List.length_set]; omega⟩)) (fun _ => Tot.some_ ⟨hs, by simp only; omega, by simp only; omega⟩))
theorem drawPoll_tot (l : List Int) (hl : Bytes l) : Tot (fun k => spec_DrawCountPoll.f k l) (fun y => y.1.length ≤ 100 ∧ y.2.1.length ≤ 200 ∧ y.2.2.length ≤ 200) := by
  simp only [spec_DrawCountPoll.f]
  refine Tot.bind (curSecrets_tot l hl 0 0 (by omega)) (fun s hs => Tot.bind (Tot.fix (pick_tot l hl s.2.1 s.2.2 8 (by omega) (by omega))) (fun y hy => Tot.bind (Tot.fix (one_tot l hl y.2.1 y.2.2 20 (by omega) (by omega))) (fun z hz => Tot.ite (fun _ => ?_) (fun _ => ?_))))
  · refine Tot.bind (Tot.fix (pick_tot l hl z.2.1 z.2.2 2 (by omega) (by omega))) (fun u hu => Tot.up ?_)
    simp only [spec_DrawCountPoll.j0]
    rw [w64 (n := 12 + u.1) (by omega) (by omega)]
    exact drawPoll_l0 l hl s.1 hs.1 100 [] [] _ _ _ (by omega) (by omega) (by simp) (by simp) (by omega)
  · refine Tot.up ?_
    simp only [spec_DrawCountPoll.j0]
    exact drawPoll_l0 l hl s.1 hs.1 100 [] [] _ _ _ (by omega) (by omega) (by simp) (by simp) (by omega)
theorem keyOf_eq (l : List Int) (hl : l.length ≤ 1048576) : ∀ k, l.length + 100 < k → impl_KeyOf.f k l = some (if areSec l 5 = true then (((keyV l : Nat) : Int), true) else (0, false)) := by
  intro k hk
  unfold impl_KeyOf.f
  rw [implSecrets_eq l hl 5 _ (by omega)]
  by_cases hs : areSec l 5 = true
  · obtain ⟨_, hl5, h3⟩ := areSec_true hs
    rw [hs]
    simp only [Option.bind_some, if_true]
    rw [implKey_eq l (by omega) h3 _ (by omega)]
    rfl
  · rw [Bool.not_eq_true] at hs
    rw [hs]
    simp
theorem pollV_true (l rs cs : List Int) (h : (countV l rs cs).2 = true) : areSec l 5 = true ∧ rs.length = cs.length ∧ rs.length ≤ 12 ∧ (∀ i, (h : i < rs.length) → castOk rs[i] (cs.getD i 0) = true) := by
  unfold countV at h
  by_cases hc : areSec l 5 = true ∧ rs.length = cs.length ∧ rs.length ≤ 12
  · rw [if_pos hc] at h
    unfold pollV at h
    by_cases hd : ∀ i, (h : i < rs.length) → castOk rs[i] (cs.getD i 0) = true
    · exact ⟨hc.1, hc.2.1, hc.2.2, hd⟩
    · rw [if_neg hd] at h
      simp at h
  · rw [if_neg hc] at h
    simp at h
theorem castAlike (a b c : Int) : ∃ r : Int × Int × Bool, ∀ k, 40 < k → impl_CastVote.f k a b c = some r ∧ spec_CastVote.f k a b c = some r := by
  by_cases h : isMem a = true
  · obtain ⟨n, rfl, hn⟩ := isMem_mem h
    exact ⟨castV n b c, fun k hk => ⟨implCast_eq n hn b c k (by omega), specCast_eq n hn b c k (by omega)⟩⟩
  · rw [Bool.not_eq_true] at h
    refine ⟨(0, 0, false), fun k hk => ?_⟩
    obtain ⟨k, rfl⟩ := rounds hk
    unfold impl_CastVote.f spec_CastVote.f spec_SealNumber.f impl_isSecret.f spec_l2Secret.f
    rw [implMember_eq _ _ (by omega), specMember_eq _ _ (by omega), h]
    refine ⟨by simp [impl_CastVote.j0], ?_⟩
    simp only [Option.bind_some, l1In_eq, Bool.false_eq_true, if_false]
    by_cases hc : 0 ≤ c ∧ c ≤ 3
    · obtain ⟨c, rfl⟩ := Int.eq_ofNat_of_zero_le hc.1
      rw [decide_eq_true hc]
      simp only [if_true]
      rw [show (4 : Int) = ((4 : Nat) : Int) from rfl, specPower_eq 4 c (by omega) (by omega) _ (by omega)]
      rfl
    · rw [decide_eq_false hc]
      rfl
theorem j3_tot (l : List Int) (hl : Bytes l) : Tot (fun k => laws_FnPoll.j3 k l) (fun y => y = true) := by
  refine Tot.up ?_
  simp only [laws_FnPoll.j3, spec_DrawKeyOf.f, spec_DrawCastVote.f]
  refine Tot.bind (Q := fun y => y.length ≤ 100) (Tot.bind (curSecrets_tot l hl 0 0 (by omega)) (fun y hy => Tot.some_ hy.1)) (fun s hs => ?_)
  have hki := Tot.at_ (f := fun k => impl_KeyOf.f k s) (Q := fun y => y = (if areSec s 5 = true then (((keyV s : Nat) : Int), true) else (0, false))) (s.length + 101) rfl (fun k hk => keyOf_eq s (by omega) k (by omega))
  have hks := Tot.at_ (f := fun k => spec_KeyOf.f k s) (Q := fun y => y = (if areSec s 5 = true then (((keyV s : Nat) : Int), true) else (0, false))) (s.length + 101) rfl (fun k hk => by
    unfold spec_KeyOf.f
    rw [specSecrets_eq s (by omega) _ (by omega)]
    by_cases hc : areSec s 5 = true
    · obtain ⟨_, hl5, h3⟩ := areSec_true hc
      rw [hc]
      simp only [Option.bind_some, if_true]
      rw [specKey_eq s (by omega) h3 _ (by omega)]
      rfl
    · rw [Bool.not_eq_true] at hc
      rw [hc]
      simp)
  refine Tot.bind hki (fun y1 e1 => Tot.bind hks (fun y2 e2 => ?_))
  rw [e1, e2]
  refine Tot.bind (Q := fun _ => True) (Tot.bind (member_tot l hl 0 0 (by omega)) (fun y hy => Tot.bind (Tot.fix (secret_tot l hl y.2.1 y.2.2 (by omega))) (fun z hz => Tot.bind (Tot.fix (pick_tot l hl z.2.1 z.2.2 6 (by omega) (by omega))) (fun u _ => Tot.some_ trivial)))) (fun c _ => ?_)
  obtain ⟨r, hr⟩ := castAlike c.1 c.2.1 c.2.2
  refine Tot.bind (Q := fun y => y = r) (Tot.at_ 41 rfl (fun k hk => (hr k (by omega)).1)) (fun y3 e3 => Tot.bind (Q := fun y => y = r) (Tot.at_ 41 rfl (fun k hk => (hr k (by omega)).2)) (fun y4 e4 => ?_))
  rw [e3, e4]
  exact Tot.pos (by simp) (Tot.pos rfl (Tot.pos (by simp) (Tot.some_ (by simp))))
theorem nsum_succ (l : List Int) (i : Nat) (h : i < l.length) : nsum (l.take (i + 1)) = nsum (l.take i) + l[i].toNat := by
  unfold nsum
  rw [List.take_succ_eq_append_getElem h, List.map_append, List.sum_append]
  simp
theorem nsum_le (l : List Int) (hc : ∀ i, (h : i < l.length) → 0 ≤ l[i] ∧ l[i] ≤ 3) : ∀ i, i ≤ l.length → nsum (l.take i) ≤ 3 * i := by
  intro i
  induction i with
  | zero => intro _; simp [nsum]
  | succ i ih =>
    intro h
    have h1 := ih (by omega)
    have h2 := hc i (by omega)
    rw [nsum_succ l i (by omega)]
    omega
theorem l1_tot (x1 : List Int) (hx : Bytes x1) (l : List Int) (hs : areSec l 5 = true) (a b c : Nat) (ha : Mem a) (hb : Mem b) (hc : c ≤ 100) (ho : openV l a b = pwm 4 c) : ∀ (d i : Nat), l.length - i = d → i ≤ l.length →
    Tot (fun k => laws_FnPoll.l1 k x1 (c : Int) true (c : Int) true ((l.take i).map fun s => ((pwm a s.toNat : Nat) : Int)) l (l.length : Int) (i : Int) (a : Int) (b : Int)) (fun y => y = true) := by
  obtain ⟨_, h5, h3⟩ := areSec_true hs
  intro d
  induction d with
  | zero =>
    intro i hd hi
    have e : i = l.length := by omega
    subst e
    rw [List.take_length]
    refine Tot.up ?_
    simp only [laws_FnPoll.l1]
    refine Tot.neg (by omega) ?_
    have hlen : (l.map fun s => ((pwm a s.toNat : Nat) : Int)).length = l.length := List.length_map _
    have hv : sumV (a : Int) (b : Int) (l.map fun s => ((pwm a s.toNat : Nat) : Int)) 100 = ((c : Int), true) := by
      unfold sumV
      rw [if_pos ⟨mem_isSea ha hb, by omega, fun x hx => by
        obtain ⟨s, _, rfl⟩ := List.mem_map.1 hx
        exact mem_isMem (ha.pow _)⟩, Int.toNat_natCast, less_open, ho, logV_four c hc]
    refine Tot.bind (Q := fun y => y = ((c : Int), true)) (Tot.at_ (l.length + 111) rfl (fun k hk => by rw [implOpenSum_eq _ _ _ (by omega) _ k (by omega), hv])) (fun y e => ?_)
    rw [e]
    exact Tot.pos trivial (Tot.pos trivial (Tot.pos rfl (Tot.pos trivial (Tot.pos rfl (j3_tot x1 hx)))))
  | succ d ih =>
    intro i hd hi
    have hil : i < l.length := by omega
    have h2 := h3 _ (List.getElem_mem hil)
    have ih2 := ih (i + 1) (by omega) (by omega)
    have hml : ((l.take i).map fun s => ((pwm a s.toNat : Nat) : Int)).length = i := by rw [List.length_map, List.length_take]; omega
    refine Tot.up ?_
    simp only [laws_FnPoll.l1]
    rw [rd_in l i hil, w64 (n := (i : Int) + 1) (by omega) (by omega)]
    refine Tot.pos (by omega) (Tot.pos (by omega) (Tot.pos (by omega) ?_))
    refine Tot.bind (Q := fun y => y = (((pwm a l[i].toNat : Nat) : Int), true)) (Tot.at_ 23 rfl (fun k hk => by
      rw [implPart_eq _ _ _ k (by omega)]
      unfold partV
      rw [if_pos ⟨h2, mem_isSea ha hb⟩, Int.toNat_natCast])) (fun y e => ?_)
    rw [e]
    refine Tot.pos rfl (Tot.pos (by omega) ?_)
    rw [List.take_succ_eq_append_getElem hil, List.map_append] at ih2
    exact ih2
theorem l0_tot (x1 : List Int) (hx : Bytes x1) (l rs cs : List Int) (hs : areSec l 5 = true) (he : rs.length = cs.length) (hr : rs.length ≤ 12) (hg : ∀ i, (h : i < rs.length) → castOk rs[i] (cs.getD i 0) = true) : ∀ (d i : Nat), cs.length - i = d → i ≤ cs.length →
    Tot (fun k => laws_FnPoll.l0 k x1 l rs (nsum cs : Int) ((keyV l : Nat) : Int) true ((nsum (cs.take i) : Nat) : Int) ((castsV (keyV l) rs cs).take i) cs (cs.length : Int) (i : Int)) (fun y => y = true) := by
  have hcs : ∀ i, (h : i < cs.length) → 0 ≤ cs[i] ∧ cs[i] ≤ 3 := fun i h => by
    have := hg i (by omega)
    rw [getDin cs 0 i h] at this
    unfold castOk at this
    simp only [Bool.and_eq_true, decide_eq_true_iff] at this
    exact this.2
  have hk := keyV_mem l
  have hzl := castsV_length (keyV l) rs cs he
  intro d
  induction d with
  | zero =>
    intro i hd hi
    have e : i = cs.length := by omega
    subst e
    have hn := nsum_le cs hcs cs.length (Nat.le_refl _)
    rw [List.take_length] at hn ⊢
    rw [List.take_of_length_le (by omega)]
    refine Tot.up ?_
    simp only [laws_FnPoll.l0]
    refine Tot.neg (by omega) ?_
    have hsea := castsV_sea (keyV l) hk rs cs he
    have hm := adV_mem (castsV (keyV l) rs cs) hsea
    refine Tot.bind (Q := fun y => y = addV (castsV (keyV l) rs cs)) (Tot.at_ (rs.length + 23) rfl (fun k hk => implAddVotes_eq _ (by omega) k (by omega))) (fun y e => ?_)
    rw [e, addV_mem _ hsea (by omega)]
    exact l1_tot x1 hx l hs _ _ _ hm.1 hm.2 (by omega) (poll_open l rs cs he) l.length 0 (by omega) (by omega)
  | succ d ih =>
    intro i hd hi
    have hil : i < cs.length := by omega
    have h2 := hcs i hil
    have h4 := hg i (by omega)
    rw [getDin cs 0 i hil] at h4
    have hn := nsum_le cs hcs i (by omega)
    have ih2 := ih (i + 1) (by omega) (by omega)
    refine Tot.up ?_
    simp only [laws_FnPoll.l0]
    rw [rd_in cs i hil, rd_in rs i (by omega), w64 (n := (i : Int) + 1) (by omega) (by omega), w64 (n := ((nsum (cs.take i) : Nat) : Int) + cs[i]) (by omega) (by omega), show ((nsum (cs.take i) : Nat) : Int) + cs[i] = ((nsum (cs.take (i + 1)) : Nat) : Int) by rw [nsum_succ cs i hil]; omega]
    refine Tot.pos (by omega) (Tot.pos (by omega) (Tot.pos (by omega) (Tot.pos (by omega) ?_)))
    refine Tot.bind (Q := fun y => y = ((castS (keyV l) rs[i] cs[i]).f0, (castS (keyV l) rs[i] cs[i]).f1, true)) (Tot.at_ 41 rfl (fun k hk2 => by
      rw [implCast_eq _ hk _ _ k (by omega)]
      unfold castV
      rw [if_pos h4])) (fun y e => ?_)
    rw [e]
    refine Tot.pos rfl (Tot.pos (by rw [List.length_take]; omega) ?_)
    have e5 : (castsV (keyV l) rs cs).take (i + 1) = (castsV (keyV l) rs cs).take i ++ [castS (keyV l) rs[i] cs[i]] := by rw [List.take_succ_eq_append_getElem (by omega), castsV_get (keyV l) rs cs he i (by omega)]
    rw [e5] at ih2
    exact ih2
theorem FnPoll : laws_FnPoll.Pure := by
  intro l0 l1 hm0 hx0 hw0 hm1 hx1 hw1
  have hmx : maxLen = 9223372036854775807 := rfl
  refine Tot.ex ?_
  simp only [laws_FnPoll.f]
  rw [w64 (n := (l0.length : Int) + (l1.length : Int)) (by omega) (by omega)]
  refine Tot.ite (fun _ => Tot.some_ rfl) (fun hlen => ?_)
  have hb0 : Bytes l0 := bytes_of (by omega) hw0
  have hb1 : Bytes l1 := bytes_of (by omega) hw1
  refine Tot.bind (drawPoll_tot l0 hb0) (fun y hy => ?_)
  obtain ⟨l, rs, cs⟩ := y
  obtain ⟨hl, hr, hc⟩ := hy
  simp only at hl hr hc ⊢
  have hcount := count_eq l rs cs (by omega) (by omega) (by omega)
  refine Tot.bind (Q := fun y => y = countV l rs cs) (Tot.at_ (l.length + 301) rfl (fun k hk => (hcount k (by omega)).2)) (fun y1 e1 => Tot.bind (Q := fun y => y = countV l rs cs) (Tot.at_ (l.length + 301) rfl (fun k hk => (hcount k (by omega)).1)) (fun y2 e2 => ?_))
  rw [e1, e2]
  simp only [bne_self_eq_false]
  refine Tot.neg (by simp) (Tot.up ?_)
  simp only [laws_FnPoll.j0]
  refine Tot.neg (by simp) (Tot.ite (fun hok => ?_) (fun _ => j3_tot l1 hb1))
  obtain ⟨hs, he, h12, hg⟩ := pollV_true l rs cs hok
  have hval : countV l rs cs = ((nsum cs : Int), true) := by
    have hcs : ∀ i, (h : i < cs.length) → 0 ≤ cs[i] ∧ cs[i] ≤ 3 := fun i h => by
      have := hg i (by omega)
      rw [getDin cs 0 i h] at this
      unfold castOk at this
      simp only [Bool.and_eq_true, decide_eq_true_iff] at this
      exact this.2
    have hn := nsum_le cs hcs cs.length (Nat.le_refl _)
    rw [List.take_length] at hn
    unfold countV
    rw [if_pos ⟨hs, he, h12⟩]
    unfold pollV
    rw [if_pos hg]
    have := poll_open l rs cs he
    unfold adV castsV
    rw [this, logV_four _ (by omega)]
  rw [hval]
  refine Tot.bind (Q := fun y => y = (((keyV l : Nat) : Int), true)) (Tot.at_ (l.length + 101) rfl (fun k hk => by rw [keyOf_eq l (by omega) k (by omega), if_pos hs])) (fun y3 e3 => ?_)
  rw [e3]
  have h := l0_tot l1 hb1 l rs cs hs he h12 hg cs.length 0 (by omega) (by omega)
  exact h

end Go.Proofs.Ytaiejbcpahcfmaa.Pure
