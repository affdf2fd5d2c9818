/- Proved: CountPoll of the program and of the reference answer alike at all arguments. Conditions: those of the given statement alone. -/
import Derived.Test.YtaiejbcpahcfmaaPFnExactCountPollx7
import Derived.Test.YtaiejbcpahcfmaaBase
set_option linter.unusedVariables false
set_option linter.unusedSimpArgs false
namespace Go.Proofs.Ytaiejbcpahcfmaa.Pure
open Go.RowKit Go.Proofs.Ytaiejbcpahcfmaa.PFnExactCountPoll Go.Proofs.Ytaiejbcpahcfmaa.Base Go.Proofs.YtaiejbcpahcfmaaW.PrintWords Go.Proofs.YtaiejbcpahcfmaaW.PrintLast Go.Proofs.YtaiejbcpahcfmaaW.PrintMore

theorem toIntS_l0 (l : List Int) (hl : l.length ≤ 1048576) : ∀ (d k i : Nat) (out : List Int), l.length - i = d → d < k → i ≤ l.length → out.length = l.length → out.take i = l.take i → laws_toIntS.l0 k l out (i : Int) = some l := by
  intro d
  induction d with
  | zero =>
    intro k i out hd hk hi ho ht
    obtain ⟨k, rfl⟩ := rounds hk
    simp only [laws_toIntS.l0]
    rw [if_neg (by omega), take_all out l i ht (by omega) (by omega)]
  | succ d ih =>
    intro k i out hd hk hi ho ht
    obtain ⟨k, rfl⟩ := rounds hk
    simp only [laws_toIntS.l0]
    rw [if_pos (by omega), if_pos (by omega), if_pos (by omega), w64 (by omega) (by omega), Int.toNat_natCast, rd_in l i (by omega)]
    exact ih k (i + 1) _ (by omega) (by omega) (by omega) (by rw [List.length_set]; exact ho) (take_set out l i _ ht (by omega) (by omega) rfl)

theorem toIntS_eq (l : List Int) (hl : l.length ≤ 1048576) (k : Nat) (hk : l.length < k) : laws_toIntS.f k l = some l := by
  unfold laws_toIntS.f
  rw [if_pos (by omega), if_pos (by omega)]
  exact toIntS_l0 l hl l.length k 0 _ (by omega) hk (by omega) (by simp) (by simp)

theorem eqIntS_l0 (l : List Int) (hl : l.length ≤ 1048576) : ∀ (d k i : Nat), l.length - i = d → d < k → laws_eqIntS.l0 k l l (i : Int) = some true := by
  intro d
  induction d with
  | zero =>
    intro k i hd hk
    obtain ⟨k, rfl⟩ := rounds hk
    simp only [laws_eqIntS.l0]
    rw [if_neg (by omega)]
  | succ d ih =>
    intro k i hd hk
    obtain ⟨k, rfl⟩ := rounds hk
    simp only [laws_eqIntS.l0]
    rw [if_pos (by omega), if_pos (by omega), if_pos (by omega), if_pos trivial, w64 (by omega) (by omega)]
    exact ih k (i + 1) (by omega) (by omega)

theorem eqIntS_self (l : List Int) (hl : l.length ≤ 1048576) (k : Nat) (hk : l.length < k) : laws_eqIntS.f k l l = some true := by
  unfold laws_eqIntS.f
  rw [if_pos rfl]
  exact eqIntS_l0 l hl l.length k 0 (by omega) hk

theorem l1In_eq (a b c : Int) : spec_l1In.f a b c = some (decide (b ≤ a ∧ a ≤ c)) := by
  unfold spec_l1In.f
  by_cases h : a ≥ b
  · rw [if_pos h]
    congr 1
    exact decide_eq_decide.2 ⟨fun h1 => ⟨h, h1⟩, fun h1 => h1.2⟩
  · rw [if_neg h, decide_eq_false (fun h1 => h h1.1)]

theorem within_eq (a b c : Int) : impl_within.f a b c = some (decide (b ≤ a ∧ a ≤ c)) := by
  unfold impl_within.f
  by_cases h : a ≥ b
  · rw [if_pos h]
    congr 1
    exact decide_eq_decide.2 ⟨fun h1 => ⟨h, h1⟩, fun h1 => h1.2⟩
  · rw [if_neg h, decide_eq_false (fun h1 => h h1.1)]

theorem specAll_l0 (l : List Int) (hl : l.length ≤ 1048576) (a b : Int) : ∀ (d k i : Nat), l.length - i = d → d < k → i ≤ l.length → spec_l1All.l0 k a b l (l.length : Int) (i : Int) = some (decide (∀ x ∈ l.drop i, a ≤ x ∧ x ≤ b)) := by
  intro d
  induction d with
  | zero =>
    intro k i hd hk hi
    obtain ⟨k, rfl⟩ := rounds hk
    simp only [spec_l1All.l0]
    rw [if_neg (by omega), List.drop_of_length_le (by omega)]
    simp
  | succ d ih =>
    intro k i hd hk hi
    obtain ⟨k, rfl⟩ := rounds hk
    have hlt : i < l.length := by omega
    simp only [spec_l1All.l0]
    rw [if_pos (by omega), if_pos (by omega), if_pos (by omega), rd_in l i hlt, w64 (by omega) (by omega), l1In_eq]
    simp only [Option.bind_some]
    have hdrop := List.drop_eq_getElem_cons hlt
    by_cases e : a ≤ l[i] ∧ l[i] ≤ b
    · have h := ih k (i + 1) (by omega) (by omega) (by omega)
      rw [decide_eq_true e, if_pos rfl]
      refine Eq.trans h ?_
      congr 1
      refine decide_eq_decide.2 ?_
      rw [hdrop]
      simp only [List.mem_cons, forall_eq_or_imp]
      exact ⟨fun h => ⟨e, h⟩, fun h => h.2⟩
    · rw [decide_eq_false e, if_neg (by simp)]
      congr 1
      refine (decide_eq_false (fun h => e (h l[i] (by rw [hdrop]; exact List.mem_cons_self)))).symm

theorem specAll_eq (l : List Int) (hl : l.length ≤ 1048576) (a b : Int) (k : Nat) (hk : l.length < k) : spec_l1All.f k l a b = some (decide (∀ x ∈ l, a ≤ x ∧ x ≤ b)) := by
  have h := specAll_l0 l hl a b l.length k 0 (by omega) hk (by omega)
  rw [List.drop_zero] at h
  exact h

theorem implAll_l0 (l : List Int) (hl : l.length ≤ 1048576) (a b : Int) : ∀ (d k i : Nat), l.length - i = d → d < k → i ≤ l.length → impl_allWithin.l0 k a b l (l.length : Int) (i : Int) = some (decide (∀ x ∈ l.drop i, a ≤ x ∧ x ≤ b)) := by
  intro d
  induction d with
  | zero =>
    intro k i hd hk hi
    obtain ⟨k, rfl⟩ := rounds hk
    simp only [impl_allWithin.l0]
    rw [if_neg (by omega), List.drop_of_length_le (by omega)]
    simp
  | succ d ih =>
    intro k i hd hk hi
    obtain ⟨k, rfl⟩ := rounds hk
    have hlt : i < l.length := by omega
    simp only [impl_allWithin.l0]
    rw [if_pos (by omega), if_pos (by omega), if_pos (by omega), rd_in l i hlt, w64 (by omega) (by omega), within_eq]
    simp only [Option.bind_some]
    have hdrop := List.drop_eq_getElem_cons hlt
    by_cases e : a ≤ l[i] ∧ l[i] ≤ b
    · have h := ih k (i + 1) (by omega) (by omega) (by omega)
      rw [decide_eq_true e, if_pos rfl]
      refine Eq.trans h ?_
      congr 1
      refine decide_eq_decide.2 ?_
      rw [hdrop]
      simp only [List.mem_cons, forall_eq_or_imp]
      exact ⟨fun h => ⟨e, h⟩, fun h => h.2⟩
    · rw [decide_eq_false e, if_neg (by simp)]
      congr 1
      refine (decide_eq_false (fun h => e (h l[i] (by rw [hdrop]; exact List.mem_cons_self)))).symm

theorem implAll_eq (l : List Int) (hl : l.length ≤ 1048576) (a b : Int) (k : Nat) (hk : l.length < k) : impl_allWithin.f k l a b = some (decide (∀ x ∈ l, a ≤ x ∧ x ≤ b)) := by
  have h := implAll_l0 l hl a b l.length k 0 (by omega) hk (by omega)
  rw [List.drop_zero] at h
  exact h

def areSec (l : List Int) (n : Int) : Bool := decide (1 ≤ (l.length : Int) ∧ (l.length : Int) ≤ n) && decide (∀ x ∈ l, 1 ≤ x ∧ x ≤ 1498)
theorem specSecrets_eq (l : List Int) (hl : l.length ≤ 1048576) (k : Nat) (hk : l.length < k) : spec_l6Secrets.f k l = some (areSec l 5) := by
  unfold spec_l6Secrets.f areSec
  rw [l1In_eq, specAll_eq l hl 1 1498 k hk]
  simp only [Option.bind_some]
  by_cases h : 1 ≤ (l.length : Int) ∧ (l.length : Int) ≤ 5 <;> simp [h]
theorem implSecrets_eq (l : List Int) (hl : l.length ≤ 1048576) (n : Int) (k : Nat) (hk : l.length < k) : impl_areSecrets.f k l n = some (areSec l n) := by
  unfold impl_areSecrets.f areSec
  rw [within_eq, implAll_eq l hl 1 1498 k hk]
  simp only [Option.bind_some]
  by_cases h : 1 ≤ (l.length : Int) ∧ (l.length : Int) ≤ n <;> simp [h]
theorem areSec_true {l : List Int} {n : Int} (h : areSec l n = true) : 1 ≤ (l.length : Int) ∧ (l.length : Int) ≤ n ∧ ∀ x ∈ l, 1 ≤ x ∧ x ≤ 1498 := by
  unfold areSec at h
  rw [Bool.and_eq_true, decide_eq_true_iff, decide_eq_true_iff] at h
  exact ⟨h.1.1, h.1.2, h.2⟩

theorem specPower_l0 (n : Nat) : ∀ (k a e o : Nat), e < 2 ^ n → n < k → a < 2999 → o < 2999 → e ≤ 4294967296 → spec_l2Power.l0 k (a : Int) (e : Int) (o : Int) = some ((o * a ^ e % 2999 : Nat) : Int) := by
  induction n with
  | zero =>
    intro k a e o he hk ha ho _
    obtain ⟨k, rfl⟩ := rounds hk
    have h0 : e = 0 := by omega
    subst h0
    simp only [spec_l2Power.l0]
    rw [if_neg (by omega), Nat.pow_zero, Nat.mul_one, Nat.mod_eq_of_lt ho]
  | succ n ih =>
    intro k a e o he hk ha ho hm
    obtain ⟨k, rfl⟩ := rounds hk
    simp only [spec_l2Power.l0]
    by_cases h0 : e = 0
    · subst h0
      rw [if_neg (by omega), Nat.pow_zero, Nat.mul_one, Nat.mod_eq_of_lt ho]
    · have ha2 : a * a ≤ 2999 * 2999 := Nat.mul_le_mul (by omega) (by omega)
      have hoa : o * a ≤ 2999 * 2999 := Nat.mul_le_mul (by omega) (by omega)
      have hp : 2 ^ (n + 1) = 2 * 2 ^ n := by rw [Nat.pow_succ, Nat.mul_comm]
      have e1 : wrap64 ((a : Int) * (a : Int)) = ((a * a : Nat) : Int) := by rw [← Int.natCast_mul]; exact wnat _ (by omega)
      have e2 : wrap64 ((o : Int) * (a : Int)) = ((o * a : Nat) : Int) := by rw [← Int.natCast_mul]; exact wnat _ (by omega)
      have e3 : wrap64 (Int.tdiv (e : Int) 2) = ((e / 2 : Nat) : Int) := by rw [show Int.tdiv (e : Int) 2 = ((e / 2 : Nat) : Int) from tdiv_nat e 2]; exact wnat _ (by omega)
      rw [if_pos (by omega), e1, e2, e3]
      rw [show Int.tmod ((a * a : Nat) : Int) 2999 = ((a * a % 2999 : Nat) : Int) from tmod_nat _ 2999, show Int.tmod ((o * a : Nat) : Int) 2999 = ((o * a % 2999 : Nat) : Int) from tmod_nat _ 2999, show Int.tmod (e : Int) 2 = ((e % 2 : Nat) : Int) from tmod_nat e 2]
      by_cases h1 : e % 2 = 1
      · rw [if_pos (by omega), ih k _ _ _ (by omega) (by omega) (Nat.mod_lt _ (by omega)) (Nat.mod_lt _ (by omega)) (by omega), pow_round1]
        rw [show 2 * (e / 2) + 1 = e by omega]
      · rw [if_neg (by omega), ih k _ _ _ (by omega) (by omega) (Nat.mod_lt _ (by omega)) ho (by omega), pow_round0]
        rw [show 2 * (e / 2) = e by omega]

theorem specPower_eq (a e : Nat) (ha : a < 2999) (he : e ≤ 1048576) (k : Nat) (hk : 21 < k) : spec_l2Power.f k (a : Int) (e : Int) = some ((pwm a e : Nat) : Int) := by
  have h := specPower_l0 21 k a e 1 (by omega) hk ha (by omega) (by omega)
  rw [Nat.one_mul] at h
  exact h

theorem implPower_l0 (n : Nat) : ∀ (k a e o : Nat), e < 2 ^ n → n < k → a < 2999 → o < 2999 → e ≤ 4294967296 → impl_power.l0 k (a : Int) (e : Int) (o : Int) = some ((o * a ^ e % 2999 : Nat) : Int) := by
  induction n with
  | zero =>
    intro k a e o he hk ha ho _
    obtain ⟨k, rfl⟩ := rounds hk
    have h0 : e = 0 := by omega
    subst h0
    simp only [impl_power.l0]
    rw [if_neg (by omega), Nat.pow_zero, Nat.mul_one, Nat.mod_eq_of_lt ho]
  | succ n ih =>
    intro k a e o he hk ha ho hm
    obtain ⟨k, rfl⟩ := rounds hk
    simp only [impl_power.l0]
    by_cases h0 : e = 0
    · subst h0
      rw [if_neg (by omega), Nat.pow_zero, Nat.mul_one, Nat.mod_eq_of_lt ho]
    · have ha2 : a * a ≤ 2999 * 2999 := Nat.mul_le_mul (by omega) (by omega)
      have hoa : o * a ≤ 2999 * 2999 := Nat.mul_le_mul (by omega) (by omega)
      have hp : 2 ^ (n + 1) = 2 * 2 ^ n := by rw [Nat.pow_succ, Nat.mul_comm]
      have e1 : wrap64 ((a : Int) * (a : Int)) = ((a * a : Nat) : Int) := by rw [← Int.natCast_mul]; exact wnat _ (by omega)
      have e2 : wrap64 ((o : Int) * (a : Int)) = ((o * a : Nat) : Int) := by rw [← Int.natCast_mul]; exact wnat _ (by omega)
      have e3 : wrap64 (Int.tdiv (e : Int) 2) = ((e / 2 : Nat) : Int) := by rw [show Int.tdiv (e : Int) 2 = ((e / 2 : Nat) : Int) from tdiv_nat e 2]; exact wnat _ (by omega)
      rw [if_pos (by omega), e1, e2, e3]
      rw [show Int.tmod ((a * a : Nat) : Int) 2999 = ((a * a % 2999 : Nat) : Int) from tmod_nat _ 2999, show Int.tmod ((o * a : Nat) : Int) 2999 = ((o * a % 2999 : Nat) : Int) from tmod_nat _ 2999, show Int.tmod (e : Int) 2 = ((e % 2 : Nat) : Int) from tmod_nat e 2]
      by_cases h1 : e % 2 = 1
      · rw [if_pos (by omega), ih k _ _ _ (by omega) (by omega) (Nat.mod_lt _ (by omega)) (Nat.mod_lt _ (by omega)) (by omega), pow_round1]
        rw [show 2 * (e / 2) + 1 = e by omega]
      · rw [if_neg (by omega), ih k _ _ _ (by omega) (by omega) (Nat.mod_lt _ (by omega)) ho (by omega), pow_round0]
        rw [show 2 * (e / 2) = e by omega]

theorem implPower_eq (a e : Nat) (ha : a < 2999) (he : e ≤ 1048576) (k : Nat) (hk : 21 < k) : impl_power.f k (a : Int) (e : Int) = some ((pwm a e : Nat) : Int) := by
  have h := implPower_l0 21 k a e 1 (by omega) hk ha (by omega) (by omega)
  rw [Nat.one_mul] at h
  exact h

/-- A member: a unit whose power by 1499 is 1. -/
def isMem (a : Int) : Bool := decide (1 ≤ a ∧ a ≤ 2998) && decide (pwm a.toNat 1499 = 1)

theorem specMember_eq (a : Int) (k : Nat) (hk : 21 < k) : spec_IsMember.f k a = some (isMem a) := by
  unfold spec_IsMember.f spec_l2Unit.f
  simp only [l1In_eq, Option.bind_some]
  by_cases h : 1 ≤ a ∧ a ≤ 2998
  · obtain ⟨n, rfl⟩ := Int.eq_ofNat_of_zero_le (show 0 ≤ a by omega)
    have h2 := specPower_eq n 1499 (by omega) (by omega) k hk
    rw [decide_eq_true h, if_pos rfl, show ((1499 : Int)) = ((1499 : Nat) : Int) from rfl, h2]
    simp only [Option.bind_some, isMem, decide_eq_true h, Bool.true_and, Int.toNat_natCast]
    congr 1
    rw [Bool.eq_iff_iff, beq_iff_eq, decide_eq_true_iff]
    omega
  · rw [decide_eq_false h, if_neg (by simp)]
    simp [isMem, h]

theorem implMember_eq (a : Int) (k : Nat) (hk : 21 < k) : impl_IsMember.f k a = some (isMem a) := by
  unfold impl_IsMember.f impl_isUnit.f
  simp only [within_eq, Option.bind_some]
  by_cases h : 1 ≤ a ∧ a ≤ 2998
  · obtain ⟨n, rfl⟩ := Int.eq_ofNat_of_zero_le (show 0 ≤ a by omega)
    have h2 := implPower_eq n 1499 (by omega) (by omega) k hk
    rw [decide_eq_true h, if_pos rfl, show ((1499 : Int)) = ((1499 : Nat) : Int) from rfl, h2]
    simp only [Option.bind_some, isMem, decide_eq_true h, Bool.true_and, Int.toNat_natCast]
    congr 1
    rw [Bool.eq_iff_iff, beq_iff_eq, decide_eq_true_iff]
    omega
  · rw [decide_eq_false h, if_neg (by simp)]
    simp [isMem, h]

theorem mem_range {a : Int} (h : isMem a = true) : 1 ≤ a ∧ a ≤ 2998 := by
  unfold isMem at h
  rw [Bool.and_eq_true, decide_eq_true_iff, decide_eq_true_iff] at h
  exact h.1

theorem isMem_mem {a : Int} (h : isMem a = true) : ∃ n : Nat, a = (n : Int) ∧ Mem n := by
  unfold isMem at h
  rw [Bool.and_eq_true, decide_eq_true_iff, decide_eq_true_iff] at h
  obtain ⟨n, rfl⟩ := Int.eq_ofNat_of_zero_le (show 0 ≤ a by omega)
  exact ⟨n, rfl, by omega, h.2⟩
theorem mem_isMem {n : Nat} (h : Mem n) : isMem (n : Int) = true := by
  have h1 := h.pos
  have h2 := h.lt
  unfold isMem
  rw [Bool.and_eq_true, decide_eq_true_iff, decide_eq_true_iff]
  exact ⟨by omega, h.2⟩
def isSea (a b : Int) : Bool := isMem a && isMem b
theorem specSealed_eq (a b : Int) (k : Nat) (hk : 21 < k) : spec_l2Sealed.f k a b = some (isSea a b) := by
  unfold spec_l2Sealed.f isSea
  rw [specMember_eq a k hk, specMember_eq b k hk]
  simp only [Option.bind_some]
  cases isMem a <;> rfl
theorem implSealed_eq (a b : Int) (k : Nat) (hk : 21 < k) : impl_isSealed.f k a b = some (isSea a b) := by
  unfold impl_isSealed.f isSea
  rw [implMember_eq a k hk, implMember_eq b k hk]
  simp only [Option.bind_some]
  cases isMem a <;> rfl
theorem isSea_mem {a b : Int} (h : isSea a b = true) : ∃ n m : Nat, a = (n : Int) ∧ b = (m : Int) ∧ Mem n ∧ Mem m := by
  unfold isSea at h
  rw [Bool.and_eq_true] at h
  obtain ⟨n, h1, h2⟩ := isMem_mem h.1
  obtain ⟨m, h3, h4⟩ := isMem_mem h.2
  exact ⟨n, m, h1, h3, h2, h4⟩
theorem mem_isSea {n m : Nat} (h1 : Mem n) (h2 : Mem m) : isSea (n : Int) (m : Int) = true := by
  unfold isSea
  rw [mem_isMem h1, mem_isMem h2]
  rfl

theorem specInv_eq (a : Nat) (ha : a < 2999) (k : Nat) (hk : 21 < k) : spec_l2Inverse.f k (a : Int) = some ((pwm a 2997 : Nat) : Int) := by
  unfold spec_l2Inverse.f
  rw [show (2997 : Int) = ((2997 : Nat) : Int) from rfl, specPower_eq a 2997 ha (by omega) k hk]
  rfl

theorem implInv_eq (a : Nat) (ha : a < 2999) (k : Nat) (hk : 21 < k) : impl_inverse.f k (a : Int) = some ((pwm a 2997 : Nat) : Int) := by
  unfold impl_inverse.f
  rw [show (2997 : Int) = ((2997 : Nat) : Int) from rfl, implPower_eq a 2997 ha (by omega) k hk]
  rfl



/-- What is opened by all in turn. -/
def opf (a : Nat) (y : Nat) (s : Int) : Nat := y * pwm (pwm a s.toNat) 2997 % 2999
def openV (l : List Int) (a b : Nat) : Nat := l.foldl (opf a) b
theorem openV_mem (l : List Int) (a b : Nat) (ha : Mem a) (hb : Mem b) : Mem (openV l a b) := foldl_all (opf a) b l Mem hb (fun y hy s _ => hy.mul ((ha.pow _).pow _))

/-- What is multiplied in turn. -/
def adf (y : Nat × Nat) (x : S28) : Nat × Nat := (y.1 * x.f0.toNat % 2999, y.2 * x.f1.toNat % 2999)
def adV (l : List S28) : Nat × Nat := l.foldl adf (1, 1)
def allSea (l : List S28) : Prop := ∀ x ∈ l, isSea x.f0 x.f1 = true
def Mem2 (y : Nat × Nat) : Prop := Mem y.1 ∧ Mem y.2
theorem adf_mem (l : List S28) (hs : allSea l) (y : Nat × Nat) (hy : Mem2 y) (x : S28) (h : x ∈ l) : Mem2 (adf y x) := by
  obtain ⟨n, m, h1, h2, h3, h4⟩ := isSea_mem (hs x h)
  unfold adf
  rw [h1, h2, Int.toNat_natCast, Int.toNat_natCast]
  exact ⟨hy.1.mul h3, hy.2.mul h4⟩
theorem adV_mem (l : List S28) (hs : allSea l) : Mem2 (adV l) := foldl_all adf (1, 1) l Mem2 ⟨Mem.one, Mem.one⟩ (adf_mem l hs)
instance (l : List S28) : Decidable (allSea l) := inferInstanceAs (Decidable (∀ x ∈ l, isSea x.f0 x.f1 = true))
def addV (l : List S28) : Int × Int × Bool := if allSea l ∧ l.length ≤ 12 then ((((adV l).1 : Nat) : Int), (((adV l).2 : Nat) : Int), true) else (0, 0, false)

theorem rd28 (l : List S28) (i : Nat) (h : i < l.length) : rd_T28 l (i : Int) = l[i] := by
  unfold rd_T28
  rw [Int.toNat_natCast]
  exact getD_in l _ i h

theorem specAdd_l0 (l : List S28) (hl : l.length ≤ 1048576) : ∀ (d k i : Nat), l.length - i = d → d + 22 < k → i ≤ l.length → allSea (l.take i) →
    spec_AddVotes.l0 k l l (l.length : Int) (i : Int) (((fv adf (1, 1) l i).1 : Nat) : Int) (((fv adf (1, 1) l i).2 : Nat) : Int) = some (addV l) := by
  intro d
  induction d with
  | zero =>
    intro k i hd hk hi ht
    obtain ⟨k, rfl⟩ := rounds hk
    have e : i = l.length := by omega
    subst e
    rw [List.take_length] at ht
    simp only [spec_AddVotes.l0]
    rw [if_neg (by omega), fv_end]
    unfold addV
    by_cases h : l.length ≤ 12
    · rw [if_neg (by omega), if_pos ⟨ht, h⟩]
      rfl
    · rw [if_pos (by omega), if_neg (fun e => h e.2)]
  | succ d ih =>
    intro k i hd hk hi ht
    obtain ⟨k, rfl⟩ := rounds hk
    have hlt : i < l.length := by omega
    simp only [spec_AddVotes.l0]
    rw [if_pos (by omega), if_pos (by omega), if_pos (by omega), rd28 l i hlt, w64 (n := (i : Int) + 1) (by omega) (by omega), specSealed_eq _ _ k (by omega)]
    simp only [Option.bind_some]
    by_cases e : isSea l[i].f0 l[i].f1 = true
    · have hm : Mem2 (fv adf (1, 1) l i) := by
        unfold fv
        exact foldl_all adf (1, 1) _ Mem2 ⟨Mem.one, Mem.one⟩ (adf_mem _ ht)
      obtain ⟨n, m, h1, h2, h3, h4⟩ := isSea_mem e
      have h5 := ih k (i + 1) (by omega) (by omega) (by omega) (fun x hx => by
        rw [List.take_succ_eq_append_getElem hlt, List.mem_append, List.mem_singleton] at hx
        rcases hx with hx | rfl
        · exact ht x hx
        · exact e)
      rw [fv_succ _ _ _ _ hlt] at h5
      unfold adf at h5
      rw [h1, h2, Int.toNat_natCast, Int.toNat_natCast] at h5
      rw [if_pos e, h1, h2, mulm _ _ hm.1.lt h3.lt, mulm _ _ hm.2.lt h4.lt]
      exact h5
    · rw [if_neg e]
      congr 1
      unfold addV
      rw [if_neg (fun h => e (h.1 _ (List.getElem_mem hlt)))]
theorem specAddVotes_eq (l : List S28) (hl : l.length ≤ 1048576) (k : Nat) (hk : l.length + 22 < k) : spec_AddVotes.f k l = some (addV l) := by
  have h := specAdd_l0 l hl l.length k 0 (by omega) hk (by omega) (fun x hx => by simp at hx)
  rw [fv_zero] at h
  exact h
theorem addV_mem (l : List S28) (hs : allSea l) (h : l.length ≤ 12) : addV l = ((((adV l).1 : Nat) : Int), (((adV l).2 : Nat) : Int), true) := if_pos ⟨hs, h⟩

/-- The first x from here on, of d of them, whose power of 4 is a. -/
def logG (a : Nat) : Nat → Nat → Option Nat
  | 0, _ => none
  | d + 1, x => if pwm 4 x = a then some x else logG a d (x + 1)
def logI (o : Option Nat) : Int := match o with | some x => (x : Int) | none => -1
def logP (o : Option Nat) : Int × Bool := match o with | some x => ((x : Int), true) | none => (0, false)
theorem four_next (x : Nat) : Int.tmod (wrap64 (((pwm 4 x : Nat) : Int) * 4)) 2999 = ((pwm 4 (x + 1) : Nat) : Int) := by
  rw [show (4 : Int) = ((4 : Nat) : Int) from rfl, mulm _ 4 (pwm_lt _ _) (by omega), pwm_add, pwm_one 4 (by omega)]
theorem specLog_l0 (a m : Nat) (hm : m ≤ 100) : ∀ (d k x : Nat), m + 1 - x = d → x ≤ m + 1 → d < k → spec_l6Log.l0 k (a : Int) (m : Int) ((pwm 4 x : Nat) : Int) (x : Int) = some (logI (logG a d x)) := by
  intro d
  induction d with
  | zero =>
    intro k x hd hx hk
    obtain ⟨k, rfl⟩ := rounds hk
    simp only [spec_l6Log.l0]
    rw [if_neg (by omega)]
    rfl
  | succ d ih =>
    intro k x hd hx hk
    obtain ⟨k, rfl⟩ := rounds hk
    simp only [spec_l6Log.l0, logG]
    rw [if_pos (by omega)]
    by_cases e : pwm 4 x = a
    · rw [if_pos (by omega), if_pos e]
      rfl
    · rw [if_neg (by omega), if_neg e, four_next, w64 (by omega) (by omega)]
      exact ih k (x + 1) (by omega) (by omega) (by omega)
theorem implLog_l0 (a m : Nat) (hm : m ≤ 100) : ∀ (d k x : Nat), m + 1 - x = d → x ≤ m + 1 → d < k → impl_LogOf.l0 k (a : Int) (m : Int) (x : Int) ((pwm 4 x : Nat) : Int) = some (logP (logG a d x)) := by
  intro d
  induction d with
  | zero =>
    intro k x hd hx hk
    obtain ⟨k, rfl⟩ := rounds hk
    simp only [impl_LogOf.l0]
    rw [if_neg (by omega)]
    rfl
  | succ d ih =>
    intro k x hd hx hk
    obtain ⟨k, rfl⟩ := rounds hk
    simp only [impl_LogOf.l0, logG]
    rw [if_pos (by omega)]
    by_cases e : pwm 4 x = a
    · rw [if_pos (by omega), if_pos e]
      rfl
    · rw [if_neg (by omega), if_neg e, four_next, w64 (by omega) (by omega)]
      exact ih k (x + 1) (by omega) (by omega) (by omega)
def logV (a m : Int) : Int × Bool := if isMem a = true ∧ 0 ≤ m ∧ m ≤ 100 then logP (logG a.toNat (m.toNat + 1) 0) else (0, false)
theorem specLogOf_eq (a m : Int) (k : Nat) (hk : 103 < k) : spec_LogOf.f k a m = some (logV a m) := by
  unfold spec_LogOf.f logV spec_l6Log.f
  rw [specMember_eq a k (by omega)]
  simp only [Option.bind_some, l1In_eq]
  by_cases h : isMem a = true
  · obtain ⟨n, rfl, hn⟩ := isMem_mem h
    by_cases h2 : 0 ≤ m ∧ m ≤ 100
    · obtain ⟨q, rfl⟩ := Int.eq_ofNat_of_zero_le h2.1
      have h3 := specLog_l0 n q (by omega) (q + 1) k 0 (by omega) (by omega) (by omega)
      rw [pwm_zero] at h3
      have h4 : spec_l6Log.l0 k (n : Int) (q : Int) 1 0 = some (logI (logG n (q + 1) 0)) := h3
      rw [h, if_pos rfl, decide_eq_true h2, if_pos rfl, h4, if_pos ⟨rfl, h2⟩, Int.toNat_natCast, Int.toNat_natCast]
      simp only [Option.bind_some]
      cases logG n (q + 1) 0 with
      | none => rfl
      | some x => exact if_neg (by simp only [logI]; omega)
    · rw [h, if_pos rfl, decide_eq_false h2, if_neg (by simp), if_neg (fun e => h2 e.2)]
  · rw [if_neg h, if_neg (fun e => h e.1)]
theorem implLogOf_eq (a m : Int) (k : Nat) (hk : 103 < k) : impl_LogOf.f k a m = some (logV a m) := by
  obtain ⟨k, rfl⟩ := rounds hk
  unfold impl_LogOf.f logV
  rw [implMember_eq a (k + 1) (by omega)]
  simp only [Option.bind_some, within_eq]
  by_cases h : isMem a = true
  · obtain ⟨n, rfl, hn⟩ := isMem_mem h
    by_cases h2 : 0 ≤ m ∧ m ≤ 100
    · obtain ⟨q, rfl⟩ := Int.eq_ofNat_of_zero_le h2.1
      have h3 := implLog_l0 n q (by omega) (q + 1) k 0 (by omega) (by omega) (by omega)
      rw [pwm_zero] at h3
      have h4 : impl_LogOf.l0 k (n : Int) (q : Int) 0 1 = some (logP (logG n (q + 1) 0)) := h3
      rw [h, if_pos rfl, decide_eq_true h2, if_pos ⟨rfl, h2⟩, Int.toNat_natCast, Int.toNat_natCast]
      simp only [impl_LogOf.j0, Bool.not_true, Bool.false_eq_true, if_false]
      exact h4
    · rw [h, if_pos rfl, decide_eq_false h2, if_neg (fun e => h2 e.2)]
      simp only [impl_LogOf.j0, Bool.not_false, if_true]
  · rw [if_neg h, if_neg (fun e => h e.1)]
    simp only [impl_LogOf.j0, if_true]

/-- What is divided by all in turn. -/
def lsf (y : Nat) (p : Int) : Nat := y * pwm p.toNat 2997 % 2999
def lessV (l : List Int) (b : Nat) : Nat := l.foldl lsf b
theorem lsf_mem (l : List Int) (hs : ∀ x ∈ l, isMem x = true) (y : Nat) (hy : Mem y) (s : Int) (h : s ∈ l) : Mem (lsf y s) := by
  obtain ⟨n, hn, hmn⟩ := isMem_mem (hs s h)
  unfold lsf
  rw [hn, Int.toNat_natCast]
  exact hy.mul (hmn.pow _)
theorem lessV_mem (l : List Int) (hs : ∀ x ∈ l, isMem x = true) (b : Nat) (hb : Mem b) : Mem (lessV l b) := foldl_all lsf b l Mem hb (lsf_mem l hs)

theorem implSum_l0 (l : List Int) (hl : l.length ≤ 1048576) (hs : ∀ x ∈ l, isMem x = true) (m : Int) (b : Nat) (hb : Mem b) (k : Nat) (hk : l.length + 104 < k) :
    impl_OpenSum.l0 k m (b : Int) l (l.length : Int) 0 = some (logV ((lessV l b : Nat) : Int) m) := by
  have hm := fun i => fv_all lsf b l Mem hb (lsf_mem l hs) i
  have h := loop_up (fun k (x : Int × Int) => impl_OpenSum.l0 k m x.1 l (l.length : Int) x.2) l.length 104
    (fun i => (((fv lsf b l i : Nat) : Int), (i : Int))) (logV ((lessV l b : Nat) : Int) m) (fun i k hi hB => by
    obtain ⟨n, hn, hmn⟩ := isMem_mem (hs l[i] (List.getElem_mem hi))
    simp only [impl_OpenSum.l0]
    rw [if_pos (by omega), if_pos (by omega), if_pos (by omega), rd_in l i hi, w64 (n := (i : Int) + 1) (by omega) (by omega)]
    rw [hn, implInv_eq _ hmn.lt k (by omega)]
    simp only [Option.bind_some]
    rw [mulm _ _ (hm i).lt (pwm_lt _ _), fv_succ _ _ _ _ hi]
    rw [lsf, hn, Int.toNat_natCast]
    rfl) (fun k hB => by
    simp only [impl_OpenSum.l0]
    rw [if_neg (by omega), fv_end, implLogOf_eq _ _ _ (by omega)]
    rfl) k hk
  rw [fv_zero] at h
  exact h

def sumV (a b : Int) (l : List Int) (m : Int) : Int × Bool := if isSea a b = true ∧ l.length ≤ 5 ∧ (∀ x ∈ l, isMem x = true) then logV ((lessV l b.toNat : Nat) : Int) m else (0, false)

theorem indexMem (l : List Int) (hl : l.length ≤ 1048576) : ∀ (d k i : Nat), l.length - i = d → d + 22 < k → i ≤ l.length →
    ∃ t, slices_IndexFunc_int_int.l0 k l (l.length : Int) (i : Int) = some t ∧ (t ≥ 0 ↔ ¬ ∀ x ∈ l.drop i, isMem x = true) := by
  intro d
  induction d with
  | zero =>
    intro k i hd hk hi
    obtain ⟨k, rfl⟩ := rounds hk
    refine ⟨-1, ?_, ?_⟩
    · simp only [slices_IndexFunc_int_int.l0]
      rw [if_neg (by omega)]
    · rw [List.drop_of_length_le (by omega)]
      simp
  | succ d ih =>
    intro k i hd hk hi
    obtain ⟨k, rfl⟩ := rounds hk
    have hlt : i < l.length := by omega
    obtain ⟨t, h1, h2⟩ := ih k (i + 1) (by omega) (by omega) (by omega)
    simp only [slices_IndexFunc_int_int.l0, impl_OpenSum_1.f]
    rw [if_pos (by omega), if_pos (by omega), if_pos (by omega), rd_in l i hlt, w64 (by omega) (by omega), implMember_eq _ k (by omega), List.drop_eq_getElem_cons hlt]
    simp only [Option.bind_some, List.mem_cons, forall_eq_or_imp]
    cases e : isMem l[i]
    · exact ⟨(i : Int), by simp, by simp⟩
    · exact ⟨t, by simpa using h1, by simpa using h2⟩
theorem containsMem (l : List Int) (hl : l.length ≤ 1048576) (k : Nat) (hk : l.length + 22 < k) : slices_ContainsFunc_int_int.f k l = some (!decide (∀ x ∈ l, isMem x = true)) := by
  obtain ⟨t, h1, h2⟩ := indexMem l hl l.length k 0 (by omega) hk (by omega)
  unfold slices_ContainsFunc_int_int.f slices_IndexFunc_int_int.f
  have h3 : slices_IndexFunc_int_int.l0 k l (l.length : Int) 0 = some t := h1
  rw [h3]
  simp only [Option.bind_some]
  rw [List.drop_zero] at h2
  congr 1
  by_cases e : ∀ x ∈ l, isMem x = true
  · rw [decide_eq_true e, decide_eq_false (fun h => (h2.1 h) e)]
    rfl
  · rw [decide_eq_false e, decide_eq_true (h2.2 e)]
    rfl
theorem implOpenSum_eq (a b : Int) (l : List Int) (hl : l.length ≤ 1048576) (m : Int) (k : Nat) (hk : l.length + 110 < k) : impl_OpenSum.f k a b l m = some (sumV a b l m) := by
  obtain ⟨k, rfl⟩ := rounds hk
  unfold impl_OpenSum.f sumV
  rw [implSealed_eq _ _ _ (by omega), containsMem l hl _ (by omega)]
  simp only [Option.bind_some]
  by_cases h1 : isSea a b = true
  · obtain ⟨n, q, rfl, rfl, hn, hq⟩ := isSea_mem h1
    rw [if_pos h1]
    by_cases h2 : l.length ≤ 5
    · rw [if_neg (by omega)]
      by_cases h3 : ∀ x ∈ l, isMem x = true
      · rw [if_pos ⟨h1, h2, h3⟩, decide_eq_true h3]
        simp only [impl_OpenSum.j0, Bool.not_true, Bool.false_eq_true, if_false]
        exact implSum_l0 l hl h3 m q hq k (by omega)
      · rw [if_neg (fun h => h3 h.2.2), decide_eq_false h3]
        simp only [impl_OpenSum.j0, Bool.not_false, if_true]
    · rw [if_pos (by omega), if_neg (fun h => h2 h.2.1)]
      simp only [impl_OpenSum.j0, if_true]
  · rw [if_neg h1, if_neg (fun h => h1 h.1)]
    simp only [impl_OpenSum.j0, if_true]

/-- The key of all. -/
def kyf (y : Nat) (s : Int) : Nat := y * pwm 4 s.toNat % 2999
def keyV (l : List Int) : Nat := l.foldl kyf 1
theorem keyV_mem (l : List Int) : Mem (keyV l) := foldl_all kyf 1 l Mem Mem.one (fun y hy s _ => hy.mul (mem_four.pow _))

theorem specKey_eq (l : List Int) (hl : l.length ≤ 5) (hs : ∀ x ∈ l, 1 ≤ x ∧ x ≤ 1498) (k : Nat) (hk : l.length + 22 < k) : spec_l6Key.f k l = some ((keyV l : Nat) : Int) := by
  have hm := fun i => fv_all kyf 1 l Mem Mem.one (fun y hy s _ => hy.mul (mem_four.pow _)) i
  have h := loop_up (fun k (x : Int × Int) => spec_l6Key.l0 k x.1 l (l.length : Int) x.2) l.length 22
    (fun i => (((fv kyf 1 l i : Nat) : Int), (i : Int))) ((keyV l : Nat) : Int) (fun i k hi hB => by
    have hx := hs l[i] (List.getElem_mem hi)
    simp only [spec_l6Key.l0]
    rw [if_pos (by omega), if_pos (by omega), if_pos (by omega), rd_in l i hi, w64 (n := (i : Int) + 1) (by omega) (by omega)]
    rw [show l[i] = ((l[i].toNat : Nat) : Int) by omega, show (4 : Int) = ((4 : Nat) : Int) from rfl, specPower_eq 4 _ (by omega) (by omega) k (by omega)]
    simp only [Option.bind_some]
    rw [mulm _ _ (hm i).lt (pwm_lt _ _), fv_succ _ _ _ _ hi]
    rfl) (fun k _ => by
    simp only [spec_l6Key.l0]
    rw [if_neg (by omega), fv_end]
    rfl) k hk
  rw [fv_zero] at h
  exact h

theorem implKey_eq (l : List Int) (hl : l.length ≤ 5) (hs : ∀ x ∈ l, 1 ≤ x ∧ x ≤ 1498) (k : Nat) (hk : l.length + 22 < k) : impl_key.f k l = some ((keyV l : Nat) : Int) := by
  have hm := fun i => fv_all kyf 1 l Mem Mem.one (fun y hy s _ => hy.mul (mem_four.pow _)) i
  have h := loop_up (fun k (x : Int × Int) => impl_key.l0 k x.1 l (l.length : Int) x.2) l.length 22
    (fun i => (((fv kyf 1 l i : Nat) : Int), (i : Int))) ((keyV l : Nat) : Int) (fun i k hi hB => by
    have hx := hs l[i] (List.getElem_mem hi)
    simp only [impl_key.l0]
    rw [if_pos (by omega), if_pos (by omega), if_pos (by omega), rd_in l i hi, w64 (n := (i : Int) + 1) (by omega) (by omega)]
    rw [show l[i] = ((l[i].toNat : Nat) : Int) by omega, show (4 : Int) = ((4 : Nat) : Int) from rfl, implPower_eq 4 _ (by omega) (by omega) k (by omega)]
    simp only [Option.bind_some]
    rw [mulm _ _ (hm i).lt (pwm_lt _ _), fv_succ _ _ _ _ hi]
    rfl) (fun k _ => by
    simp only [impl_key.l0]
    rw [if_neg (by omega), fv_end]
    rfl) k hk
  rw [fv_zero] at h
  exact h

def castS (key : Nat) (r c : Int) : S28 := ⟨((pwm 4 r.toNat : Nat) : Int), ((pwm 4 c.toNat * pwm key r.toNat % 2999 : Nat) : Int)⟩
def castOk (r c : Int) : Bool := decide (1 ≤ r ∧ r ≤ 1498) && decide (0 ≤ c ∧ c ≤ 3)
def castV (key : Nat) (r c : Int) : Int × Int × Bool := if castOk r c then ((castS key r c).f0, (castS key r c).f1, true) else (0, 0, false)
theorem castS_sea (key : Nat) (hk : Mem key) (r c : Int) : isSea (castS key r c).f0 (castS key r c).f1 = true := mem_isSea (mem_four.pow _) ((mem_four.pow _).mul (hk.pow _))
theorem specCast_eq (key : Nat) (hkey : Mem key) (r c : Int) (k : Nat) (hk : 21 < k) : spec_CastVote.f k (key : Int) r c = some (castV key r c) := by
  unfold spec_CastVote.f spec_SealNumber.f spec_l2Secret.f spec_l2Again.f castV castOk castS
  rw [specMember_eq _ k hk, mem_isMem hkey]
  simp only [Option.bind_some, l1In_eq, if_true]
  by_cases h2 : 0 ≤ c ∧ c ≤ 3
  · obtain ⟨c, rfl⟩ := Int.eq_ofNat_of_zero_le h2.1
    rw [decide_eq_true h2, if_pos rfl, show (4 : Int) = ((4 : Nat) : Int) from rfl, specPower_eq 4 c (by omega) (by omega) k hk]
    simp only [Option.bind_some]
    rw [specMember_eq _ k hk, mem_isMem (mem_four.pow c)]
    simp only [Option.bind_some, if_true]
    by_cases h1 : 1 ≤ r ∧ r ≤ 1498
    · obtain ⟨r, rfl⟩ := Int.eq_ofNat_of_zero_le (show 0 ≤ r by omega)
      rw [decide_eq_true h1, if_pos rfl, specPower_eq 4 r (by omega) (by omega) k hk, specPower_eq key r hkey.lt (by omega) k hk]
      simp only [Option.bind_some, Bool.and_self, if_true]
      rw [show (1 : Int) = ((1 : Nat) : Int) from rfl, mulm 1 _ (by omega) (pwm_lt _ _), mulm _ _ (pwm_lt _ _) (pwm_lt _ _), Int.toNat_natCast, Int.toNat_natCast, Nat.one_mul, Nat.mod_eq_of_lt (pwm_lt _ _)]
    · rw [decide_eq_false h1, if_neg (by simp)]
      rfl
  · rw [decide_eq_false h2, if_neg (by simp), Bool.and_false]
    rfl
theorem implCast_eq (key : Nat) (hkey : Mem key) (r c : Int) (k : Nat) (hk : 22 < k) : impl_CastVote.f k (key : Int) r c = some (castV key r c) := by
  obtain ⟨k, rfl⟩ := rounds hk
  unfold impl_CastVote.f impl_isSecret.f castV castOk castS
  rw [implMember_eq _ _ (by omega), mem_isMem hkey]
  simp only [Option.bind_some, within_eq, if_true]
  by_cases h1 : 1 ≤ r ∧ r ≤ 1498
  · obtain ⟨r, rfl⟩ := Int.eq_ofNat_of_zero_le (show 0 ≤ r by omega)
    rw [decide_eq_true h1, if_pos rfl]
    simp only [impl_CastVote.j0]
    by_cases h2 : 0 ≤ c ∧ c ≤ 3
    · obtain ⟨c, rfl⟩ := Int.eq_ofNat_of_zero_le h2.1
      rw [decide_eq_true h2, if_neg (by simp), show (4 : Int) = ((4 : Nat) : Int) from rfl, implPower_eq 4 c (by omega) (by omega) k (by omega)]
      simp only [Option.bind_some]
      unfold impl_seal.f
      rw [show (4 : Int) = ((4 : Nat) : Int) from rfl, implPower_eq 4 r (by omega) (by omega) k (by omega), implPower_eq key r hkey.lt (by omega) k (by omega)]
      simp only [Option.bind_some, Bool.and_self, if_true]
      rw [mulm _ _ (pwm_lt _ _) (pwm_lt _ _), Int.toNat_natCast, Int.toNat_natCast]
    · rw [decide_eq_false h2, if_pos (by simp), Bool.and_false]
      rfl
  · rw [decide_eq_false h1, if_neg (by simp)]
    simp only [impl_CastVote.j0, if_true, Bool.false_and]
    rfl

theorem specOpen_l0 (l : List Int) (hl : l.length ≤ 5) (hs : ∀ x ∈ l, 1 ≤ x ∧ x ≤ 1498) (a b : Nat) (ha : Mem a) (hb : Mem b) (k : Nat) (hk : l.length + 22 < k) :
    spec_OpenAll.l0 k (b : Int) l (l.length : Int) 0 (a : Int) (b : Int) = some (((openV l a b : Nat) : Int), true) := by
  have hm := fun i => fv_all (opf a) b l Mem hb (fun y hy s _ => hy.mul ((ha.pow _).pow _)) i
  have h := loop_up (fun k (x : Int × Int) => spec_OpenAll.l0 k x.1 l (l.length : Int) x.2 (a : Int) (b : Int)) l.length 22
    (fun i => (((fv (opf a) b l i : Nat) : Int), (i : Int))) (((openV l a b : Nat) : Int), true) (fun i k hi hB => by
    have hx := hs l[i] (List.getElem_mem hi)
    simp only [spec_OpenAll.l0]
    rw [if_pos (by omega), if_pos (by omega), if_pos (by omega), rd_in l i hi, w64 (n := (i : Int) + 1) (by omega) (by omega)]
    rw [show l[i] = ((l[i].toNat : Nat) : Int) by omega, specPower_eq a _ ha.lt (by omega) k (by omega)]
    simp only [Option.bind_some]
    rw [specInv_eq _ (pwm_lt _ _) k (by omega)]
    simp only [Option.bind_some]
    rw [mulm _ _ (hm i).lt (pwm_lt _ _), fv_succ _ _ _ _ hi]
    rfl) (fun k _ => by
    simp only [spec_OpenAll.l0]
    rw [if_neg (by omega), fv_end]
    rfl) k hk
  rw [fv_zero] at h
  exact h

theorem specOpen_eq (l : List Int) (n m : Nat) (hn : Mem n) (hm : Mem m) (hs : areSec l 5 = true) (k : Nat) (hk : 40 < k) : spec_OpenAll.f k l (n : Int) (m : Int) = some (((openV l n m : Nat) : Int), true) := by
  obtain ⟨k, rfl⟩ := rounds hk
  obtain ⟨h1, h2, h3⟩ := areSec_true hs
  unfold spec_OpenAll.f
  rw [specSecrets_eq l (by omega) _ (by omega), specSealed_eq _ _ _ (by omega), hs, mem_isSea hn hm]
  simp only [Option.bind_some, if_true, spec_OpenAll.j0, Bool.not_true, Bool.false_eq_true, if_false]
  exact specOpen_l0 l (by omega) h3 n m hn hm k (by omega)

def castsV (key : Nat) (rs cs : List Int) : List S28 := List.zipWith (castS key) rs cs
theorem castsV_length (key : Nat) (rs cs : List Int) (h : rs.length = cs.length) : (castsV key rs cs).length = rs.length := by
  unfold castsV
  rw [List.length_zipWith]
  omega
theorem castsV_get (key : Nat) (rs cs : List Int) (h : rs.length = cs.length) (i : Nat) (hi : i < rs.length) : (castsV key rs cs)[i]'(by rw [castsV_length key rs cs h]; exact hi) = castS key rs[i] (cs[i]'(by omega)) := by
  unfold castsV
  rw [List.getElem_zipWith]
theorem castsV_sea (key : Nat) (hk : Mem key) (rs cs : List Int) (h : rs.length = cs.length) : allSea (castsV key rs cs) := by
  intro x hx
  obtain ⟨i, hi, rfl⟩ := List.mem_iff_getElem.1 hx
  rw [castsV_length key rs cs h] at hi
  rw [castsV_get key rs cs h i hi]
  exact castS_sea key hk _ _

/-- What a count tells when all votes before i are good. -/
def pollV (l rs cs : List Int) : Int × Bool := if ∀ i, (h : i < rs.length) → castOk rs[i] (cs.getD i 0) = true then
  logV ((openV l (adV (castsV (keyV l) rs cs)).1 (adV (castsV (keyV l) rs cs)).2 : Nat) : Int) 100 else (0, false)

theorem specCount_l0 (l rs cs : List Int) (hs : areSec l 5 = true) (he : rs.length = cs.length) (hr : rs.length ≤ 12) : ∀ (d k i : Nat), rs.length - i = d → d + 200 < k → i ≤ rs.length → (∀ j, (h : j < rs.length) → j < i → castOk rs[j] (cs.getD j 0) = true) →
    spec_CountPoll.l0 k l cs ((castsV (keyV l) rs cs).take i) rs (rs.length : Int) (i : Int) = some (pollV l rs cs) := by
  have hc := castsV_length (keyV l) rs cs he
  obtain ⟨hl1, hl5, h3⟩ := areSec_true hs
  intro d
  induction d with
  | zero =>
    intro k i hd hk hi ht
    obtain ⟨k, rfl⟩ := rounds hk
    have e : i = rs.length := by omega
    subst e
    have hm := adV_mem _ (castsV_sea (keyV l) (keyV_mem l) rs cs he)
    simp only [spec_CountPoll.l0]
    rw [if_neg (by omega), List.take_of_length_le (by omega), specAddVotes_eq _ (by omega) _ (by omega), addV_mem _ (castsV_sea _ (keyV_mem l) rs cs he) (by omega)]
    simp only [Option.bind_some]
    rw [specOpen_eq l _ _ hm.1 hm.2 hs _ (by omega)]
    simp only [Option.bind_some]
    rw [specLogOf_eq _ _ _ (by omega), pollV, if_pos (fun j h => ht j h h)]
    rfl
  | succ d ih =>
    intro k i hd hk hi ht
    obtain ⟨k, rfl⟩ := rounds hk
    have hlt : i < rs.length := by omega
    have hlc : i < cs.length := by omega
    simp only [spec_CountPoll.l0]
    rw [if_pos (by omega), if_pos (by omega), if_pos (by omega), specKey_eq l (by omega) h3 k (by omega)]
    simp only [Option.bind_some]
    rw [if_pos (by omega), rd_in rs i hlt, rd_in cs i hlc, specCast_eq _ (keyV_mem l) _ _ k (by omega)]
    simp only [Option.bind_some]
    unfold castV
    by_cases e : castOk rs[i] cs[i] = true
    · rw [if_pos e, if_pos rfl, if_pos (by rw [List.length_take]; omega), w64 (n := (i : Int) + 1) (by omega) (by omega)]
      have h4 := ih k (i + 1) (by omega) (by omega) (by omega) (fun j h hj => by
        by_cases hji : j < i
        · exact ht j h hji
        · have : j = i := by omega
          subst this
          rw [getD_in cs 0 j hlc]
          exact e)
      rw [List.take_succ_eq_append_getElem (by omega), castsV_get _ rs cs he i hlt] at h4
      exact h4
    · rw [if_neg e, if_neg (by simp), pollV, if_neg (fun h => e (by rw [← getD_in cs 0 i hlc]; exact h i hlt))]

theorem less_open (l : List Int) (a b : Nat) : lessV (l.map fun s => ((pwm a s.toNat : Nat) : Int)) b = openV l a b := by
  unfold lessV openV
  rw [List.foldl_map]
  rfl

theorem implCount_l1 (l : List Int) (hs : areSec l 5 = true) (a b : Nat) (ha : Mem a) (hb : Mem b) (k : Nat) (hk : l.length + 130 < k) :
    impl_CountPoll.l1 k [] l (l.length : Int) 0 (a : Int) (b : Int) = some (logV ((openV l a b : Nat) : Int) 100) := by
  obtain ⟨hl1, hl5, h3⟩ := areSec_true hs
  have hP : (l.map fun s => ((pwm a s.toNat : Nat) : Int)).length = l.length := by simp
  have h := loop_up (fun k (x : List Int × Int) => impl_CountPoll.l1 k x.1 l (l.length : Int) x.2 (a : Int) (b : Int)) l.length 130
    (fun i => ((l.map fun s => ((pwm a s.toNat : Nat) : Int)).take i, (i : Int))) (logV ((openV l a b : Nat) : Int) 100) (fun i k hi hB => by
    have hx := h3 l[i] (List.getElem_mem hi)
    simp only [impl_CountPoll.l1]
    rw [if_pos (by omega), if_pos (by omega), if_pos (by omega), rd_in l i hi, w64 (n := (i : Int) + 1) (by omega) (by omega), List.take_succ_eq_append_getElem (by omega), List.getElem_map]
    have h4 := implPower_eq a l[i].toNat ha.lt (by omega) k (by omega)
    rw [show ((l[i].toNat : Nat) : Int) = l[i] by omega] at h4
    rw [h4]
    simp only [Option.bind_some]
    rw [if_pos (by rw [List.length_take]; omega)]
    rfl) (fun k hB => by
    simp only [impl_CountPoll.l1]
    rw [if_neg (by omega), List.take_of_length_le (by omega), implOpenSum_eq _ _ _ (by omega) _ _ (by omega), sumV, if_pos ⟨mem_isSea ha hb, by omega, fun x hx => by
      obtain ⟨s, _, rfl⟩ := List.mem_map.1 hx
      exact mem_isMem (ha.pow _)⟩, Int.toNat_natCast, less_open]
    rfl) k hk
  exact h

theorem implCount_l0 (l rs cs : List Int) (hs : areSec l 5 = true) (he : rs.length = cs.length) (hr : rs.length ≤ 12) : ∀ (d k i : Nat), rs.length - i = d → d + 200 < k → i ≤ rs.length → (∀ j, (h : j < rs.length) → j < i → castOk rs[j] (cs.getD j 0) = true) →
    impl_CountPoll.l0 k l cs ((keyV l : Nat) : Int) rs (rs.length : Int) (i : Int) (((fv adf (1, 1) (castsV (keyV l) rs cs) i).1 : Nat) : Int) (((fv adf (1, 1) (castsV (keyV l) rs cs) i).2 : Nat) : Int) = some (pollV l rs cs) := by
  have hc := castsV_length (keyV l) rs cs he
  have hsea := castsV_sea (keyV l) (keyV_mem l) rs cs he
  have hm := fun i => fv_all adf (1, 1) (castsV (keyV l) rs cs) Mem2 ⟨Mem.one, Mem.one⟩ (adf_mem _ hsea) i
  obtain ⟨hl1, hl5, h3⟩ := areSec_true hs
  intro d
  induction d with
  | zero =>
    intro k i hd hk hi ht
    obtain ⟨k, rfl⟩ := rounds hk
    have e : i = (castsV (keyV l) rs cs).length := by omega
    have hmi := hm i
    subst e
    rw [fv_end] at hmi ⊢
    simp only [impl_CountPoll.l0]
    rw [if_neg (by omega)]
    have h4 := implCount_l1 l hs _ _ hmi.1 hmi.2 k (by omega)
    rw [h4, pollV, if_pos (fun j h => ht j h (by omega))]
    rfl
  | succ d ih =>
    intro k i hd hk hi ht
    obtain ⟨k, rfl⟩ := rounds hk
    have hlt : i < rs.length := by omega
    have hlc : i < cs.length := by omega
    have hlz : i < (castsV (keyV l) rs cs).length := by omega
    simp only [impl_CountPoll.l0]
    rw [if_pos (by omega), if_pos (by omega), if_pos (by omega), if_pos (by omega), rd_in rs i hlt, rd_in cs i hlc, implCast_eq _ (keyV_mem l) _ _ k (by omega)]
    simp only [Option.bind_some]
    unfold castV
    by_cases e : castOk rs[i] cs[i] = true
    · rw [if_pos e, if_pos rfl, w64 (n := (i : Int) + 1) (by omega) (by omega)]
      have h4 := ih k (i + 1) (by omega) (by omega) (by omega) (fun j h hj => by
        by_cases hji : j < i
        · exact ht j h hji
        · have : j = i := by omega
          subst this
          rw [getD_in cs 0 j hlc]
          exact e)
      have hmi := hm i
      obtain ⟨n, m, h5, h6, h7, h8⟩ := isSea_mem (hsea _ (List.getElem_mem hlz))
      rw [fv_succ _ _ _ _ hlz] at h4
      rw [castsV_get _ rs cs he i hlt] at h4 h5 h6
      unfold adf at h4 hmi
      simp only [impl_multiplied.f, Option.bind_some]
      rw [h5, h6, Int.toNat_natCast, Int.toNat_natCast] at h4
      rw [h5, h6]
      unfold adf
      rw [mulm _ _ hmi.1.lt h7.lt, mulm _ _ hmi.2.lt h8.lt]
      exact h4
    · rw [if_neg e, if_neg (by simp), pollV, if_neg (fun h => e (by rw [← getD_in cs 0 i hlc]; exact h i hlt))]

theorem count_same (l rs cs : List Int) (hl : l.length ≤ 1048576) (h1 : rs.length ≤ 1048576) (h2 : cs.length ≤ 1048576) :
    ∃ r : Int × Bool, ∀ k, l.length + 300 < k → spec_CountPoll.f k l rs cs = some r ∧ impl_CountPoll.f k l rs cs = some r := by
  by_cases hs : areSec l 5 = true
  · obtain ⟨_, hl5, h3⟩ := areSec_true hs
    by_cases he : rs.length = cs.length
    · by_cases hr : rs.length ≤ 12
      · refine ⟨pollV l rs cs, fun k hk => ?_⟩
        obtain ⟨k, rfl⟩ := rounds hk
        have ha := specCount_l0 l rs cs hs he hr rs.length k 0 (by omega) (by omega) (by omega) (fun j h hj => by omega)
        have hb := implCount_l0 l rs cs hs he hr rs.length k 0 (by omega) (by omega) (by omega) (fun j h hj => by omega)
        rw [fv_zero] at hb
        rw [List.take_zero] at ha
        unfold spec_CountPoll.f impl_CountPoll.f impl_KeyOf.f
        rw [specSecrets_eq l hl _ (by omega), implSecrets_eq l hl 5 _ (by omega), hs, specKey_eq l (by omega) h3 _ (by omega), implKey_eq l (by omega) h3 _ (by omega)]
        simp only [Option.bind_some, if_true]
        rw [if_pos (by omega), if_neg (by omega), if_neg (by omega), specMember_eq _ _ (by omega), mem_isMem (keyV_mem l)]
        simp only [Option.bind_some, spec_CountPoll.j0, impl_CountPoll.j0, Bool.not_true, Bool.false_eq_true, if_false]
        rw [show ((cs.length : Int) != (rs.length : Int)) = false by rw [he]; exact bne_self_eq_false _, if_neg (by simp)]
        exact ⟨ha, hb⟩
      · refine ⟨(0, false), fun k hk => ?_⟩
        obtain ⟨k, rfl⟩ := rounds hk
        unfold spec_CountPoll.f impl_CountPoll.f impl_KeyOf.f
        rw [specSecrets_eq l hl _ (by omega), implSecrets_eq l hl 5 _ (by omega), hs, implKey_eq l (by omega) h3 _ (by omega)]
        simp only [Option.bind_some, if_true]
        rw [if_pos (by omega), if_pos (by omega), if_pos (by omega)]
        simp only [spec_CountPoll.j0, impl_CountPoll.j0, if_true, and_self]
    · refine ⟨(0, false), fun k hk => ?_⟩
      obtain ⟨k, rfl⟩ := rounds hk
      unfold spec_CountPoll.f impl_CountPoll.f impl_KeyOf.f
      rw [specSecrets_eq l hl _ (by omega), implSecrets_eq l hl 5 _ (by omega), hs, implKey_eq l (by omega) h3 _ (by omega)]
      simp only [Option.bind_some, if_true]
      rw [if_neg (by omega), show ((cs.length : Int) != (rs.length : Int)) = true by rw [bne_iff_ne]; omega]
      simp only [spec_CountPoll.j0, impl_CountPoll.j0, if_true, true_and]
      split <;> rfl
  · rw [Bool.not_eq_true] at hs
    refine ⟨(0, false), fun k hk => ?_⟩
    obtain ⟨k, rfl⟩ := rounds hk
    unfold spec_CountPoll.f impl_CountPoll.f impl_KeyOf.f
    rw [specSecrets_eq l hl _ (by omega), implSecrets_eq l hl 5 _ (by omega), hs]
    simp only [Option.bind_some, Bool.false_eq_true, if_false, spec_CountPoll.j0, impl_CountPoll.j0, if_true, and_self]

theorem FnExactCountPoll : laws_FnExactCountPoll.Pure := by
  intro l rs cs _ _ _ _ _ _ _ _ _
  by_cases hl : l.length ≤ 1048576
  · by_cases h1 : rs.length ≤ 1048576
    · by_cases h2 : cs.length ≤ 1048576
      · obtain ⟨r, hr⟩ := count_same l rs cs hl h1 h2
        refine ⟨l.length + rs.length + cs.length + 310, ?_⟩
        unfold laws_FnExactCountPoll.f
        rw [if_neg (by omega), if_neg (by omega), if_neg (by omega), toIntS_eq l hl _ (by omega), toIntS_eq rs h1 _ (by omega), toIntS_eq cs h2 _ (by omega)]
        simp only [Option.bind_some]
        rw [(hr _ (by omega)).1, (hr _ (by omega)).2]
        simp only [Option.bind_some, if_true, bne_self_eq_false, laws_FnExactCountPoll.j0, Bool.false_eq_true, if_false]
        rw [toIntS_eq l hl _ (by omega), toIntS_eq rs h1 _ (by omega), toIntS_eq cs h2 _ (by omega)]
        simp only [Option.bind_some]
        rw [eqIntS_self l hl _ (by omega), eqIntS_self rs h1 _ (by omega), eqIntS_self cs h2 _ (by omega)]
        rfl
      · exact ⟨0, by unfold laws_FnExactCountPoll.f; rw [if_neg (by omega), if_neg (by omega), if_pos (by omega)]⟩
    · exact ⟨0, by unfold laws_FnExactCountPoll.f; rw [if_neg (by omega), if_pos (by omega)]⟩
  · exact ⟨0, by unfold laws_FnExactCountPoll.f; rw [if_pos (by omega)]⟩

end Go.Proofs.Ytaiejbcpahcfmaa.Pure
