/- Proved: OpenSum of the program and of the reference answer alike at all arguments. Conditions: those of the given statement alone. -/
import Derived.Test.YtaiejbcpahcfmaaPFnExactOpenSumx3
import Derived.Test.YtaiejbcpahcfmaaBase
set_option linter.unusedVariables false
set_option linter.unusedSimpArgs false
namespace Go.Proofs.Ytaiejbcpahcfmaa.Pure
open Go.RowKit Go.Proofs.Ytaiejbcpahcfmaa.PFnExactOpenSum Go.Proofs.Ytaiejbcpahcfmaa.Base Go.Proofs.YtaiejbcpahcfmaaW.PrintWords Go.Proofs.YtaiejbcpahcfmaaW.PrintLast Go.Proofs.YtaiejbcpahcfmaaW.PrintMore

theorem toIntS_l0 (l : List Int) (hl : l.length ≤ 1048576) : ∀ (d k i : Nat) (out : List Int), l.length - i = d → d < k → i ≤ l.length → out.length = l.length → out.take i = l.take i → laws_toIntS.l0 k l out (i : Int) = some l := by
  intro d
  induction d with
  | zero =>
    intro k i out hd hk hi ho ht
    obtain ⟨k, rfl⟩ := rounds hk
    simp only [laws_toIntS.l0]
    rw [if_neg (by omega), take_all out l i ht (by omega) (by omega)]
  | succ d ih =>
    intro k i out hd hk hi ho ht
    obtain ⟨k, rfl⟩ := rounds hk
    simp only [laws_toIntS.l0]
    rw [if_pos (by omega), if_pos (by omega), if_pos (by omega), w64 (by omega) (by omega), Int.toNat_natCast, rd_in l i (by omega)]
    exact ih k (i + 1) _ (by omega) (by omega) (by omega) (by rw [List.length_set]; exact ho) (take_set out l i _ ht (by omega) (by omega) rfl)

theorem toIntS_eq (l : List Int) (hl : l.length ≤ 1048576) (k : Nat) (hk : l.length < k) : laws_toIntS.f k l = some l := by
  unfold laws_toIntS.f
  rw [if_pos (by omega), if_pos (by omega)]
  exact toIntS_l0 l hl l.length k 0 _ (by omega) hk (by omega) (by simp) (by simp)

theorem eqIntS_l0 (l : List Int) (hl : l.length ≤ 1048576) : ∀ (d k i : Nat), l.length - i = d → d < k → laws_eqIntS.l0 k l l (i : Int) = some true := by
  intro d
  induction d with
  | zero =>
    intro k i hd hk
    obtain ⟨k, rfl⟩ := rounds hk
    simp only [laws_eqIntS.l0]
    rw [if_neg (by omega)]
  | succ d ih =>
    intro k i hd hk
    obtain ⟨k, rfl⟩ := rounds hk
    simp only [laws_eqIntS.l0]
    rw [if_pos (by omega), if_pos (by omega), if_pos (by omega), if_pos trivial, w64 (by omega) (by omega)]
    exact ih k (i + 1) (by omega) (by omega)

theorem eqIntS_self (l : List Int) (hl : l.length ≤ 1048576) (k : Nat) (hk : l.length < k) : laws_eqIntS.f k l l = some true := by
  unfold laws_eqIntS.f
  rw [if_pos rfl]
  exact eqIntS_l0 l hl l.length k 0 (by omega) hk

theorem l1In_eq (a b c : Int) : spec_l1In.f a b c = some (decide (b ≤ a ∧ a ≤ c)) := by
  unfold spec_l1In.f
  by_cases h : a ≥ b
  · rw [if_pos h]
    congr 1
    exact decide_eq_decide.2 ⟨fun h1 => ⟨h, h1⟩, fun h1 => h1.2⟩
  · rw [if_neg h, decide_eq_false (fun h1 => h h1.1)]

theorem within_eq (a b c : Int) : impl_within.f a b c = some (decide (b ≤ a ∧ a ≤ c)) := by
  unfold impl_within.f
  by_cases h : a ≥ b
  · rw [if_pos h]
    congr 1
    exact decide_eq_decide.2 ⟨fun h1 => ⟨h, h1⟩, fun h1 => h1.2⟩
  · rw [if_neg h, decide_eq_false (fun h1 => h h1.1)]

theorem specPower_l0 (n : Nat) : ∀ (k a e o : Nat), e < 2 ^ n → n < k → a < 2999 → o < 2999 → e ≤ 4294967296 → spec_l2Power.l0 k (a : Int) (e : Int) (o : Int) = some ((o * a ^ e % 2999 : Nat) : Int) := by
  induction n with
  | zero =>
    intro k a e o he hk ha ho _
    obtain ⟨k, rfl⟩ := rounds hk
    have h0 : e = 0 := by omega
    subst h0
    simp only [spec_l2Power.l0]
    rw [if_neg (by omega), Nat.pow_zero, Nat.mul_one, Nat.mod_eq_of_lt ho]
  | succ n ih =>
    intro k a e o he hk ha ho hm
    obtain ⟨k, rfl⟩ := rounds hk
    simp only [spec_l2Power.l0]
    by_cases h0 : e = 0
    · subst h0
      rw [if_neg (by omega), Nat.pow_zero, Nat.mul_one, Nat.mod_eq_of_lt ho]
    · have ha2 : a * a ≤ 2999 * 2999 := Nat.mul_le_mul (by omega) (by omega)
      have hoa : o * a ≤ 2999 * 2999 := Nat.mul_le_mul (by omega) (by omega)
      have hp : 2 ^ (n + 1) = 2 * 2 ^ n := by rw [Nat.pow_succ, Nat.mul_comm]
      have e1 : wrap64 ((a : Int) * (a : Int)) = ((a * a : Nat) : Int) := by rw [← Int.natCast_mul]; exact wnat _ (by omega)
      have e2 : wrap64 ((o : Int) * (a : Int)) = ((o * a : Nat) : Int) := by rw [← Int.natCast_mul]; exact wnat _ (by omega)
      have e3 : wrap64 (Int.tdiv (e : Int) 2) = ((e / 2 : Nat) : Int) := by rw [show Int.tdiv (e : Int) 2 = ((e / 2 : Nat) : Int) from tdiv_nat e 2]; exact wnat _ (by omega)
      rw [if_pos (by omega), e1, e2, e3]
      rw [show Int.tmod ((a * a : Nat) : Int) 2999 = ((a * a % 2999 : Nat) : Int) from tmod_nat _ 2999, show Int.tmod ((o * a : Nat) : Int) 2999 = ((o * a % 2999 : Nat) : Int) from tmod_nat _ 2999, show Int.tmod (e : Int) 2 = ((e % 2 : Nat) : Int) from tmod_nat e 2]
      by_cases h1 : e % 2 = 1
      · rw [if_pos (by omega), ih k _ _ _ (by omega) (by omega) (Nat.mod_lt _ (by omega)) (Nat.mod_lt _ (by omega)) (by omega), pow_round1]
        rw [show 2 * (e / 2) + 1 = e by omega]
      · rw [if_neg (by omega), ih k _ _ _ (by omega) (by omega) (Nat.mod_lt _ (by omega)) ho (by omega), pow_round0]
        rw [show 2 * (e / 2) = e by omega]

theorem specPower_eq (a e : Nat) (ha : a < 2999) (he : e ≤ 1048576) (k : Nat) (hk : 21 < k) : spec_l2Power.f k (a : Int) (e : Int) = some ((pwm a e : Nat) : Int) := by
  have h := specPower_l0 21 k a e 1 (by omega) hk ha (by omega) (by omega)
  rw [Nat.one_mul] at h
  exact h

theorem implPower_l0 (n : Nat) : ∀ (k a e o : Nat), e < 2 ^ n → n < k → a < 2999 → o < 2999 → e ≤ 4294967296 → impl_power.l0 k (a : Int) (e : Int) (o : Int) = some ((o * a ^ e % 2999 : Nat) : Int) := by
  induction n with
  | zero =>
    intro k a e o he hk ha ho _
    obtain ⟨k, rfl⟩ := rounds hk
    have h0 : e = 0 := by omega
    subst h0
    simp only [impl_power.l0]
    rw [if_neg (by omega), Nat.pow_zero, Nat.mul_one, Nat.mod_eq_of_lt ho]
  | succ n ih =>
    intro k a e o he hk ha ho hm
    obtain ⟨k, rfl⟩ := rounds hk
    simp only [impl_power.l0]
    by_cases h0 : e = 0
    · subst h0
      rw [if_neg (by omega), Nat.pow_zero, Nat.mul_one, Nat.mod_eq_of_lt ho]
    · have ha2 : a * a ≤ 2999 * 2999 := Nat.mul_le_mul (by omega) (by omega)
      have hoa : o * a ≤ 2999 * 2999 := Nat.mul_le_mul (by omega) (by omega)
      have hp : 2 ^ (n + 1) = 2 * 2 ^ n := by rw [Nat.pow_succ, Nat.mul_comm]
      have e1 : wrap64 ((a : Int) * (a : Int)) = ((a * a : Nat) : Int) := by rw [← Int.natCast_mul]; exact wnat _ (by omega)
      have e2 : wrap64 ((o : Int) * (a : Int)) = ((o * a : Nat) : Int) := by rw [← Int.natCast_mul]; exact wnat _ (by omega)
      have e3 : wrap64 (Int.tdiv (e : Int) 2) = ((e / 2 : Nat) : Int) := by rw [show Int.tdiv (e : Int) 2 = ((e / 2 : Nat) : Int) from tdiv_nat e 2]; exact wnat _ (by omega)
      rw [if_pos (by omega), e1, e2, e3]
      rw [show Int.tmod ((a * a : Nat) : Int) 2999 = ((a * a % 2999 : Nat) : Int) from tmod_nat _ 2999, show Int.tmod ((o * a : Nat) : Int) 2999 = ((o * a % 2999 : Nat) : Int) from tmod_nat _ 2999, show Int.tmod (e : Int) 2 = ((e % 2 : Nat) : Int) from tmod_nat e 2]
      by_cases h1 : e % 2 = 1
      · rw [if_pos (by omega), ih k _ _ _ (by omega) (by omega) (Nat.mod_lt _ (by omega)) (Nat.mod_lt _ (by omega)) (by omega), pow_round1]
        rw [show 2 * (e / 2) + 1 = e by omega]
      · rw [if_neg (by omega), ih k _ _ _ (by omega) (by omega) (Nat.mod_lt _ (by omega)) ho (by omega), pow_round0]
        rw [show 2 * (e / 2) = e by omega]

theorem implPower_eq (a e : Nat) (ha : a < 2999) (he : e ≤ 1048576) (k : Nat) (hk : 21 < k) : impl_power.f k (a : Int) (e : Int) = some ((pwm a e : Nat) : Int) := by
  have h := implPower_l0 21 k a e 1 (by omega) hk ha (by omega) (by omega)
  rw [Nat.one_mul] at h
  exact h

/-- A member: a unit whose power by 1499 is 1. -/
def isMem (a : Int) : Bool := decide (1 ≤ a ∧ a ≤ 2998) && decide (pwm a.toNat 1499 = 1)

theorem specMember_eq (a : Int) (k : Nat) (hk : 21 < k) : spec_IsMember.f k a = some (isMem a) := by
  unfold spec_IsMember.f spec_l2Unit.f
  simp only [l1In_eq, Option.bind_some]
  by_cases h : 1 ≤ a ∧ a ≤ 2998
  · obtain ⟨n, rfl⟩ := Int.eq_ofNat_of_zero_le (show 0 ≤ a by omega)
    have h2 := specPower_eq n 1499 (by omega) (by omega) k hk
    rw [decide_eq_true h, if_pos rfl, show ((1499 : Int)) = ((1499 : Nat) : Int) from rfl, h2]
    simp only [Option.bind_some, isMem, decide_eq_true h, Bool.true_and, Int.toNat_natCast]
    congr 1
    rw [Bool.eq_iff_iff, beq_iff_eq, decide_eq_true_iff]
    omega
  · rw [decide_eq_false h, if_neg (by simp)]
    simp [isMem, h]

theorem implMember_eq (a : Int) (k : Nat) (hk : 21 < k) : impl_IsMember.f k a = some (isMem a) := by
  unfold impl_IsMember.f impl_isUnit.f
  simp only [within_eq, Option.bind_some]
  by_cases h : 1 ≤ a ∧ a ≤ 2998
  · obtain ⟨n, rfl⟩ := Int.eq_ofNat_of_zero_le (show 0 ≤ a by omega)
    have h2 := implPower_eq n 1499 (by omega) (by omega) k hk
    rw [decide_eq_true h, if_pos rfl, show ((1499 : Int)) = ((1499 : Nat) : Int) from rfl, h2]
    simp only [Option.bind_some, isMem, decide_eq_true h, Bool.true_and, Int.toNat_natCast]
    congr 1
    rw [Bool.eq_iff_iff, beq_iff_eq, decide_eq_true_iff]
    omega
  · rw [decide_eq_false h, if_neg (by simp)]
    simp [isMem, h]

theorem mem_range {a : Int} (h : isMem a = true) : 1 ≤ a ∧ a ≤ 2998 := by
  unfold isMem at h
  rw [Bool.and_eq_true, decide_eq_true_iff, decide_eq_true_iff] at h
  exact h.1

theorem isMem_mem {a : Int} (h : isMem a = true) : ∃ n : Nat, a = (n : Int) ∧ Mem n := by
  unfold isMem at h
  rw [Bool.and_eq_true, decide_eq_true_iff, decide_eq_true_iff] at h
  obtain ⟨n, rfl⟩ := Int.eq_ofNat_of_zero_le (show 0 ≤ a by omega)
  exact ⟨n, rfl, by omega, h.2⟩
theorem mem_isMem {n : Nat} (h : Mem n) : isMem (n : Int) = true := by
  have h1 := h.pos
  have h2 := h.lt
  unfold isMem
  rw [Bool.and_eq_true, decide_eq_true_iff, decide_eq_true_iff]
  exact ⟨by omega, h.2⟩
def isSea (a b : Int) : Bool := isMem a && isMem b
theorem specSealed_eq (a b : Int) (k : Nat) (hk : 21 < k) : spec_l2Sealed.f k a b = some (isSea a b) := by
  unfold spec_l2Sealed.f isSea
  rw [specMember_eq a k hk, specMember_eq b k hk]
  simp only [Option.bind_some]
  cases isMem a <;> rfl
theorem implSealed_eq (a b : Int) (k : Nat) (hk : 21 < k) : impl_isSealed.f k a b = some (isSea a b) := by
  unfold impl_isSealed.f isSea
  rw [implMember_eq a k hk, implMember_eq b k hk]
  simp only [Option.bind_some]
  cases isMem a <;> rfl
theorem isSea_mem {a b : Int} (h : isSea a b = true) : ∃ n m : Nat, a = (n : Int) ∧ b = (m : Int) ∧ Mem n ∧ Mem m := by
  unfold isSea at h
  rw [Bool.and_eq_true] at h
  obtain ⟨n, h1, h2⟩ := isMem_mem h.1
  obtain ⟨m, h3, h4⟩ := isMem_mem h.2
  exact ⟨n, m, h1, h3, h2, h4⟩
theorem mem_isSea {n m : Nat} (h1 : Mem n) (h2 : Mem m) : isSea (n : Int) (m : Int) = true := by
  unfold isSea
  rw [mem_isMem h1, mem_isMem h2]
  rfl

/-- The first x from here on, of d of them, whose power of 4 is a. -/
def logG (a : Nat) : Nat → Nat → Option Nat
  | 0, _ => none
  | d + 1, x => if pwm 4 x = a then some x else logG a d (x + 1)
def logI (o : Option Nat) : Int := match o with | some x => (x : Int) | none => -1
def logP (o : Option Nat) : Int × Bool := match o with | some x => ((x : Int), true) | none => (0, false)
theorem four_next (x : Nat) : Int.tmod (wrap64 (((pwm 4 x : Nat) : Int) * 4)) 2999 = ((pwm 4 (x + 1) : Nat) : Int) := by
  rw [show (4 : Int) = ((4 : Nat) : Int) from rfl, mulm _ 4 (pwm_lt _ _) (by omega), pwm_add, pwm_one 4 (by omega)]
theorem specLog_l0 (a m : Nat) (hm : m ≤ 100) : ∀ (d k x : Nat), m + 1 - x = d → x ≤ m + 1 → d < k → spec_l6Log.l0 k (a : Int) (m : Int) ((pwm 4 x : Nat) : Int) (x : Int) = some (logI (logG a d x)) := by
  intro d
  induction d with
  | zero =>
    intro k x hd hx hk
    obtain ⟨k, rfl⟩ := rounds hk
    simp only [spec_l6Log.l0]
    rw [if_neg (by omega)]
    rfl
  | succ d ih =>
    intro k x hd hx hk
    obtain ⟨k, rfl⟩ := rounds hk
    simp only [spec_l6Log.l0, logG]
    rw [if_pos (by omega)]
    by_cases e : pwm 4 x = a
    · rw [if_pos (by omega), if_pos e]
      rfl
    · rw [if_neg (by omega), if_neg e, four_next, w64 (by omega) (by omega)]
      exact ih k (x + 1) (by omega) (by omega) (by omega)
theorem implLog_l0 (a m : Nat) (hm : m ≤ 100) : ∀ (d k x : Nat), m + 1 - x = d → x ≤ m + 1 → d < k → impl_LogOf.l0 k (a : Int) (m : Int) (x : Int) ((pwm 4 x : Nat) : Int) = some (logP (logG a d x)) := by
  intro d
  induction d with
  | zero =>
    intro k x hd hx hk
    obtain ⟨k, rfl⟩ := rounds hk
    simp only [impl_LogOf.l0]
    rw [if_neg (by omega)]
    rfl
  | succ d ih =>
    intro k x hd hx hk
    obtain ⟨k, rfl⟩ := rounds hk
    simp only [impl_LogOf.l0, logG]
    rw [if_pos (by omega)]
    by_cases e : pwm 4 x = a
    · rw [if_pos (by omega), if_pos e]
      rfl
    · rw [if_neg (by omega), if_neg e, four_next, w64 (by omega) (by omega)]
      exact ih k (x + 1) (by omega) (by omega) (by omega)
def logV (a m : Int) : Int × Bool := if isMem a = true ∧ 0 ≤ m ∧ m ≤ 100 then logP (logG a.toNat (m.toNat + 1) 0) else (0, false)
theorem specLogOf_eq (a m : Int) (k : Nat) (hk : 103 < k) : spec_LogOf.f k a m = some (logV a m) := by
  unfold spec_LogOf.f logV spec_l6Log.f
  rw [specMember_eq a k (by omega)]
  simp only [Option.bind_some, l1In_eq]
  by_cases h : isMem a = true
  · obtain ⟨n, rfl, hn⟩ := isMem_mem h
    by_cases h2 : 0 ≤ m ∧ m ≤ 100
    · obtain ⟨q, rfl⟩ := Int.eq_ofNat_of_zero_le h2.1
      have h3 := specLog_l0 n q (by omega) (q + 1) k 0 (by omega) (by omega) (by omega)
      rw [pwm_zero] at h3
      have h4 : spec_l6Log.l0 k (n : Int) (q : Int) 1 0 = some (logI (logG n (q + 1) 0)) := h3
      rw [h, if_pos rfl, decide_eq_true h2, if_pos rfl, h4, if_pos ⟨rfl, h2⟩, Int.toNat_natCast, Int.toNat_natCast]
      simp only [Option.bind_some]
      cases logG n (q + 1) 0 with
      | none => rfl
      | some x => exact if_neg (by simp only [logI]; omega)
    · rw [h, if_pos rfl, decide_eq_false h2, if_neg (by simp), if_neg (fun e => h2 e.2)]
  · rw [if_neg h, if_neg (fun e => h e.1)]
theorem implLogOf_eq (a m : Int) (k : Nat) (hk : 103 < k) : impl_LogOf.f k a m = some (logV a m) := by
  obtain ⟨k, rfl⟩ := rounds hk
  unfold impl_LogOf.f logV
  rw [implMember_eq a (k + 1) (by omega)]
  simp only [Option.bind_some, within_eq]
  by_cases h : isMem a = true
  · obtain ⟨n, rfl, hn⟩ := isMem_mem h
    by_cases h2 : 0 ≤ m ∧ m ≤ 100
    · obtain ⟨q, rfl⟩ := Int.eq_ofNat_of_zero_le h2.1
      have h3 := implLog_l0 n q (by omega) (q + 1) k 0 (by omega) (by omega) (by omega)
      rw [pwm_zero] at h3
      have h4 : impl_LogOf.l0 k (n : Int) (q : Int) 0 1 = some (logP (logG n (q + 1) 0)) := h3
      rw [h, if_pos rfl, decide_eq_true h2, if_pos ⟨rfl, h2⟩, Int.toNat_natCast, Int.toNat_natCast]
      simp only [impl_LogOf.j0, Bool.not_true, Bool.false_eq_true, if_false]
      exact h4
    · rw [h, if_pos rfl, decide_eq_false h2, if_neg (fun e => h2 e.2)]
      simp only [impl_LogOf.j0, Bool.not_false, if_true]
  · rw [if_neg h, if_neg (fun e => h e.1)]
    simp only [impl_LogOf.j0, if_true]

theorem specInv_eq (a : Nat) (ha : a < 2999) (k : Nat) (hk : 21 < k) : spec_l2Inverse.f k (a : Int) = some ((pwm a 2997 : Nat) : Int) := by
  unfold spec_l2Inverse.f
  rw [show (2997 : Int) = ((2997 : Nat) : Int) from rfl, specPower_eq a 2997 ha (by omega) k hk]
  rfl

theorem implInv_eq (a : Nat) (ha : a < 2999) (k : Nat) (hk : 21 < k) : impl_inverse.f k (a : Int) = some ((pwm a 2997 : Nat) : Int) := by
  unfold impl_inverse.f
  rw [show (2997 : Int) = ((2997 : Nat) : Int) from rfl, implPower_eq a 2997 ha (by omega) k hk]
  rfl



/-- What is divided by all in turn. -/
def lsf (y : Nat) (p : Int) : Nat := y * pwm p.toNat 2997 % 2999
def lessV (l : List Int) (b : Nat) : Nat := l.foldl lsf b
theorem lsf_mem (l : List Int) (hs : ∀ x ∈ l, isMem x = true) (y : Nat) (hy : Mem y) (s : Int) (h : s ∈ l) : Mem (lsf y s) := by
  obtain ⟨n, hn, hmn⟩ := isMem_mem (hs s h)
  unfold lsf
  rw [hn, Int.toNat_natCast]
  exact hy.mul (hmn.pow _)
theorem lessV_mem (l : List Int) (hs : ∀ x ∈ l, isMem x = true) (b : Nat) (hb : Mem b) : Mem (lessV l b) := foldl_all lsf b l Mem hb (lsf_mem l hs)

theorem specLess_eq (l : List Int) (hl : l.length ≤ 1048576) (hs : ∀ x ∈ l, isMem x = true) (b : Nat) (hb : Mem b) (k : Nat) (hk : l.length + 22 < k) :
    spec_l6Less.f k (b : Int) l = some ((lessV l b : Nat) : Int) := by
  have hm := fun i => fv_all lsf b l Mem hb (lsf_mem l hs) i
  have h := loop_up (fun k (x : Int × Int) => spec_l6Less.l0 k x.1 l (l.length : Int) x.2) l.length 22
    (fun i => (((fv lsf b l i : Nat) : Int), (i : Int))) ((lessV l b : Nat) : Int) (fun i k hi hB => by
    obtain ⟨n, hn, hmn⟩ := isMem_mem (hs l[i] (List.getElem_mem hi))
    simp only [spec_l6Less.l0]
    rw [if_pos (by omega), if_pos (by omega), if_pos (by omega), rd_in l i hi, w64 (n := (i : Int) + 1) (by omega) (by omega)]
    rw [hn, specInv_eq _ hmn.lt k (by omega)]
    simp only [Option.bind_some]
    rw [mulm _ _ (hm i).lt (pwm_lt _ _), fv_succ _ _ _ _ hi]
    rw [lsf, hn, Int.toNat_natCast]
    rfl) (fun k _ => by
    simp only [spec_l6Less.l0]
    rw [if_neg (by omega), fv_end]
    rfl) k hk
  rw [fv_zero] at h
  exact h
theorem implSum_l0 (l : List Int) (hl : l.length ≤ 1048576) (hs : ∀ x ∈ l, isMem x = true) (m : Int) (b : Nat) (hb : Mem b) (k : Nat) (hk : l.length + 104 < k) :
    impl_OpenSum.l0 k m (b : Int) l (l.length : Int) 0 = some (logV ((lessV l b : Nat) : Int) m) := by
  have hm := fun i => fv_all lsf b l Mem hb (lsf_mem l hs) i
  have h := loop_up (fun k (x : Int × Int) => impl_OpenSum.l0 k m x.1 l (l.length : Int) x.2) l.length 104
    (fun i => (((fv lsf b l i : Nat) : Int), (i : Int))) (logV ((lessV l b : Nat) : Int) m) (fun i k hi hB => by
    obtain ⟨n, hn, hmn⟩ := isMem_mem (hs l[i] (List.getElem_mem hi))
    simp only [impl_OpenSum.l0]
    rw [if_pos (by omega), if_pos (by omega), if_pos (by omega), rd_in l i hi, w64 (n := (i : Int) + 1) (by omega) (by omega)]
    rw [hn, implInv_eq _ hmn.lt k (by omega)]
    simp only [Option.bind_some]
    rw [mulm _ _ (hm i).lt (pwm_lt _ _), fv_succ _ _ _ _ hi]
    rw [lsf, hn, Int.toNat_natCast]
    rfl) (fun k hB => by
    simp only [impl_OpenSum.l0]
    rw [if_neg (by omega), fv_end, implLogOf_eq _ _ _ (by omega)]
    rfl) k hk
  rw [fv_zero] at h
  exact h

def sumV (a b : Int) (l : List Int) (m : Int) : Int × Bool := if isSea a b = true ∧ l.length ≤ 5 ∧ (∀ x ∈ l, isMem x = true) then logV ((lessV l b.toNat : Nat) : Int) m else (0, false)

theorem indexMem (l : List Int) (hl : l.length ≤ 1048576) : ∀ (d k i : Nat), l.length - i = d → d + 22 < k → i ≤ l.length →
    ∃ t, slices_IndexFunc_int_int.l0 k l (l.length : Int) (i : Int) = some t ∧ (t ≥ 0 ↔ ¬ ∀ x ∈ l.drop i, isMem x = true) := by
  intro d
  induction d with
  | zero =>
    intro k i hd hk hi
    obtain ⟨k, rfl⟩ := rounds hk
    refine ⟨-1, ?_, ?_⟩
    · simp only [slices_IndexFunc_int_int.l0]
      rw [if_neg (by omega)]
    · rw [List.drop_of_length_le (by omega)]
      simp
  | succ d ih =>
    intro k i hd hk hi
    obtain ⟨k, rfl⟩ := rounds hk
    have hlt : i < l.length := by omega
    obtain ⟨t, h1, h2⟩ := ih k (i + 1) (by omega) (by omega) (by omega)
    simp only [slices_IndexFunc_int_int.l0, impl_OpenSum_1.f]
    rw [if_pos (by omega), if_pos (by omega), if_pos (by omega), rd_in l i hlt, w64 (by omega) (by omega), implMember_eq _ k (by omega), List.drop_eq_getElem_cons hlt]
    simp only [Option.bind_some, List.mem_cons, forall_eq_or_imp]
    cases e : isMem l[i]
    · exact ⟨(i : Int), by simp, by simp⟩
    · exact ⟨t, by simpa using h1, by simpa using h2⟩
theorem containsMem (l : List Int) (hl : l.length ≤ 1048576) (k : Nat) (hk : l.length + 22 < k) : slices_ContainsFunc_int_int.f k l = some (!decide (∀ x ∈ l, isMem x = true)) := by
  obtain ⟨t, h1, h2⟩ := indexMem l hl l.length k 0 (by omega) hk (by omega)
  unfold slices_ContainsFunc_int_int.f slices_IndexFunc_int_int.f
  have h3 : slices_IndexFunc_int_int.l0 k l (l.length : Int) 0 = some t := h1
  rw [h3]
  simp only [Option.bind_some]
  rw [List.drop_zero] at h2
  congr 1
  by_cases e : ∀ x ∈ l, isMem x = true
  · rw [decide_eq_true e, decide_eq_false (fun h => (h2.1 h) e)]
    rfl
  · rw [decide_eq_false e, decide_eq_true (h2.2 e)]
    rfl
theorem implOpenSum_eq (a b : Int) (l : List Int) (hl : l.length ≤ 1048576) (m : Int) (k : Nat) (hk : l.length + 110 < k) : impl_OpenSum.f k a b l m = some (sumV a b l m) := by
  obtain ⟨k, rfl⟩ := rounds hk
  unfold impl_OpenSum.f sumV
  rw [implSealed_eq _ _ _ (by omega), containsMem l hl _ (by omega)]
  simp only [Option.bind_some]
  by_cases h1 : isSea a b = true
  · obtain ⟨n, q, rfl, rfl, hn, hq⟩ := isSea_mem h1
    rw [if_pos h1]
    by_cases h2 : l.length ≤ 5
    · rw [if_neg (by omega)]
      by_cases h3 : ∀ x ∈ l, isMem x = true
      · rw [if_pos ⟨h1, h2, h3⟩, decide_eq_true h3]
        simp only [impl_OpenSum.j0, Bool.not_true, Bool.false_eq_true, if_false]
        exact implSum_l0 l hl h3 m q hq k (by omega)
      · rw [if_neg (fun h => h3 h.2.2), decide_eq_false h3]
        simp only [impl_OpenSum.j0, Bool.not_false, if_true]
    · rw [if_pos (by omega), if_neg (fun h => h2 h.2.1)]
      simp only [impl_OpenSum.j0, if_true]
  · rw [if_neg h1, if_neg (fun h => h1 h.1)]
    simp only [impl_OpenSum.j0, if_true]

theorem specSum_end (l : List Int) (hl : l.length ≤ 1048576) (hs : ∀ x ∈ l, isMem x = true) (m a b : Int) (k : Nat) (hk : 130 < k) :
    spec_OpenSum.l0 k l m l (l.length : Int) (l.length : Int) a b = some (sumV a b l m) := by
  obtain ⟨k, rfl⟩ := rounds hk
  obtain ⟨j, rfl⟩ := rounds (show 0 < k by omega)
  simp only [spec_OpenSum.l0]
  rw [if_neg (by omega), specSealed_eq _ _ _ (by omega)]
  simp only [Option.bind_some, spec_OpenSum.j1]
  by_cases h1 : isSea a b = true
  · obtain ⟨n, q, rfl, rfl, hn, hq⟩ := isSea_mem h1
    rw [if_pos h1]
    by_cases h2 : l.length ≤ 5
    · rw [decide_eq_false (show ¬ (l.length : Int) > 5 by omega), if_neg (by simp), specLess_eq l hl hs q hq j (by omega)]
      simp only [Option.bind_some]
      rw [specLogOf_eq _ _ _ (by omega), sumV, if_pos ⟨h1, h2, hs⟩]
      rfl
    · rw [decide_eq_true (show (l.length : Int) > 5 by omega), if_pos rfl, sumV, if_neg (fun h => h2 h.2.1)]
  · rw [if_neg h1, if_pos trivial, sumV, if_neg (fun h => h1 h.1)]
theorem specSum_l0 (l : List Int) (hl : l.length ≤ 1048576) (m a b : Int) : ∀ (d k i : Nat), l.length - i = d → d + 130 < k → i ≤ l.length → (∀ x ∈ l.take i, isMem x = true) →
    spec_OpenSum.l0 k l m l (l.length : Int) (i : Int) a b = some (sumV a b l m) := by
  intro d
  induction d with
  | zero =>
    intro k i hd hk hi ht
    have e : i = l.length := by omega
    subst e
    rw [List.take_length] at ht
    exact specSum_end l hl ht m a b k (by omega)
  | succ d ih =>
    intro k i hd hk hi ht
    obtain ⟨k, rfl⟩ := rounds hk
    have hlt : i < l.length := by omega
    simp only [spec_OpenSum.l0]
    rw [if_pos (by omega), if_pos (by omega), if_pos (by omega), rd_in l i hlt, w64 (by omega) (by omega), specMember_eq _ k (by omega)]
    simp only [Option.bind_some]
    by_cases e : isMem l[i] = true
    · rw [if_pos e]
      exact ih k (i + 1) (by omega) (by omega) (by omega) (fun x hx => by
        rw [List.take_succ_eq_append_getElem hlt, List.mem_append, List.mem_singleton] at hx
        rcases hx with hx | rfl
        · exact ht x hx
        · exact e)
    · rw [if_neg e]
      congr 1
      unfold sumV
      rw [if_neg (fun h => e (h.2.2 _ (List.getElem_mem hlt)))]
theorem specOpenSum_eq (a b : Int) (l : List Int) (hl : l.length ≤ 1048576) (m : Int) (k : Nat) (hk : l.length + 130 < k) : spec_OpenSum.f k a b l m = some (sumV a b l m) :=
  specSum_l0 l hl m a b l.length k 0 (by omega) hk (by omega) (by simp)

theorem FnExactOpenSum : laws_FnExactOpenSum.Pure := by
  intro a b l m _ _ _ _
  by_cases hl : l.length ≤ 1048576
  · refine ⟨l.length + 140, ?_⟩
    unfold laws_FnExactOpenSum.f laws_toSealed.f
    rw [if_neg (by omega), toIntS_eq l hl _ (by omega)]
    simp only [Option.bind_some]
    rw [specOpenSum_eq _ _ _ hl _ _ (by omega), implOpenSum_eq _ _ _ hl _ _ (by omega)]
    simp only [Option.bind_some, if_true, bne_self_eq_false, laws_FnExactOpenSum.j0, Bool.false_eq_true, if_false]
    rw [toIntS_eq l hl _ (by omega)]
    simp only [Option.bind_some]
    rw [eqIntS_self l hl _ (by omega)]
    rfl
  · exact ⟨0, by unfold laws_FnExactOpenSum.f; rw [if_pos (by omega)]⟩

end Go.Proofs.Ytaiejbcpahcfmaa.Pure
