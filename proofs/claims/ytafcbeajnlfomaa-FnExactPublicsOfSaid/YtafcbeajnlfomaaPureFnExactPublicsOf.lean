/- Proved: PublicsOf of the program and of the reference answer alike at every list of numbers, and the answer owns its memory. Conditions: those of the given statement alone. -/
import Derived.Test.YtafcbeajnlfomaaPFnExactPublicsOfx3
import Derived.Test.YtafcbeajnlfomaaBase
set_option linter.unusedVariables false
set_option linter.unusedSimpArgs false
namespace Go.Proofs.Ytafcbeajnlfomaa.Pure
open Go.RowKit Go.Proofs.Ytafcbeajnlfomaa.PFnExactPublicsOf Go.Proofs.Ytafcbeajnlfomaa.Base Go.Proofs.YtafcbeajnlfomaaW.PrintWords Go.Proofs.YtafcbeajnlfomaaW.PrintLast Go.Proofs.YtafcbeajnlfomaaW.PrintMore

theorem l1In_eq (a b c : Int) : spec_l1In.f a b c = some (decide (b ≤ a ∧ a ≤ c)) := by
  unfold spec_l1In.f
  by_cases h : a ≥ b
  · rw [if_pos h]
    congr 1
    exact decide_eq_decide.2 ⟨fun h1 => ⟨h, h1⟩, fun h1 => h1.2⟩
  · rw [if_neg h, decide_eq_false (fun h1 => h h1.1)]

theorem within_eq (a b c : Int) : impl_within.f a b c = some (decide (b ≤ a ∧ a ≤ c)) := by
  unfold impl_within.f
  by_cases h : a ≥ b
  · rw [if_pos h]
    congr 1
    exact decide_eq_decide.2 ⟨fun h1 => ⟨h, h1⟩, fun h1 => h1.2⟩
  · rw [if_neg h, decide_eq_false (fun h1 => h h1.1)]

theorem specPower_l0 (n : Nat) : ∀ (k a e o : Nat), e < 2 ^ n → n < k → a < 2999 → o < 2999 → e ≤ 4294967296 → spec_l2Power.l0 k (a : Int) (e : Int) (o : Int) = some ((o * a ^ e % 2999 : Nat) : Int) := by
  induction n with
  | zero =>
    intro k a e o he hk ha ho _
    obtain ⟨k, rfl⟩ := rounds hk
    have h0 : e = 0 := by omega
    subst h0
    simp only [spec_l2Power.l0]
    rw [if_neg (by omega), Nat.pow_zero, Nat.mul_one, Nat.mod_eq_of_lt ho]
  | succ n ih =>
    intro k a e o he hk ha ho hm
    obtain ⟨k, rfl⟩ := rounds hk
    simp only [spec_l2Power.l0]
    by_cases h0 : e = 0
    · subst h0
      rw [if_neg (by omega), Nat.pow_zero, Nat.mul_one, Nat.mod_eq_of_lt ho]
    · have ha2 : a * a ≤ 2999 * 2999 := Nat.mul_le_mul (by omega) (by omega)
      have hoa : o * a ≤ 2999 * 2999 := Nat.mul_le_mul (by omega) (by omega)
      have hp : 2 ^ (n + 1) = 2 * 2 ^ n := by rw [Nat.pow_succ, Nat.mul_comm]
      have e1 : wrap64 ((a : Int) * (a : Int)) = ((a * a : Nat) : Int) := by rw [← Int.natCast_mul]; exact wnat _ (by omega)
      have e2 : wrap64 ((o : Int) * (a : Int)) = ((o * a : Nat) : Int) := by rw [← Int.natCast_mul]; exact wnat _ (by omega)
      have e3 : wrap64 (Int.tdiv (e : Int) 2) = ((e / 2 : Nat) : Int) := by rw [show Int.tdiv (e : Int) 2 = ((e / 2 : Nat) : Int) from tdiv_nat e 2]; exact wnat _ (by omega)
      rw [if_pos (by omega), e1, e2, e3]
      rw [show Int.tmod ((a * a : Nat) : Int) 2999 = ((a * a % 2999 : Nat) : Int) from tmod_nat _ 2999, show Int.tmod ((o * a : Nat) : Int) 2999 = ((o * a % 2999 : Nat) : Int) from tmod_nat _ 2999, show Int.tmod (e : Int) 2 = ((e % 2 : Nat) : Int) from tmod_nat e 2]
      by_cases h1 : e % 2 = 1
      · rw [if_pos (by omega), ih k _ _ _ (by omega) (by omega) (Nat.mod_lt _ (by omega)) (Nat.mod_lt _ (by omega)) (by omega), pow_round1]
        rw [show 2 * (e / 2) + 1 = e by omega]
      · rw [if_neg (by omega), ih k _ _ _ (by omega) (by omega) (Nat.mod_lt _ (by omega)) ho (by omega), pow_round0]
        rw [show 2 * (e / 2) = e by omega]

theorem specPower_eq (a e : Nat) (ha : a < 2999) (he : e ≤ 1048576) (k : Nat) (hk : 21 < k) : spec_l2Power.f k (a : Int) (e : Int) = some ((pwm a e : Nat) : Int) := by
  have h := specPower_l0 21 k a e 1 (by omega) hk ha (by omega) (by omega)
  rw [Nat.one_mul] at h
  exact h

theorem implPower_l0 (n : Nat) : ∀ (k a e o : Nat), e < 2 ^ n → n < k → a < 2999 → o < 2999 → e ≤ 4294967296 → impl_power.l0 k (a : Int) (e : Int) (o : Int) = some ((o * a ^ e % 2999 : Nat) : Int) := by
  induction n with
  | zero =>
    intro k a e o he hk ha ho _
    obtain ⟨k, rfl⟩ := rounds hk
    have h0 : e = 0 := by omega
    subst h0
    simp only [impl_power.l0]
    rw [if_neg (by omega), Nat.pow_zero, Nat.mul_one, Nat.mod_eq_of_lt ho]
  | succ n ih =>
    intro k a e o he hk ha ho hm
    obtain ⟨k, rfl⟩ := rounds hk
    simp only [impl_power.l0]
    by_cases h0 : e = 0
    · subst h0
      rw [if_neg (by omega), Nat.pow_zero, Nat.mul_one, Nat.mod_eq_of_lt ho]
    · have ha2 : a * a ≤ 2999 * 2999 := Nat.mul_le_mul (by omega) (by omega)
      have hoa : o * a ≤ 2999 * 2999 := Nat.mul_le_mul (by omega) (by omega)
      have hp : 2 ^ (n + 1) = 2 * 2 ^ n := by rw [Nat.pow_succ, Nat.mul_comm]
      have e1 : wrap64 ((a : Int) * (a : Int)) = ((a * a : Nat) : Int) := by rw [← Int.natCast_mul]; exact wnat _ (by omega)
      have e2 : wrap64 ((o : Int) * (a : Int)) = ((o * a : Nat) : Int) := by rw [← Int.natCast_mul]; exact wnat _ (by omega)
      have e3 : wrap64 (Int.tdiv (e : Int) 2) = ((e / 2 : Nat) : Int) := by rw [show Int.tdiv (e : Int) 2 = ((e / 2 : Nat) : Int) from tdiv_nat e 2]; exact wnat _ (by omega)
      rw [if_pos (by omega), e1, e2, e3]
      rw [show Int.tmod ((a * a : Nat) : Int) 2999 = ((a * a % 2999 : Nat) : Int) from tmod_nat _ 2999, show Int.tmod ((o * a : Nat) : Int) 2999 = ((o * a % 2999 : Nat) : Int) from tmod_nat _ 2999, show Int.tmod (e : Int) 2 = ((e % 2 : Nat) : Int) from tmod_nat e 2]
      by_cases h1 : e % 2 = 1
      · rw [if_pos (by omega), ih k _ _ _ (by omega) (by omega) (Nat.mod_lt _ (by omega)) (Nat.mod_lt _ (by omega)) (by omega), pow_round1]
        rw [show 2 * (e / 2) + 1 = e by omega]
      · rw [if_neg (by omega), ih k _ _ _ (by omega) (by omega) (Nat.mod_lt _ (by omega)) ho (by omega), pow_round0]
        rw [show 2 * (e / 2) = e by omega]

theorem implPower_eq (a e : Nat) (ha : a < 2999) (he : e ≤ 1048576) (k : Nat) (hk : 21 < k) : impl_power.f k (a : Int) (e : Int) = some ((pwm a e : Nat) : Int) := by
  have h := implPower_l0 21 k a e 1 (by omega) hk ha (by omega) (by omega)
  rw [Nat.one_mul] at h
  exact h

theorem specAll_l0 (l : List Int) (hl : l.length ≤ 1048576) (a b : Int) : ∀ (d k i : Nat), l.length - i = d → d < k → i ≤ l.length → spec_l1All.l0 k a b l (l.length : Int) (i : Int) = some (decide (∀ x ∈ l.drop i, a ≤ x ∧ x ≤ b)) := by
  intro d
  induction d with
  | zero =>
    intro k i hd hk hi
    obtain ⟨k, rfl⟩ := rounds hk
    simp only [spec_l1All.l0]
    rw [if_neg (by omega), List.drop_of_length_le (by omega)]
    simp
  | succ d ih =>
    intro k i hd hk hi
    obtain ⟨k, rfl⟩ := rounds hk
    have hlt : i < l.length := by omega
    simp only [spec_l1All.l0]
    rw [if_pos (by omega), if_pos (by omega), if_pos (by omega), rd_in l i hlt, w64 (by omega) (by omega), l1In_eq]
    simp only [Option.bind_some]
    have hdrop := List.drop_eq_getElem_cons hlt
    by_cases e : a ≤ l[i] ∧ l[i] ≤ b
    · have h := ih k (i + 1) (by omega) (by omega) (by omega)
      rw [decide_eq_true e, if_pos rfl]
      refine Eq.trans h ?_
      congr 1
      refine decide_eq_decide.2 ?_
      rw [hdrop]
      simp only [List.mem_cons, forall_eq_or_imp]
      exact ⟨fun h => ⟨e, h⟩, fun h => h.2⟩
    · rw [decide_eq_false e, if_neg (by simp)]
      congr 1
      refine (decide_eq_false (fun h => e (h l[i] (by rw [hdrop]; exact List.mem_cons_self)))).symm

theorem specAll_eq (l : List Int) (hl : l.length ≤ 1048576) (a b : Int) (k : Nat) (hk : l.length < k) : spec_l1All.f k l a b = some (decide (∀ x ∈ l, a ≤ x ∧ x ≤ b)) := by
  have h := specAll_l0 l hl a b l.length k 0 (by omega) hk (by omega)
  rw [List.drop_zero] at h
  exact h

theorem implAll_l0 (l : List Int) (hl : l.length ≤ 1048576) (a b : Int) : ∀ (d k i : Nat), l.length - i = d → d < k → i ≤ l.length → impl_allWithin.l0 k a b l (l.length : Int) (i : Int) = some (decide (∀ x ∈ l.drop i, a ≤ x ∧ x ≤ b)) := by
  intro d
  induction d with
  | zero =>
    intro k i hd hk hi
    obtain ⟨k, rfl⟩ := rounds hk
    simp only [impl_allWithin.l0]
    rw [if_neg (by omega), List.drop_of_length_le (by omega)]
    simp
  | succ d ih =>
    intro k i hd hk hi
    obtain ⟨k, rfl⟩ := rounds hk
    have hlt : i < l.length := by omega
    simp only [impl_allWithin.l0]
    rw [if_pos (by omega), if_pos (by omega), if_pos (by omega), rd_in l i hlt, w64 (by omega) (by omega), within_eq]
    simp only [Option.bind_some]
    have hdrop := List.drop_eq_getElem_cons hlt
    by_cases e : a ≤ l[i] ∧ l[i] ≤ b
    · have h := ih k (i + 1) (by omega) (by omega) (by omega)
      rw [decide_eq_true e, if_pos rfl]
      refine Eq.trans h ?_
      congr 1
      refine decide_eq_decide.2 ?_
      rw [hdrop]
      simp only [List.mem_cons, forall_eq_or_imp]
      exact ⟨fun h => ⟨e, h⟩, fun h => h.2⟩
    · rw [decide_eq_false e, if_neg (by simp)]
      congr 1
      refine (decide_eq_false (fun h => e (h l[i] (by rw [hdrop]; exact List.mem_cons_self)))).symm

theorem implAll_eq (l : List Int) (hl : l.length ≤ 1048576) (a b : Int) (k : Nat) (hk : l.length < k) : impl_allWithin.f k l a b = some (decide (∀ x ∈ l, a ≤ x ∧ x ≤ b)) := by
  have h := implAll_l0 l hl a b l.length k 0 (by omega) hk (by omega)
  rw [List.drop_zero] at h
  exact h

def pubs (l : List Int) : List Int := l.map fun s => ((pwm 4 s.toNat : Nat) : Int)
theorem pubs_length (l : List Int) : (pubs l).length = l.length := by simp [pubs]
theorem pubs_snoc (l : List Int) (i : Nat) (h : i < l.length) : pubs (l.take (i + 1)) = pubs (l.take i) ++ [((pwm 4 l[i].toNat : Nat) : Int)] := by
  unfold pubs
  rw [List.take_succ_eq_append_getElem h, List.map_append]
  rfl

theorem specPublics_l0 (l : List Int) (hl : l.length ≤ 6) (h : ∀ x ∈ l, 1 ≤ x ∧ x ≤ 1498) : ∀ k, l.length + 22 < k → spec_PublicsOf.l0 k [] l (l.length : Int) 0 = some (pubs l, true) := by
  intro k hk
  have h1 := loop_up (fun k (x : List Int × Int) => spec_PublicsOf.l0 k x.1 l (l.length : Int) x.2) l.length 22 (fun i => (pubs (l.take i), (i : Int))) (pubs l, true) (fun i k hi hb => by
    have hx := h l[i] (List.getElem_mem hi)
    have hp := specPower_eq 4 l[i].toNat (by omega) (by omega) k (by omega)
    rw [show ((l[i].toNat : Nat) : Int) = l[i] by omega] at hp
    simp only [spec_PublicsOf.l0]
    rw [if_pos (by omega), if_pos (by omega), if_pos (by omega), rd_in l i hi, show (4 : Int) = ((4 : Nat) : Int) from rfl, hp, w64 (by omega) (by omega)]
    simp only [Option.bind_some]
    rw [if_pos (by rw [pubs_length, List.length_take]; omega), ← pubs_snoc l i hi]
    rfl) (fun k _ => by
    simp only [spec_PublicsOf.l0]
    rw [if_neg (by omega), List.take_length]) k hk
  simpa [pubs] using h1

theorem implPublics_l0 (l : List Int) (hl : l.length ≤ 6) (h : ∀ x ∈ l, 1 ≤ x ∧ x ≤ 1498) : ∀ k, l.length + 22 < k → impl_PublicsOf.l0 k [] l (l.length : Int) 0 = some (pubs l, true) := by
  intro k hk
  have h1 := loop_up (fun k (x : List Int × Int) => impl_PublicsOf.l0 k x.1 l (l.length : Int) x.2) l.length 22 (fun i => (pubs (l.take i), (i : Int))) (pubs l, true) (fun i k hi hb => by
    have hx := h l[i] (List.getElem_mem hi)
    have hp := implPower_eq 4 l[i].toNat (by omega) (by omega) k (by omega)
    rw [show ((l[i].toNat : Nat) : Int) = l[i] by omega] at hp
    simp only [impl_PublicsOf.l0]
    rw [if_pos (by omega), if_pos (by omega), if_pos (by omega), rd_in l i hi, show (4 : Int) = ((4 : Nat) : Int) from rfl, hp, w64 (by omega) (by omega)]
    simp only [Option.bind_some]
    rw [if_pos (by rw [pubs_length, List.length_take]; omega), ← pubs_snoc l i hi]
    rfl) (fun k _ => by
    simp only [impl_PublicsOf.l0]
    rw [if_neg (by omega), List.take_length]) k hk
  simpa [pubs] using h1

def areSec (l : List Int) (n : Int) : Bool := decide (1 ≤ (l.length : Int) ∧ (l.length : Int) ≤ n) && decide (∀ x ∈ l, 1 ≤ x ∧ x ≤ 1498)
theorem specSecrets_eq (l : List Int) (hl : l.length ≤ 1048576) (k : Nat) (hk : l.length < k) : spec_l11Secrets.f k l = some (areSec l 6) := by
  unfold spec_l11Secrets.f areSec
  rw [l1In_eq, specAll_eq l hl 1 1498 k hk]
  simp only [Option.bind_some]
  by_cases h : 1 ≤ (l.length : Int) ∧ (l.length : Int) ≤ 6 <;> simp [h]
theorem implSecrets_eq (l : List Int) (hl : l.length ≤ 1048576) (n : Int) (k : Nat) (hk : l.length < k) : impl_areSecrets.f k l n = some (areSec l n) := by
  unfold impl_areSecrets.f areSec
  rw [within_eq, implAll_eq l hl 1 1498 k hk]
  simp only [Option.bind_some]
  by_cases h : 1 ≤ (l.length : Int) ∧ (l.length : Int) ≤ n <;> simp [h]
theorem areSec_true {l : List Int} {n : Int} (h : areSec l n = true) : 1 ≤ (l.length : Int) ∧ (l.length : Int) ≤ n ∧ ∀ x ∈ l, 1 ≤ x ∧ x ≤ 1498 := by
  unfold areSec at h
  rw [Bool.and_eq_true, decide_eq_true_iff, decide_eq_true_iff] at h
  exact ⟨h.1.1, h.1.2, h.2⟩

theorem PublicsOf_same (l : List Int) (hl : l.length ≤ 1048576) : ∃ (r : List Int) (b : Bool) (k0 : Nat), r.length ≤ 1048576 ∧ spec_PublicsOf.f k0 l = some (r, b) ∧ impl_PublicsOf.f k0 l = some (r, b) := by
  obtain ⟨K, hK⟩ := some_nat (l.length + 30)
  unfold spec_PublicsOf.f impl_PublicsOf.f
  by_cases h : areSec l 6 = true
  · obtain ⟨h1, h2, h3⟩ := areSec_true h
    refine ⟨pubs l, true, K, by rw [pubs_length]; omega, ?_, ?_⟩
    · rw [specSecrets_eq l hl K (by omega), h]
      exact specPublics_l0 l (by omega) h3 K (by omega)
    · rw [implSecrets_eq l hl 6 K (by omega), h]
      exact implPublics_l0 l (by omega) h3 K (by omega)
  · rw [Bool.not_eq_true] at h
    refine ⟨[], false, K, by simp, ?_, ?_⟩
    · rw [specSecrets_eq l hl K (by omega), h]
      rfl
    · rw [implSecrets_eq l hl 6 K (by omega), h]
      rfl

theorem toIntS_l0 (l : List Int) (hl : l.length ≤ 1048576) : ∀ (d k i : Nat) (out : List Int), l.length - i = d → d < k → i ≤ l.length → out.length = l.length → out.take i = l.take i → laws_toIntS.l0 k l out (i : Int) = some l := by
  intro d
  induction d with
  | zero =>
    intro k i out hd hk hi ho ht
    obtain ⟨k, rfl⟩ := rounds hk
    simp only [laws_toIntS.l0]
    rw [if_neg (by omega), take_all out l i ht (by omega) (by omega)]
  | succ d ih =>
    intro k i out hd hk hi ho ht
    obtain ⟨k, rfl⟩ := rounds hk
    simp only [laws_toIntS.l0]
    rw [if_pos (by omega), if_pos (by omega), if_pos (by omega), w64 (by omega) (by omega), Int.toNat_natCast, rd_in l i (by omega)]
    exact ih k (i + 1) _ (by omega) (by omega) (by omega) (by rw [List.length_set]; exact ho) (take_set out l i _ ht (by omega) (by omega) rfl)

theorem toIntS_eq (l : List Int) (hl : l.length ≤ 1048576) (k : Nat) (hk : l.length < k) : laws_toIntS.f k l = some l := by
  unfold laws_toIntS.f
  rw [if_pos (by omega), if_pos (by omega)]
  exact toIntS_l0 l hl l.length k 0 _ (by omega) hk (by omega) (by simp) (by simp)

theorem eqIntS_l0 (l : List Int) (hl : l.length ≤ 1048576) : ∀ (d k i : Nat), l.length - i = d → d < k → laws_eqIntS.l0 k l l (i : Int) = some true := by
  intro d
  induction d with
  | zero =>
    intro k i hd hk
    obtain ⟨k, rfl⟩ := rounds hk
    simp only [laws_eqIntS.l0]
    rw [if_neg (by omega)]
  | succ d ih =>
    intro k i hd hk
    obtain ⟨k, rfl⟩ := rounds hk
    simp only [laws_eqIntS.l0]
    rw [if_pos (by omega), if_pos (by omega), if_pos (by omega), if_pos trivial, w64 (by omega) (by omega)]
    exact ih k (i + 1) (by omega) (by omega)

theorem eqIntS_self (l : List Int) (hl : l.length ≤ 1048576) (k : Nat) (hk : l.length < k) : laws_eqIntS.f k l l = some true := by
  unfold laws_eqIntS.f
  rw [if_pos rfl]
  exact eqIntS_l0 l hl l.length k 0 (by omega) hk

theorem markIntS_l0 (n : Nat) (hn : n ≤ 1048576) (m : Int) (h0 : 0 ≤ m) (h1 : m ≤ 4294967296) : ∀ (d k i : Nat) (out : List Int), n - i = d → d < k → i ≤ n → out.length = n → out.take i = (ups m n).take i → laws_markIntS.l0 k out (m + (i : Int)) (i : Int) = some (m + (n : Int), ups m n) := by
  intro d
  induction d with
  | zero =>
    intro k i out hd hk hi ho ht
    obtain ⟨k, rfl⟩ := rounds hk
    simp only [laws_markIntS.l0]
    rw [if_neg (by omega), take_all out (ups m n) i ht (by omega) (by rw [ups_length]; omega), show i = n by omega]
  | succ d ih =>
    intro k i out hd hk hi ho ht
    obtain ⟨k, rfl⟩ := rounds hk
    simp only [laws_markIntS.l0]
    rw [if_pos (by omega), if_pos (by omega), w64 (n := (i : Int) + 1) (by omega) (by omega), w64 (n := m + (i : Int) + 1) (by omega) (by omega), Int.toNat_natCast]
    rw [show m + (i : Int) + 1 = m + ((i + 1 : Nat) : Int) by omega]
    exact ih k (i + 1) _ (by omega) (by omega) (by omega) (by rw [List.length_set]; exact ho) (take_set out (ups m n) i _ ht (by omega) (by rw [ups_length]; omega) (ups_get m n i (by omega)).symm)

theorem markIntS_eq (l : List Int) (hl : l.length ≤ 1048576) (m : Int) (h0 : 0 ≤ m) (h1 : m ≤ 4294967296) (k : Nat) (hk : l.length < k) : laws_markIntS.f k l m = some (m + (l.length : Int), ups m l.length) := by
  have h := markIntS_l0 l.length hl m h0 h1 l.length k 0 l (by omega) hk (by omega) rfl (by simp)
  unfold laws_markIntS.f
  simpa using h

theorem heldIntS_l0 (n : Nat) (hn : n ≤ 1048576) (m : Int) (h0 : 0 ≤ m) (h1 : m ≤ 4294967296) : ∀ (d k i : Nat), n - i = d → d < k → i ≤ n → laws_heldIntS.l0 k (ups m n) (m + (i : Int)) (i : Int) = some (m + (n : Int)) := by
  intro d
  induction d with
  | zero =>
    intro k i hd hk hi
    obtain ⟨k, rfl⟩ := rounds hk
    simp only [laws_heldIntS.l0]
    rw [if_neg (by rw [ups_length]; omega), show i = n by omega]
  | succ d ih =>
    intro k i hd hk hi
    obtain ⟨k, rfl⟩ := rounds hk
    simp only [laws_heldIntS.l0]
    rw [if_pos (by rw [ups_length]; omega), if_pos (by omega), rd_in _ i (by rw [ups_length]; omega), ups_get m n i (by omega), if_pos rfl, w64 (n := (i : Int) + 1) (by omega) (by omega), w64 (n := m + (i : Int) + 1) (by omega) (by omega)]
    rw [show m + (i : Int) + 1 = m + ((i + 1 : Nat) : Int) by omega]
    exact ih k (i + 1) (by omega) (by omega) (by omega)

theorem heldIntS_eq (n : Nat) (hn : n ≤ 1048576) (m : Int) (h0 : 0 ≤ m) (h1 : m ≤ 4294967296) (k : Nat) (hk : n < k) : laws_heldIntS.f k (ups m n) m = some (m + (n : Int)) := by
  have h := heldIntS_l0 n hn m h0 h1 n k 0 (by omega) hk (by omega)
  unfold laws_heldIntS.f
  simpa using h

theorem FnExactPublicsOf : laws_FnExactPublicsOf.Pure := by
  intro l _ _ _
  by_cases hl : l.length ≤ 1048576
  · obtain ⟨r, b, k0, hr, h1, h2⟩ := PublicsOf_same l hl
    obtain ⟨h3, h4⟩ := stay (spec_PublicsOf.mono l) (impl_PublicsOf.mono l) h1 h2
    obtain ⟨K, hK⟩ := some_nat (l.length + r.length + k0 + 1)
    refine ⟨K + 3, ?_⟩
    unfold laws_FnExactPublicsOf.f
    rw [if_neg (by omega)]
    have a1 := fun (k : Nat) (hk : l.length < k) => toIntS_eq l hl k hk
    have a2 := fun (k : Nat) (hk : l.length < k) => eqIntS_self l hl k hk
    have a3 := fun (k : Nat) (hk : r.length < k) => eqIntS_self r hr k hk
    have a4 := fun (k : Nat) (hk : l.length < k) => markIntS_eq l hl 1 (by omega) (by omega) k hk
    have a5 := fun (k : Nat) (hk : r.length < k) => markIntS_eq r hr 1 (by omega) (by omega) k hk
    have a6 := fun (k : Nat) (hk : r.length < k) => heldIntS_eq r.length hr 1 (by omega) (by omega) k hk
    simp (disch := omega) only [a1, h3, h4, a3, Option.bind_some, if_true, bne_self_eq_false]
    rw [laws_FnExactPublicsOf.j0]
    simp (disch := omega) only [a1, a2, a3, a4, Option.bind_some, if_true, if_false, bne_self_eq_false, Bool.false_eq_true]
    rw [if_neg (by omega), laws_FnExactPublicsOf.j1]
    simp (disch := omega) only [a1, a3, a5, a6, h4, Option.bind_some, if_true, if_false, bne_self_eq_false, Bool.false_eq_true]
    rw [if_neg (by omega), laws_FnExactPublicsOf.j2]
    simp (disch := omega) only [a6, Option.bind_some, if_true, if_false, Bool.false_eq_true]
    rw [if_neg (by omega)]
  · exact ⟨0, by unfold laws_FnExactPublicsOf.f; rw [if_pos (by omega)]⟩



end Go.Proofs.Ytafcbeajnlfomaa.Pure
