/- Proved: AddVotes of the program and of the reference answer alike at all arguments. Conditions: those of the given statement alone. -/
import Derived.Test.YtaiejbcpahcfmaaPFnExactAddVotesx3
import Derived.Test.YtaiejbcpahcfmaaBase
set_option linter.unusedVariables false
set_option linter.unusedSimpArgs false
namespace Go.Proofs.Ytaiejbcpahcfmaa.Pure
open Go.RowKit Go.Proofs.Ytaiejbcpahcfmaa.PFnExactAddVotes Go.Proofs.Ytaiejbcpahcfmaa.Base Go.Proofs.YtaiejbcpahcfmaaW.PrintWords Go.Proofs.YtaiejbcpahcfmaaW.PrintLast Go.Proofs.YtaiejbcpahcfmaaW.PrintMore

theorem l1In_eq (a b c : Int) : spec_l1In.f a b c = some (decide (b ≤ a ∧ a ≤ c)) := by
  unfold spec_l1In.f
  by_cases h : a ≥ b
  · rw [if_pos h]
    congr 1
    exact decide_eq_decide.2 ⟨fun h1 => ⟨h, h1⟩, fun h1 => h1.2⟩
  · rw [if_neg h, decide_eq_false (fun h1 => h h1.1)]

theorem within_eq (a b c : Int) : impl_within.f a b c = some (decide (b ≤ a ∧ a ≤ c)) := by
  unfold impl_within.f
  by_cases h : a ≥ b
  · rw [if_pos h]
    congr 1
    exact decide_eq_decide.2 ⟨fun h1 => ⟨h, h1⟩, fun h1 => h1.2⟩
  · rw [if_neg h, decide_eq_false (fun h1 => h h1.1)]

theorem specPower_l0 (n : Nat) : ∀ (k a e o : Nat), e < 2 ^ n → n < k → a < 2999 → o < 2999 → e ≤ 4294967296 → spec_l2Power.l0 k (a : Int) (e : Int) (o : Int) = some ((o * a ^ e % 2999 : Nat) : Int) := by
  induction n with
  | zero =>
    intro k a e o he hk ha ho _
    obtain ⟨k, rfl⟩ := rounds hk
    have h0 : e = 0 := by omega
    subst h0
    simp only [spec_l2Power.l0]
    rw [if_neg (by omega), Nat.pow_zero, Nat.mul_one, Nat.mod_eq_of_lt ho]
  | succ n ih =>
    intro k a e o he hk ha ho hm
    obtain ⟨k, rfl⟩ := rounds hk
    simp only [spec_l2Power.l0]
    by_cases h0 : e = 0
    · subst h0
      rw [if_neg (by omega), Nat.pow_zero, Nat.mul_one, Nat.mod_eq_of_lt ho]
    · have ha2 : a * a ≤ 2999 * 2999 := Nat.mul_le_mul (by omega) (by omega)
      have hoa : o * a ≤ 2999 * 2999 := Nat.mul_le_mul (by omega) (by omega)
      have hp : 2 ^ (n + 1) = 2 * 2 ^ n := by rw [Nat.pow_succ, Nat.mul_comm]
      have e1 : wrap64 ((a : Int) * (a : Int)) = ((a * a : Nat) : Int) := by rw [← Int.natCast_mul]; exact wnat _ (by omega)
      have e2 : wrap64 ((o : Int) * (a : Int)) = ((o * a : Nat) : Int) := by rw [← Int.natCast_mul]; exact wnat _ (by omega)
      have e3 : wrap64 (Int.tdiv (e : Int) 2) = ((e / 2 : Nat) : Int) := by rw [show Int.tdiv (e : Int) 2 = ((e / 2 : Nat) : Int) from tdiv_nat e 2]; exact wnat _ (by omega)
      rw [if_pos (by omega), e1, e2, e3]
      rw [show Int.tmod ((a * a : Nat) : Int) 2999 = ((a * a % 2999 : Nat) : Int) from tmod_nat _ 2999, show Int.tmod ((o * a : Nat) : Int) 2999 = ((o * a % 2999 : Nat) : Int) from tmod_nat _ 2999, show Int.tmod (e : Int) 2 = ((e % 2 : Nat) : Int) from tmod_nat e 2]
      by_cases h1 : e % 2 = 1
      · rw [if_pos (by omega), ih k _ _ _ (by omega) (by omega) (Nat.mod_lt _ (by omega)) (Nat.mod_lt _ (by omega)) (by omega), pow_round1]
        rw [show 2 * (e / 2) + 1 = e by omega]
      · rw [if_neg (by omega), ih k _ _ _ (by omega) (by omega) (Nat.mod_lt _ (by omega)) ho (by omega), pow_round0]
        rw [show 2 * (e / 2) = e by omega]

theorem specPower_eq (a e : Nat) (ha : a < 2999) (he : e ≤ 1048576) (k : Nat) (hk : 21 < k) : spec_l2Power.f k (a : Int) (e : Int) = some ((pwm a e : Nat) : Int) := by
  have h := specPower_l0 21 k a e 1 (by omega) hk ha (by omega) (by omega)
  rw [Nat.one_mul] at h
  exact h

theorem implPower_l0 (n : Nat) : ∀ (k a e o : Nat), e < 2 ^ n → n < k → a < 2999 → o < 2999 → e ≤ 4294967296 → impl_power.l0 k (a : Int) (e : Int) (o : Int) = some ((o * a ^ e % 2999 : Nat) : Int) := by
  induction n with
  | zero =>
    intro k a e o he hk ha ho _
    obtain ⟨k, rfl⟩ := rounds hk
    have h0 : e = 0 := by omega
    subst h0
    simp only [impl_power.l0]
    rw [if_neg (by omega), Nat.pow_zero, Nat.mul_one, Nat.mod_eq_of_lt ho]
  | succ n ih =>
    intro k a e o he hk ha ho hm
    obtain ⟨k, rfl⟩ := rounds hk
    simp only [impl_power.l0]
    by_cases h0 : e = 0
    · subst h0
      rw [if_neg (by omega), Nat.pow_zero, Nat.mul_one, Nat.mod_eq_of_lt ho]
    · have ha2 : a * a ≤ 2999 * 2999 := Nat.mul_le_mul (by omega) (by omega)
      have hoa : o * a ≤ 2999 * 2999 := Nat.mul_le_mul (by omega) (by omega)
      have hp : 2 ^ (n + 1) = 2 * 2 ^ n := by rw [Nat.pow_succ, Nat.mul_comm]
      have e1 : wrap64 ((a : Int) * (a : Int)) = ((a * a : Nat) : Int) := by rw [← Int.natCast_mul]; exact wnat _ (by omega)
      have e2 : wrap64 ((o : Int) * (a : Int)) = ((o * a : Nat) : Int) := by rw [← Int.natCast_mul]; exact wnat _ (by omega)
      have e3 : wrap64 (Int.tdiv (e : Int) 2) = ((e / 2 : Nat) : Int) := by rw [show Int.tdiv (e : Int) 2 = ((e / 2 : Nat) : Int) from tdiv_nat e 2]; exact wnat _ (by omega)
      rw [if_pos (by omega), e1, e2, e3]
      rw [show Int.tmod ((a * a : Nat) : Int) 2999 = ((a * a % 2999 : Nat) : Int) from tmod_nat _ 2999, show Int.tmod ((o * a : Nat) : Int) 2999 = ((o * a % 2999 : Nat) : Int) from tmod_nat _ 2999, show Int.tmod (e : Int) 2 = ((e % 2 : Nat) : Int) from tmod_nat e 2]
      by_cases h1 : e % 2 = 1
      · rw [if_pos (by omega), ih k _ _ _ (by omega) (by omega) (Nat.mod_lt _ (by omega)) (Nat.mod_lt _ (by omega)) (by omega), pow_round1]
        rw [show 2 * (e / 2) + 1 = e by omega]
      · rw [if_neg (by omega), ih k _ _ _ (by omega) (by omega) (Nat.mod_lt _ (by omega)) ho (by omega), pow_round0]
        rw [show 2 * (e / 2) = e by omega]

theorem implPower_eq (a e : Nat) (ha : a < 2999) (he : e ≤ 1048576) (k : Nat) (hk : 21 < k) : impl_power.f k (a : Int) (e : Int) = some ((pwm a e : Nat) : Int) := by
  have h := implPower_l0 21 k a e 1 (by omega) hk ha (by omega) (by omega)
  rw [Nat.one_mul] at h
  exact h

/-- A member: a unit whose power by 1499 is 1. -/
def isMem (a : Int) : Bool := decide (1 ≤ a ∧ a ≤ 2998) && decide (pwm a.toNat 1499 = 1)

theorem specMember_eq (a : Int) (k : Nat) (hk : 21 < k) : spec_IsMember.f k a = some (isMem a) := by
  unfold spec_IsMember.f spec_l2Unit.f
  simp only [l1In_eq, Option.bind_some]
  by_cases h : 1 ≤ a ∧ a ≤ 2998
  · obtain ⟨n, rfl⟩ := Int.eq_ofNat_of_zero_le (show 0 ≤ a by omega)
    have h2 := specPower_eq n 1499 (by omega) (by omega) k hk
    rw [decide_eq_true h, if_pos rfl, show ((1499 : Int)) = ((1499 : Nat) : Int) from rfl, h2]
    simp only [Option.bind_some, isMem, decide_eq_true h, Bool.true_and, Int.toNat_natCast]
    congr 1
    rw [Bool.eq_iff_iff, beq_iff_eq, decide_eq_true_iff]
    omega
  · rw [decide_eq_false h, if_neg (by simp)]
    simp [isMem, h]

theorem implMember_eq (a : Int) (k : Nat) (hk : 21 < k) : impl_IsMember.f k a = some (isMem a) := by
  unfold impl_IsMember.f impl_isUnit.f
  simp only [within_eq, Option.bind_some]
  by_cases h : 1 ≤ a ∧ a ≤ 2998
  · obtain ⟨n, rfl⟩ := Int.eq_ofNat_of_zero_le (show 0 ≤ a by omega)
    have h2 := implPower_eq n 1499 (by omega) (by omega) k hk
    rw [decide_eq_true h, if_pos rfl, show ((1499 : Int)) = ((1499 : Nat) : Int) from rfl, h2]
    simp only [Option.bind_some, isMem, decide_eq_true h, Bool.true_and, Int.toNat_natCast]
    congr 1
    rw [Bool.eq_iff_iff, beq_iff_eq, decide_eq_true_iff]
    omega
  · rw [decide_eq_false h, if_neg (by simp)]
    simp [isMem, h]

theorem mem_range {a : Int} (h : isMem a = true) : 1 ≤ a ∧ a ≤ 2998 := by
  unfold isMem at h
  rw [Bool.and_eq_true, decide_eq_true_iff, decide_eq_true_iff] at h
  exact h.1

theorem isMem_mem {a : Int} (h : isMem a = true) : ∃ n : Nat, a = (n : Int) ∧ Mem n := by
  unfold isMem at h
  rw [Bool.and_eq_true, decide_eq_true_iff, decide_eq_true_iff] at h
  obtain ⟨n, rfl⟩ := Int.eq_ofNat_of_zero_le (show 0 ≤ a by omega)
  exact ⟨n, rfl, by omega, h.2⟩
theorem mem_isMem {n : Nat} (h : Mem n) : isMem (n : Int) = true := by
  have h1 := h.pos
  have h2 := h.lt
  unfold isMem
  rw [Bool.and_eq_true, decide_eq_true_iff, decide_eq_true_iff]
  exact ⟨by omega, h.2⟩
def isSea (a b : Int) : Bool := isMem a && isMem b
theorem specSealed_eq (a b : Int) (k : Nat) (hk : 21 < k) : spec_l2Sealed.f k a b = some (isSea a b) := by
  unfold spec_l2Sealed.f isSea
  rw [specMember_eq a k hk, specMember_eq b k hk]
  simp only [Option.bind_some]
  cases isMem a <;> rfl
theorem implSealed_eq (a b : Int) (k : Nat) (hk : 21 < k) : impl_isSealed.f k a b = some (isSea a b) := by
  unfold impl_isSealed.f isSea
  rw [implMember_eq a k hk, implMember_eq b k hk]
  simp only [Option.bind_some]
  cases isMem a <;> rfl
theorem isSea_mem {a b : Int} (h : isSea a b = true) : ∃ n m : Nat, a = (n : Int) ∧ b = (m : Int) ∧ Mem n ∧ Mem m := by
  unfold isSea at h
  rw [Bool.and_eq_true] at h
  obtain ⟨n, h1, h2⟩ := isMem_mem h.1
  obtain ⟨m, h3, h4⟩ := isMem_mem h.2
  exact ⟨n, m, h1, h3, h2, h4⟩
theorem mem_isSea {n m : Nat} (h1 : Mem n) (h2 : Mem m) : isSea (n : Int) (m : Int) = true := by
  unfold isSea
  rw [mem_isMem h1, mem_isMem h2]
  rfl

/-- What is multiplied in turn. -/
def adf (y : Nat × Nat) (x : S28) : Nat × Nat := (y.1 * x.f0.toNat % 2999, y.2 * x.f1.toNat % 2999)
def adV (l : List S28) : Nat × Nat := l.foldl adf (1, 1)
def allSea (l : List S28) : Prop := ∀ x ∈ l, isSea x.f0 x.f1 = true
def Mem2 (y : Nat × Nat) : Prop := Mem y.1 ∧ Mem y.2
theorem adf_mem (l : List S28) (hs : allSea l) (y : Nat × Nat) (hy : Mem2 y) (x : S28) (h : x ∈ l) : Mem2 (adf y x) := by
  obtain ⟨n, m, h1, h2, h3, h4⟩ := isSea_mem (hs x h)
  unfold adf
  rw [h1, h2, Int.toNat_natCast, Int.toNat_natCast]
  exact ⟨hy.1.mul h3, hy.2.mul h4⟩
theorem adV_mem (l : List S28) (hs : allSea l) : Mem2 (adV l) := foldl_all adf (1, 1) l Mem2 ⟨Mem.one, Mem.one⟩ (adf_mem l hs)
instance (l : List S28) : Decidable (allSea l) := inferInstanceAs (Decidable (∀ x ∈ l, isSea x.f0 x.f1 = true))
def addV (l : List S28) : Int × Int × Bool := if allSea l ∧ l.length ≤ 12 then ((((adV l).1 : Nat) : Int), (((adV l).2 : Nat) : Int), true) else (0, 0, false)

theorem rd28 (l : List S28) (i : Nat) (h : i < l.length) : rd_T28 l (i : Int) = l[i] := by
  unfold rd_T28
  rw [Int.toNat_natCast]
  exact getD_in l _ i h

theorem specAdd_l0 (l : List S28) (hl : l.length ≤ 1048576) : ∀ (d k i : Nat), l.length - i = d → d + 22 < k → i ≤ l.length → allSea (l.take i) →
    spec_AddVotes.l0 k l l (l.length : Int) (i : Int) (((fv adf (1, 1) l i).1 : Nat) : Int) (((fv adf (1, 1) l i).2 : Nat) : Int) = some (addV l) := by
  intro d
  induction d with
  | zero =>
    intro k i hd hk hi ht
    obtain ⟨k, rfl⟩ := rounds hk
    have e : i = l.length := by omega
    subst e
    rw [List.take_length] at ht
    simp only [spec_AddVotes.l0]
    rw [if_neg (by omega), fv_end]
    unfold addV
    by_cases h : l.length ≤ 12
    · rw [if_neg (by omega), if_pos ⟨ht, h⟩]
      rfl
    · rw [if_pos (by omega), if_neg (fun e => h e.2)]
  | succ d ih =>
    intro k i hd hk hi ht
    obtain ⟨k, rfl⟩ := rounds hk
    have hlt : i < l.length := by omega
    simp only [spec_AddVotes.l0]
    rw [if_pos (by omega), if_pos (by omega), if_pos (by omega), rd28 l i hlt, w64 (n := (i : Int) + 1) (by omega) (by omega), specSealed_eq _ _ k (by omega)]
    simp only [Option.bind_some]
    by_cases e : isSea l[i].f0 l[i].f1 = true
    · have hm : Mem2 (fv adf (1, 1) l i) := by
        unfold fv
        exact foldl_all adf (1, 1) _ Mem2 ⟨Mem.one, Mem.one⟩ (adf_mem _ ht)
      obtain ⟨n, m, h1, h2, h3, h4⟩ := isSea_mem e
      have h5 := ih k (i + 1) (by omega) (by omega) (by omega) (fun x hx => by
        rw [List.take_succ_eq_append_getElem hlt, List.mem_append, List.mem_singleton] at hx
        rcases hx with hx | rfl
        · exact ht x hx
        · exact e)
      rw [fv_succ _ _ _ _ hlt] at h5
      unfold adf at h5
      rw [h1, h2, Int.toNat_natCast, Int.toNat_natCast] at h5
      rw [if_pos e, h1, h2, mulm _ _ hm.1.lt h3.lt, mulm _ _ hm.2.lt h4.lt]
      exact h5
    · rw [if_neg e]
      congr 1
      unfold addV
      rw [if_neg (fun h => e (h.1 _ (List.getElem_mem hlt)))]
theorem specAddVotes_eq (l : List S28) (hl : l.length ≤ 1048576) (k : Nat) (hk : l.length + 22 < k) : spec_AddVotes.f k l = some (addV l) := by
  have h := specAdd_l0 l hl l.length k 0 (by omega) hk (by omega) (fun x hx => by simp at hx)
  rw [fv_zero] at h
  exact h
theorem addV_mem (l : List S28) (hs : allSea l) (h : l.length ≤ 12) : addV l = ((((adV l).1 : Nat) : Int), (((adV l).2 : Nat) : Int), true) := if_pos ⟨hs, h⟩

theorem indexSea (l : List S28) (hl : l.length ≤ 1048576) : ∀ (d k i : Nat), l.length - i = d → d + 22 < k → i ≤ l.length →
    ∃ t, impl_Sealed_146.l0 k l (l.length : Int) (i : Int) = some t ∧ (t ≥ 0 ↔ ¬ allSea (l.drop i)) := by
  intro d
  induction d with
  | zero =>
    intro k i hd hk hi
    obtain ⟨k, rfl⟩ := rounds hk
    refine ⟨-1, ?_, ?_⟩
    · simp only [impl_Sealed_146.l0]
      rw [if_neg (by omega)]
    · rw [List.drop_of_length_le (by omega)]
      simp [allSea]
  | succ d ih =>
    intro k i hd hk hi
    obtain ⟨k, rfl⟩ := rounds hk
    have hlt : i < l.length := by omega
    obtain ⟨t, h1, h2⟩ := ih k (i + 1) (by omega) (by omega) (by omega)
    simp only [impl_Sealed_146.l0, impl_AddVotes_1.f]
    rw [if_pos (by omega), if_pos (by omega), if_pos (by omega), rd28 l i hlt, w64 (by omega) (by omega), implSealed_eq _ _ k (by omega), List.drop_eq_getElem_cons hlt]
    unfold allSea at h2 ⊢
    simp only [Option.bind_some, List.mem_cons, forall_eq_or_imp]
    cases e : isSea l[i].f0 l[i].f1
    · exact ⟨(i : Int), by simp, by simp⟩
    · exact ⟨t, by simpa using h1, by simpa using h2⟩
theorem containsSea (l : List S28) (hl : l.length ≤ 1048576) (k : Nat) (hk : l.length + 22 < k) : impl_Sealed_92.f k l = some (!decide (allSea l)) := by
  obtain ⟨t, h1, h2⟩ := indexSea l hl l.length k 0 (by omega) hk (by omega)
  unfold impl_Sealed_92.f impl_Sealed_146.f
  have h3 : impl_Sealed_146.l0 k l (l.length : Int) 0 = some t := h1
  rw [h3]
  simp only [Option.bind_some]
  rw [List.drop_zero] at h2
  congr 1
  by_cases e : allSea l
  · rw [decide_eq_true e, decide_eq_false (fun h => (h2.1 h) e)]
    rfl
  · rw [decide_eq_false e, decide_eq_true (h2.2 e)]
    rfl
theorem implAdd_l0 (l : List S28) (hl : l.length ≤ 12) (hs : allSea l) (k : Nat) (hk : l.length < k) :
    impl_AddVotes.l0 k l (l.length : Int) 0 1 1 = some ((((adV l).1 : Nat) : Int), (((adV l).2 : Nat) : Int), true) := by
  have hm := fun i => fv_all adf (1, 1) l Mem2 ⟨Mem.one, Mem.one⟩ (adf_mem l hs) i
  have h := loop_up (fun k (x : Int × Int × Int) => impl_AddVotes.l0 k l (l.length : Int) x.1 x.2.1 x.2.2) l.length 0
    (fun i => ((i : Int), (((fv adf (1, 1) l i).1 : Nat) : Int), (((fv adf (1, 1) l i).2 : Nat) : Int))) ((((adV l).1 : Nat) : Int), (((adV l).2 : Nat) : Int), true) (fun i k hi _ => by
    obtain ⟨n, m, h1, h2, h3, h4⟩ := isSea_mem (hs l[i] (List.getElem_mem hi))
    have hmi := hm i
    simp only [impl_AddVotes.l0, impl_multiplied.f]
    rw [if_pos (by omega), if_pos (by omega), if_pos (by omega), rd28 l i hi, w64 (n := (i : Int) + 1) (by omega) (by omega), fv_succ _ _ _ _ hi]
    unfold adf at hmi ⊢
    rw [h1, h2, Int.toNat_natCast, Int.toNat_natCast, mulm _ _ hmi.1.lt h3.lt, mulm _ _ hmi.2.lt h4.lt]
    rfl) (fun k _ => by
    simp only [impl_AddVotes.l0]
    rw [if_neg (by omega), fv_end]
    rfl) k hk
  rw [fv_zero] at h
  exact h
theorem implAddVotes_eq (l : List S28) (hl : l.length ≤ 1048576) (k : Nat) (hk : l.length + 22 < k) : impl_AddVotes.f k l = some (addV l) := by
  obtain ⟨k, rfl⟩ := rounds hk
  unfold impl_AddVotes.f addV
  by_cases h : l.length ≤ 12
  · rw [if_neg (by omega), containsSea l hl _ (by omega)]
    simp only [Option.bind_some, impl_AddVotes.j0]
    by_cases hs : allSea l
    · rw [decide_eq_true hs, if_neg (by simp), if_pos ⟨hs, h⟩]
      exact implAdd_l0 l h hs k (by omega)
    · rw [decide_eq_false hs, if_pos (by simp), if_neg (fun e => hs e.1)]
  · rw [if_pos (by omega), if_neg (fun e => h e.2)]
    simp only [impl_AddVotes.j0, if_true]

def toSe (x : S24) : S28 := ⟨x.f0, x.f1⟩
def toSes (l : List S24) : List S28 := l.map toSe
theorem toSes_length (l : List S24) : (toSes l).length = l.length := by simp [toSes]
theorem toSes_get (l : List S24) (i : Nat) (d : S28) (h : i < l.length) : (toSes l).getD i d = toSe l[i] := by
  rw [getD_in _ d i (by rw [toSes_length]; exact h)]
  simp [toSes]
theorem toSealedS_eq (l : List S24) (hl : l.length ≤ 1048576) : ∀ k, l.length < k → laws_toSealedS.f k l = some (toSes l) := by
  intro k hk
  have hz : (List.replicate l.length z28).length = l.length := by simp
  have h := loop_up (fun k (x : List S28 × Int) => laws_toSealedS.l0 k l x.1 x.2) l.length 0 (fun i => (mixed (toSes l) (List.replicate l.length z28) i, (i : Int))) (toSes l) (fun i k hi _ => by
    have e : (toSes l).length = (List.replicate l.length z28).length := by rw [toSes_length, hz]
    have e2 := mixed_length (toSes l) (List.replicate l.length z28) i e
    have e3 := mixed_set (toSes l) (List.replicate l.length z28) i (toSe l[i]) e (by omega) (toSes_get l i _ hi)
    simp only [laws_toSealedS.l0, laws_toSealed.f, rd_T24, Option.bind_some, Int.toNat_natCast]
    rw [if_pos (by omega), if_pos (by omega), if_pos (by rw [e2, hz]; omega), w64 (by omega) (by omega), getD_in l z24 i hi]
    unfold toSe at e3
    rw [e3]
    rfl) (fun k _ => by
    simp only [laws_toSealedS.l0]
    rw [if_neg (by omega), mixed_end _ _ _ (by rw [toSes_length]; omega) (by rw [hz]; omega)]) k hk
  rw [mixed_zero] at h
  unfold laws_toSealedS.f
  rw [if_pos (by omega), if_pos (by omega)]
  exact h
theorem eqSealed_self (a b : Int) : laws_eqSealed.f a b a b = some true := by
  unfold laws_eqSealed.f
  rw [if_pos rfl, if_pos rfl]
theorem eqSealedS_self (l : List S28) (hl : l.length ≤ 1048576) (k : Nat) (hk : l.length < k) : laws_eqSealedS.f k l l = some true := by
  unfold laws_eqSealedS.f
  rw [if_pos rfl]
  have h := loop_up (fun k (x : Int) => laws_eqSealedS.l0 k l l x) l.length 0 (fun i => (i : Int)) true (fun i k hi _ => by
    simp only [laws_eqSealedS.l0]
    rw [if_pos (by omega), if_pos (by omega), if_pos (by omega), eqSealed_self, w64 (by omega) (by omega)]
    rfl) (fun k _ => by
    simp only [laws_eqSealedS.l0]
    rw [if_neg (by omega)]) k hk
  exact h

theorem FnExactAddVotes : laws_FnExactAddVotes.Pure := by
  intro l hwf
  by_cases hl : l.length ≤ 1048576
  · have hl2 : (toSes l).length ≤ 1048576 := by rw [toSes_length]; exact hl
    have hl3 := toSes_length l
    refine ⟨l.length + 40, ?_⟩
    unfold laws_FnExactAddVotes.f laws_szSealedS.f
    rw [w64 (by omega) (by omega), if_neg (by omega)]
    simp only [Option.bind_some]
    rw [if_neg (by omega), toSealedS_eq l hl _ (by omega)]
    simp only [Option.bind_some]
    rw [specAddVotes_eq _ hl2 _ (by omega), implAddVotes_eq _ hl2 _ (by omega)]
    simp only [Option.bind_some, eqSealed_self, if_true, bne_self_eq_false, laws_FnExactAddVotes.j0, Bool.false_eq_true, if_false]
    rw [toSealedS_eq l hl _ (by omega)]
    simp only [Option.bind_some]
    rw [eqSealedS_self _ hl2 _ (by omega)]
    rfl
  · refine ⟨0, ?_⟩
    unfold laws_FnExactAddVotes.f laws_szSealedS.f
    by_cases h : (wrap64 (1048576 - (l.length : Int))) < 0
    · rw [if_pos h]
      rfl
    · exfalso
      have hmx : maxLen = 9223372036854775807 := rfl
      have h2 : l.length ≤ maxLen := hwf.1
      rw [w64 (by omega) (by omega)] at h
      omega

end Go.Proofs.Ytaiejbcpahcfmaa.Pure
