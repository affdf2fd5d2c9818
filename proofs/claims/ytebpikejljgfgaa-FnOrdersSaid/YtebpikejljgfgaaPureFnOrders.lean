/- Proved: orders come back from their numbers, and what is shuffled has all that was there, for all bytes that orders are drawn from. Conditions: those of the given statement alone. -/
import Derived.Test.YtebpikejljgfgaaPFnOrdersx7
import Derived.Test.YtebpikejljgfgaaBase
set_option linter.unusedVariables false
set_option linter.unusedSimpArgs false
namespace Go.Proofs.Ytebpikejljgfgaa.Pure
open Go.RowKit Go.Proofs.Ytebpikejljgfgaa.PFnOrders Go.Proofs.Ytebpikejljgfgaa.Base Go.Proofs.YtebpikejljgfgaaW.PrintWords Go.Proofs.YtebpikejljgfgaaW.PrintLast Go.Proofs.YtebpikejljgfgaaW.PrintMore Go.Proofs.Ytebpikejljgfgaa

/-- 1 times 2 times .. n. -/
def fac : Nat → Nat
  | 0 => 1
  | n + 1 => (n + 1) * fac n
theorem fac_pos : ∀ n, 1 ≤ fac n
  | 0 => Nat.le_refl _
  | n + 1 => Nat.mul_pos (by omega) (fac_pos n)
theorem fac_le : ∀ n, n ≤ 12 → fac n ≤ 479001600 := by
  have h : ∀ n, n < 13 → fac n ≤ 479001600 := by decide
  exact fun n hn => h n (by omega)
theorem specOrders_l0 (m : Nat) (hm : m ≤ 12) : ∀ (d i k : Nat), m - i = d → i ≤ m → 1 ≤ i → d + 1 < k → spec_l4Orders.l0 k (m : Int) ((fac i : Nat) : Int) (((i + 1 : Nat)) : Int) = some ((fac m : Nat) : Int) := by
  intro d
  induction d with
  | zero =>
    intro i k hd hi h1 hk
    obtain ⟨k, rfl⟩ := rounds hk
    have e : i = m := by omega
    subst e
    simp only [spec_l4Orders.l0]
    rw [if_neg (by omega)]
  | succ d ih =>
    intro i k hd hi h1 hk
    obtain ⟨k, rfl⟩ := rounds hk
    have hf := fac_le (i + 1) (by omega)
    have e : ((fac i : Nat) : Int) * ((i + 1 : Nat) : Int) = ((fac (i + 1) : Nat) : Int) := by
      show _ = (((i + 1) * fac i : Nat) : Int)
      rw [← Int.natCast_mul, Nat.mul_comm]
    simp only [spec_l4Orders.l0]
    rw [if_pos (by omega), e, wnat _ (by omega), w64 (n := ((i + 1 : Nat) : Int) + 1) (by omega) (by omega)]
    exact ih (i + 1) k (by omega) (by omega) (by omega) (by omega)
theorem specOrders_eq (m : Int) (hm : m ≤ 12) (k : Nat) (hk : 14 < k) : spec_l4Orders.f k m = some ((fac m.toNat : Nat) : Int) := by
  simp only [spec_l4Orders.f]
  by_cases h : 1 ≤ m
  · obtain ⟨m, rfl⟩ := Int.eq_ofNat_of_zero_le (show 0 ≤ m by omega)
    rw [Int.toNat_natCast]
    exact specOrders_l0 m (by omega) (m - 1) 1 k rfl (by omega) (by omega) (by omega)
  · obtain ⟨k, rfl⟩ := rounds hk
    simp only [spec_l4Orders.l0]
    rw [if_neg (by omega), show m.toNat = 0 by omega]
    rfl

theorem l1In_eq (a b c : Int) : spec_l1In.f a b c = some (decide (b ≤ a ∧ a ≤ c)) := by
  unfold spec_l1In.f
  by_cases h : a ≥ b
  · rw [if_pos h]
    congr 1
    exact decide_eq_decide.2 ⟨fun h1 => ⟨h, h1⟩, fun h1 => h1.2⟩
  · rw [if_neg h, decide_eq_false (fun h1 => h h1.1)]

/-- An order by its number: of those left the one that the number says, and on. -/
def lehm : Nat → List Int → Nat → List Int
  | 0, _, _ => []
  | d + 1, left, n => left.getD (n / fac d) 0 :: lehm d (left.eraseIdx (n / fac d)) (n % fac d)
theorem lehm_length : ∀ (d : Nat) (left : List Int) (n : Nat), (lehm d left n).length = d
  | 0, _, _ => rfl
  | d + 1, left, n => by simp only [lehm, List.length_cons, lehm_length d]
theorem lehm_lt (d n : Nat) (h : n < fac (d + 1)) : n / fac d < d + 1 := by
  rw [Nat.div_lt_iff_lt_mul (fac_pos d)]
  exact h
theorem atOrder_l1 : ∀ (d : Nat) (left out : List Int) (n : Nat), left.length = d → d ≤ 9 → n < fac d → out.length + d ≤ 100 →
    Tot (fun k => spec_OrderAt.l1 k (n : Int) left out) (fun y => y = (out ++ lehm d left n, true)) := by
  intro d
  induction d with
  | zero =>
    intro left out n hl hd hn ho
    refine Tot.up ?_
    simp only [spec_OrderAt.l1]
    exact Tot.neg (by omega) (Tot.some_ (by simp [lehm]))
  | succ d ih =>
    intro left out n hl hd hn ho
    have hf1 := fac_pos d
    have hf2 := fac_le d (by omega)
    have hf3 := fac_le (d + 1) (by omega)
    have hq := lehm_lt d n hn
    have hr : n % fac d < fac d := Nat.mod_lt _ (by omega)
    refine Tot.up ?_
    simp only [spec_OrderAt.l1]
    refine Tot.pos (by omega) ?_
    rw [w64 (n := (left.length : Int) - 1) (by omega) (by omega)]
    refine Tot.bind (Q := fun y => y = ((fac d : Nat) : Int)) (Tot.at_ 15 rfl (fun k hk => by rw [specOrders_eq _ (by omega) k (by omega), show ((left.length : Int) - 1).toNat = d by omega])) (fun y e => ?_)
    rw [e, tdiv_nat, tmod_nat]
    generalize hqq : n / fac d = q at *
    generalize hrr : n % fac d = r at *
    rw [wnat q (by omega), w64 (n := (q : Int) + 1) (by omega) (by omega), show (q : Int) + 1 = ((q + 1 : Nat) : Int) by omega, Int.toNat_natCast, Int.toNat_natCast]
    refine Tot.neg (by omega) (Tot.pos (by omega) (Tot.pos (by omega) (Tot.pos (by omega) (Tot.bind (Tot.some_ rfl) (fun y1 e1 => Tot.pos (by omega) (Tot.bind (Tot.some_ rfl) (fun y2 e2 => ?_)))))))
    subst e1 e2
    refine Tot.pos (by rw [List.length_take]; simp; omega) (Tot.bind (Tot.some_ rfl) (fun y3 e3 => Tot.pos (by omega) (Tot.pos (by omega) (Tot.bind (Tot.some_ rfl) (fun y4 e4 => ?_)))))
    subst e3 e4
    refine Tot.pos (by rw [List.length_append, List.length_take, List.length_drop]; simp; omega) ?_
    have h := ih (left.eraseIdx q) (out ++ [rd left (q : Int)]) r (by rw [List.length_eraseIdx_of_lt (by omega)]; omega) (by omega) hr (by rw [List.length_append, List.length_singleton]; omega)
    rw [List.eraseIdx_eq_take_drop_succ] at h
    rw [List.nil_append]
    refine h.imp (fun y hy => ?_)
    rw [hy]
    simp only [lehm, hqq, hrr, List.eraseIdx_eq_take_drop_succ, List.append_assoc, List.singleton_append]
    rfl
theorem firsts_snoc2 (m : Nat) : firsts (m + 1) = firsts m ++ [(m : Int)] := by
  unfold firsts
  rw [List.range_succ, List.map_append, List.map_singleton]
def atV (m n : Int) : List Int × Bool := if (0 ≤ m ∧ m ≤ 9) ∧ (0 ≤ n ∧ n ≤ (fac m.toNat : Int) - 1) then (lehm m.toNat (firsts m.toNat) n.toNat, true) else ([], false)
theorem atOrder_l0 (m : Nat) (hm : m ≤ 9) (n : Nat) (hn : n < fac m) : ∀ (d i : Nat), m - i = d → i ≤ m →
    Tot (fun k => spec_OrderAt.l0 k (m : Int) (n : Int) (firsts i) (i : Int)) (fun y => y = (lehm m (firsts m) n, true)) := by
  intro d
  induction d with
  | zero =>
    intro i hd hi
    have e : i = m := by omega
    subst e
    refine Tot.up ?_
    simp only [spec_OrderAt.l0]
    exact Tot.neg (by omega) (atOrder_l1 i (firsts i) [] n (firsts_length i) hm hn (by simp; omega))
  | succ d ih =>
    intro i hd hi
    refine Tot.up ?_
    simp only [spec_OrderAt.l0]
    refine Tot.pos (by omega) (Tot.pos (by rw [firsts_length]; omega) ?_)
    rw [← firsts_snoc2, w64 (n := (i : Int) + 1) (by omega) (by omega)]
    exact ih (i + 1) (by omega) (by omega)
theorem specOrderAt_tot (m n : Int) : Tot (fun k => spec_OrderAt.f k m n) (fun y => y = atV m n) := by
  have bad : (¬ ((0 ≤ m ∧ m ≤ 9) ∧ (0 ≤ n ∧ n ≤ (fac m.toNat : Int) - 1))) → Tot (fun k => spec_OrderAt.j0 k m n true) (fun y => y = atV m n) := fun h => by
    refine Tot.up ?_
    simp only [spec_OrderAt.j0]
    exact Tot.pos trivial (Tot.some_ (by unfold atV; rw [if_neg h]))
  simp only [spec_OrderAt.f, l1In_eq, Option.bind_some]
  refine Tot.ite (fun h => ?_) (fun h => bad (fun h2 => h (decide_eq_true h2.1)))
  have h := of_decide_eq_true h
  have hf := fac_le m.toNat (by omega)
  have hf1 := fac_pos m.toNat
  refine Tot.bind (Q := fun y => y = ((fac m.toNat : Nat) : Int)) (Tot.at_ 15 rfl (fun k hk => specOrders_eq _ (by omega) k (by omega))) (fun y e => ?_)
  rw [e, w64 (n := ((fac m.toNat : Nat) : Int) - 1) (by omega) (by omega)]
  by_cases h2 : 0 ≤ n ∧ n ≤ (fac m.toNat : Int) - 1
  · rw [decide_eq_true h2]
    refine Tot.up ?_
    simp only [spec_OrderAt.j0]
    refine Tot.neg (by simp) ?_
    have h3 := atOrder_l0 m.toNat (by omega) n.toNat (by omega) m.toNat 0 (by omega) (by omega)
    rw [show ((m.toNat : Nat) : Int) = m by omega, show ((n.toNat : Nat) : Int) = n by omega] at h3
    unfold atV
    rw [if_pos ⟨h, h2⟩]
    exact h3
  · rw [decide_eq_false h2]
    exact bad (fun h3 => h2 h3.2)
theorem atV_length (m n : Int) : (atV m n).1.length ≤ 9 := by
  unfold atV
  split
  · rename_i h
    rw [lehm_length]
    omega
  · simp

theorem index_l0 (l : List Int) (hl : l.length ≤ 1048576) (v : Int) : ∀ (d k i : Nat), l.length - i = d → d < k → i ≤ l.length → ∃ r, slices_Index_int_int.l0 k l v (l.length : Int) (i : Int) = some r ∧ (r ≥ 0 ↔ v ∈ l.drop i) := by
  intro d
  induction d with
  | zero =>
    intro k i hd hk hi
    obtain ⟨k, rfl⟩ := rounds hk
    refine ⟨-1, ?_, ?_⟩
    · simp only [slices_Index_int_int.l0]
      rw [if_neg (by omega)]
    · rw [List.drop_of_length_le (by omega)]
      simp
  | succ d ih =>
    intro k i hd hk hi
    obtain ⟨k, rfl⟩ := rounds hk
    simp only [slices_Index_int_int.l0]
    rw [if_pos (by omega), if_pos (by omega), if_pos (by omega), rd_in l i (by omega), w64 (by omega) (by omega)]
    have hdrop := List.drop_eq_getElem_cons (show i < l.length by omega)
    by_cases e : v = l[i]
    · exact ⟨i, by rw [if_pos e], by rw [hdrop, ← e]; simp⟩
    · obtain ⟨r, hr, h⟩ := ih k (i + 1) (by omega) (by omega) (by omega)
      refine ⟨r, by rw [if_neg e]; exact hr, ?_⟩
      rw [h, hdrop, List.mem_cons]
      exact ⟨fun h => .inr h, fun h => h.resolve_left e⟩

theorem contains_eq (l : List Int) (hl : l.length ≤ 1048576) (v : Int) (k : Nat) (hk : l.length < k) : slices_Contains_int_int.f k l v = some (decide (v ∈ l)) := by
  obtain ⟨r, hr, h⟩ := index_l0 l hl v l.length k 0 (by omega) hk (by omega)
  unfold slices_Contains_int_int.f slices_Index_int_int.f
  have hr' : slices_Index_int_int.l0 k l v (l.length : Int) 0 = some r := hr
  rw [hr']
  simp only [Option.bind_some]
  rw [List.drop_zero] at h
  congr 1
  exact decide_eq_decide.2 h

theorem l1Has_l0 (l : List Int) (hl : l.length ≤ 1048576) (v : Int) : ∀ (d k i : Nat), l.length - i = d → d < k → i ≤ l.length → spec_l1Has.l0 k v l (l.length : Int) (i : Int) = some (decide (v ∈ l.drop i)) := by
  intro d
  induction d with
  | zero =>
    intro k i hd hk hi
    obtain ⟨k, rfl⟩ := rounds hk
    simp only [spec_l1Has.l0]
    rw [if_neg (by omega), List.drop_of_length_le (by omega)]
    simp
  | succ d ih =>
    intro k i hd hk hi
    obtain ⟨k, rfl⟩ := rounds hk
    simp only [spec_l1Has.l0]
    rw [if_pos (by omega), if_pos (by omega), if_pos (by omega), rd_in l i (by omega), w64 (by omega) (by omega), List.drop_eq_getElem_cons (show i < l.length by omega)]
    by_cases e : l[i] = v
    · rw [if_pos e]
      simp [e]
    · have h := ih k (i + 1) (by omega) (by omega) (by omega)
      rw [if_neg e]
      have h' : spec_l1Has.l0 k v l (l.length : Int) ((i : Int) + 1) = some (decide (v ∈ l.drop (i + 1))) := h
      rw [h']
      congr 1
      refine decide_eq_decide.2 ?_
      rw [List.mem_cons]
      exact ⟨fun h => .inr h, fun h => h.resolve_left (fun h => e h.symm)⟩

theorem l1Has_eq (l : List Int) (hl : l.length ≤ 1048576) (v : Int) (k : Nat) (hk : l.length < k) : spec_l1Has.f k l v = some (decide (v ∈ l)) := by
  have h := l1Has_l0 l hl v l.length k 0 (by omega) hk (by omega)
  rw [List.drop_zero] at h
  exact h

theorem implIsOrder_l0 (l : List Int) (hl : l.length ≤ 1048576) : ∀ (d k i : Nat), l.length - i = d → d + l.length < k → i ≤ l.length → ∃ b, impl_IsOrder.l0 k l (l.length : Int) (i : Int) = some b ∧ (b = true ↔ l.length ≤ 9 ∧ ∀ v : Int, (i : Int) ≤ v → v < l.length → v ∈ l) := by
  intro d
  induction d with
  | zero =>
    intro k i hd hk hi
    obtain ⟨k, rfl⟩ := rounds hk
    refine ⟨decide ((l.length : Int) ≤ 9), ?_, ?_⟩
    · simp only [impl_IsOrder.l0]
      rw [if_neg (by omega)]
    · rw [decide_eq_true_iff]
      exact ⟨fun h => ⟨by omega, fun v _ _ => by omega⟩, fun h => by omega⟩
  | succ d ih =>
    intro k i hd hk hi
    obtain ⟨k, rfl⟩ := rounds hk
    simp only [impl_IsOrder.l0]
    rw [if_pos (by omega), w64 (by omega) (by omega)]
    obtain ⟨b, hb, h⟩ := ih k (i + 1) (by omega) (by omega) (by omega)
    have hb' : impl_IsOrder.l0 k l (l.length : Int) ((i : Int) + 1) = some b := hb
    rw [hb', contains_eq l hl _ k (by omega)]
    by_cases h9 : (i : Int) < 9
    · rw [if_pos h9]
      simp only [Option.bind_some]
      by_cases hm : (i : Int) ∈ l
      · refine ⟨b, by rw [decide_eq_true hm, if_pos rfl], ?_⟩
        rw [h]
        refine ⟨fun ⟨h1, h2⟩ => ⟨h1, fun v h3 h4 => ?_⟩, fun ⟨h1, h2⟩ => ⟨h1, fun v h3 h4 => h2 v (by omega) h4⟩⟩
        by_cases e : v = (i : Int)
        · rw [e]; exact hm
        · exact h2 v (by omega) h4
      · refine ⟨false, by rw [decide_eq_false hm, if_neg (by simp)], ?_⟩
        refine ⟨(fun hf => by cases hf), fun ⟨h1, h2⟩ => absurd (h2 i (by omega) (by omega)) hm⟩
    · refine ⟨b, by rw [if_neg h9], ?_⟩
      rw [h]
      exact ⟨fun ⟨h1, h2⟩ => by omega, fun ⟨h1, h2⟩ => by omega⟩

theorem implIsOrder_eq (l : List Int) (hl : l.length ≤ 1048576) (k : Nat) (hk : l.length + l.length < k) : ∃ b, impl_IsOrder.f k l = some b ∧ (b = true ↔ l.length ≤ 9 ∧ Ord l) := by
  obtain ⟨b, hb, h⟩ := implIsOrder_l0 l hl l.length k 0 (by omega) hk (by omega)
  refine ⟨b, hb, ?_⟩
  rw [h]
  refine and_congr_right fun _ => ⟨fun h => ord_of_has (fun v h0 h1 => h v (by omega) h1), fun h v h0 h1 => h.has v (by omega) h1⟩

theorem specOrder_l0 (l : List Int) (hl : l.length ≤ 1048576) : ∀ (d k i : Nat), l.length - i = d → d + l.length < k → i ≤ l.length → (l.take i).Nodup → (∀ x ∈ l.take i, 0 ≤ x ∧ x < l.length) →
    ∃ b, spec_l4Order.l0 k l l (l.length : Int) (i : Int) = some b ∧ (b = true ↔ l.length ≤ 9 ∧ Ord l) := by
  intro d
  induction d with
  | zero =>
    intro k i hd hk hi hn hr
    obtain ⟨k, rfl⟩ := rounds hk
    refine ⟨decide ((l.length : Int) ≤ 9), ?_, ?_⟩
    · simp only [spec_l4Order.l0]
      rw [if_neg (by omega)]
    · rw [decide_eq_true_iff]
      rw [List.take_of_length_le (by omega)] at hn hr
      exact ⟨fun h => ⟨by omega, hn, hr⟩, fun h => by omega⟩
  | succ d ih =>
    intro k i hd hk hi hn hr
    obtain ⟨k, rfl⟩ := rounds hk
    have hlt : i < l.length := by omega
    simp only [spec_l4Order.l0]
    rw [if_pos (by omega), if_pos (by omega), if_pos (by omega), w64 (n := (i : Int) + 1) (by omega) (by omega), w64 (n := (l.length : Int) - 1) (by omega) (by omega), rd_in l i hlt, l1In_eq]
    simp only [Option.bind_some]
    have htk : l.take (i + 1) = l.take i ++ [l[i]] := by rw [List.take_succ_eq_append_getElem hlt]
    by_cases h1 : 0 ≤ l[i] ∧ l[i] ≤ (l.length : Int) - 1
    · rw [decide_eq_true h1, if_pos rfl, if_pos (by omega), Int.toNat_natCast, l1Has_eq (l.take i) (by rw [List.length_take]; omega) _ k (by rw [List.length_take]; omega)]
      simp only [Option.bind_some]
      by_cases hm : l[i] ∈ l.take i
      · refine ⟨false, by rw [decide_eq_true hm, if_pos rfl], (fun hf => by cases hf), fun ⟨_, ho⟩ => ?_⟩
        exfalso
        have h2 := List.take_append_drop (i + 1) l
        have h3 : ((l.take i ++ [l[i]]) ++ l.drop (i + 1)).Nodup := by rw [← htk, h2]; exact ho.1
        have h4 := (List.nodup_append.1 (List.nodup_append.1 h3).1).2.2 _ hm l[i] (by simp)
        exact h4 rfl
      · rw [decide_eq_false hm, if_neg (by simp)]
        refine ih k (i + 1) (by omega) (by omega) (by omega) ?_ ?_
        · rw [htk]
          refine List.nodup_append.2 ⟨hn, by simp, fun a ha b hb e => ?_⟩
          rw [List.mem_singleton] at hb
          exact hm (by rw [← hb, ← e]; exact ha)
        · intro x hx
          rw [htk] at hx
          rcases List.mem_append.1 hx with hx | hx
          · exact hr x hx
          · rw [List.mem_singleton.1 hx]
            omega
    · refine ⟨false, by rw [decide_eq_false h1, if_neg (by simp)], (fun hf => by cases hf), fun ⟨_, ho⟩ => ?_⟩
      exact absurd (by have := ho.2 l[i] (List.getElem_mem hlt); omega) h1

theorem specOrder_eq (l : List Int) (hl : l.length ≤ 1048576) (k : Nat) (hk : l.length + l.length < k) : ∃ b, spec_l4Order.f k l = some b ∧ (b = true ↔ l.length ≤ 9 ∧ Ord l) :=
  specOrder_l0 l hl l.length k 0 (by omega) hk (by omega) (by simp) (by simp)

/-- Both say the same of an order, with rounds enough. -/
theorem orders_same (l : List Int) (hl : l.length ≤ 1048576) (k : Nat) (hk : l.length + l.length < k) :
    ∃ b, spec_l4Order.f k l = some b ∧ impl_IsOrder.f k l = some b ∧ (b = true ↔ l.length ≤ 9 ∧ Ord l) := by
  obtain ⟨b, h1, h2⟩ := specOrder_eq l hl k hk
  obtain ⟨c, h3, h4⟩ := implIsOrder_eq l hl k hk
  have e : b = c := by
    rw [Bool.eq_iff_iff, h2, h4]
  exact ⟨b, h1, e ▸ h3, h2⟩

/-- Is it an order? -/
instance (l : List Int) : Decidable (Ord l) := inferInstanceAs (Decidable (l.Nodup ∧ _))
def isOrd (l : List Int) : Bool := decide (l.length ≤ 9 ∧ Ord l)
theorem isOrd_iff {l : List Int} : isOrd l = true ↔ l.length ≤ 9 ∧ Ord l := by
  unfold isOrd
  rw [decide_eq_true_iff]
theorem specOrd_tot (l : List Int) (hl : l.length ≤ 1048576) : Tot (fun k => spec_l4Order.f k l) (fun y => y = isOrd l) := Tot.at_ (l.length + l.length + 1) rfl (fun k hk => by
  obtain ⟨b, h1, h2⟩ := specOrder_eq l hl k (by omega)
  rw [h1, show b = isOrd l by rw [Bool.eq_iff_iff, h2, isOrd_iff]])
theorem implOrd_tot (l : List Int) (hl : l.length ≤ 1048576) : Tot (fun k => impl_IsOrder.f k l) (fun y => y = isOrd l) := Tot.at_ (l.length + l.length + 1) rfl (fun k hk => by
  obtain ⟨b, h1, h2⟩ := implIsOrder_eq l hl k (by omega)
  rw [h1, show b = isOrd l by rw [Bool.eq_iff_iff, h2, isOrd_iff]])

theorem within_eq (a b c : Int) : impl_within.f a b c = some (decide (b ≤ a ∧ a ≤ c)) := by
  unfold impl_within.f
  by_cases h : a ≥ b
  · rw [if_pos h]
    congr 1
    exact decide_eq_decide.2 ⟨fun h1 => ⟨h, h1⟩, fun h1 => h1.2⟩
  · rw [if_neg h, decide_eq_false (fun h1 => h h1.1)]

set_option maxHeartbeats 1000000
theorem orders_twin (n : Int) : ∀ (k : Nat) (x i : Int), spec_l4Orders.l0 k n x i = impl_orders.l0 k n x i
  | 0, _, _ => rfl
  | k + 1, x, i => by
    simp only [spec_l4Orders.l0, impl_orders.l0, orders_twin n k]
theorem orders_eq (k : Nat) (n : Int) : spec_l4Orders.f k n = impl_orders.f k n := orders_twin n k 1 2
theorem implOrders_eq (m : Int) (hm : m ≤ 12) (k : Nat) (hk : 14 < k) : impl_orders.f k m = some ((fac m.toNat : Nat) : Int) := by
  rw [← orders_eq]
  exact specOrders_eq m hm k hk
/-! ### the program's OrderAt tells the same -/
theorem iat_l1 : ∀ (d : Nat) (left out : List Int) (n : Nat), left.length = d → d ≤ 9 → n < fac d → out.length + d ≤ 100 →
    Tot (fun k => impl_OrderAt.l1 k (n : Int) left out) (fun y => y = (out ++ lehm d left n, true)) := by
  intro d
  induction d with
  | zero =>
    intro left out n hl hd hn ho
    refine Tot.up ?_
    simp only [impl_OrderAt.l1]
    exact Tot.neg (by omega) (Tot.some_ (by simp [lehm]))
  | succ d ih =>
    intro left out n hl hd hn ho
    have hf1 := fac_pos d
    have hf2 := fac_le d (by omega)
    have hf3 := fac_le (d + 1) (by omega)
    have hq := lehm_lt d n hn
    have hr : n % fac d < fac d := Nat.mod_lt _ (by omega)
    refine Tot.up ?_
    simp only [impl_OrderAt.l1]
    refine Tot.pos (by omega) ?_
    rw [w64 (n := (left.length : Int) - 1) (by omega) (by omega)]
    refine Tot.bind (Q := fun y => y = ((fac d : Nat) : Int)) (Tot.at_ 15 rfl (fun k hk => by rw [implOrders_eq _ (by omega) k (by omega), show ((left.length : Int) - 1).toNat = d by omega])) (fun y e => ?_)
    rw [e, tdiv_nat, tmod_nat]
    generalize hqq : n / fac d = q at *
    generalize hrr : n % fac d = r at *
    rw [wnat q (by omega), Int.toNat_natCast]
    refine Tot.neg (by omega) (Tot.pos (by omega) (Tot.pos (by omega) (Tot.pos (by omega) (Tot.pos (by omega) ?_))))
    have h := ih (left.eraseIdx q) (out ++ [rd left (q : Int)]) r (by rw [List.length_eraseIdx_of_lt (by omega)]; omega) (by omega) hr (by rw [List.length_append, List.length_singleton]; omega)
    refine h.imp (fun y hy => ?_)
    rw [hy]
    simp only [lehm, hqq, hrr, List.append_assoc, List.singleton_append]
    rfl
theorem iat_l0 (m : Nat) (hm : m ≤ 9) (n : Nat) (hn : n < fac m) : ∀ (d i : Nat), m - i = d → i ≤ m →
    Tot (fun k => impl_OrderAt.l0 k (n : Int) (firsts i) [] (m : Int) (i : Int)) (fun y => y = (lehm m (firsts m) n, true)) := by
  intro d
  induction d with
  | zero =>
    intro i hd hi
    have e : i = m := by omega
    subst e
    refine Tot.up ?_
    simp only [impl_OrderAt.l0]
    exact Tot.neg (by omega) (iat_l1 i (firsts i) [] n (firsts_length i) hm hn (by simp; omega))
  | succ d ih =>
    intro i hd hi
    refine Tot.up ?_
    simp only [impl_OrderAt.l0]
    refine Tot.pos (by omega) (Tot.pos (by rw [firsts_length]; omega) ?_)
    rw [← firsts_snoc2, w64 (n := (i : Int) + 1) (by omega) (by omega)]
    exact ih (i + 1) (by omega) (by omega)
theorem implOrderAt_tot (m n : Int) : Tot (fun k => impl_OrderAt.f k m n) (fun y => y = atV m n) := by
  have bad : (¬ ((0 ≤ m ∧ m ≤ 9) ∧ (0 ≤ n ∧ n ≤ (fac m.toNat : Int) - 1))) → Tot (fun k => impl_OrderAt.j0 k m n true) (fun y => y = atV m n) := fun h => by
    refine Tot.up ?_
    simp only [impl_OrderAt.j0]
    exact Tot.pos trivial (Tot.some_ (by unfold atV; rw [if_neg h]))
  simp only [impl_OrderAt.f, within_eq, Option.bind_some]
  refine Tot.ite (fun h => ?_) (fun h => bad (fun h2 => h (decide_eq_true h2.1)))
  have h := of_decide_eq_true h
  have hf := fac_le m.toNat (by omega)
  have hf1 := fac_pos m.toNat
  refine Tot.bind (Q := fun y => y = ((fac m.toNat : Nat) : Int)) (Tot.at_ 15 rfl (fun k hk => implOrders_eq _ (by omega) k (by omega))) (fun y e => ?_)
  rw [e, w64 (n := ((fac m.toNat : Nat) : Int) - 1) (by omega) (by omega)]
  by_cases h2 : 0 ≤ n ∧ n ≤ (fac m.toNat : Int) - 1
  · rw [decide_eq_true h2]
    refine Tot.up ?_
    simp only [impl_OrderAt.j0]
    refine Tot.neg (by simp) ?_
    have h3 := iat_l0 m.toNat (by omega) n.toNat (by omega) m.toNat 0 (by omega) (by omega)
    rw [show ((m.toNat : Nat) : Int) = m by omega, show ((n.toNat : Nat) : Int) = n by omega] at h3
    unfold atV
    rw [if_pos ⟨h, h2⟩]
    exact h3
  · rw [decide_eq_false h2]
    exact bad (fun h3 => h2 h3.2)
/-! ### numbers of orders -/
/-- The number of a row: how many behind each are less, and on. -/
def numV : List Int → Nat
  | [] => 0
  | x :: l => l.countP (fun y => decide (y < x)) * fac l.length + numV l
theorem countP_le (x : Int) (l : List Int) : l.countP (fun y => decide (y < x)) ≤ l.length := List.countP_le_length
theorem numV_lt : ∀ l : List Int, numV l < fac l.length
  | [] => by decide
  | x :: l => by
    have h1 := numV_lt l
    have h2 := countP_le x l
    simp only [numV, List.length_cons, fac]
    have h3 : l.countP (fun y => decide (y < x)) * fac l.length ≤ l.length * fac l.length := Nat.mul_le_mul_right _ h2
    rw [Nat.add_mul, Nat.one_mul]
    omega
theorem num_l1 (l : List Int) (h9 : l.length ≤ 9) (acc : Nat) (i : Nat) (hi : i < l.length) (Q : Int × Bool → Prop) (cs : List Int) (hcs : cs = l.drop (i + 1)) (hacc : acc ≤ 479001600)
    (hQ : Tot (fun k => impl_NumberOf.l0 k l (((acc + cs.countP (fun y => decide (y < l[i])) * fac cs.length : Nat)) : Int) l (l.length : Int) ((i + 1 : Nat) : Int)) Q) :
    ∀ (d j : Nat), cs.length - j = d → j ≤ cs.length → Tot (fun k => impl_NumberOf.l1 k l (acc : Int) (i : Int) l[i] (((cs.take j).countP (fun y => decide (y < l[i])) : Nat) : Int) l (l.length : Int) (i : Int) cs (cs.length : Int) (j : Int)) Q := by
  have hcl : cs.length = l.length - 1 - i := by rw [hcs, List.length_drop]; omega
  intro d
  induction d with
  | zero =>
    intro j hd hj
    have hc := countP_le l[i] cs
    have hf := fac_le cs.length (by omega)
    have hf8 : fac cs.length ≤ 40320 := by
      have key : ∀ n, n < 9 → fac n ≤ 40320 := by decide
      exact key _ (by omega)
    have hm : cs.countP (fun y => decide (y < l[i])) * fac cs.length ≤ 9 * 40320 := Nat.mul_le_mul (by omega) hf8
    refine Tot.up ?_
    simp only [impl_NumberOf.l1]
    refine Tot.neg (by omega) ?_
    rw [List.take_of_length_le (by omega), w64 (n := (l.length : Int) - 1) (by omega) (by omega), w64 (n := (l.length : Int) - 1 - (i : Int)) (by omega) (by omega)]
    refine Tot.bind (Q := fun y => y = ((fac cs.length : Nat) : Int)) (Tot.at_ 15 rfl (fun k hk => by rw [implOrders_eq _ (by omega) k (by omega), show ((l.length : Int) - 1 - (i : Int)).toNat = cs.length by omega])) (fun y e => ?_)
    rw [e, ← Int.natCast_mul, wnat _ (by omega), ← Int.natCast_add, wnat _ (by omega), w64 (n := (i : Int) + 1) (by omega) (by omega)]
    exact hQ
  | succ d ih =>
    intro j hd hj
    have hlt : j < cs.length := by omega
    have h1 := ih (j + 1) (by omega) (by omega)
    rw [List.take_succ_eq_append_getElem hlt, List.countP_append, List.countP_singleton] at h1
    have hc := List.countP_le_length (p := fun y => decide (y < l[i])) (l := cs.take j)
    rw [List.length_take] at hc
    refine Tot.up ?_
    simp only [impl_NumberOf.l1]
    rw [rd_in cs j hlt, w64 (n := (j : Int) + 1) (by omega) (by omega)]
    refine Tot.pos (by omega) (Tot.pos (by omega) (Tot.pos (by omega) ?_))
    by_cases hx : cs[j] < l[i]
    · rw [decide_eq_true hx, if_pos rfl] at h1
      rw [w64 (n := (((cs.take j).countP (fun y => decide (y < l[i])) : Nat) : Int) + 1) (by omega) (by omega)]
      exact Tot.pos hx h1
    · rw [decide_eq_false hx, if_neg (by simp), Nat.add_zero] at h1
      exact Tot.neg hx h1
theorem num_l0 (l : List Int) (h9 : l.length ≤ 9) : ∀ (d i : Nat) (acc : Nat), l.length - i = d → i ≤ l.length → acc ≤ 479001600 - numV (l.drop i) → numV (l.drop i) ≤ 479001600 →
    Tot (fun k => impl_NumberOf.l0 k l (acc : Int) l (l.length : Int) (i : Int)) (fun y => y = (((acc + numV (l.drop i) : Nat) : Int), true)) := by
  intro d
  induction d with
  | zero =>
    intro i acc hd hi ha hb
    refine Tot.up ?_
    simp only [impl_NumberOf.l0]
    refine Tot.neg (by omega) (Tot.some_ ?_)
    rw [List.drop_of_length_le (by omega)]
    simp [numV]
  | succ d ih =>
    intro i acc hd hi ha hb
    have hlt : i < l.length := by omega
    have hdr : l.drop i = l[i] :: l.drop (i + 1) := List.drop_eq_getElem_cons hlt
    rw [hdr] at ha hb ⊢
    simp only [numV] at ha hb ⊢
    have h1 := ih (i + 1) (acc + (l.drop (i + 1)).countP (fun y => decide (y < l[i])) * fac (l.drop (i + 1)).length) (by omega) (by omega) (by omega) (by omega)
    rw [Nat.add_assoc] at h1
    refine Tot.up ?_
    simp only [impl_NumberOf.l0]
    rw [rd_in l i hlt, w64 (n := (i : Int) + 1) (by omega) (by omega), show ((i : Int) + 1).toNat = i + 1 by omega]
    refine Tot.pos (by omega) (Tot.pos (by omega) (Tot.pos (by omega) (Tot.pos (by omega) (Tot.pos (by omega) ?_))))
    exact num_l1 l h9 acc i hlt _ (l.drop (i + 1)) rfl (by omega) h1 (l.drop (i + 1)).length 0 (by omega) (by omega)
theorem implNumber_tot (l : List Int) (ho : isOrd l = true) : Tot (fun k => impl_NumberOf.f k l) (fun y => y = ((numV l : Int), true)) := by
  obtain ⟨h9, _⟩ := isOrd_iff.1 ho
  have h1 := numV_lt l
  have h2 := fac_le l.length (by omega)
  have h3 := num_l0 l h9 l.length 0 0 (by omega) (by omega) (by omega) (by rw [List.drop_zero]; omega)
  rw [List.drop_zero, Nat.zero_add] at h3
  simp only [impl_NumberOf.f]
  exact Tot.bind (implOrd_tot l (by omega)) (fun y e => Tot.pos (e.trans ho) h3)
/-! ### from a number to its order, and back -/
theorem lehm_perm : ∀ (d : Nat) (left : List Int) (n : Nat), left.length = d → n < fac d → (lehm d left n).Perm left
  | 0, left, n, hl, _ => by
    rw [List.eq_nil_of_length_eq_zero hl]
    exact List.Perm.refl _
  | d + 1, left, n, hl, hn => by
    have hq := lehm_lt d n hn
    have hr : n % fac d < fac d := Nat.mod_lt _ (fac_pos d)
    have h1 := lehm_perm d (left.eraseIdx (n / fac d)) (n % fac d) (by rw [List.length_eraseIdx_of_lt (by omega)]; omega) hr
    have hlt : n / fac d < left.length := by omega
    simp only [lehm]
    refine (h1.cons _).trans ?_
    rw [getDin left 0 _ hlt, List.eraseIdx_eq_take_drop_succ]
    have e : left = left.take (n / fac d) ++ (left[n / fac d] :: left.drop (n / fac d + 1)) := by
      rw [← List.drop_eq_getElem_cons hlt, List.take_append_drop]
    exact (List.perm_middle.symm).trans (List.Perm.of_eq e.symm)
theorem count_sorted : ∀ (left : List Int) (q : Nat) (h : q < left.length), left.Pairwise (fun a b => a < b) → (left.eraseIdx q).countP (fun y => decide (y < left[q])) = q := by
  intro left q h hp
  rw [List.eraseIdx_eq_take_drop_succ, List.countP_append]
  have hp2 := List.pairwise_iff_getElem.1 hp
  have h1 : (left.take q).countP (fun y => decide (y < left[q])) = (left.take q).length := List.countP_eq_length.2 (fun y hy => by
    obtain ⟨j, hj, rfl⟩ := List.mem_iff_getElem.1 hy
    rw [List.length_take] at hj
    rw [List.getElem_take]
    exact decide_eq_true (hp2 j q (by omega) h (by omega)))
  have h2 : (left.drop (q + 1)).countP (fun y => decide (y < left[q])) = 0 := List.countP_eq_zero.2 (fun y hy => by
    obtain ⟨j, hj, rfl⟩ := List.mem_iff_getElem.1 hy
    rw [List.length_drop] at hj
    rw [List.getElem_drop]
    have := hp2 q (q + 1 + j) h (by omega) (by omega)
    simp only [decide_eq_true_eq]
    omega)
  rw [h1, h2, List.length_take]
  omega
theorem sorted_erase {left : List Int} (q : Nat) (hp : left.Pairwise (fun a b => a < b)) : (left.eraseIdx q).Pairwise (fun a b => a < b) := hp.sublist (List.eraseIdx_sublist left q)
theorem num_lehm : ∀ (d : Nat) (left : List Int) (n : Nat), left.length = d → n < fac d → left.Pairwise (fun a b => a < b) → numV (lehm d left n) = n
  | 0, left, n, hl, hn, _ => by
    simp only [fac] at hn
    simp only [lehm, numV]
    omega
  | d + 1, left, n, hl, hn, hp => by
    have hq := lehm_lt d n hn
    have hr : n % fac d < fac d := Nat.mod_lt _ (fac_pos d)
    have hlt : n / fac d < left.length := by omega
    have hle : (left.eraseIdx (n / fac d)).length = d := by rw [List.length_eraseIdx_of_lt hlt]; omega
    simp only [lehm, numV]
    rw [num_lehm d _ _ hle hr (sorted_erase _ hp), (lehm_perm d _ _ hle hr).countP_eq, getDin left 0 _ hlt, count_sorted left _ hlt hp, lehm_length]
    have := Nat.div_add_mod n (fac d)
    rw [Nat.mul_comm] at this
    exact this
theorem firsts_sorted (m : Nat) : (firsts m).Pairwise (fun a b => a < b) := by
  unfold firsts
  rw [List.pairwise_map]
  exact List.Pairwise.imp (fun h => by omega) (List.pairwise_lt_range)
theorem lehm_ord (m n : Nat) (hm : m ≤ 9) (hn : n < fac m) : isOrd (lehm m (firsts m) n) = true := by
  have hp := lehm_perm m (firsts m) n (firsts_length m) hn
  have hl := lehm_length m (firsts m) n
  refine isOrd_iff.2 ⟨by omega, hp.nodup_iff.2 (firsts_nodup m), fun x hx => ?_⟩
  rw [hl]
  exact (mem_firsts m x).1 (hp.mem_iff.1 hx)
theorem pre_div (F q r n : Nat) (h : F * q + r = n) (hr : ¬ r = 0) : n - 1 = F * q + (r - 1) := by
  subst h
  exact Nat.add_sub_assoc (by omega) _
theorem pre_div2 (F q r n : Nat) (h : F * q + r = n) (hr : ¬ r = 0) (h2 : r < F) (hf : 1 ≤ F) : (n - 1) / F = q ∧ (n - 1) % F = r - 1 := by
  have h6 : r - 1 < F := by omega
  rw [pre_div F q r n h hr]
  exact ⟨by rw [Nat.mul_add_div hf, Nat.div_eq_of_lt h6, Nat.add_zero], by rw [Nat.mul_add_mod, Nat.mod_eq_of_lt h6]⟩
/-- The number before tells the order before. -/
theorem lehm_less : ∀ (d : Nat) (left : List Int) (n : Nat), left.length = d → 0 < n → n < fac d → left.Pairwise (fun a b => a < b) →
    ∃ i, i < d ∧ (∀ j, j < i → (lehm d left (n - 1)).getD j 0 = (lehm d left n).getD j 0) ∧ (lehm d left (n - 1)).getD i 0 < (lehm d left n).getD i 0
  | 0, left, n, hl, h0, hn, _ => by
    simp only [fac] at hn
    omega
  | d + 1, left, n, hl, h0, hn, hp => by
    have hf := fac_pos d
    have hq := lehm_lt d n hn
    have hr : n % fac d < fac d := Nat.mod_lt _ hf
    have hlt : n / fac d < left.length := by omega
    have hdm := Nat.div_add_mod n (fac d)
    by_cases h : n % fac d = 0
    · have h1 : 0 < n / fac d := by
        rcases Nat.eq_zero_or_pos (n / fac d) with e | e
        · rw [e, h] at hdm
          omega
        · exact e
      have h2 : (n - 1) / fac d = n / fac d - 1 := by
        obtain ⟨q, hq2⟩ : ∃ q, n / fac d = q + 1 := ⟨n / fac d - 1, by omega⟩
        rw [hq2] at hdm ⊢
        rw [Nat.mul_add, Nat.mul_one] at hdm
        have e : n - 1 = fac d * q + (fac d - 1) := by omega
        rw [e, Nat.mul_add_div (by omega), Nat.div_eq_of_lt (by omega)]
        omega
      refine ⟨0, by omega, fun j hj => by omega, ?_⟩
      simp only [lehm, List.getD_cons_zero]
      rw [h2, getDin left 0 _ hlt, getDin left 0 _ (by omega)]
      exact List.pairwise_iff_getElem.1 hp _ _ (by omega) hlt (by omega)
    · have h2 := pre_div2 _ _ _ _ hdm h hr hf
      obtain ⟨i, h3, h4, h5⟩ := lehm_less d (left.eraseIdx (n / fac d)) (n % fac d) (by rw [List.length_eraseIdx_of_lt hlt]; omega) (by omega) hr (sorted_erase _ hp)
      refine ⟨i + 1, by omega, fun j hj => ?_, ?_⟩
      · simp only [lehm]
        rw [h2.1, h2.2]
        cases j with
        | zero => rfl
        | succ j =>
          rw [List.getD_cons_succ, List.getD_cons_succ]
          exact h4 j (by omega)
      · simp only [lehm]
        rw [h2.1, h2.2, List.getD_cons_succ, List.getD_cons_succ]
        exact h5

/-- The bits of a letter: where it stands is small, its bytes are bytes. -/
def Bytes (l : List Int) : Prop := l.length ≤ 1048576 ∧ ∀ x ∈ l, 0 ≤ x ∧ x ≤ 255
theorem and255 (E : Int) : 0 ≤ Go.bits .and .u64 E 255 ∧ Go.bits .and .u64 E 255 ≤ 255 := by
  have h : Go.bits .and .u64 E 255 = IntKind.u64.wrap (((BitVec.ofInt 64 E) &&& (BitVec.ofInt 64 255)).toNat : Int) := rfl
  have h2 : ((BitVec.ofInt 64 E) &&& (BitVec.ofInt 64 255)).toNat ≤ 255 := by
    rw [BitVec.toNat_and]
    exact Nat.and_le_right
  have h3 : IntKind.u64.wrap (((BitVec.ofInt 64 E) &&& (BitVec.ofInt 64 255)).toNat : Int) = (((BitVec.ofInt 64 E) &&& (BitVec.ofInt 64 255)).toNat : Int) := by
    show (_ : Int) % 2 ^ 64 = _
    omega
  rw [h, h3]
  omega
def CurOk (p' p : Int) : Prop := p ≤ p' ∧ p' ≤ p + 2
theorem next_tot (l : List Int) (hl : Bytes l) (p h : Int) (hp : 0 ≤ p ∧ p ≤ 1099511627776) : ∃ y, spec_l1Cur_next.f l p h = some y ∧ (0 ≤ y.1 ∧ y.1 ≤ 255 ∧ y.2.1 = p + 1) := by
  have hl1 := hl.1
  unfold spec_l1Cur_next.f
  rw [w64 (n := p + 1) (by omega) (by omega)]
  by_cases h1 : p < (l.length : Int)
  · obtain ⟨i, rfl⟩ := Int.eq_ofNat_of_zero_le hp.1
    have h2 := hl.2 _ (rd_mem l i (by omega))
    rw [if_pos h1, if_pos hp.1, if_pos (by omega)]
    refine ⟨_, rfl, ?_⟩
    simp only
    rw [w64 (by omega) (by omega)]
    exact ⟨h2.1, h2.2, trivial⟩
  · rw [if_neg h1, if_neg (by omega)]
    refine ⟨_, rfl, ?_⟩
    have h3 := and255 ((IntKind.u64.wrap ((IntKind.u64.wrap ((IntKind.u64.wrap (h * 6364136223846793005)) + 0)) + 1442695040888963407)) / 1099511627776)
    simp only
    rw [w64 (by omega) (by omega)]
    exact ⟨h3.1, h3.2, trivial⟩
theorem pick_tot (l : List Int) (hl : Bytes l) (p h a : Int) (hp : 0 ≤ p ∧ p ≤ 549755813888) (ha : a ≤ 1048576) : ∃ y, spec_l1Cur_pick.f l p h a = some y ∧ (0 ≤ y.1 ∧ (y.1 < a ∨ y.1 = 0) ∧ p ≤ y.2.1 ∧ y.2.1 ≤ p + 2) := by
  unfold spec_l1Cur_pick.f
  by_cases h1 : a ≤ 1
  · rw [if_pos h1]
    exact ⟨_, rfl, by simp only; omega, .inr rfl, by simp only; omega, by simp only; omega⟩
  · rw [if_neg h1]
    obtain ⟨⟨b, p1, h'⟩, e1, hb0, hb1, hp1⟩ := next_tot l hl p h (by omega)
    simp only at hb0 hb1 hp1
    rw [e1]
    simp only [Option.bind_some]
    by_cases h2 : a > 200
    · obtain ⟨⟨c, p2, h''⟩, e2, hc0, hc1, hp2⟩ := next_tot l hl p1 h' (by omega)
      simp only at hc0 hc1 hp2
      rw [if_pos h2, e2]
      simp only [Option.bind_some]
      rw [if_neg (by omega), w64 (n := b * 256) (by omega) (by omega), w64 (by omega) (by omega), Int.tmod_eq_emod_of_nonneg (by omega)]
      have h3 := Int.emod_nonneg (b * 256 + c) (show a ≠ 0 by omega)
      have h4 := Int.emod_lt_of_pos (b * 256 + c) (show 0 < a by omega)
      exact ⟨_, rfl, h3, .inl h4, by simp only; omega, by simp only; omega⟩
    · rw [if_neg h2, if_neg (by omega), Int.tmod_eq_emod_of_nonneg (by omega)]
      have h3 := Int.emod_nonneg b (show a ≠ 0 by omega)
      have h4 := Int.emod_lt_of_pos b (show 0 < a by omega)
      exact ⟨_, rfl, h3, .inl h4, by simp only; omega, by simp only; omega⟩

theorem one_tot (l : List Int) (hl : Bytes l) (p h a : Int) (hp : 0 ≤ p ∧ p ≤ 549755813888) (ha : a ≤ 1048576) : ∃ y, spec_l1Cur_one.f l p h a = some y ∧ (p ≤ y.2.1 ∧ y.2.1 ≤ p + 2) := by
  unfold spec_l1Cur_one.f
  obtain ⟨⟨b, p1, h'⟩, e1, hb0, hb1, hp0, hp1⟩ := pick_tot l hl p h a hp ha
  simp only at hp0 hp1
  rw [e1]
  exact ⟨_, rfl, hp0, hp1⟩

theorem bytes_of {l : List Int} (h : l.length ≤ 1048576) (hw : ∀ x ∈ l, (Lit.int .u8 x).wf = true) : Bytes l := by
  refine ⟨h, fun x hx => ?_⟩
  have h2 := hw x hx
  simp only [Lit.wf, Bool.and_eq_true, decide_eq_true_iff] at h2
  exact h2

theorem of_tot (l : List Int) (hl : Bytes l) (p h : Int) (m : List ByteArray) (hp : 0 ≤ p ∧ p ≤ 549755813888) (hm : 0 < m.length) (hm2 : m.length ≤ 1048576) : ∃ y, spec_l1Cur_of.f l p h m = some y ∧ (y.1 ∈ m ∧ p ≤ y.2.1 ∧ y.2.1 ≤ p + 2) := by
  unfold spec_l1Cur_of.f
  obtain ⟨⟨b, p1, h'⟩, e1, hb0, hb1, hp0, hp1⟩ := pick_tot l hl p h (m.length : Int) hp (by omega)
  simp only at hb0 hb1 hp0 hp1
  rw [e1]
  simp only [Option.bind_some]
  obtain ⟨i, rfl⟩ := Int.eq_ofNat_of_zero_le hb0
  rw [if_pos hb0, if_pos (by omega)]
  have hi : i < m.length := by omega
  refine ⟨_, rfl, ?_, by simp only; omega, by simp only; omega⟩
  show rdOf ByteArray.empty m (i : Int) ∈ m
  unfold rdOf
  rw [Int.toNat_natCast, List.getD_eq_getElem?_getD, List.getElem?_eq_getElem hi]
  exact List.getElem_mem hi

theorem sameInts_tot (a b : List Int) (ha : a.length ≤ 1048576) : Tot (fun k => laws_sameInts.f k a b) (fun y => y = decide (a = b)) := by
  simp only [laws_sameInts.f]
  by_cases hl : a.length = b.length
  · refine Tot.pos (by omega) ?_
    have key : ∀ (d i : Nat), a.length - i = d → i ≤ a.length → Tot (fun k => laws_sameInts.l0 k a b (a.length : Int) (i : Int)) (fun y => y = decide (a.drop i = b.drop i)) := by
      intro d
      induction d with
      | zero =>
        intro i hd hi
        refine Tot.up ?_
        simp only [laws_sameInts.l0]
        refine Tot.neg (by omega) (Tot.some_ ?_)
        rw [List.drop_of_length_le (by omega), List.drop_of_length_le (by omega)]
        rfl
      | succ d ih =>
        intro i hd hi
        refine Tot.up ?_
        simp only [laws_sameInts.l0]
        rw [rd_in a i (by omega), rd_in b i (by omega), w64 (n := (i : Int) + 1) (by omega) (by omega), List.drop_eq_getElem_cons (show i < a.length by omega), List.drop_eq_getElem_cons (show i < b.length by omega)]
        refine Tot.pos (by omega) (Tot.pos (by omega) (Tot.pos (by omega) (Tot.pos (by omega) (Tot.ite (fun e => ?_) (fun e => Tot.some_ ?_)))))
        · refine (ih (i + 1) (by omega) (by omega)).imp (fun y hy => ?_)
          rw [hy, Bool.eq_iff_iff, decide_eq_true_iff, decide_eq_true_iff]
          constructor
          · intro h
            rw [e, h]
          · intro h
            exact (List.cons.inj h).2
        · exact (decide_eq_false (fun h => e (List.cons.inj h).1)).symm
    have h := key a.length 0 (by omega) (by omega)
    rw [List.drop_zero, List.drop_zero] at h
    exact h
  · refine Tot.neg (by omega) (Tot.some_ ?_)
    exact (decide_eq_false (fun h => hl (by rw [h]))).symm
theorem sameInts_self (a : List Int) (ha : a.length ≤ 1048576) : Tot (fun k => laws_sameInts.f k a a) (fun y => y = true) := (sameInts_tot a a ha).imp (fun y hy => by rw [hy]; exact decide_eq_true rfl)

theorem sameTexts_self (a : List ByteArray) (ha : a.length ≤ 1048576) : Tot (fun k => laws_sameTexts.f k a a) (fun y => y = true) := by
  have key : ∀ (d i : Nat), a.length - i = d → i ≤ a.length → Tot (fun k => laws_sameTexts.l0 k a a (a.length : Int) (i : Int)) (fun y => y = true) := by
    intro d
    induction d with
    | zero =>
      intro i hd hi
      refine Tot.up ?_
      simp only [laws_sameTexts.l0]
      exact Tot.neg (by omega) (Tot.some_ rfl)
    | succ d ih =>
      intro i hd hi
      refine Tot.up ?_
      simp only [laws_sameTexts.l0]
      rw [w64 (n := (i : Int) + 1) (by omega) (by omega)]
      exact Tot.pos (by omega) (Tot.pos (by omega) (Tot.pos (by omega) (Tot.pos (by omega) (Tot.pos trivial (ih (i + 1) (by omega) (by omega))))))
  simp only [laws_sameTexts.f]
  exact Tot.pos trivial (key a.length 0 (by omega) (by omega))

theorem rdSh (l : List ByteArray) (i : Nat) (h : i < l.length) : rdOf ByteArray.empty l (i : Int) = l[i] := by
  unfold rdOf
  rw [Int.toNat_natCast]
  exact getDin l _ i h
/-! ### shuffles -/
def swp (x : List ByteArray) (k i : Nat) : List ByteArray := (x.set k (x.getD i ByteArray.empty)).set i (x.getD k ByteArray.empty)
theorem swp_perm (x : List ByteArray) (k i : Nat) (hk : k < x.length) (hi : i < x.length) : (swp x k i).Perm x := by
  unfold swp
  rw [getDin x _ i hi, getDin x _ k hk]
  exact List.set_set_perm hk hi
theorem swp_length (x : List ByteArray) (k i : Nat) : (swp x k i).length = x.length := by simp [swp]
/-- Shuffled from place k down. -/
def shuf (d : List Int) : Nat → List ByteArray → List ByteArray
  | 0, x => x
  | k + 1, x => shuf d k (swp x (k + 1) ((rd d ((k + 1 : Nat) : Int)).toNat % (k + 2)))
theorem shuf_length (d : List Int) : ∀ (k : Nat) (x : List ByteArray), (shuf d k x).length = x.length
  | 0, _ => rfl
  | k + 1, x => by rw [shuf, shuf_length d k, swp_length]
theorem shuf_perm (d : List Int) : ∀ (k : Nat) (x : List ByteArray), k < x.length → (shuf d k x).Perm x
  | 0, _, _ => List.Perm.refl _
  | k + 1, x, h => by
    have hm : (rd d ((k + 1 : Nat) : Int)).toNat % (k + 2) < k + 2 := Nat.mod_lt _ (by omega)
    rw [shuf]
    exact (shuf_perm d k _ (by rw [swp_length]; omega)).trans (swp_perm x _ _ h (by omega))
theorem step_sw (d : List Int) (x : List ByteArray) (k : Nat) (hk : k + 1 < x.length) (hd : 0 ≤ rd d ((k + 1 : Nat) : Int)) : (0 ≤ Int.tmod (rd d ((k + 1 : Nat) : Int)) ((k + 2 : Nat) : Int) ∧ Int.tmod (rd d ((k + 1 : Nat) : Int)) ((k + 2 : Nat) : Int) < (x.length : Int)) ∧
    (x.set (k + 1) (rdOf ByteArray.empty x (Int.tmod (rd d ((k + 1 : Nat) : Int)) ((k + 2 : Nat) : Int)))).set (Int.tmod (rd d ((k + 1 : Nat) : Int)) ((k + 2 : Nat) : Int)).toNat (rdOf ByteArray.empty x ((k + 1 : Nat) : Int)) = swp x (k + 1) ((rd d ((k + 1 : Nat) : Int)).toNat % (k + 2)) := by
  obtain ⟨m, hm⟩ := Int.eq_ofNat_of_zero_le hd
  have h1 : m % (k + 2) < k + 2 := Nat.mod_lt _ (by omega)
  rw [hm, tmod_nat, Int.toNat_natCast, Int.toNat_natCast]
  refine ⟨⟨by omega, by omega⟩, ?_⟩
  unfold swp rdOf
  rw [Int.toNat_natCast, Int.toNat_natCast]
theorem ish_l0 (d : List Int) (h9 : d.length ≤ 9) (hd : ∀ j, j < d.length → 0 ≤ rd d (j : Int)) : ∀ (k : Nat) (x : List ByteArray), k < d.length → x.length = d.length → Tot (fun f => impl_ShuffleBy.l0 f d x (k : Int)) (fun y => y = (shuf d k x, true)) := by
  intro k
  induction k with
  | zero =>
    intro x hk hx
    have h0 := hd 0 hk
    refine Tot.up ?_
    simp only [impl_ShuffleBy.l0]
    rw [w64 (n := ((0 : Nat) : Int) + 1) (by omega) (by omega), w64 (n := ((0 : Nat) : Int) - 1) (by omega) (by omega)]
    refine Tot.pos (by omega) (Tot.pos (by omega) (Tot.pos (by omega) (Tot.neg (by omega) (Tot.neg (by omega) (Tot.neg (by omega) (Tot.up ?_))))))
    simp only [impl_ShuffleBy.l0]
    exact Tot.neg (by omega) (Tot.some_ rfl)
  | succ k ih =>
    intro x hk hx
    have h0 := hd (k + 1) hk
    obtain ⟨⟨s1, s2⟩, s3⟩ := step_sw d x k (by omega) h0
    have h1 := ih (swp x (k + 1) ((rd d ((k + 1 : Nat) : Int)).toNat % (k + 2))) (by omega) (by rw [swp_length]; exact hx)
    refine Tot.up ?_
    simp only [impl_ShuffleBy.l0]
    rw [w64 (n := ((k + 1 : Nat) : Int) + 1) (by omega) (by omega), w64 (n := ((k + 1 : Nat) : Int) - 1) (by omega) (by omega), show ((k + 1 : Nat) : Int) + 1 = ((k + 2 : Nat) : Int) by omega, show ((k + 1 : Nat) : Int) - 1 = (k : Int) by omega, Int.toNat_natCast, s3]
    exact Tot.pos (by omega) (Tot.pos (by omega) (Tot.pos (by omega) (Tot.neg (by omega) (Tot.neg (by omega) (Tot.pos (by omega) (Tot.pos s1 (Tot.pos s2 (Tot.pos (by omega) h1))))))))
theorem ssh_l1 (d : List Int) (h9 : d.length ≤ 9) (hd : ∀ j, j < d.length → 0 ≤ rd d (j : Int)) : ∀ (k : Nat) (x : List ByteArray), k < d.length → x.length = d.length → Tot (fun f => spec_ShuffleBy.l1 f d x (k : Int)) (fun y => y = (shuf d k x, true)) := by
  intro k
  induction k with
  | zero =>
    intro x hk hx
    refine Tot.up ?_
    simp only [spec_ShuffleBy.l1]
    exact Tot.neg (by omega) (Tot.some_ rfl)
  | succ k ih =>
    intro x hk hx
    have h0 := hd (k + 1) hk
    obtain ⟨⟨s1, s2⟩, s3⟩ := step_sw d x k (by omega) h0
    have h1 := ih (swp x (k + 1) ((rd d ((k + 1 : Nat) : Int)).toNat % (k + 2))) (by omega) (by rw [swp_length]; exact hx)
    refine Tot.up ?_
    simp only [spec_ShuffleBy.l1]
    rw [w64 (n := ((k + 1 : Nat) : Int) + 1) (by omega) (by omega), w64 (n := ((k + 1 : Nat) : Int) - 1) (by omega) (by omega), show ((k + 1 : Nat) : Int) + 1 = ((k + 2 : Nat) : Int) by omega, show ((k + 1 : Nat) : Int) - 1 = (k : Int) by omega, Int.toNat_natCast, s3]
    exact Tot.pos (by omega) (Tot.pos (by omega) (Tot.pos (by omega) (Tot.neg (by omega) (Tot.pos (by omega) (Tot.pos s1 (Tot.pos s2 h1))))))
theorem ish_bad (d : List Int) (h9 : d.length ≤ 9) : ∀ (k : Nat) (x : List ByteArray), k < d.length → x.length = d.length → (∃ j, j ≤ k ∧ rd d (j : Int) < 0) → Tot (fun f => impl_ShuffleBy.l0 f d x (k : Int)) (fun y => y = ([], false)) := by
  intro k
  induction k with
  | zero =>
    intro x hk hx hb
    obtain ⟨j, hj, hb⟩ := hb
    obtain rfl : j = 0 := by omega
    refine Tot.up ?_
    simp only [impl_ShuffleBy.l0]
    exact Tot.pos (by omega) (Tot.pos (by omega) (Tot.pos (by omega) (Tot.pos hb (Tot.some_ rfl))))
  | succ k ih =>
    intro x hk hx hb
    refine Tot.up ?_
    simp only [impl_ShuffleBy.l0]
    refine Tot.pos (by omega) (Tot.pos (by omega) (Tot.pos (by omega) (Tot.ite (fun _ => Tot.some_ rfl) (fun h0 => ?_))))
    obtain ⟨⟨s1, s2⟩, s3⟩ := step_sw d x k (by omega) (by omega)
    have h1 := ih (swp x (k + 1) ((rd d ((k + 1 : Nat) : Int)).toNat % (k + 2))) (by omega) (by rw [swp_length]; exact hx) (by
      obtain ⟨j, hj, hb⟩ := hb
      by_cases e : j = k + 1
      · rw [e] at hb
        exact absurd hb h0
      · exact ⟨j, by omega, hb⟩)
    rw [w64 (n := ((k + 1 : Nat) : Int) + 1) (by omega) (by omega), w64 (n := ((k + 1 : Nat) : Int) - 1) (by omega) (by omega), show ((k + 1 : Nat) : Int) + 1 = ((k + 2 : Nat) : Int) by omega, show ((k + 1 : Nat) : Int) - 1 = (k : Int) by omega, Int.toNat_natCast, s3]
    exact Tot.neg (by omega) (Tot.pos (by omega) (Tot.pos s1 (Tot.pos s2 (Tot.pos (by omega) h1))))
theorem ssh_l0 (d : List Int) (x : List ByteArray) (h9 : d.length ≤ 9) (hx : x.length = d.length) (Q : List ByteArray × Bool → Prop) (hbad : (∃ j, j < d.length ∧ rd d (j : Int) < 0) → Q ([], false))
    (hgood : (∀ j, j < d.length → 0 ≤ rd d (j : Int)) → Tot (fun f => spec_ShuffleBy.l1 f d x ((x.length : Int) - 1)) Q) : ∀ (e i : Nat), d.length - i = e → i ≤ d.length → (∀ j, j < i → 0 ≤ rd d (j : Int)) → Tot (fun f => spec_ShuffleBy.l0 f d x d (d.length : Int) (i : Int)) Q := by
  intro e
  induction e with
  | zero =>
    intro i he hi h
    refine Tot.up ?_
    simp only [spec_ShuffleBy.l0]
    refine Tot.neg (by omega) (Tot.bind (Tot.some_ (Q := fun z => z = ([] : List ByteArray)) rfl) (fun z hz => ?_))
    subst hz
    refine Tot.pos (by simp only [List.length_nil]; omega) (Tot.bind (Tot.some_ (Q := fun z => z = x) (List.nil_append x)) (fun z hz => ?_))
    subst hz
    rw [w64 (n := (z.length : Int) - 1) (by omega) (by omega)]
    exact hgood (fun j hj => h j (by omega))
  | succ e ih =>
    intro i he hi h
    refine Tot.up ?_
    simp only [spec_ShuffleBy.l0]
    rw [w64 (n := (i : Int) + 1) (by omega) (by omega)]
    refine Tot.pos (by omega) (Tot.pos (by omega) (Tot.pos (by omega) (Tot.ite (fun hn => Tot.some_ (hbad ⟨i, by omega, hn⟩)) (fun hn => ih (i + 1) (by omega) (by omega) (fun j hj => ?_)))))
    by_cases c : j = i
    · rw [c]
      omega
    · exact h j (by omega)
theorem shuffle_same (d : List Int) (x : List ByteArray) : ∃ r : List ByteArray × Bool, r.1.length ≤ 9 ∧ (r.2 = true → r.1.Perm x ∧ x.length ≤ 9) ∧ Tot (fun k => impl_ShuffleBy.f k d x) (fun z => z = r) ∧ Tot (fun k => spec_ShuffleBy.f k d x) (fun z => z = r) := by
  have bi : Tot (fun k => impl_ShuffleBy.j0 k d x true) (fun z => z = (([] : List ByteArray), false)) := by
    refine Tot.up ?_
    simp only [impl_ShuffleBy.j0]
    exact Tot.pos trivial (Tot.some_ rfl)
  have bs : Tot (fun k => spec_ShuffleBy.j0 k d x true) (fun z => z = (([] : List ByteArray), false)) := by
    refine Tot.up ?_
    simp only [spec_ShuffleBy.j0]
    exact Tot.pos trivial (Tot.some_ rfl)
  simp only [impl_ShuffleBy.f, spec_ShuffleBy.f]
  by_cases h9 : (x.length : Int) > 9
  · exact ⟨([], false), by simp, (fun h => by cases h), Tot.pos h9 bi, Tot.pos h9 bs⟩
  by_cases hl : d.length = x.length
  · have e1 : ((d.length : Int) != (x.length : Int)) = false := by rw [hl]; exact bne_self_eq_false _
    rw [e1]
    have ji : ∀ Q : List ByteArray × Bool → Prop, Tot (fun k => impl_ShuffleBy.l0 k d x ((x.length : Int) - 1)) Q → Tot (fun k => impl_ShuffleBy.j0 k d x false) Q := fun Q h => by
      refine Tot.up ?_
      simp only [impl_ShuffleBy.j0, slices_Clone_string_string.f]
      rw [w64 (n := (x.length : Int) - 1) (by omega) (by omega)]
      refine Tot.neg (by simp) (Tot.bind (Q := fun z => z = x) (Tot.pos (by omega) (Tot.some_ rfl)) (fun z hz => ?_))
      rw [hz]
      exact h
    have js : ∀ Q : List ByteArray × Bool → Prop, Tot (fun k => spec_ShuffleBy.l0 k d x d (d.length : Int) 0) Q → Tot (fun k => spec_ShuffleBy.j0 k d x false) Q := fun Q h => by
      refine Tot.up ?_
      simp only [spec_ShuffleBy.j0]
      exact Tot.neg (by simp) h
    by_cases hz : x.length = 0
    · have hx : x = [] := List.eq_nil_of_length_eq_zero hz
      refine ⟨(x, true), by simp only; omega, fun _ => ⟨List.Perm.refl _, by omega⟩, Tot.neg h9 (ji _ (Tot.up ?_)), Tot.neg h9 (js _ (ssh_l0 d x (by omega) (by omega) _ (fun ⟨j, hj, _⟩ => by omega) (fun _ => Tot.up ?_) d.length 0 (by omega) (by omega) (fun j hj => by omega)))⟩
      · simp only [impl_ShuffleBy.l0]
        exact Tot.neg (by omega) (Tot.some_ rfl)
      · simp only [spec_ShuffleBy.l1]
        exact Tot.neg (by omega) (Tot.some_ rfl)
    · obtain ⟨n, hn⟩ : ∃ n, x.length = n + 1 := ⟨x.length - 1, by omega⟩
      have en : ((x.length : Int) - 1) = (n : Int) := by omega
      by_cases hd : ∀ j, j < d.length → 0 ≤ rd d (j : Int)
      · refine ⟨(shuf d n x, true), by simp only [shuf_length]; omega, fun _ => ⟨shuf_perm d n x (by omega), by omega⟩, Tot.neg h9 (ji _ ?_), Tot.neg h9 (js _ (ssh_l0 d x (by omega) (by omega) _ (fun ⟨j, hj, hb⟩ => by have := hd j hj; omega) (fun _ => ?_) d.length 0 (by omega) (by omega) (fun j hj => by omega)))⟩
        · rw [en]
          exact ish_l0 d (by omega) hd n x (by omega) (by omega)
        · rw [en]
          exact ssh_l1 d (by omega) hd n x (by omega) (by omega)
      · have hb : ∃ j, j < d.length ∧ rd d (j : Int) < 0 := by
          rcases Classical.em (∃ j, j < d.length ∧ rd d (j : Int) < 0) with h | h
          · exact h
          · exact absurd (fun j hj => by
              rcases Int.lt_or_le (rd d (j : Int)) 0 with h2 | h2
              · exact absurd ⟨j, hj, h2⟩ h
              · exact h2) hd
        obtain ⟨j, hj, hb2⟩ := hb
        refine ⟨([], false), by simp, (fun h => by cases h), Tot.neg h9 (ji _ ?_), Tot.neg h9 (js _ (ssh_l0 d x (by omega) (by omega) (fun z => z = (([] : List ByteArray), false)) (fun _ => rfl) (fun h => absurd h hd) d.length 0 (by omega) (by omega) (fun j hj => by omega)))⟩
        rw [en]
        exact ish_bad d (by omega) n x (by omega) (by omega) ⟨j, by omega, hb2⟩
  · have e1 : ((d.length : Int) != (x.length : Int)) = true := bne_iff_ne.2 (by omega)
    rw [e1]
    exact ⟨([], false), by simp, (fun h => by cases h), Tot.neg h9 bi, Tot.neg h9 bs⟩
/-! ### what is drawn -/
theorem drawAt_tot (c : List Int) (hc : Bytes c) : Tot (fun k => spec_DrawOrderAt.f k c) (fun _ => True) := by
  have j0 : ∀ (m q h : Int), m ≤ 12 → (0 ≤ q ∧ q ≤ 1000) → Tot (fun k => spec_DrawOrderAt.j0 k m c q h) (fun _ => True) := by
    intro m q h hm hq
    have hf := fac_le m.toNat (by omega)
    have hf1 := fac_pos m.toNat
    refine Tot.up ?_
    simp only [spec_DrawOrderAt.j0, spec_l1Least.f]
    refine Tot.bind (Q := fun y => y = ((fac m.toNat : Nat) : Int)) (Tot.at_ 15 rfl (fun k hk => specOrders_eq m hm k (by omega))) (fun y e => ?_)
    rw [e]
    refine Tot.bind (Q := fun y : Int => 0 ≤ y ∧ y ≤ 250) (Tot.ite (fun h => Tot.some_ (by omega)) (fun h => Tot.some_ (by omega))) (fun z hz => ?_)
    rw [w64 (n := z + 1) (by omega) (by omega)]
    exact Tot.bind (Tot.fix (pick_tot c hc q h (z + 1) (by omega) (by omega))) (fun y1 h1 => Tot.bind (Tot.fix (pick_tot c hc y1.2.1 y1.2.2 9 (by omega) (by omega))) (fun y2 h2 => Tot.some_ trivial))
  simp only [spec_DrawOrderAt.f]
  refine Tot.bind (Tot.fix (pick_tot c hc 0 0 8 (by omega) (by omega))) (fun y1 h1 => Tot.bind (Tot.fix (one_tot c hc y1.2.1 y1.2.2 20 (by omega) (by omega))) (fun y2 h2 => Tot.ite (fun _ => Tot.bind (Tot.fix (pick_tot c hc y2.2.1 y2.2.2 2 (by omega) (by omega))) (fun y3 h3 => ?_)) (fun _ => j0 _ _ _ (by omega) (by omega))))
  rw [w64 (n := 9 + y3.1) (by omega) (by omega)]
  exact j0 _ _ _ (by omega) (by omega)
theorem drawNum_tot (c : List Int) (hc : Bytes c) : Tot (fun k => spec_DrawNumberOf.f k c) (fun y => y.length ≤ 9) := by
  simp only [spec_DrawNumberOf.f]
  refine Tot.bind (drawAt_tot c hc) (fun a _ => Tot.bind (specOrderAt_tot a.1 a.2) (fun y e => ?_))
  have hl := atV_length a.1 a.2
  rw [e]
  exact Tot.ite (fun h => Tot.bind (Tot.fix (one_tot c hc 0 0 6 (by omega) (by omega))) (fun y1 h1 => Tot.ite (fun _ => Tot.bind (Tot.fix (pick_tot c hc _ _ 9 (by omega) (by omega))) (fun y2 h2 => Tot.pos (by omega) (Tot.some_ (by rw [List.length_set]; exact hl)))) (fun _ => Tot.some_ hl))) (fun _ => Tot.some_ hl)
theorem drawShuf_tot (c : List Int) (hc : Bytes c) : Tot (fun k => spec_DrawShuffleBy.f k c) (fun _ => True) := by
  have l0 : ∀ (n : Nat) (d : List Int) (x : List ByteArray) (q h : Int), n ≤ 12 → d.length + n ≤ 12 → x.length + n ≤ 12 → (0 ≤ q ∧ q + 8 * (n : Int) ≤ 100000) → Tot (fun k => spec_DrawShuffleBy.l0 k d x (n : Int) c q h) (fun _ => True) := by
    intro n
    induction n with
    | zero =>
      intro d x q h hn h1 h2 hq
      refine Tot.up ?_
      simp only [spec_DrawShuffleBy.l0]
      exact Tot.neg (by omega) (Tot.ite (fun hp => Tot.bind (Tot.fix (one_tot c hc q h 20 (by omega) (by omega))) (fun y1 h1 => Tot.ite (fun _ => Tot.pos (by omega) (Tot.some_ trivial)) (fun _ => Tot.some_ trivial))) (fun _ => Tot.some_ trivial))
    | succ n ih =>
      intro d x q h hn h1 h2 hq
      refine Tot.up ?_
      simp only [spec_DrawShuffleBy.l0]
      rw [w64 (n := ((n + 1 : Nat) : Int) - 1) (by omega) (by omega), show ((n + 1 : Nat) : Int) - 1 = (n : Int) by omega]
      exact Tot.pos (by omega) (Tot.bind (Tot.fix (pick_tot c hc q h 200 (by omega) (by omega))) (fun y1 g1 => Tot.pos (by omega) (Tot.bind (Tot.fix (of_tot c hc y1.2.1 y1.2.2 _ (by omega) (by simp) (by simp))) (fun y2 g2 => Tot.pos (by omega) (ih _ _ _ _ (by omega) (by rw [List.length_append, List.length_singleton]; omega) (by rw [List.length_append, List.length_singleton]; omega) (by omega))))))
  have j0 : ∀ (n q h : Int), (0 ≤ n ∧ n ≤ 12) → (0 ≤ q ∧ q ≤ 1000) → Tot (fun k => spec_DrawShuffleBy.j0 k [] [] n c q h) (fun _ => True) := by
    intro n q h hn hq
    obtain ⟨m, rfl⟩ := Int.eq_ofNat_of_zero_le hn.1
    refine Tot.up ?_
    simp only [spec_DrawShuffleBy.j0]
    exact l0 m [] [] q h (by omega) (by simp only [List.length_nil]; omega) (by simp only [List.length_nil]; omega) (by omega)
  simp only [spec_DrawShuffleBy.f]
  refine Tot.bind (Tot.fix (pick_tot c hc 0 0 8 (by omega) (by omega))) (fun y1 h1 => Tot.bind (Tot.fix (one_tot c hc y1.2.1 y1.2.2 20 (by omega) (by omega))) (fun y2 h2 => Tot.ite (fun _ => Tot.bind (Tot.fix (pick_tot c hc y2.2.1 y2.2.2 2 (by omega) (by omega))) (fun y3 h3 => ?_)) (fun _ => j0 _ _ _ (by omega) (by omega))))
  rw [w64 (n := 9 + y3.1) (by omega) (by omega)]
  exact j0 _ _ _ (by omega) (by omega)
theorem ordersOf_same (m : Int) : ∃ r : Int × Bool, (0 ≤ m ∧ m ≤ 9 → r = ((fac m.toNat : Int), true)) ∧ Tot (fun k => impl_OrdersOf.f k m) (fun y => y = r) ∧ Tot (fun k => spec_OrdersOf.f k m) (fun y => y = r) := by
  simp only [impl_OrdersOf.f, spec_OrdersOf.f, within_eq, l1In_eq, Option.bind_some]
  by_cases h : 0 ≤ m ∧ m ≤ 9
  · rw [decide_eq_true h]
    refine ⟨((fac m.toNat : Int), true), fun _ => rfl, Tot.pos rfl (Tot.bind (Q := fun y => y = ((fac m.toNat : Nat) : Int)) (Tot.at_ 15 rfl (fun k hk => implOrders_eq m (by omega) k (by omega))) (fun y e => Tot.some_ (by rw [e]))), Tot.pos rfl (Tot.bind (Q := fun y => y = ((fac m.toNat : Nat) : Int)) (Tot.at_ 15 rfl (fun k hk => specOrders_eq m (by omega) k (by omega))) (fun y e => Tot.some_ (by rw [e])))⟩
  · rw [decide_eq_false h]
    exact ⟨(0, false), fun h2 => absurd h2 h, Tot.neg (by simp) (Tot.some_ rfl), Tot.neg (by simp) (Tot.some_ rfl)⟩
/-! ### the law -/
theorem l3_tot (x s : List ByteArray) (t : ByteArray) (i : Nat) (hx : x.length ≤ 9) (hs : s.length ≤ 9) (hi : i < x.length) (Q : Bool → Prop) (hQ : Tot (fun k => laws_FnOrders.l1 k x s x (x.length : Int) ((i + 1 : Nat) : Int)) Q) (N : Nat)
    (hN : s.countP (fun u => decide (u.toList = t.toList)) = N) (h9 : N ≤ 9) : ∀ (d j : Nat), s.length - j = d → j ≤ s.length → Tot (fun k => laws_FnOrders.l3 k x s t ((N : Int) - ((s.take j).countP (fun u => decide (u.toList = t.toList)) : Nat)) x (x.length : Int) (i : Int) s (s.length : Int) (j : Int)) Q := by
  intro d
  induction d with
  | zero =>
    intro j hd hj
    refine Tot.up ?_
    simp only [laws_FnOrders.l3]
    rw [List.take_of_length_le (by omega), hN, w64 (n := (i : Int) + 1) (by omega) (by omega)]
    exact Tot.neg (by omega) (Tot.pos (by omega) hQ)
  | succ d ih =>
    intro j hd hj
    have hlt : j < s.length := by omega
    have h1 := ih (j + 1) (by omega) (by omega)
    rw [List.take_succ_eq_append_getElem hlt, List.countP_append, List.countP_singleton] at h1
    have hc := List.countP_le_length (p := fun u : ByteArray => decide (u.toList = t.toList)) (l := s.take j)
    rw [List.length_take] at hc
    refine Tot.up ?_
    simp only [laws_FnOrders.l3]
    rw [rdSh s j hlt, w64 (n := (j : Int) + 1) (by omega) (by omega)]
    refine Tot.pos (by omega) (Tot.pos (by omega) (Tot.pos (by omega) ?_))
    by_cases he : s[j].toList = t.toList
    · rw [decide_eq_true he, if_pos rfl] at h1
      rw [w64 (n := (N : Int) - ((s.take j).countP (fun u => decide (u.toList = t.toList)) : Nat) - 1) (by omega) (by omega)]
      refine Tot.pos he ?_
      rw [show (N : Int) - ((s.take j).countP (fun u => decide (u.toList = t.toList)) : Nat) - 1 = (N : Int) - (((s.take j).countP (fun u => decide (u.toList = t.toList)) + 1 : Nat) : Int) by omega]
      exact h1
    · rw [decide_eq_false he, if_neg (by simp), Nat.add_zero] at h1
      exact Tot.neg he h1
theorem l2_tot (x s : List ByteArray) (t : ByteArray) (i : Nat) (hx : x.length ≤ 9) (hp : s.Perm x) (hi : i < x.length) (Q : Bool → Prop) (hQ : Tot (fun k => laws_FnOrders.l1 k x s x (x.length : Int) ((i + 1 : Nat) : Int)) Q) :
    ∀ (d j : Nat), x.length - j = d → j ≤ x.length → Tot (fun k => laws_FnOrders.l2 k x s t (((x.take j).countP (fun u => decide (u.toList = t.toList)) : Nat) : Int) x (x.length : Int) (i : Int) x (x.length : Int) (j : Int)) Q := by
  have hsl := hp.length_eq
  intro d
  induction d with
  | zero =>
    intro j hd hj
    have hc := List.countP_le_length (p := fun u : ByteArray => decide (u.toList = t.toList)) (l := x)
    have h3 := l3_tot x s t i hx (by omega) hi Q hQ _ (hp.countP_eq (fun u => decide (u.toList = t.toList))) (by omega) s.length 0 (by omega) (by omega)
    simp only [List.take_zero, List.countP_nil, Int.natCast_zero, Int.sub_zero] at h3
    refine Tot.up ?_
    simp only [laws_FnOrders.l2]
    rw [List.take_of_length_le (by omega)]
    exact Tot.neg (by omega) h3
  | succ d ih =>
    intro j hd hj
    have hlt : j < x.length := by omega
    have h1 := ih (j + 1) (by omega) (by omega)
    rw [List.take_succ_eq_append_getElem hlt, List.countP_append, List.countP_singleton] at h1
    have hc := List.countP_le_length (p := fun u : ByteArray => decide (u.toList = t.toList)) (l := x.take j)
    rw [List.length_take] at hc
    refine Tot.up ?_
    simp only [laws_FnOrders.l2]
    rw [rdSh x j hlt, w64 (n := (j : Int) + 1) (by omega) (by omega)]
    refine Tot.pos (by omega) (Tot.pos (by omega) (Tot.pos (by omega) ?_))
    by_cases he : x[j].toList = t.toList
    · rw [decide_eq_true he, if_pos rfl] at h1
      rw [w64 (n := (((x.take j).countP (fun u => decide (u.toList = t.toList)) : Nat) : Int) + 1) (by omega) (by omega)]
      exact Tot.pos he h1
    · rw [decide_eq_false he, if_neg (by simp), Nat.add_zero] at h1
      exact Tot.neg he h1
theorem l1_tot (x s : List ByteArray) (hx : x.length ≤ 9) (hp : s.Perm x) : ∀ (d i : Nat), x.length - i = d → i ≤ x.length → Tot (fun k => laws_FnOrders.l1 k x s x (x.length : Int) (i : Int)) (fun y => y = true) := by
  intro d
  induction d with
  | zero =>
    intro i hd hi
    refine Tot.up ?_
    simp only [laws_FnOrders.l1]
    exact Tot.neg (by omega) (Tot.some_ rfl)
  | succ d ih =>
    intro i hd hi
    have h2 := l2_tot x s (rdOf ByteArray.empty x (i : Int)) i hx hp (by omega) _ (ih (i + 1) (by omega) (by omega)) x.length 0 (by omega) (by omega)
    simp only [List.take_zero, List.countP_nil, Int.natCast_zero] at h2
    refine Tot.up ?_
    simp only [laws_FnOrders.l1]
    exact Tot.pos (by omega) (Tot.pos (by omega) (Tot.pos (by omega) h2))
theorem number_twin (l : List Int) : ∀ k, (∀ (x : Int) (a : List Int) (b c : Int), spec_NumberOf.l0 k l x a b c = impl_NumberOf.l0 k l x a b c) ∧
    (∀ (x y z u : Int) (a : List Int) (b c : Int) (d : List Int) (e f : Int), spec_NumberOf.l1 k l x y z u a b c d e f = impl_NumberOf.l1 k l x y z u a b c d e f)
  | 0 => ⟨fun _ _ _ _ => rfl, fun _ _ _ _ _ _ _ _ _ _ => rfl⟩
  | k + 1 => by
    obtain ⟨h0, h1⟩ := number_twin l k
    refine ⟨fun _ _ _ _ => ?_, fun _ _ _ _ _ _ _ _ _ _ => ?_⟩
    · simp only [spec_NumberOf.l0, impl_NumberOf.l0, h1]
    · simp only [spec_NumberOf.l1, impl_NumberOf.l1, h0, h1, orders_eq]
theorem number_same (l : List Int) (hl : l.length ≤ 1048576) : ∃ r : Int × Bool, Tot (fun k => spec_NumberOf.f k l) (fun z => z = r) ∧ Tot (fun k => impl_NumberOf.f k l) (fun z => z = r) := by
  by_cases h : isOrd l = true
  · have h1 := implNumber_tot l h
    refine ⟨_, ?_, h1⟩
    obtain ⟨h9, _⟩ := isOrd_iff.1 h
    have h2 := numV_lt l
    have h3 := fac_le l.length (by omega)
    have h4 := num_l0 l h9 l.length 0 0 (by omega) (by omega) (by omega) (by rw [List.drop_zero]; omega)
    rw [List.drop_zero, Nat.zero_add] at h4
    simp only [spec_NumberOf.f, number_twin]
    exact Tot.bind (specOrd_tot l hl) (fun y e => Tot.pos (e.trans h) h4)
  · refine ⟨(0, false), ?_, ?_⟩
    · simp only [spec_NumberOf.f]
      exact Tot.bind (specOrd_tot l hl) (fun y e => Tot.neg (by rw [e]; exact h) (Tot.some_ rfl))
    · simp only [impl_NumberOf.f]
      exact Tot.bind (implOrd_tot l hl) (fun y e => Tot.neg (by rw [e]; exact h) (Tot.some_ rfl))
theorem j1_tot (c : List Int) (hc : Bytes c) : Tot (fun k => laws_FnOrders.j1 k c) (fun y => y = true) := by
  refine Tot.up ?_
  simp only [laws_FnOrders.j1, spec_DrawOrdersOf.f]
  refine Tot.bind (drawNum_tot c hc) (fun l hl => ?_)
  obtain ⟨r, r1, r2⟩ := number_same l (by omega)
  refine Tot.bind r2 (fun y1 e1 => Tot.bind r1 (fun y2 e2 => Tot.bind (drawShuf_tot c hc) (fun a _ => ?_)))
  obtain ⟨s, s1, s2, s3, s4⟩ := shuffle_same a.1 a.2
  refine Tot.bind s3 (fun y3 e3 => Tot.bind s4 (fun y4 e4 => Tot.bind (Q := fun _ => True) (Tot.bind (Tot.fix (pick_tot c hc 0 0 12 (by omega) (by omega))) (fun _ _ => Tot.some_ trivial)) (fun m _ => ?_)))
  obtain ⟨o, _, o1, o2⟩ := ordersOf_same m
  refine Tot.bind o1 (fun y5 e5 => Tot.bind o2 (fun y6 e6 => ?_))
  rw [e1, e2, e3, e4, e5, e6]
  refine Tot.neg (by simp) (Tot.pos rfl (Tot.neg (by simp) (Tot.bind (sameTexts_self s.1 (by omega)) (fun y7 e7 => Tot.pos e7 (Tot.neg (by simp) (Tot.pos rfl (Tot.ite (fun h => ?_) (fun _ => Tot.some_ rfl))))))))
  obtain ⟨p1, p2⟩ := s2 h
  exact l1_tot a.2 s.1 p2 p1 a.2.length 0 (by omega) (by omega)
theorem l0_tot (c : List Int) (hc : Bytes c) (o p : List Int) (ho : o.length ≤ 9) (hpo : p.length = o.length) (i : Nat) (hi : i < o.length) (he : ∀ j, j < i → p.getD j 0 = o.getD j 0) (hlt : p.getD i 0 < o.getD i 0) :
    ∀ (d j : Nat), i - j = d → j ≤ i → Tot (fun k => laws_FnOrders.l0 k c o p true false (o.length : Int) (j : Int)) (fun y => y = true) := by
  have hr : ∀ (l : List Int) (j : Nat), rd l (j : Int) = l.getD j 0 := fun _ _ => rfl
  intro d
  induction d with
  | zero =>
    intro j hd hj
    have e : j = i := by omega
    subst e
    refine Tot.up ?_
    simp only [laws_FnOrders.l0]
    rw [hr, hr]
    exact Tot.pos (by omega) (Tot.pos (by omega) (Tot.pos (by omega) (Tot.pos (by omega) (Tot.neg (by omega) (Tot.pos (by first | rfl | trivial) (Tot.pos hlt (j1_tot c hc)))))))
  | succ d ih =>
    intro j hd hj
    refine Tot.up ?_
    simp only [laws_FnOrders.l0]
    rw [hr, hr, w64 (n := (j : Int) + 1) (by omega) (by omega)]
    exact Tot.pos (by omega) (Tot.pos (by omega) (Tot.pos (by omega) (Tot.pos (by omega) (Tot.pos (he j (by omega)) (ih (j + 1) (by omega) (by omega))))))
theorem FnOrders : laws_FnOrders.Pure := by
  intro l0 l1 hm0 hx0 hw0 hm1 hx1 hw1
  have hmx : maxLen = 9223372036854775807 := rfl
  refine Tot.ex ?_
  simp only [laws_FnOrders.f]
  rw [w64 (n := (l0.length : Int) + (l1.length : Int)) (by omega) (by omega)]
  refine Tot.ite (fun _ => Tot.some_ rfl) (fun hlen => ?_)
  have hb0 : Bytes l0 := bytes_of (by omega) hw0
  have hb1 : Bytes l1 := bytes_of (by omega) hw1
  have hj := j1_tot l1 hb1
  refine Tot.bind (drawAt_tot l0 hb0) (fun a _ => ?_)
  obtain ⟨m, n⟩ := a
  have hal := atV_length m n
  refine Tot.bind (implOrderAt_tot m n) (fun y1 e1 => Tot.bind (specOrderAt_tot m n) (fun y2 e2 => ?_))
  rw [e1, e2]
  refine Tot.neg (by simp) (Tot.bind (sameInts_self _ (by omega)) (fun y3 e3 => Tot.pos e3 (Tot.ite (fun hok => ?_) (fun _ => hj))))
  have hg : (0 ≤ m ∧ m ≤ 9) ∧ (0 ≤ n ∧ n ≤ (fac m.toNat : Int) - 1) := by
    unfold atV at hok
    split at hok
    · assumption
    · cases hok
  obtain ⟨hm, hn⟩ := hg
  have hv : atV m n = (lehm m.toNat (firsts m.toNat) n.toNat, true) := by
    unfold atV
    rw [if_pos ⟨hm, hn⟩]
  rw [hv]
  have hnf : n.toNat < fac m.toNat := by omega
  have ho := lehm_ord m.toNat n.toNat (by omega) hnf
  have hnum := num_lehm m.toNat (firsts m.toNat) n.toNat (firsts_length _) hnf (firsts_sorted _)
  have hl := lehm_length m.toNat (firsts m.toNat) n.toNat
  obtain ⟨r, r1, r2, _⟩ := ordersOf_same m
  have hr := r1 hm
  refine Tot.bind (implNumber_tot _ ho) (fun y4 e4 => Tot.bind r2 (fun y5 e5 => ?_))
  rw [e4, e5, hr, hnum]
  refine Tot.pos rfl (Tot.pos (by simp only; omega) (Tot.pos rfl (Tot.neg (by simp only; omega) (Tot.pos (by simp only; omega) (Tot.ite (fun h0 => ?_) (fun _ => hj))))))
  simp only at h0 ⊢
  have hfl := fac_le m.toNat (by omega)
  rw [w64 (n := n - 1) (by omega) (by omega)]
  refine Tot.bind (implOrderAt_tot m (n - 1)) (fun y6 e6 => ?_)
  have hv2 : atV m (n - 1) = (lehm m.toNat (firsts m.toNat) (n.toNat - 1), true) := by
    unfold atV
    rw [if_pos ⟨hm, by omega⟩, show (n - 1).toNat = n.toNat - 1 by omega]
  rw [e6, hv2]
  obtain ⟨i, h1, h2, h3⟩ := lehm_less m.toNat (firsts m.toNat) n.toNat (firsts_length _) (by omega) hnf (firsts_sorted _)
  exact l0_tot l1 hb1 _ _ (by omega) (by rw [lehm_length, lehm_length]) i (by omega) h2 h3 i 0 (by omega) (by omega)

end Go.Proofs.Ytebpikejljgfgaa.Pure
