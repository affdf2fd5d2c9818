/- Proved: NumberOf of the program and of the reference answer alike at all arguments. Conditions: those of the given statement alone. -/
import Derived.Test.YtbjoddpaefecmaaPFnExactNumberOfx3
import Derived.Test.YtbjoddpaefecmaaBase
set_option linter.unusedVariables false
set_option linter.unusedSimpArgs false
namespace Go.Proofs.Ytbjoddpaefecmaa.Pure
open Go.RowKit Go.Proofs.Ytbjoddpaefecmaa.PFnExactNumberOf Go.Proofs.Ytbjoddpaefecmaa.Base Go.Proofs.YtbjoddpaefecmaaW.PrintWords Go.Proofs.YtbjoddpaefecmaaW.PrintLast Go.Proofs.YtbjoddpaefecmaaW.PrintMore Go.Proofs.Ytbjoddpaefecmaa

theorem toIntS_l0 (l : List Int) (hl : l.length ≤ 1048576) : ∀ (d k i : Nat) (out : List Int), l.length - i = d → d < k → i ≤ l.length → out.length = l.length → out.take i = l.take i → laws_toIntS.l0 k l out (i : Int) = some l := by
  intro d
  induction d with
  | zero =>
    intro k i out hd hk hi ho ht
    obtain ⟨k, rfl⟩ := rounds hk
    simp only [laws_toIntS.l0]
    rw [if_neg (by omega), take_all out l i ht (by omega) (by omega)]
  | succ d ih =>
    intro k i out hd hk hi ho ht
    obtain ⟨k, rfl⟩ := rounds hk
    simp only [laws_toIntS.l0]
    rw [if_pos (by omega), if_pos (by omega), if_pos (by omega), w64 (by omega) (by omega), Int.toNat_natCast, rd_in l i (by omega)]
    exact ih k (i + 1) _ (by omega) (by omega) (by omega) (by rw [List.length_set]; exact ho) (take_set out l i _ ht (by omega) (by omega) rfl)

theorem toIntS_eq (l : List Int) (hl : l.length ≤ 1048576) (k : Nat) (hk : l.length < k) : laws_toIntS.f k l = some l := by
  unfold laws_toIntS.f
  rw [if_pos (by omega), if_pos (by omega)]
  exact toIntS_l0 l hl l.length k 0 _ (by omega) hk (by omega) (by simp) (by simp)

theorem eqIntS_l0 (l : List Int) (hl : l.length ≤ 1048576) : ∀ (d k i : Nat), l.length - i = d → d < k → laws_eqIntS.l0 k l l (i : Int) = some true := by
  intro d
  induction d with
  | zero =>
    intro k i hd hk
    obtain ⟨k, rfl⟩ := rounds hk
    simp only [laws_eqIntS.l0]
    rw [if_neg (by omega)]
  | succ d ih =>
    intro k i hd hk
    obtain ⟨k, rfl⟩ := rounds hk
    simp only [laws_eqIntS.l0]
    rw [if_pos (by omega), if_pos (by omega), if_pos (by omega), if_pos trivial, w64 (by omega) (by omega)]
    exact ih k (i + 1) (by omega) (by omega)

theorem eqIntS_self (l : List Int) (hl : l.length ≤ 1048576) (k : Nat) (hk : l.length < k) : laws_eqIntS.f k l l = some true := by
  unfold laws_eqIntS.f
  rw [if_pos rfl]
  exact eqIntS_l0 l hl l.length k 0 (by omega) hk

theorem toIntS_tot (l : List Int) (hl : l.length ≤ 1048576) : Tot (fun k => laws_toIntS.f k l) (fun y => y = l) := Tot.at_ (l.length + 1) rfl (fun k hk => toIntS_eq l hl k (by omega))
theorem eqIntS_tot (l : List Int) (hl : l.length ≤ 1048576) : Tot (fun k => laws_eqIntS.f k l l) (fun y => y = true) := Tot.at_ (l.length + 1) rfl (fun k hk => eqIntS_self l hl k (by omega))

theorem index_l0 (l : List Int) (hl : l.length ≤ 1048576) (v : Int) : ∀ (d k i : Nat), l.length - i = d → d < k → i ≤ l.length → ∃ r, slices_Index_int_int.l0 k l v (l.length : Int) (i : Int) = some r ∧ (r ≥ 0 ↔ v ∈ l.drop i) := by
  intro d
  induction d with
  | zero =>
    intro k i hd hk hi
    obtain ⟨k, rfl⟩ := rounds hk
    refine ⟨-1, ?_, ?_⟩
    · simp only [slices_Index_int_int.l0]
      rw [if_neg (by omega)]
    · rw [List.drop_of_length_le (by omega)]
      simp
  | succ d ih =>
    intro k i hd hk hi
    obtain ⟨k, rfl⟩ := rounds hk
    simp only [slices_Index_int_int.l0]
    rw [if_pos (by omega), if_pos (by omega), if_pos (by omega), rd_in l i (by omega), w64 (by omega) (by omega)]
    have hdrop := List.drop_eq_getElem_cons (show i < l.length by omega)
    by_cases e : v = l[i]
    · exact ⟨i, by rw [if_pos e], by rw [hdrop, ← e]; simp⟩
    · obtain ⟨r, hr, h⟩ := ih k (i + 1) (by omega) (by omega) (by omega)
      refine ⟨r, by rw [if_neg e]; exact hr, ?_⟩
      rw [h, hdrop, List.mem_cons]
      exact ⟨fun h => .inr h, fun h => h.resolve_left e⟩

theorem contains_eq (l : List Int) (hl : l.length ≤ 1048576) (v : Int) (k : Nat) (hk : l.length < k) : slices_Contains_int_int.f k l v = some (decide (v ∈ l)) := by
  obtain ⟨r, hr, h⟩ := index_l0 l hl v l.length k 0 (by omega) hk (by omega)
  unfold slices_Contains_int_int.f slices_Index_int_int.f
  have hr' : slices_Index_int_int.l0 k l v (l.length : Int) 0 = some r := hr
  rw [hr']
  simp only [Option.bind_some]
  rw [List.drop_zero] at h
  congr 1
  exact decide_eq_decide.2 h

theorem l1In_eq (a b c : Int) : spec_l1In.f a b c = some (decide (b ≤ a ∧ a ≤ c)) := by
  unfold spec_l1In.f
  by_cases h : a ≥ b
  · rw [if_pos h]
    congr 1
    exact decide_eq_decide.2 ⟨fun h1 => ⟨h, h1⟩, fun h1 => h1.2⟩
  · rw [if_neg h, decide_eq_false (fun h1 => h h1.1)]

theorem l1Has_l0 (l : List Int) (hl : l.length ≤ 1048576) (v : Int) : ∀ (d k i : Nat), l.length - i = d → d < k → i ≤ l.length → spec_l1Has.l0 k v l (l.length : Int) (i : Int) = some (decide (v ∈ l.drop i)) := by
  intro d
  induction d with
  | zero =>
    intro k i hd hk hi
    obtain ⟨k, rfl⟩ := rounds hk
    simp only [spec_l1Has.l0]
    rw [if_neg (by omega), List.drop_of_length_le (by omega)]
    simp
  | succ d ih =>
    intro k i hd hk hi
    obtain ⟨k, rfl⟩ := rounds hk
    simp only [spec_l1Has.l0]
    rw [if_pos (by omega), if_pos (by omega), if_pos (by omega), rd_in l i (by omega), w64 (by omega) (by omega), List.drop_eq_getElem_cons (show i < l.length by omega)]
    by_cases e : l[i] = v
    · rw [if_pos e]
      simp [e]
    · have h := ih k (i + 1) (by omega) (by omega) (by omega)
      rw [if_neg e]
      have h' : spec_l1Has.l0 k v l (l.length : Int) ((i : Int) + 1) = some (decide (v ∈ l.drop (i + 1))) := h
      rw [h']
      congr 1
      refine decide_eq_decide.2 ?_
      rw [List.mem_cons]
      exact ⟨fun h => .inr h, fun h => h.resolve_left (fun h => e h.symm)⟩

theorem l1Has_eq (l : List Int) (hl : l.length ≤ 1048576) (v : Int) (k : Nat) (hk : l.length < k) : spec_l1Has.f k l v = some (decide (v ∈ l)) := by
  have h := l1Has_l0 l hl v l.length k 0 (by omega) hk (by omega)
  rw [List.drop_zero] at h
  exact h

theorem implIsOrder_l0 (l : List Int) (hl : l.length ≤ 1048576) : ∀ (d k i : Nat), l.length - i = d → d + l.length < k → i ≤ l.length → ∃ b, impl_IsOrder.l0 k l (l.length : Int) (i : Int) = some b ∧ (b = true ↔ l.length ≤ 9 ∧ ∀ v : Int, (i : Int) ≤ v → v < l.length → v ∈ l) := by
  intro d
  induction d with
  | zero =>
    intro k i hd hk hi
    obtain ⟨k, rfl⟩ := rounds hk
    refine ⟨decide ((l.length : Int) ≤ 9), ?_, ?_⟩
    · simp only [impl_IsOrder.l0]
      rw [if_neg (by omega)]
    · rw [decide_eq_true_iff]
      exact ⟨fun h => ⟨by omega, fun v _ _ => by omega⟩, fun h => by omega⟩
  | succ d ih =>
    intro k i hd hk hi
    obtain ⟨k, rfl⟩ := rounds hk
    simp only [impl_IsOrder.l0]
    rw [if_pos (by omega), w64 (by omega) (by omega)]
    obtain ⟨b, hb, h⟩ := ih k (i + 1) (by omega) (by omega) (by omega)
    have hb' : impl_IsOrder.l0 k l (l.length : Int) ((i : Int) + 1) = some b := hb
    rw [hb', contains_eq l hl _ k (by omega)]
    by_cases h9 : (i : Int) < 9
    · rw [if_pos h9]
      simp only [Option.bind_some]
      by_cases hm : (i : Int) ∈ l
      · refine ⟨b, by rw [decide_eq_true hm, if_pos rfl], ?_⟩
        rw [h]
        refine ⟨fun ⟨h1, h2⟩ => ⟨h1, fun v h3 h4 => ?_⟩, fun ⟨h1, h2⟩ => ⟨h1, fun v h3 h4 => h2 v (by omega) h4⟩⟩
        by_cases e : v = (i : Int)
        · rw [e]; exact hm
        · exact h2 v (by omega) h4
      · refine ⟨false, by rw [decide_eq_false hm, if_neg (by simp)], ?_⟩
        refine ⟨(fun hf => by cases hf), fun ⟨h1, h2⟩ => absurd (h2 i (by omega) (by omega)) hm⟩
    · refine ⟨b, by rw [if_neg h9], ?_⟩
      rw [h]
      exact ⟨fun ⟨h1, h2⟩ => by omega, fun ⟨h1, h2⟩ => by omega⟩

theorem implIsOrder_eq (l : List Int) (hl : l.length ≤ 1048576) (k : Nat) (hk : l.length + l.length < k) : ∃ b, impl_IsOrder.f k l = some b ∧ (b = true ↔ l.length ≤ 9 ∧ Ord l) := by
  obtain ⟨b, hb, h⟩ := implIsOrder_l0 l hl l.length k 0 (by omega) hk (by omega)
  refine ⟨b, hb, ?_⟩
  rw [h]
  refine and_congr_right fun _ => ⟨fun h => ord_of_has (fun v h0 h1 => h v (by omega) h1), fun h v h0 h1 => h.has v (by omega) h1⟩

theorem specOrder_l0 (l : List Int) (hl : l.length ≤ 1048576) : ∀ (d k i : Nat), l.length - i = d → d + l.length < k → i ≤ l.length → (l.take i).Nodup → (∀ x ∈ l.take i, 0 ≤ x ∧ x < l.length) →
    ∃ b, spec_l4Order.l0 k l l (l.length : Int) (i : Int) = some b ∧ (b = true ↔ l.length ≤ 9 ∧ Ord l) := by
  intro d
  induction d with
  | zero =>
    intro k i hd hk hi hn hr
    obtain ⟨k, rfl⟩ := rounds hk
    refine ⟨decide ((l.length : Int) ≤ 9), ?_, ?_⟩
    · simp only [spec_l4Order.l0]
      rw [if_neg (by omega)]
    · rw [decide_eq_true_iff]
      rw [List.take_of_length_le (by omega)] at hn hr
      exact ⟨fun h => ⟨by omega, hn, hr⟩, fun h => by omega⟩
  | succ d ih =>
    intro k i hd hk hi hn hr
    obtain ⟨k, rfl⟩ := rounds hk
    have hlt : i < l.length := by omega
    simp only [spec_l4Order.l0]
    rw [if_pos (by omega), if_pos (by omega), if_pos (by omega), w64 (n := (i : Int) + 1) (by omega) (by omega), w64 (n := (l.length : Int) - 1) (by omega) (by omega), rd_in l i hlt, l1In_eq]
    simp only [Option.bind_some]
    have htk : l.take (i + 1) = l.take i ++ [l[i]] := by rw [List.take_succ_eq_append_getElem hlt]
    by_cases h1 : 0 ≤ l[i] ∧ l[i] ≤ (l.length : Int) - 1
    · rw [decide_eq_true h1, if_pos rfl, if_pos (by omega), Int.toNat_natCast, l1Has_eq (l.take i) (by rw [List.length_take]; omega) _ k (by rw [List.length_take]; omega)]
      simp only [Option.bind_some]
      by_cases hm : l[i] ∈ l.take i
      · refine ⟨false, by rw [decide_eq_true hm, if_pos rfl], (fun hf => by cases hf), fun ⟨_, ho⟩ => ?_⟩
        exfalso
        have h2 := List.take_append_drop (i + 1) l
        have h3 : ((l.take i ++ [l[i]]) ++ l.drop (i + 1)).Nodup := by rw [← htk, h2]; exact ho.1
        have h4 := (List.nodup_append.1 (List.nodup_append.1 h3).1).2.2 _ hm l[i] (by simp)
        exact h4 rfl
      · rw [decide_eq_false hm, if_neg (by simp)]
        refine ih k (i + 1) (by omega) (by omega) (by omega) ?_ ?_
        · rw [htk]
          refine List.nodup_append.2 ⟨hn, by simp, fun a ha b hb e => ?_⟩
          rw [List.mem_singleton] at hb
          exact hm (by rw [← hb, ← e]; exact ha)
        · intro x hx
          rw [htk] at hx
          rcases List.mem_append.1 hx with hx | hx
          · exact hr x hx
          · rw [List.mem_singleton.1 hx]
            omega
    · refine ⟨false, by rw [decide_eq_false h1, if_neg (by simp)], (fun hf => by cases hf), fun ⟨_, ho⟩ => ?_⟩
      exact absurd (by have := ho.2 l[i] (List.getElem_mem hlt); omega) h1

theorem specOrder_eq (l : List Int) (hl : l.length ≤ 1048576) (k : Nat) (hk : l.length + l.length < k) : ∃ b, spec_l4Order.f k l = some b ∧ (b = true ↔ l.length ≤ 9 ∧ Ord l) :=
  specOrder_l0 l hl l.length k 0 (by omega) hk (by omega) (by simp) (by simp)

/-- Both say the same of an order, with rounds enough. -/
theorem orders_same (l : List Int) (hl : l.length ≤ 1048576) (k : Nat) (hk : l.length + l.length < k) :
    ∃ b, spec_l4Order.f k l = some b ∧ impl_IsOrder.f k l = some b ∧ (b = true ↔ l.length ≤ 9 ∧ Ord l) := by
  obtain ⟨b, h1, h2⟩ := specOrder_eq l hl k hk
  obtain ⟨c, h3, h4⟩ := implIsOrder_eq l hl k hk
  have e : b = c := by
    rw [Bool.eq_iff_iff, h2, h4]
  exact ⟨b, h1, e ▸ h3, h2⟩

/-- Is it an order? -/
instance (l : List Int) : Decidable (Ord l) := inferInstanceAs (Decidable (l.Nodup ∧ _))
def isOrd (l : List Int) : Bool := decide (l.length ≤ 9 ∧ Ord l)
theorem isOrd_iff {l : List Int} : isOrd l = true ↔ l.length ≤ 9 ∧ Ord l := by
  unfold isOrd
  rw [decide_eq_true_iff]
theorem specOrd_tot (l : List Int) (hl : l.length ≤ 1048576) : Tot (fun k => spec_l4Order.f k l) (fun y => y = isOrd l) := Tot.at_ (l.length + l.length + 1) rfl (fun k hk => by
  obtain ⟨b, h1, h2⟩ := specOrder_eq l hl k (by omega)
  rw [h1, show b = isOrd l by rw [Bool.eq_iff_iff, h2, isOrd_iff]])
theorem implOrd_tot (l : List Int) (hl : l.length ≤ 1048576) : Tot (fun k => impl_IsOrder.f k l) (fun y => y = isOrd l) := Tot.at_ (l.length + l.length + 1) rfl (fun k hk => by
  obtain ⟨b, h1, h2⟩ := implIsOrder_eq l hl k (by omega)
  rw [h1, show b = isOrd l by rw [Bool.eq_iff_iff, h2, isOrd_iff]])

theorem orders_twin (n : Int) : ∀ (k : Nat) (x i : Int), spec_l4Orders.l0 k n x i = impl_orders.l0 k n x i
  | 0, _, _ => rfl
  | k + 1, x, i => by
    simp only [spec_l4Orders.l0, impl_orders.l0, orders_twin n k]
theorem orders_eq (k : Nat) (n : Int) : spec_l4Orders.f k n = impl_orders.f k n := orders_twin n k 1 2
theorem number_twin (l : List Int) : ∀ k, (∀ (x : Int) (a : List Int) (b c : Int), spec_NumberOf.l0 k l x a b c = impl_NumberOf.l0 k l x a b c) ∧
    (∀ (x y z u : Int) (a : List Int) (b c : Int) (d : List Int) (e f : Int), spec_NumberOf.l1 k l x y z u a b c d e f = impl_NumberOf.l1 k l x y z u a b c d e f)
  | 0 => ⟨fun _ _ _ _ => rfl, fun _ _ _ _ _ _ _ _ _ _ => rfl⟩
  | k + 1 => by
    obtain ⟨h0, h1⟩ := number_twin l k
    refine ⟨fun _ _ _ _ => ?_, fun _ _ _ _ _ _ _ _ _ _ => ?_⟩
    · simp only [spec_NumberOf.l0, impl_NumberOf.l0, h1]
    · simp only [spec_NumberOf.l1, impl_NumberOf.l1, h0, h1, orders_eq]
theorem orders_tot (n : Int) (hn : n ≤ 100) : ∀ (d : Nat) (x i : Int), n + 1 - i ≤ d → 2 ≤ i → i ≤ 200 → Tot (fun k => impl_orders.l0 k n x i) (fun _ => True) := by
  intro d
  induction d with
  | zero =>
    intro x i hd h2 h3
    refine Tot.up ?_
    simp only [impl_orders.l0]
    exact Tot.neg (by omega) (Tot.some_ trivial)
  | succ d ih =>
    intro x i hd h2 h3
    refine Tot.up ?_
    simp only [impl_orders.l0]
    refine Tot.ite (fun hc => ?_) (fun hc => Tot.some_ trivial)
    rw [w64 (n := i + 1) (by omega) (by omega)]
    exact ih _ _ (by omega) (by omega) (by omega)
theorem number_tot' (l : List Int) (h9 : l.length ≤ 9) : ∀ (d i : Nat) (x : Int), l.length - i = d → i ≤ l.length → Tot (fun k => impl_NumberOf.l0 k l x l (l.length : Int) (i : Int)) (fun _ => True) := by
  intro d
  induction d with
  | zero =>
    intro i x hd hi
    refine Tot.up ?_
    simp only [impl_NumberOf.l0]
    exact Tot.neg (by omega) (Tot.some_ trivial)
  | succ d ih =>
    intro i x hd hi
    refine Tot.up ?_
    simp only [impl_NumberOf.l0]
    have ew : wrap64 ((i : Int) + 1) = ((i + 1 : Nat) : Int) := by rw [w64 (by omega) (by omega)]; rfl
    rw [ew, Int.toNat_natCast]
    refine Tot.pos (by omega) (Tot.pos (by omega) (Tot.pos (by omega) (Tot.pos (by omega) (Tot.pos (by omega) ?_))))
    have key : ∀ (d2 j : Nat) (u : Int), (l.drop (i + 1)).length - j = d2 → j ≤ (l.drop (i + 1)).length → Tot (fun k => impl_NumberOf.l1 k l x (i : Int) (rd l (i : Int)) u l (l.length : Int) (i : Int) (l.drop (i + 1)) ((l.drop (i + 1)).length : Int) (j : Int)) (fun _ => True) := by
      intro d2
      induction d2 with
      | zero =>
        intro j u hd2 hj
        refine Tot.up ?_
        simp only [impl_NumberOf.l1, impl_orders.f]
        refine Tot.neg (by omega) ?_
        rw [ew, w64 (n := (l.length : Int) - 1) (by omega) (by omega), w64 (n := (l.length : Int) - 1 - (i : Int)) (by omega) (by omega)]
        exact Tot.bind (orders_tot _ (by omega) 100 1 2 (by omega) (by omega) (by omega)) (fun y _ => ih (i + 1) _ (by omega) (by omega))
      | succ d2 ih2 =>
        intro j u hd2 hj
        have hjl : (l.drop (i + 1)).length ≤ 9 := by rw [List.length_drop]; omega
        refine Tot.up ?_
        simp only [impl_NumberOf.l1]
        rw [show wrap64 ((j : Int) + 1) = ((j + 1 : Nat) : Int) by rw [w64 (by omega) (by omega)]; rfl]
        exact Tot.pos (by omega) (Tot.pos (by omega) (Tot.pos (by omega) (Tot.ite (fun _ => ih2 (j + 1) _ (by omega) (by omega)) (fun _ => ih2 (j + 1) _ (by omega) (by omega)))))
    exact key _ 0 0 rfl (by omega)
theorem number_same (l : List Int) (hl : l.length ≤ 1048576) : ∃ r : Int × Bool, Tot (fun k => spec_NumberOf.f k l) (fun z => z = r) ∧ Tot (fun k => impl_NumberOf.f k l) (fun z => z = r) := by
  simp only [spec_NumberOf.f, impl_NumberOf.f]
  by_cases h : isOrd l = true
  · obtain ⟨h9, ho⟩ := isOrd_iff.1 h
    obtain ⟨y, _, h1⟩ := (number_tot' l h9 _ 0 0 rfl (by omega)).val
    refine ⟨y, ?_, ?_⟩
    · simp only [(number_twin l _).1]
      exact Tot.bind (specOrd_tot l hl) (fun y1 e1 => Tot.pos (e1.trans h) h1)
    · exact Tot.bind (implOrd_tot l hl) (fun y1 e1 => Tot.pos (e1.trans h) h1)
  · refine ⟨(0, false), ?_, ?_⟩
    · exact Tot.bind (specOrd_tot l hl) (fun y1 e1 => Tot.neg (by rw [e1]; exact h) (Tot.some_ rfl))
    · exact Tot.bind (implOrd_tot l hl) (fun y1 e1 => Tot.neg (by rw [e1]; exact h) (Tot.some_ rfl))
theorem FnExactNumberOf : laws_FnExactNumberOf.Pure := by
  intro l _ _ _
  refine Tot.ex ?_
  simp only [laws_FnExactNumberOf.f]
  refine Tot.ite (fun _ => Tot.some_ rfl) (fun hl => ?_)
  have hl : l.length ≤ 1048576 := by omega
  obtain ⟨r, h1, h2⟩ := number_same l hl
  refine Tot.bind (toIntS_tot l hl) (fun y1 e1 => ?_)
  rw [e1]
  refine Tot.bind h1 (fun y2 e2 => Tot.bind (toIntS_tot l hl) (fun y3 e3 => ?_))
  rw [e2, e3]
  refine Tot.bind h2 (fun y4 e4 => ?_)
  rw [e4]
  refine Tot.pos rfl (Tot.up ?_)
  simp only [laws_FnExactNumberOf.j0, bne_self_eq_false]
  refine Tot.neg (by simp) (Tot.bind (toIntS_tot l hl) (fun y5 e5 => ?_))
  rw [e5]
  exact Tot.bind (eqIntS_tot l hl) (fun y6 e6 => Tot.pos e6 (Tot.some_ rfl))

end Go.Proofs.Ytbjoddpaefecmaa.Pure
