/- Proved: LengthOf of the program and of the reference answer alike at all arguments. Conditions: those of the given statement alone. -/
import Derived.Test.YtnbcldlkhmmimaaPFnExactLengthOfx4
import Derived.Test.YtnbcldlkhmmimaaBase
set_option linter.unusedVariables false
set_option linter.unusedSimpArgs false
namespace Go.Proofs.Ytnbcldlkhmmimaa.Pure
open Go.RowKit Go.Proofs.Ytnbcldlkhmmimaa.PFnExactLengthOf Go.Proofs.Ytnbcldlkhmmimaa.Base Go.Proofs.YtnbcldlkhmmimaaW.PrintWords Go.Proofs.YtnbcldlkhmmimaaW.PrintLast Go.Proofs.YtnbcldlkhmmimaaW.PrintMore

theorem toIntS_l0 (l : List Int) (hl : l.length ≤ 1048576) : ∀ (d k i : Nat) (out : List Int), l.length - i = d → d < k → i ≤ l.length → out.length = l.length → out.take i = l.take i → laws_toIntS.l0 k l out (i : Int) = some l := by
  intro d
  induction d with
  | zero =>
    intro k i out hd hk hi ho ht
    obtain ⟨k, rfl⟩ := rounds hk
    simp only [laws_toIntS.l0]
    rw [if_neg (by omega), take_all out l i ht (by omega) (by omega)]
  | succ d ih =>
    intro k i out hd hk hi ho ht
    obtain ⟨k, rfl⟩ := rounds hk
    simp only [laws_toIntS.l0]
    rw [if_pos (by omega), if_pos (by omega), if_pos (by omega), w64 (by omega) (by omega), Int.toNat_natCast, rd_in l i (by omega)]
    exact ih k (i + 1) _ (by omega) (by omega) (by omega) (by rw [List.length_set]; exact ho) (take_set out l i _ ht (by omega) (by omega) rfl)

theorem toIntS_eq (l : List Int) (hl : l.length ≤ 1048576) (k : Nat) (hk : l.length < k) : laws_toIntS.f k l = some l := by
  unfold laws_toIntS.f
  rw [if_pos (by omega), if_pos (by omega)]
  exact toIntS_l0 l hl l.length k 0 _ (by omega) hk (by omega) (by simp) (by simp)

theorem eqIntS_l0 (l : List Int) (hl : l.length ≤ 1048576) : ∀ (d k i : Nat), l.length - i = d → d < k → laws_eqIntS.l0 k l l (i : Int) = some true := by
  intro d
  induction d with
  | zero =>
    intro k i hd hk
    obtain ⟨k, rfl⟩ := rounds hk
    simp only [laws_eqIntS.l0]
    rw [if_neg (by omega)]
  | succ d ih =>
    intro k i hd hk
    obtain ⟨k, rfl⟩ := rounds hk
    simp only [laws_eqIntS.l0]
    rw [if_pos (by omega), if_pos (by omega), if_pos (by omega), if_pos trivial, w64 (by omega) (by omega)]
    exact ih k (i + 1) (by omega) (by omega)

theorem eqIntS_self (l : List Int) (hl : l.length ≤ 1048576) (k : Nat) (hk : l.length < k) : laws_eqIntS.f k l l = some true := by
  unfold laws_eqIntS.f
  rw [if_pos rfl]
  exact eqIntS_l0 l hl l.length k 0 (by omega) hk

theorem toIntS_tot (l : List Int) (hl : l.length ≤ 1048576) : Tot (fun k => laws_toIntS.f k l) (fun y => y = l) := Tot.at_ (l.length + 1) rfl (fun k hk => toIntS_eq l hl k (by omega))
theorem eqIntS_tot (l : List Int) (hl : l.length ≤ 1048576) : Tot (fun k => laws_eqIntS.f k l l) (fun y => y = true) := Tot.at_ (l.length + 1) rfl (fun k hk => eqIntS_self l hl k (by omega))

theorem index_l0 (l : List Int) (hl : l.length ≤ 1048576) (v : Int) : ∀ (d k i : Nat), l.length - i = d → d < k → i ≤ l.length → ∃ r, slices_Index_int_int.l0 k l v (l.length : Int) (i : Int) = some r ∧ (r ≥ 0 ↔ v ∈ l.drop i) := by
  intro d
  induction d with
  | zero =>
    intro k i hd hk hi
    obtain ⟨k, rfl⟩ := rounds hk
    refine ⟨-1, ?_, ?_⟩
    · simp only [slices_Index_int_int.l0]
      rw [if_neg (by omega)]
    · rw [List.drop_of_length_le (by omega)]
      simp
  | succ d ih =>
    intro k i hd hk hi
    obtain ⟨k, rfl⟩ := rounds hk
    simp only [slices_Index_int_int.l0]
    rw [if_pos (by omega), if_pos (by omega), if_pos (by omega), rd_in l i (by omega), w64 (by omega) (by omega)]
    have hdrop := List.drop_eq_getElem_cons (show i < l.length by omega)
    by_cases e : v = l[i]
    · exact ⟨i, by rw [if_pos e], by rw [hdrop, ← e]; simp⟩
    · obtain ⟨r, hr, h⟩ := ih k (i + 1) (by omega) (by omega) (by omega)
      refine ⟨r, by rw [if_neg e]; exact hr, ?_⟩
      rw [h, hdrop, List.mem_cons]
      exact ⟨fun h => .inr h, fun h => h.resolve_left e⟩

theorem contains_eq (l : List Int) (hl : l.length ≤ 1048576) (v : Int) (k : Nat) (hk : l.length < k) : slices_Contains_int_int.f k l v = some (decide (v ∈ l)) := by
  obtain ⟨r, hr, h⟩ := index_l0 l hl v l.length k 0 (by omega) hk (by omega)
  unfold slices_Contains_int_int.f slices_Index_int_int.f
  have hr' : slices_Index_int_int.l0 k l v (l.length : Int) 0 = some r := hr
  rw [hr']
  simp only [Option.bind_some]
  rw [List.drop_zero] at h
  congr 1
  exact decide_eq_decide.2 h

theorem l1In_eq (a b c : Int) : spec_l1In.f a b c = some (decide (b ≤ a ∧ a ≤ c)) := by
  unfold spec_l1In.f
  by_cases h : a ≥ b
  · rw [if_pos h]
    congr 1
    exact decide_eq_decide.2 ⟨fun h1 => ⟨h, h1⟩, fun h1 => h1.2⟩
  · rw [if_neg h, decide_eq_false (fun h1 => h h1.1)]

theorem l1Has_l0 (l : List Int) (hl : l.length ≤ 1048576) (v : Int) : ∀ (d k i : Nat), l.length - i = d → d < k → i ≤ l.length → spec_l1Has.l0 k v l (l.length : Int) (i : Int) = some (decide (v ∈ l.drop i)) := by
  intro d
  induction d with
  | zero =>
    intro k i hd hk hi
    obtain ⟨k, rfl⟩ := rounds hk
    simp only [spec_l1Has.l0]
    rw [if_neg (by omega), List.drop_of_length_le (by omega)]
    simp
  | succ d ih =>
    intro k i hd hk hi
    obtain ⟨k, rfl⟩ := rounds hk
    simp only [spec_l1Has.l0]
    rw [if_pos (by omega), if_pos (by omega), if_pos (by omega), rd_in l i (by omega), w64 (by omega) (by omega), List.drop_eq_getElem_cons (show i < l.length by omega)]
    by_cases e : l[i] = v
    · rw [if_pos e]
      simp [e]
    · have h := ih k (i + 1) (by omega) (by omega) (by omega)
      rw [if_neg e]
      have h' : spec_l1Has.l0 k v l (l.length : Int) ((i : Int) + 1) = some (decide (v ∈ l.drop (i + 1))) := h
      rw [h']
      congr 1
      refine decide_eq_decide.2 ?_
      rw [List.mem_cons]
      exact ⟨fun h => .inr h, fun h => h.resolve_left (fun h => e h.symm)⟩

theorem l1Has_eq (l : List Int) (hl : l.length ≤ 1048576) (v : Int) (k : Nat) (hk : l.length < k) : spec_l1Has.f k l v = some (decide (v ∈ l)) := by
  have h := l1Has_l0 l hl v l.length k 0 (by omega) hk (by omega)
  rw [List.drop_zero] at h
  exact h

theorem implIsOrder_l0 (l : List Int) (hl : l.length ≤ 1048576) : ∀ (d k i : Nat), l.length - i = d → d + l.length < k → i ≤ l.length → ∃ b, impl_IsOrder.l0 k l (l.length : Int) (i : Int) = some b ∧ (b = true ↔ l.length ≤ 9 ∧ ∀ v : Int, (i : Int) ≤ v → v < l.length → v ∈ l) := by
  intro d
  induction d with
  | zero =>
    intro k i hd hk hi
    obtain ⟨k, rfl⟩ := rounds hk
    refine ⟨decide ((l.length : Int) ≤ 9), ?_, ?_⟩
    · simp only [impl_IsOrder.l0]
      rw [if_neg (by omega)]
    · rw [decide_eq_true_iff]
      exact ⟨fun h => ⟨by omega, fun v _ _ => by omega⟩, fun h => by omega⟩
  | succ d ih =>
    intro k i hd hk hi
    obtain ⟨k, rfl⟩ := rounds hk
    simp only [impl_IsOrder.l0]
    rw [if_pos (by omega), w64 (by omega) (by omega)]
    obtain ⟨b, hb, h⟩ := ih k (i + 1) (by omega) (by omega) (by omega)
    have hb' : impl_IsOrder.l0 k l (l.length : Int) ((i : Int) + 1) = some b := hb
    rw [hb', contains_eq l hl _ k (by omega)]
    by_cases h9 : (i : Int) < 9
    · rw [if_pos h9]
      simp only [Option.bind_some]
      by_cases hm : (i : Int) ∈ l
      · refine ⟨b, by rw [decide_eq_true hm, if_pos rfl], ?_⟩
        rw [h]
        refine ⟨fun ⟨h1, h2⟩ => ⟨h1, fun v h3 h4 => ?_⟩, fun ⟨h1, h2⟩ => ⟨h1, fun v h3 h4 => h2 v (by omega) h4⟩⟩
        by_cases e : v = (i : Int)
        · rw [e]; exact hm
        · exact h2 v (by omega) h4
      · refine ⟨false, by rw [decide_eq_false hm, if_neg (by simp)], ?_⟩
        refine ⟨(fun hf => by cases hf), fun ⟨h1, h2⟩ => absurd (h2 i (by omega) (by omega)) hm⟩
    · refine ⟨b, by rw [if_neg h9], ?_⟩
      rw [h]
      exact ⟨fun ⟨h1, h2⟩ => by omega, fun ⟨h1, h2⟩ => by omega⟩

theorem implIsOrder_eq (l : List Int) (hl : l.length ≤ 1048576) (k : Nat) (hk : l.length + l.length < k) : ∃ b, impl_IsOrder.f k l = some b ∧ (b = true ↔ l.length ≤ 9 ∧ Ord l) := by
  obtain ⟨b, hb, h⟩ := implIsOrder_l0 l hl l.length k 0 (by omega) hk (by omega)
  refine ⟨b, hb, ?_⟩
  rw [h]
  refine and_congr_right fun _ => ⟨fun h => ord_of_has (fun v h0 h1 => h v (by omega) h1), fun h v h0 h1 => h.has v (by omega) h1⟩

theorem specOrder_l0 (l : List Int) (hl : l.length ≤ 1048576) : ∀ (d k i : Nat), l.length - i = d → d + l.length < k → i ≤ l.length → (l.take i).Nodup → (∀ x ∈ l.take i, 0 ≤ x ∧ x < l.length) →
    ∃ b, spec_l4Order.l0 k l l (l.length : Int) (i : Int) = some b ∧ (b = true ↔ l.length ≤ 9 ∧ Ord l) := by
  intro d
  induction d with
  | zero =>
    intro k i hd hk hi hn hr
    obtain ⟨k, rfl⟩ := rounds hk
    refine ⟨decide ((l.length : Int) ≤ 9), ?_, ?_⟩
    · simp only [spec_l4Order.l0]
      rw [if_neg (by omega)]
    · rw [decide_eq_true_iff]
      rw [List.take_of_length_le (by omega)] at hn hr
      exact ⟨fun h => ⟨by omega, hn, hr⟩, fun h => by omega⟩
  | succ d ih =>
    intro k i hd hk hi hn hr
    obtain ⟨k, rfl⟩ := rounds hk
    have hlt : i < l.length := by omega
    simp only [spec_l4Order.l0]
    rw [if_pos (by omega), if_pos (by omega), if_pos (by omega), w64 (n := (i : Int) + 1) (by omega) (by omega), w64 (n := (l.length : Int) - 1) (by omega) (by omega), rd_in l i hlt, l1In_eq]
    simp only [Option.bind_some]
    have htk : l.take (i + 1) = l.take i ++ [l[i]] := by rw [List.take_succ_eq_append_getElem hlt]
    by_cases h1 : 0 ≤ l[i] ∧ l[i] ≤ (l.length : Int) - 1
    · rw [decide_eq_true h1, if_pos rfl, if_pos (by omega), Int.toNat_natCast, l1Has_eq (l.take i) (by rw [List.length_take]; omega) _ k (by rw [List.length_take]; omega)]
      simp only [Option.bind_some]
      by_cases hm : l[i] ∈ l.take i
      · refine ⟨false, by rw [decide_eq_true hm, if_pos rfl], (fun hf => by cases hf), fun ⟨_, ho⟩ => ?_⟩
        exfalso
        have h2 := List.take_append_drop (i + 1) l
        have h3 : ((l.take i ++ [l[i]]) ++ l.drop (i + 1)).Nodup := by rw [← htk, h2]; exact ho.1
        have h4 := (List.nodup_append.1 (List.nodup_append.1 h3).1).2.2 _ hm l[i] (by simp)
        exact h4 rfl
      · rw [decide_eq_false hm, if_neg (by simp)]
        refine ih k (i + 1) (by omega) (by omega) (by omega) ?_ ?_
        · rw [htk]
          refine List.nodup_append.2 ⟨hn, by simp, fun a ha b hb e => ?_⟩
          rw [List.mem_singleton] at hb
          exact hm (by rw [← hb, ← e]; exact ha)
        · intro x hx
          rw [htk] at hx
          rcases List.mem_append.1 hx with hx | hx
          · exact hr x hx
          · rw [List.mem_singleton.1 hx]
            omega
    · refine ⟨false, by rw [decide_eq_false h1, if_neg (by simp)], (fun hf => by cases hf), fun ⟨_, ho⟩ => ?_⟩
      exact absurd (by have := ho.2 l[i] (List.getElem_mem hlt); omega) h1

theorem specOrder_eq (l : List Int) (hl : l.length ≤ 1048576) (k : Nat) (hk : l.length + l.length < k) : ∃ b, spec_l4Order.f k l = some b ∧ (b = true ↔ l.length ≤ 9 ∧ Ord l) :=
  specOrder_l0 l hl l.length k 0 (by omega) hk (by omega) (by simp) (by simp)

/-- Both say the same of an order, with rounds enough. -/
theorem orders_same (l : List Int) (hl : l.length ≤ 1048576) (k : Nat) (hk : l.length + l.length < k) :
    ∃ b, spec_l4Order.f k l = some b ∧ impl_IsOrder.f k l = some b ∧ (b = true ↔ l.length ≤ 9 ∧ Ord l) := by
  obtain ⟨b, h1, h2⟩ := specOrder_eq l hl k hk
  obtain ⟨c, h3, h4⟩ := implIsOrder_eq l hl k hk
  have e : b = c := by
    rw [Bool.eq_iff_iff, h2, h4]
  exact ⟨b, h1, e ▸ h3, h2⟩

/-- Is it an order? -/
instance (l : List Int) : Decidable (Ord l) := inferInstanceAs (Decidable (l.Nodup ∧ _))
def isOrd (l : List Int) : Bool := decide (l.length ≤ 9 ∧ Ord l)
theorem isOrd_iff {l : List Int} : isOrd l = true ↔ l.length ≤ 9 ∧ Ord l := by
  unfold isOrd
  rw [decide_eq_true_iff]
theorem specOrd_tot (l : List Int) (hl : l.length ≤ 1048576) : Tot (fun k => spec_l4Order.f k l) (fun y => y = isOrd l) := Tot.at_ (l.length + l.length + 1) rfl (fun k hk => by
  obtain ⟨b, h1, h2⟩ := specOrder_eq l hl k (by omega)
  rw [h1, show b = isOrd l by rw [Bool.eq_iff_iff, h2, isOrd_iff]])
theorem implOrd_tot (l : List Int) (hl : l.length ≤ 1048576) : Tot (fun k => impl_IsOrder.f k l) (fun y => y = isOrd l) := Tot.at_ (l.length + l.length + 1) rfl (fun k hk => by
  obtain ⟨b, h1, h2⟩ := implIsOrder_eq l hl k (by omega)
  rw [h1, show b = isOrd l by rw [Bool.eq_iff_iff, h2, isOrd_iff]])

/-- Cycles of one text are those of the other. -/
theorem cycles_twin (l : List Int) : ∀ k, (∀ (s : List Bool) (out : List (List Int)) (n i : Int), spec_l9Cycles.l0 k l s out n i = impl_cycles.l0 k l out s n i) ∧
    (∀ (s : List Bool) (out : List (List Int)) (c : List Int) (j n i : Int), spec_l9Cycles.l1 k l s out c j n i = impl_cycles.l1 k l out s c j n i) := by
  intro k
  induction k with
  | zero => exact ⟨fun _ _ _ _ => rfl, fun _ _ _ _ _ _ => rfl⟩
  | succ k ih =>
    refine ⟨fun s out n i => ?_, fun s out c j n i => ?_⟩
    · simp only [spec_l9Cycles.l0, impl_cycles.l0, ih.1, ih.2]
    · simp only [spec_l9Cycles.l1, impl_cycles.l1, ih.1, ih.2]
theorem cycles_same (l : List Int) (k : Nat) : spec_l9Cycles.f k l = impl_cycles.f k l := by
  simp only [spec_l9Cycles.f, impl_cycles.f, (cycles_twin l k).1]

theorem count_mark (s : List Bool) (j : Nat) (hj : j < s.length) (h : s[j] = false) : (s.set j true).count false + 1 = s.count false := by
  rw [List.count_set hj, h]
  have : 0 < s.count false := List.count_pos_iff.2 (by rw [← h]; exact List.getElem_mem hj)
  simp
  omega
/-- The cycles of an order of at most nine: none is empty, none is longer than nine. -/
def CycOk (y : List (List Int)) : Prop := ∀ c ∈ y, 1 ≤ c.length ∧ c.length ≤ 9
theorem cycles_l (l : List Int) (h9 : l.length ≤ 9) (hr : ∀ x ∈ l, 0 ≤ x ∧ x < l.length) : ∀ (m : Nat),
    (∀ (s : List Bool) (out : List (List Int)) (c : List Int) (j : Int) (i : Nat), (l.length - i) + s.count false ≤ m → i < l.length → s.length = l.length → 0 ≤ j ∧ j < l.length → CycOk out → out.length ≤ i → c.length + s.count false ≤ 9 → (c ≠ [] ∨ rdOf false s j = false) →
      Tot (fun k => impl_cycles.l1 k l out s c j (l.length : Int) (i : Int)) (fun y => CycOk y ∧ y.length ≤ l.length)) ∧
    (∀ (s : List Bool) (out : List (List Int)) (i : Nat), (l.length - i) + s.count false ≤ m → i ≤ l.length → s.length = l.length → CycOk out → out.length ≤ i →
      Tot (fun k => impl_cycles.l0 k l out s (l.length : Int) (i : Int)) (fun y => CycOk y ∧ y.length ≤ l.length)) := by
  intro m
  induction m with
  | zero =>
    refine ⟨fun s out c j i hm hi _ _ _ _ _ _ => by omega, fun s out i hm hi hs ho hl => ?_⟩
    refine Tot.up ?_
    simp only [impl_cycles.l0]
    exact Tot.neg (by omega) (Tot.some_ ⟨ho, by omega⟩)
  | succ m ih =>
    have H1 : ∀ (s : List Bool) (out : List (List Int)) (c : List Int) (j : Int) (i : Nat), (l.length - i) + s.count false ≤ m + 1 → i < l.length → s.length = l.length → 0 ≤ j ∧ j < l.length → CycOk out → out.length ≤ i → c.length + s.count false ≤ 9 → (c ≠ [] ∨ rdOf false s j = false) →
        Tot (fun k => impl_cycles.l1 k l out s c j (l.length : Int) (i : Int)) (fun y => CycOk y ∧ y.length ≤ l.length) := by
      intro s out c j i hm hi hs hj ho hl hc hne
      obtain ⟨j, rfl⟩ := Int.eq_ofNat_of_zero_le hj.1
      refine Tot.up ?_
      simp only [impl_cycles.l1]
      refine Tot.pos (by omega) (Tot.pos (by omega) (Tot.ite (fun hd => ?_) (fun hd => ?_)))
      · have hc0 : c ≠ [] := by
          rcases hne with h | h
          · exact h
          · rw [h] at hd
            exact absurd hd (by simp)
        have hc1 := List.length_pos_iff.2 hc0
        refine Tot.pos (by omega) ?_
        rw [w64 (n := (i : Int) + 1) (by omega) (by omega)]
        refine ih.2 s (out ++ [c]) (i + 1) (by omega) (by omega) hs (fun x hx => ?_) (by rw [List.length_append, List.length_singleton]; omega)
        rcases List.mem_append.1 hx with hx | hx
        · exact ho x hx
        · rw [List.mem_singleton.1 hx]
          omega
      · refine Tot.pos (by omega) (Tot.pos (by omega) ?_)
        rw [Bool.not_eq_true] at hd
        unfold rdOf at hd
        rw [Int.toNat_natCast, getD_in s false j (by omega)] at hd
        have h1 := count_mark s j (by omega) hd
        rw [Int.toNat_natCast]
        have h2 := hr _ (rd_mem l j (by omega))
        exact ih.1 (s.set j true) out (c ++ [(j : Int)]) (rd l (j : Int)) i (by omega) hi (by rw [List.length_set]; exact hs) h2 ho hl (by rw [List.length_append, List.length_singleton]; omega) (.inl (by simp))
    refine ⟨H1, fun s out i hm hi hs ho hl => ?_⟩
    refine Tot.up ?_
    simp only [impl_cycles.l0]
    by_cases hlt : i < l.length
    · refine Tot.pos (by omega) (Tot.pos (by omega) (Tot.pos (by omega) (Tot.ite (fun hd => ?_) (fun hd => ?_))))
      · rw [w64 (n := (i : Int) + 1) (by omega) (by omega)]
        exact ih.2 s out (i + 1) (by omega) (by omega) hs ho (by omega)
      · rw [Bool.not_eq_true] at hd
        have h3 := List.count_le_length (a := false) (l := s)
        exact H1 s out [] i i hm hlt hs (by omega) ho hl (by simp; omega) (.inr hd)
    · exact Tot.neg (by omega) (Tot.some_ ⟨ho, by omega⟩)
theorem cycles_tot (l : List Int) (h9 : l.length ≤ 9) (ho : Ord l) : ∃ y : List (List Int), (CycOk y ∧ y.length ≤ 9) ∧ Tot (fun k => spec_l9Cycles.f k l) (fun z => z = y) ∧ Tot (fun k => impl_cycles.f k l) (fun z => z = y) := by
  have h : Tot (fun k => impl_cycles.f k l) (fun y => CycOk y ∧ y.length ≤ 9) := by
    simp only [impl_cycles.f]
    refine Tot.pos (by omega) (Tot.pos (by omega) ?_)
    rw [Int.toNat_natCast]
    refine ((cycles_l l h9 ho.2 (l.length + l.length)).2 (List.replicate l.length false) [] 0 (by simp) (by omega) (by simp) (fun x hx => by simp at hx) (by simp)).imp (fun y hy => ⟨hy.1, by omega⟩)
  obtain ⟨y, hy, ht⟩ := h.val
  refine ⟨y, hy, ?_, ht⟩
  simp only [cycles_same]
  exact ht

theorem gcd_eq : ∀ (b k a : Nat), b < k → a ≤ 9223372036854775807 → b ≤ 9223372036854775807 → spec_l9Gcd.l0 k (a : Int) (b : Int) = some ((Nat.gcd a b : Nat) : Int) := by
  intro b
  induction b using Nat.strongRecOn with
  | _ b ih =>
    intro k a hk ha hb
    obtain ⟨k, rfl⟩ := rounds hk
    simp only [spec_l9Gcd.l0]
    by_cases h0 : b = 0
    · subst h0
      rw [if_neg (by omega), Nat.gcd_zero_right]
    · have hlt := Nat.mod_lt a (show 0 < b by omega)
      rw [if_pos (by omega), if_neg (by omega), tmod_nat, ih (a % b) hlt k b (by omega) hb (by omega), Nat.gcd_comm a b, Nat.gcd_rec b a, Nat.gcd_comm]
theorem dvd2520 : ∀ n : Nat, n < 10 → 0 < n → n ∣ 2520 := by decide
def lcf (m : Nat) (c : List Int) : Nat := Nat.lcm m c.length
def lenV (y : List (List Int)) : Nat := y.foldl lcf 1
def LcOk (m : Nat) : Prop := 0 < m ∧ m ∣ 2520
theorem LcOk.le {m : Nat} (h : LcOk m) : m ≤ 2520 := Nat.le_of_dvd (by omega) h.2
theorem lcf_ok (y : List (List Int)) (hy : CycOk y) (m : Nat) (h : LcOk m) (c : List Int) (hc : c ∈ y) : LcOk (lcf m c) := by
  have h1 := hy c hc
  exact ⟨Nat.lcm_pos h.1 (by omega), Nat.lcm_dvd h.2 (dvd2520 _ (by omega) (by omega))⟩
theorem specLen_l0 (y : List (List Int)) (hy : CycOk y) (h9 : y.length ≤ 9) : ∀ (d i m : Nat), y.length - i = d → i ≤ y.length → LcOk m →
    Tot (fun k => spec_LengthOf.l0 k (m : Int) y (y.length : Int) (i : Int)) (fun z => z = ((((y.drop i).foldl lcf m : Nat) : Int), true)) := by
  intro d
  induction d with
  | zero =>
    intro i m hd hi hm
    refine Tot.up ?_
    simp only [spec_LengthOf.l0]
    refine Tot.neg (by omega) (Tot.some_ ?_)
    rw [List.drop_of_length_le (by omega)]
    rfl
  | succ d ih =>
    intro i m hd hi hm
    have hlt : i < y.length := by omega
    have hc := hy _ (List.getElem_mem hlt)
    have hml := hm.le
    have hrd : rd_L1 y (i : Int) = y[i] := by
      unfold rd_L1
      rw [Int.toNat_natCast]
      exact getD_in y _ i hlt
    have hg : 0 < Nat.gcd m y[i].length := Nat.gcd_pos_of_pos_left _ hm.1
    have hq : m / Nat.gcd m y[i].length * y[i].length = Nat.lcm m y[i].length := by
      rw [Nat.lcm, Nat.mul_comm m, Nat.mul_div_assoc _ (Nat.gcd_dvd_left _ _), Nat.mul_comm]
    have hl := lcf_ok y hy m hm _ (List.getElem_mem hlt)
    have hll := hl.le
    have hmg : m / Nat.gcd m y[i].length ≤ m := Nat.div_le_self _ _
    refine Tot.up ?_
    simp only [spec_LengthOf.l0]
    refine Tot.pos (by omega) (Tot.pos (by omega) (Tot.pos (by omega) ?_))
    rw [hrd]
    refine Tot.bind (Q := fun z => z = ((Nat.gcd m y[i].length : Nat) : Int)) (Tot.at_ (y[i].length + 1) rfl (fun k hk => gcd_eq _ k m (by omega) (by omega) (by omega))) (fun z hz => ?_)
    rw [hz]
    refine Tot.neg (by omega) ?_
    rw [tdiv_nat, wnat _ (by omega), ← Int.natCast_mul, hq, wnat _ (by unfold lcf at hll; omega), w64 (n := (i : Int) + 1) (by omega) (by omega), List.drop_eq_getElem_cons hlt]
    exact ih (i + 1) _ (by omega) (by omega) hl
theorem implLen_l1 (y : List (List Int)) (m : Nat) (hm : LcOk m) (c : List Int) (hc : 1 ≤ c.length ∧ c.length ≤ 9) (i : Nat) (hi : i < 10) (Q : Int × Bool → Prop)
    (hQ : Tot (fun k => impl_LengthOf.l0 k ((Nat.lcm m c.length : Nat) : Int) y (y.length : Int) ((i + 1 : Nat) : Int)) Q) : ∀ (d t : Nat), Nat.lcm m c.length / m - t = d → 1 ≤ t → t ≤ Nat.lcm m c.length / m →
    Tot (fun k => impl_LengthOf.l1 k (m : Int) c ((m * t : Nat) : Int) y (y.length : Int) (i : Int)) Q := by
  have hL := Nat.mul_div_cancel' (Nat.dvd_lcm_left m c.length)
  have hLc := Nat.dvd_lcm_right m c.length
  have hLle : Nat.lcm m c.length ≤ 2520 := Nat.le_of_dvd (by omega) (Nat.lcm_dvd hm.2 (dvd2520 _ (by omega) (by omega)))
  have hmp := hm.1
  have hml := hm.le
  generalize hLL : Nat.lcm m c.length = L at *
  intro d
  induction d with
  | zero =>
    intro t hd h1 h2
    have e : t = L / m := by omega
    subst e
    refine Tot.up ?_
    simp only [impl_LengthOf.l1]
    refine Tot.neg (by omega) ?_
    rw [hL]
    refine Tot.pos ?_ ?_
    · rw [tmod_nat, Nat.mod_eq_zero_of_dvd hLc]
      rfl
    · rw [w64 (n := (i : Int) + 1) (by omega) (by omega)]
      exact hQ
  | succ d ih =>
    intro t hd h1 h2
    have hmt : m * (t + 1) ≤ m * (L / m) := Nat.mul_le_mul_left m (by omega)
    have hlt : m * t < L := by
      have : m * t < m * (L / m) := Nat.mul_lt_mul_of_pos_left (by omega) hmp
      omega
    refine Tot.up ?_
    simp only [impl_LengthOf.l1]
    refine Tot.neg (by omega) (Tot.neg ?_ ?_)
    · rw [tmod_nat]
      intro h
      have h3 : c.length ∣ m * t := Nat.dvd_of_mod_eq_zero (by omega)
      have h4 : L ∣ m * t := by
        rw [← hLL]
        exact Nat.lcm_dvd (Nat.dvd_mul_right m t) h3
      have h5 := Nat.le_of_dvd (Nat.mul_pos hmp (by omega)) h4
      omega
    · have e : wrap64 (((m * t : Nat) : Int) + (m : Int)) = ((m * (t + 1) : Nat) : Int) := by
        rw [show ((m * t : Nat) : Int) + (m : Int) = ((m * t + m : Nat) : Int) by omega, Nat.mul_succ, wnat _ (by rw [Nat.mul_succ] at hmt; omega)]
      rw [e]
      exact ih (t + 1) (by omega) (by omega) (by omega)
theorem implLen_l0 (y : List (List Int)) (hy : CycOk y) (h9 : y.length ≤ 9) : ∀ (d i m : Nat), y.length - i = d → i ≤ y.length → LcOk m →
    Tot (fun k => impl_LengthOf.l0 k (m : Int) y (y.length : Int) (i : Int)) (fun z => z = ((((y.drop i).foldl lcf m : Nat) : Int), true)) := by
  intro d
  induction d with
  | zero =>
    intro i m hd hi hm
    refine Tot.up ?_
    simp only [impl_LengthOf.l0]
    refine Tot.neg (by omega) (Tot.some_ ?_)
    rw [List.drop_of_length_le (by omega)]
    rfl
  | succ d ih =>
    intro i m hd hi hm
    have hlt : i < y.length := by omega
    have hc := hy _ (List.getElem_mem hlt)
    have hrd : rd_L1 y (i : Int) = y[i] := by
      unfold rd_L1
      rw [Int.toNat_natCast]
      exact getD_in y _ i hlt
    have hl := lcf_ok y hy m hm _ (List.getElem_mem hlt)
    refine Tot.up ?_
    simp only [impl_LengthOf.l0]
    refine Tot.pos (by omega) (Tot.pos (by omega) (Tot.pos (by omega) ?_))
    rw [hrd, List.drop_eq_getElem_cons hlt]
    have h := implLen_l1 y m hm y[i] hc i (by omega) _ (ih (i + 1) _ (by omega) (by omega) hl) (Nat.lcm m y[i].length / m - 1) 1 rfl (by omega) (by
      have h1 := Nat.le_of_dvd (show 0 < Nat.lcm m y[i].length from hl.1) (Nat.dvd_lcm_left m y[i].length)
      exact (Nat.le_div_iff_mul_le hm.1).2 (by omega))
    rw [Nat.mul_one] at h
    exact h
theorem length_same (l : List Int) (hl : l.length ≤ 1048576) : ∃ r : Int × Bool, Tot (fun k => spec_LengthOf.f k l) (fun z => z = r) ∧ Tot (fun k => impl_LengthOf.f k l) (fun z => z = r) := by
  simp only [spec_LengthOf.f, impl_LengthOf.f]
  by_cases h : isOrd l = true
  · obtain ⟨h9, ho⟩ := isOrd_iff.1 h
    obtain ⟨y, hy, h1, h2⟩ := cycles_tot l h9 ho
    have hone : LcOk 1 := ⟨by omega, Nat.one_dvd _⟩
    refine ⟨(((y.foldl lcf 1 : Nat) : Int), true), ?_, ?_⟩
    · refine Tot.bind (specOrd_tot l hl) (fun y1 e1 => Tot.pos (e1.trans h) (Tot.bind h1 (fun y2 e2 => ?_)))
      rw [e2]
      exact specLen_l0 y hy.1 hy.2 y.length 0 1 (by omega) (by omega) hone
    · refine Tot.bind (implOrd_tot l hl) (fun y1 e1 => Tot.pos (e1.trans h) (Tot.bind h2 (fun y2 e2 => ?_)))
      rw [e2]
      exact implLen_l0 y hy.1 hy.2 y.length 0 1 (by omega) (by omega) hone
  · refine ⟨(0, false), ?_, ?_⟩
    · exact Tot.bind (specOrd_tot l hl) (fun y1 e1 => Tot.neg (by rw [e1]; exact h) (Tot.some_ rfl))
    · exact Tot.bind (implOrd_tot l hl) (fun y1 e1 => Tot.neg (by rw [e1]; exact h) (Tot.some_ rfl))
theorem FnExactLengthOf : laws_FnExactLengthOf.Pure := by
  intro l _ _ _
  refine Tot.ex ?_
  simp only [laws_FnExactLengthOf.f]
  refine Tot.ite (fun _ => Tot.some_ rfl) (fun hl => ?_)
  have hl : l.length ≤ 1048576 := by omega
  obtain ⟨r, h1, h2⟩ := length_same l hl
  refine Tot.bind (toIntS_tot l hl) (fun y1 e1 => ?_)
  rw [e1]
  refine Tot.bind h1 (fun y2 e2 => Tot.bind (toIntS_tot l hl) (fun y3 e3 => ?_))
  rw [e2, e3]
  refine Tot.bind h2 (fun y4 e4 => ?_)
  rw [e4]
  refine Tot.pos rfl (Tot.up ?_)
  simp only [laws_FnExactLengthOf.j0, bne_self_eq_false]
  refine Tot.neg (by simp) (Tot.bind (toIntS_tot l hl) (fun y5 e5 => ?_))
  rw [e5]
  exact Tot.bind (eqIntS_tot l hl) (fun y6 e6 => Tot.pos e6 (Tot.some_ rfl))

end Go.Proofs.Ytnbcldlkhmmimaa.Pure
