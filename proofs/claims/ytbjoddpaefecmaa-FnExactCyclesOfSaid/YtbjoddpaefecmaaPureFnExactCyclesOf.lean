/- Proved: CyclesOf of the program and of the reference answer alike at all arguments, and the answer owns its memory. Conditions: those of the given statement alone. -/
import Derived.Test.YtbjoddpaefecmaaPFnExactCyclesOfx4
import Derived.Test.YtbjoddpaefecmaaBase
set_option linter.unusedVariables false
set_option linter.unusedSimpArgs false
namespace Go.Proofs.Ytbjoddpaefecmaa.Pure
open Go.RowKit Go.Proofs.Ytbjoddpaefecmaa.PFnExactCyclesOf Go.Proofs.Ytbjoddpaefecmaa.Base Go.Proofs.YtbjoddpaefecmaaW.PrintWords Go.Proofs.YtbjoddpaefecmaaW.PrintLast Go.Proofs.YtbjoddpaefecmaaW.PrintMore Go.Proofs.Ytbjoddpaefecmaa

theorem toIntS_l0 (l : List Int) (hl : l.length ≤ 1048576) : ∀ (d k i : Nat) (out : List Int), l.length - i = d → d < k → i ≤ l.length → out.length = l.length → out.take i = l.take i → laws_toIntS.l0 k l out (i : Int) = some l := by
  intro d
  induction d with
  | zero =>
    intro k i out hd hk hi ho ht
    obtain ⟨k, rfl⟩ := rounds hk
    simp only [laws_toIntS.l0]
    rw [if_neg (by omega), take_all out l i ht (by omega) (by omega)]
  | succ d ih =>
    intro k i out hd hk hi ho ht
    obtain ⟨k, rfl⟩ := rounds hk
    simp only [laws_toIntS.l0]
    rw [if_pos (by omega), if_pos (by omega), if_pos (by omega), w64 (by omega) (by omega), Int.toNat_natCast, rd_in l i (by omega)]
    exact ih k (i + 1) _ (by omega) (by omega) (by omega) (by rw [List.length_set]; exact ho) (take_set out l i _ ht (by omega) (by omega) rfl)

theorem toIntS_eq (l : List Int) (hl : l.length ≤ 1048576) (k : Nat) (hk : l.length < k) : laws_toIntS.f k l = some l := by
  unfold laws_toIntS.f
  rw [if_pos (by omega), if_pos (by omega)]
  exact toIntS_l0 l hl l.length k 0 _ (by omega) hk (by omega) (by simp) (by simp)

theorem eqIntS_l0 (l : List Int) (hl : l.length ≤ 1048576) : ∀ (d k i : Nat), l.length - i = d → d < k → laws_eqIntS.l0 k l l (i : Int) = some true := by
  intro d
  induction d with
  | zero =>
    intro k i hd hk
    obtain ⟨k, rfl⟩ := rounds hk
    simp only [laws_eqIntS.l0]
    rw [if_neg (by omega)]
  | succ d ih =>
    intro k i hd hk
    obtain ⟨k, rfl⟩ := rounds hk
    simp only [laws_eqIntS.l0]
    rw [if_pos (by omega), if_pos (by omega), if_pos (by omega), if_pos trivial, w64 (by omega) (by omega)]
    exact ih k (i + 1) (by omega) (by omega)

theorem eqIntS_self (l : List Int) (hl : l.length ≤ 1048576) (k : Nat) (hk : l.length < k) : laws_eqIntS.f k l l = some true := by
  unfold laws_eqIntS.f
  rw [if_pos rfl]
  exact eqIntS_l0 l hl l.length k 0 (by omega) hk

theorem toIntS_tot (l : List Int) (hl : l.length ≤ 1048576) : Tot (fun k => laws_toIntS.f k l) (fun y => y = l) := Tot.at_ (l.length + 1) rfl (fun k hk => toIntS_eq l hl k (by omega))
theorem eqIntS_tot (l : List Int) (hl : l.length ≤ 1048576) : Tot (fun k => laws_eqIntS.f k l l) (fun y => y = true) := Tot.at_ (l.length + 1) rfl (fun k hk => eqIntS_self l hl k (by omega))

theorem markIntS_l0 (n : Nat) (hn : n ≤ 1048576) (m : Int) (h0 : 0 ≤ m) (h1 : m ≤ 4294967296) : ∀ (d k i : Nat) (out : List Int), n - i = d → d < k → i ≤ n → out.length = n → out.take i = (ups m n).take i → laws_markIntS.l0 k out (m + (i : Int)) (i : Int) = some (m + (n : Int), ups m n) := by
  intro d
  induction d with
  | zero =>
    intro k i out hd hk hi ho ht
    obtain ⟨k, rfl⟩ := rounds hk
    simp only [laws_markIntS.l0]
    rw [if_neg (by omega), take_all out (ups m n) i ht (by omega) (by rw [ups_length]; omega), show i = n by omega]
  | succ d ih =>
    intro k i out hd hk hi ho ht
    obtain ⟨k, rfl⟩ := rounds hk
    simp only [laws_markIntS.l0]
    rw [if_pos (by omega), if_pos (by omega), w64 (n := (i : Int) + 1) (by omega) (by omega), w64 (n := m + (i : Int) + 1) (by omega) (by omega), Int.toNat_natCast]
    rw [show m + (i : Int) + 1 = m + ((i + 1 : Nat) : Int) by omega]
    exact ih k (i + 1) _ (by omega) (by omega) (by omega) (by rw [List.length_set]; exact ho) (take_set out (ups m n) i _ ht (by omega) (by rw [ups_length]; omega) (ups_get m n i (by omega)).symm)

theorem markIntS_eq (l : List Int) (hl : l.length ≤ 1048576) (m : Int) (h0 : 0 ≤ m) (h1 : m ≤ 4294967296) (k : Nat) (hk : l.length < k) : laws_markIntS.f k l m = some (m + (l.length : Int), ups m l.length) := by
  have h := markIntS_l0 l.length hl m h0 h1 l.length k 0 l (by omega) hk (by omega) rfl (by simp)
  unfold laws_markIntS.f
  simpa using h

theorem heldIntS_l0 (n : Nat) (hn : n ≤ 1048576) (m : Int) (h0 : 0 ≤ m) (h1 : m ≤ 4294967296) : ∀ (d k i : Nat), n - i = d → d < k → i ≤ n → laws_heldIntS.l0 k (ups m n) (m + (i : Int)) (i : Int) = some (m + (n : Int)) := by
  intro d
  induction d with
  | zero =>
    intro k i hd hk hi
    obtain ⟨k, rfl⟩ := rounds hk
    simp only [laws_heldIntS.l0]
    rw [if_neg (by rw [ups_length]; omega), show i = n by omega]
  | succ d ih =>
    intro k i hd hk hi
    obtain ⟨k, rfl⟩ := rounds hk
    simp only [laws_heldIntS.l0]
    rw [if_pos (by rw [ups_length]; omega), if_pos (by omega), rd_in _ i (by rw [ups_length]; omega), ups_get m n i (by omega), if_pos rfl, w64 (n := (i : Int) + 1) (by omega) (by omega), w64 (n := m + (i : Int) + 1) (by omega) (by omega)]
    rw [show m + (i : Int) + 1 = m + ((i + 1 : Nat) : Int) by omega]
    exact ih k (i + 1) (by omega) (by omega) (by omega)

theorem heldIntS_eq (n : Nat) (hn : n ≤ 1048576) (m : Int) (h0 : 0 ≤ m) (h1 : m ≤ 4294967296) (k : Nat) (hk : n < k) : laws_heldIntS.f k (ups m n) m = some (m + (n : Int)) := by
  have h := heldIntS_l0 n hn m h0 h1 n k 0 (by omega) hk (by omega)
  unfold laws_heldIntS.f
  simpa using h

theorem markIntS_tot (l : List Int) (hl : l.length ≤ 1048576) (m : Int) (h0 : 0 ≤ m) (h1 : m ≤ 4294967296) : Tot (fun k => laws_markIntS.f k l m) (fun y => y = (m + (l.length : Int), ups m l.length)) := Tot.at_ (l.length + 1) rfl (fun k hk => markIntS_eq l hl m h0 h1 k (by omega))
theorem heldIntS_tot (n : Nat) (hn : n ≤ 1048576) (m : Int) (h0 : 0 ≤ m) (h1 : m ≤ 4294967296) : Tot (fun k => laws_heldIntS.f k (ups m n) m) (fun y => y = m + (n : Int)) := Tot.at_ (n + 1) rfl (fun k hk => heldIntS_eq n hn m h0 h1 k (by omega))

theorem index_l0 (l : List Int) (hl : l.length ≤ 1048576) (v : Int) : ∀ (d k i : Nat), l.length - i = d → d < k → i ≤ l.length → ∃ r, slices_Index_int_int.l0 k l v (l.length : Int) (i : Int) = some r ∧ (r ≥ 0 ↔ v ∈ l.drop i) := by
  intro d
  induction d with
  | zero =>
    intro k i hd hk hi
    obtain ⟨k, rfl⟩ := rounds hk
    refine ⟨-1, ?_, ?_⟩
    · simp only [slices_Index_int_int.l0]
      rw [if_neg (by omega)]
    · rw [List.drop_of_length_le (by omega)]
      simp
  | succ d ih =>
    intro k i hd hk hi
    obtain ⟨k, rfl⟩ := rounds hk
    simp only [slices_Index_int_int.l0]
    rw [if_pos (by omega), if_pos (by omega), if_pos (by omega), rd_in l i (by omega), w64 (by omega) (by omega)]
    have hdrop := List.drop_eq_getElem_cons (show i < l.length by omega)
    by_cases e : v = l[i]
    · exact ⟨i, by rw [if_pos e], by rw [hdrop, ← e]; simp⟩
    · obtain ⟨r, hr, h⟩ := ih k (i + 1) (by omega) (by omega) (by omega)
      refine ⟨r, by rw [if_neg e]; exact hr, ?_⟩
      rw [h, hdrop, List.mem_cons]
      exact ⟨fun h => .inr h, fun h => h.resolve_left e⟩

theorem contains_eq (l : List Int) (hl : l.length ≤ 1048576) (v : Int) (k : Nat) (hk : l.length < k) : slices_Contains_int_int.f k l v = some (decide (v ∈ l)) := by
  obtain ⟨r, hr, h⟩ := index_l0 l hl v l.length k 0 (by omega) hk (by omega)
  unfold slices_Contains_int_int.f slices_Index_int_int.f
  have hr' : slices_Index_int_int.l0 k l v (l.length : Int) 0 = some r := hr
  rw [hr']
  simp only [Option.bind_some]
  rw [List.drop_zero] at h
  congr 1
  exact decide_eq_decide.2 h

theorem l1In_eq (a b c : Int) : spec_l1In.f a b c = some (decide (b ≤ a ∧ a ≤ c)) := by
  unfold spec_l1In.f
  by_cases h : a ≥ b
  · rw [if_pos h]
    congr 1
    exact decide_eq_decide.2 ⟨fun h1 => ⟨h, h1⟩, fun h1 => h1.2⟩
  · rw [if_neg h, decide_eq_false (fun h1 => h h1.1)]

theorem l1Has_l0 (l : List Int) (hl : l.length ≤ 1048576) (v : Int) : ∀ (d k i : Nat), l.length - i = d → d < k → i ≤ l.length → spec_l1Has.l0 k v l (l.length : Int) (i : Int) = some (decide (v ∈ l.drop i)) := by
  intro d
  induction d with
  | zero =>
    intro k i hd hk hi
    obtain ⟨k, rfl⟩ := rounds hk
    simp only [spec_l1Has.l0]
    rw [if_neg (by omega), List.drop_of_length_le (by omega)]
    simp
  | succ d ih =>
    intro k i hd hk hi
    obtain ⟨k, rfl⟩ := rounds hk
    simp only [spec_l1Has.l0]
    rw [if_pos (by omega), if_pos (by omega), if_pos (by omega), rd_in l i (by omega), w64 (by omega) (by omega), List.drop_eq_getElem_cons (show i < l.length by omega)]
    by_cases e : l[i] = v
    · rw [if_pos e]
      simp [e]
    · have h := ih k (i + 1) (by omega) (by omega) (by omega)
      rw [if_neg e]
      have h' : spec_l1Has.l0 k v l (l.length : Int) ((i : Int) + 1) = some (decide (v ∈ l.drop (i + 1))) := h
      rw [h']
      congr 1
      refine decide_eq_decide.2 ?_
      rw [List.mem_cons]
      exact ⟨fun h => .inr h, fun h => h.resolve_left (fun h => e h.symm)⟩

theorem l1Has_eq (l : List Int) (hl : l.length ≤ 1048576) (v : Int) (k : Nat) (hk : l.length < k) : spec_l1Has.f k l v = some (decide (v ∈ l)) := by
  have h := l1Has_l0 l hl v l.length k 0 (by omega) hk (by omega)
  rw [List.drop_zero] at h
  exact h

theorem implIsOrder_l0 (l : List Int) (hl : l.length ≤ 1048576) : ∀ (d k i : Nat), l.length - i = d → d + l.length < k → i ≤ l.length → ∃ b, impl_IsOrder.l0 k l (l.length : Int) (i : Int) = some b ∧ (b = true ↔ l.length ≤ 9 ∧ ∀ v : Int, (i : Int) ≤ v → v < l.length → v ∈ l) := by
  intro d
  induction d with
  | zero =>
    intro k i hd hk hi
    obtain ⟨k, rfl⟩ := rounds hk
    refine ⟨decide ((l.length : Int) ≤ 9), ?_, ?_⟩
    · simp only [impl_IsOrder.l0]
      rw [if_neg (by omega)]
    · rw [decide_eq_true_iff]
      exact ⟨fun h => ⟨by omega, fun v _ _ => by omega⟩, fun h => by omega⟩
  | succ d ih =>
    intro k i hd hk hi
    obtain ⟨k, rfl⟩ := rounds hk
    simp only [impl_IsOrder.l0]
    rw [if_pos (by omega), w64 (by omega) (by omega)]
    obtain ⟨b, hb, h⟩ := ih k (i + 1) (by omega) (by omega) (by omega)
    have hb' : impl_IsOrder.l0 k l (l.length : Int) ((i : Int) + 1) = some b := hb
    rw [hb', contains_eq l hl _ k (by omega)]
    by_cases h9 : (i : Int) < 9
    · rw [if_pos h9]
      simp only [Option.bind_some]
      by_cases hm : (i : Int) ∈ l
      · refine ⟨b, by rw [decide_eq_true hm, if_pos rfl], ?_⟩
        rw [h]
        refine ⟨fun ⟨h1, h2⟩ => ⟨h1, fun v h3 h4 => ?_⟩, fun ⟨h1, h2⟩ => ⟨h1, fun v h3 h4 => h2 v (by omega) h4⟩⟩
        by_cases e : v = (i : Int)
        · rw [e]; exact hm
        · exact h2 v (by omega) h4
      · refine ⟨false, by rw [decide_eq_false hm, if_neg (by simp)], ?_⟩
        refine ⟨(fun hf => by cases hf), fun ⟨h1, h2⟩ => absurd (h2 i (by omega) (by omega)) hm⟩
    · refine ⟨b, by rw [if_neg h9], ?_⟩
      rw [h]
      exact ⟨fun ⟨h1, h2⟩ => by omega, fun ⟨h1, h2⟩ => by omega⟩

theorem implIsOrder_eq (l : List Int) (hl : l.length ≤ 1048576) (k : Nat) (hk : l.length + l.length < k) : ∃ b, impl_IsOrder.f k l = some b ∧ (b = true ↔ l.length ≤ 9 ∧ Ord l) := by
  obtain ⟨b, hb, h⟩ := implIsOrder_l0 l hl l.length k 0 (by omega) hk (by omega)
  refine ⟨b, hb, ?_⟩
  rw [h]
  refine and_congr_right fun _ => ⟨fun h => ord_of_has (fun v h0 h1 => h v (by omega) h1), fun h v h0 h1 => h.has v (by omega) h1⟩

theorem specOrder_l0 (l : List Int) (hl : l.length ≤ 1048576) : ∀ (d k i : Nat), l.length - i = d → d + l.length < k → i ≤ l.length → (l.take i).Nodup → (∀ x ∈ l.take i, 0 ≤ x ∧ x < l.length) →
    ∃ b, spec_l4Order.l0 k l l (l.length : Int) (i : Int) = some b ∧ (b = true ↔ l.length ≤ 9 ∧ Ord l) := by
  intro d
  induction d with
  | zero =>
    intro k i hd hk hi hn hr
    obtain ⟨k, rfl⟩ := rounds hk
    refine ⟨decide ((l.length : Int) ≤ 9), ?_, ?_⟩
    · simp only [spec_l4Order.l0]
      rw [if_neg (by omega)]
    · rw [decide_eq_true_iff]
      rw [List.take_of_length_le (by omega)] at hn hr
      exact ⟨fun h => ⟨by omega, hn, hr⟩, fun h => by omega⟩
  | succ d ih =>
    intro k i hd hk hi hn hr
    obtain ⟨k, rfl⟩ := rounds hk
    have hlt : i < l.length := by omega
    simp only [spec_l4Order.l0]
    rw [if_pos (by omega), if_pos (by omega), if_pos (by omega), w64 (n := (i : Int) + 1) (by omega) (by omega), w64 (n := (l.length : Int) - 1) (by omega) (by omega), rd_in l i hlt, l1In_eq]
    simp only [Option.bind_some]
    have htk : l.take (i + 1) = l.take i ++ [l[i]] := by rw [List.take_succ_eq_append_getElem hlt]
    by_cases h1 : 0 ≤ l[i] ∧ l[i] ≤ (l.length : Int) - 1
    · rw [decide_eq_true h1, if_pos rfl, if_pos (by omega), Int.toNat_natCast, l1Has_eq (l.take i) (by rw [List.length_take]; omega) _ k (by rw [List.length_take]; omega)]
      simp only [Option.bind_some]
      by_cases hm : l[i] ∈ l.take i
      · refine ⟨false, by rw [decide_eq_true hm, if_pos rfl], (fun hf => by cases hf), fun ⟨_, ho⟩ => ?_⟩
        exfalso
        have h2 := List.take_append_drop (i + 1) l
        have h3 : ((l.take i ++ [l[i]]) ++ l.drop (i + 1)).Nodup := by rw [← htk, h2]; exact ho.1
        have h4 := (List.nodup_append.1 (List.nodup_append.1 h3).1).2.2 _ hm l[i] (by simp)
        exact h4 rfl
      · rw [decide_eq_false hm, if_neg (by simp)]
        refine ih k (i + 1) (by omega) (by omega) (by omega) ?_ ?_
        · rw [htk]
          refine List.nodup_append.2 ⟨hn, by simp, fun a ha b hb e => ?_⟩
          rw [List.mem_singleton] at hb
          exact hm (by rw [← hb, ← e]; exact ha)
        · intro x hx
          rw [htk] at hx
          rcases List.mem_append.1 hx with hx | hx
          · exact hr x hx
          · rw [List.mem_singleton.1 hx]
            omega
    · refine ⟨false, by rw [decide_eq_false h1, if_neg (by simp)], (fun hf => by cases hf), fun ⟨_, ho⟩ => ?_⟩
      exact absurd (by have := ho.2 l[i] (List.getElem_mem hlt); omega) h1

theorem specOrder_eq (l : List Int) (hl : l.length ≤ 1048576) (k : Nat) (hk : l.length + l.length < k) : ∃ b, spec_l4Order.f k l = some b ∧ (b = true ↔ l.length ≤ 9 ∧ Ord l) :=
  specOrder_l0 l hl l.length k 0 (by omega) hk (by omega) (by simp) (by simp)

/-- Both say the same of an order, with rounds enough. -/
theorem orders_same (l : List Int) (hl : l.length ≤ 1048576) (k : Nat) (hk : l.length + l.length < k) :
    ∃ b, spec_l4Order.f k l = some b ∧ impl_IsOrder.f k l = some b ∧ (b = true ↔ l.length ≤ 9 ∧ Ord l) := by
  obtain ⟨b, h1, h2⟩ := specOrder_eq l hl k hk
  obtain ⟨c, h3, h4⟩ := implIsOrder_eq l hl k hk
  have e : b = c := by
    rw [Bool.eq_iff_iff, h2, h4]
  exact ⟨b, h1, e ▸ h3, h2⟩

/-- Is it an order? -/
instance (l : List Int) : Decidable (Ord l) := inferInstanceAs (Decidable (l.Nodup ∧ _))
def isOrd (l : List Int) : Bool := decide (l.length ≤ 9 ∧ Ord l)
theorem isOrd_iff {l : List Int} : isOrd l = true ↔ l.length ≤ 9 ∧ Ord l := by
  unfold isOrd
  rw [decide_eq_true_iff]
theorem specOrd_tot (l : List Int) (hl : l.length ≤ 1048576) : Tot (fun k => spec_l4Order.f k l) (fun y => y = isOrd l) := Tot.at_ (l.length + l.length + 1) rfl (fun k hk => by
  obtain ⟨b, h1, h2⟩ := specOrder_eq l hl k (by omega)
  rw [h1, show b = isOrd l by rw [Bool.eq_iff_iff, h2, isOrd_iff]])
theorem implOrd_tot (l : List Int) (hl : l.length ≤ 1048576) : Tot (fun k => impl_IsOrder.f k l) (fun y => y = isOrd l) := Tot.at_ (l.length + l.length + 1) rfl (fun k hk => by
  obtain ⟨b, h1, h2⟩ := implIsOrder_eq l hl k (by omega)
  rw [h1, show b = isOrd l by rw [Bool.eq_iff_iff, h2, isOrd_iff]])

/-- Cycles of one text are those of the other. -/
theorem cycles_twin (l : List Int) : ∀ k, (∀ (s : List Bool) (out : List (List Int)) (n i : Int), spec_l9Cycles.l0 k l s out n i = impl_cycles.l0 k l out s n i) ∧
    (∀ (s : List Bool) (out : List (List Int)) (c : List Int) (j n i : Int), spec_l9Cycles.l1 k l s out c j n i = impl_cycles.l1 k l out s c j n i) := by
  intro k
  induction k with
  | zero => exact ⟨fun _ _ _ _ => rfl, fun _ _ _ _ _ _ => rfl⟩
  | succ k ih =>
    refine ⟨fun s out n i => ?_, fun s out c j n i => ?_⟩
    · simp only [spec_l9Cycles.l0, impl_cycles.l0, ih.1, ih.2]
    · simp only [spec_l9Cycles.l1, impl_cycles.l1, ih.1, ih.2]
theorem cycles_same (l : List Int) (k : Nat) : spec_l9Cycles.f k l = impl_cycles.f k l := by
  simp only [spec_l9Cycles.f, impl_cycles.f, (cycles_twin l k).1]

theorem count_mark (s : List Bool) (j : Nat) (hj : j < s.length) (h : s[j] = false) : (s.set j true).count false + 1 = s.count false := by
  rw [List.count_set hj, h]
  have : 0 < s.count false := List.count_pos_iff.2 (by rw [← h]; exact List.getElem_mem hj)
  simp
  omega
/-- The cycles of an order of at most nine: none is empty, none is longer than nine. -/
def CycOk (y : List (List Int)) : Prop := ∀ c ∈ y, 1 ≤ c.length ∧ c.length ≤ 9
theorem cycles_l (l : List Int) (h9 : l.length ≤ 9) (hr : ∀ x ∈ l, 0 ≤ x ∧ x < l.length) : ∀ (m : Nat),
    (∀ (s : List Bool) (out : List (List Int)) (c : List Int) (j : Int) (i : Nat), (l.length - i) + s.count false ≤ m → i < l.length → s.length = l.length → 0 ≤ j ∧ j < l.length → CycOk out → out.length ≤ i → c.length + s.count false ≤ 9 → (c ≠ [] ∨ rdOf false s j = false) →
      Tot (fun k => impl_cycles.l1 k l out s c j (l.length : Int) (i : Int)) (fun y => CycOk y ∧ y.length ≤ l.length)) ∧
    (∀ (s : List Bool) (out : List (List Int)) (i : Nat), (l.length - i) + s.count false ≤ m → i ≤ l.length → s.length = l.length → CycOk out → out.length ≤ i →
      Tot (fun k => impl_cycles.l0 k l out s (l.length : Int) (i : Int)) (fun y => CycOk y ∧ y.length ≤ l.length)) := by
  intro m
  induction m with
  | zero =>
    refine ⟨fun s out c j i hm hi _ _ _ _ _ _ => by omega, fun s out i hm hi hs ho hl => ?_⟩
    refine Tot.up ?_
    simp only [impl_cycles.l0]
    exact Tot.neg (by omega) (Tot.some_ ⟨ho, by omega⟩)
  | succ m ih =>
    have H1 : ∀ (s : List Bool) (out : List (List Int)) (c : List Int) (j : Int) (i : Nat), (l.length - i) + s.count false ≤ m + 1 → i < l.length → s.length = l.length → 0 ≤ j ∧ j < l.length → CycOk out → out.length ≤ i → c.length + s.count false ≤ 9 → (c ≠ [] ∨ rdOf false s j = false) →
        Tot (fun k => impl_cycles.l1 k l out s c j (l.length : Int) (i : Int)) (fun y => CycOk y ∧ y.length ≤ l.length) := by
      intro s out c j i hm hi hs hj ho hl hc hne
      obtain ⟨j, rfl⟩ := Int.eq_ofNat_of_zero_le hj.1
      refine Tot.up ?_
      simp only [impl_cycles.l1]
      refine Tot.pos (by omega) (Tot.pos (by omega) (Tot.ite (fun hd => ?_) (fun hd => ?_)))
      · have hc0 : c ≠ [] := by
          rcases hne with h | h
          · exact h
          · rw [h] at hd
            exact absurd hd (by simp)
        have hc1 := List.length_pos_iff.2 hc0
        refine Tot.pos (by omega) ?_
        rw [w64 (n := (i : Int) + 1) (by omega) (by omega)]
        refine ih.2 s (out ++ [c]) (i + 1) (by omega) (by omega) hs (fun x hx => ?_) (by rw [List.length_append, List.length_singleton]; omega)
        rcases List.mem_append.1 hx with hx | hx
        · exact ho x hx
        · rw [List.mem_singleton.1 hx]
          omega
      · refine Tot.pos (by omega) (Tot.pos (by omega) ?_)
        rw [Bool.not_eq_true] at hd
        unfold rdOf at hd
        rw [Int.toNat_natCast, getDin s false j (by omega)] at hd
        have h1 := count_mark s j (by omega) hd
        rw [Int.toNat_natCast]
        have h2 := hr _ (rd_mem l j (by omega))
        exact ih.1 (s.set j true) out (c ++ [(j : Int)]) (rd l (j : Int)) i (by omega) hi (by rw [List.length_set]; exact hs) h2 ho hl (by rw [List.length_append, List.length_singleton]; omega) (.inl (by simp))
    refine ⟨H1, fun s out i hm hi hs ho hl => ?_⟩
    refine Tot.up ?_
    simp only [impl_cycles.l0]
    by_cases hlt : i < l.length
    · refine Tot.pos (by omega) (Tot.pos (by omega) (Tot.pos (by omega) (Tot.ite (fun hd => ?_) (fun hd => ?_))))
      · rw [w64 (n := (i : Int) + 1) (by omega) (by omega)]
        exact ih.2 s out (i + 1) (by omega) (by omega) hs ho (by omega)
      · rw [Bool.not_eq_true] at hd
        have h3 := List.count_le_length (a := false) (l := s)
        exact H1 s out [] i i hm hlt hs (by omega) ho hl (by simp; omega) (.inr hd)
    · exact Tot.neg (by omega) (Tot.some_ ⟨ho, by omega⟩)
theorem cycles_tot (l : List Int) (h9 : l.length ≤ 9) (ho : Ord l) : ∃ y : List (List Int), (CycOk y ∧ y.length ≤ 9) ∧ Tot (fun k => spec_l9Cycles.f k l) (fun z => z = y) ∧ Tot (fun k => impl_cycles.f k l) (fun z => z = y) := by
  have h : Tot (fun k => impl_cycles.f k l) (fun y => CycOk y ∧ y.length ≤ 9) := by
    simp only [impl_cycles.f]
    refine Tot.pos (by omega) (Tot.pos (by omega) ?_)
    rw [Int.toNat_natCast]
    refine ((cycles_l l h9 ho.2 (l.length + l.length)).2 (List.replicate l.length false) [] 0 (by simp) (by omega) (by simp) (fun x hx => by simp at hx) (by simp)).imp (fun y hy => ⟨hy.1, by omega⟩)
  obtain ⟨y, hy, ht⟩ := h.val
  refine ⟨y, hy, ?_, ht⟩
  simp only [cycles_same]
  exact ht

theorem rdLI (l : List (List Int)) (i : Nat) (h : i < l.length) : rd_L1 l (i : Int) = l[i] := by
  unfold rd_L1
  rw [Int.toNat_natCast]
  exact getDin l _ i h
def wid (l : List (List Int)) : Nat := (l.map List.length).sum
theorem wid_succ (l : List (List Int)) (i : Nat) (h : i < l.length) : wid (l.take (i + 1)) = wid (l.take i) + l[i].length := by
  unfold wid
  rw [List.take_succ_eq_append_getElem h, List.map_append, List.sum_append]
  simp
def Cyc9 (l : List (List Int)) : Prop := l.length ≤ 9 ∧ ∀ c ∈ l, c.length ≤ 9
theorem wid_le (l : List (List Int)) (hl : Cyc9 l) : ∀ i, i ≤ l.length → wid (l.take i) ≤ 9 * i := by
  intro i
  induction i with
  | zero => intro _; simp [wid]
  | succ i ih =>
    intro h
    have h1 := ih (by omega)
    have h2 := hl.2 _ (List.getElem_mem (show i < l.length by omega))
    rw [wid_succ l i (by omega)]
    omega
def mkL (l : List (List Int)) : List (List Int) := (List.range l.length).map fun (i : Nat) => ups (1 + (wid (l.take i) : Int)) (l.getD i []).length
theorem mkL_length (l : List (List Int)) : (mkL l).length = l.length := by simp [mkL]
theorem mkL_get (l : List (List Int)) (i : Nat) (h : i < l.length) : (mkL l)[i]'(by rw [mkL_length]; exact h) = ups (1 + (wid (l.take i) : Int)) l[i].length := by
  simp [mkL, h]
theorem eqSS_tot (l : List (List Int)) (hl : Cyc9 l) : Tot (fun k => laws_eqIntSS.f k l l) (fun y => y = true) := by
  have key : ∀ (d i : Nat), l.length - i = d → i ≤ l.length → Tot (fun k => laws_eqIntSS.l0 k l l (i : Int)) (fun y => y = true) := by
    intro d
    induction d with
    | zero =>
      intro i hd hi
      refine Tot.up ?_
      simp only [laws_eqIntSS.l0]
      exact Tot.neg (by omega) (Tot.some_ rfl)
    | succ d ih =>
      intro i hd hi
      have h9 := hl.1
      have hc := hl.2 _ (List.getElem_mem (show i < l.length by omega))
      refine Tot.up ?_
      simp only [laws_eqIntSS.l0]
      rw [rdLI l i (by omega), w64 (n := (i : Int) + 1) (by omega) (by omega)]
      exact Tot.pos (by omega) (Tot.pos (by omega) (Tot.pos (by omega) (Tot.bind (eqIntS_tot _ (by omega)) (fun y hy => Tot.pos hy (ih (i + 1) (by omega) (by omega))))))
  simp only [laws_eqIntSS.f]
  exact Tot.pos trivial (key l.length 0 (by omega) (by omega))
theorem markSS_tot (l : List (List Int)) (hl : Cyc9 l) : Tot (fun k => laws_markIntSS.f k l 1) (fun y => y = (1 + (wid l : Int), mkL l)) := by
  have hz := mkL_length l
  have key : ∀ (d i : Nat), l.length - i = d → i ≤ l.length → Tot (fun k => laws_markIntSS.l0 k (mixed (mkL l) l i) (1 + (wid (l.take i) : Int)) (i : Int)) (fun y => y = (1 + (wid l : Int), mkL l)) := by
    intro d
    induction d with
    | zero =>
      intro i hd hi
      refine Tot.up ?_
      have e : i = l.length := by omega
      subst e
      simp only [laws_markIntSS.l0]
      refine Tot.neg (by rw [mixed_length _ _ _ hz]; omega) (Tot.some_ ?_)
      rw [mixed_end _ _ _ (by omega) (by omega), List.take_length]
    | succ d ih =>
      intro i hd hi
      have h9 := hl.1
      have hw := wid_le l hl i (by omega)
      have hc := hl.2 _ (List.getElem_mem (show i < l.length by omega))
      refine Tot.up ?_
      simp only [laws_markIntSS.l0, Int.toNat_natCast]
      refine Tot.pos (by rw [mixed_length _ _ _ hz]; omega) (Tot.pos (by omega) ?_)
      rw [mixed_get _ _ _ i hz (by omega), w64 (n := (i : Int) + 1) (by omega) (by omega)]
      refine Tot.bind (markIntS_tot l[i] (by omega) (1 + (wid (l.take i) : Int)) (by omega) (by omega)) (fun y hy => ?_)
      rw [hy]
      simp only
      rw [mixed_set _ _ i _ hz (by omega) (by rw [getDin _ _ i (by omega), mkL_get l i (by omega)]), show 1 + (wid (l.take i) : Int) + (l[i].length : Int) = 1 + (wid (l.take (i + 1)) : Int) by rw [wid_succ l i (by omega)]; omega]
      exact ih (i + 1) (by omega) (by omega)
  have h := key l.length 0 (by omega) (by omega)
  rw [mixed_zero] at h
  exact h
theorem heldSS_tot (l : List (List Int)) (hl : Cyc9 l) : Tot (fun k => laws_heldIntSS.f k (mkL l) 1) (fun y => y = 1 + (wid l : Int)) := by
  have hz := mkL_length l
  have key : ∀ (d i : Nat), l.length - i = d → i ≤ l.length → Tot (fun k => laws_heldIntSS.l0 k (mkL l) (1 + (wid (l.take i) : Int)) (i : Int)) (fun y => y = 1 + (wid l : Int)) := by
    intro d
    induction d with
    | zero =>
      intro i hd hi
      refine Tot.up ?_
      have e : i = l.length := by omega
      subst e
      simp only [laws_heldIntSS.l0]
      refine Tot.neg (by rw [hz]; omega) (Tot.some_ ?_)
      rw [List.take_length]
    | succ d ih =>
      intro i hd hi
      have h9 := hl.1
      have hw := wid_le l hl i (by omega)
      have hc := hl.2 _ (List.getElem_mem (show i < l.length by omega))
      refine Tot.up ?_
      simp only [laws_heldIntSS.l0]
      refine Tot.pos (by rw [hz]; omega) (Tot.pos (by omega) ?_)
      rw [rdLI _ i (by omega), mkL_get l i (by omega), w64 (n := (i : Int) + 1) (by omega) (by omega)]
      refine Tot.bind (heldIntS_tot l[i].length (by omega) (1 + (wid (l.take i) : Int)) (by omega) (by omega)) (fun y hy => Tot.neg (by omega) ?_)
      rw [hy, show 1 + (wid (l.take i) : Int) + (l[i].length : Int) = 1 + (wid (l.take (i + 1)) : Int) by rw [wid_succ l i (by omega)]; omega]
      exact ih (i + 1) (by omega) (by omega)
  exact key l.length 0 (by omega) (by omega)
theorem cyc_same (l : List Int) (hl : l.length ≤ 1048576) : ∃ r : List (List Int) × Bool, Cyc9 r.1 ∧ Tot (fun k => spec_CyclesOf.f k l) (fun z => z = r) ∧ Tot (fun k => impl_CyclesOf.f k l) (fun z => z = r) := by
  simp only [spec_CyclesOf.f, impl_CyclesOf.f]
  by_cases h : isOrd l = true
  · obtain ⟨h9, ho⟩ := isOrd_iff.1 h
    obtain ⟨y, hy, h1, h2⟩ := cycles_tot l h9 ho
    refine ⟨(y, true), ⟨hy.2, fun c hc => (hy.1 c hc).2⟩, ?_, ?_⟩
    · exact Tot.bind (specOrd_tot l hl) (fun y1 e1 => Tot.pos (e1.trans h) (Tot.bind h1 (fun y2 e2 => Tot.some_ (by rw [e2]))))
    · exact Tot.bind (implOrd_tot l hl) (fun y1 e1 => Tot.pos (e1.trans h) (Tot.bind h2 (fun y2 e2 => Tot.some_ (by rw [e2]))))
  · refine ⟨([], false), ⟨by simp, by simp⟩, ?_, ?_⟩
    · exact Tot.bind (specOrd_tot l hl) (fun y1 e1 => Tot.neg (by rw [e1]; exact h) (Tot.some_ rfl))
    · exact Tot.bind (implOrd_tot l hl) (fun y1 e1 => Tot.neg (by rw [e1]; exact h) (Tot.some_ rfl))
theorem FnExactCyclesOf : laws_FnExactCyclesOf.Pure := by
  intro l _ _ _
  refine Tot.ex ?_
  simp only [laws_FnExactCyclesOf.f]
  refine Tot.ite (fun _ => Tot.some_ rfl) (fun hl => ?_)
  have hl : l.length ≤ 1048576 := by omega
  obtain ⟨⟨r, ok⟩, hr, h1, h2⟩ := cyc_same l hl
  simp only at hr
  have tI := toIntS_tot l hl
  have eR := eqSS_tot r hr
  have hH := heldSS_tot r hr
  refine Tot.bind tI (fun y1 e1 => ?_)
  rw [e1]
  refine Tot.bind h1 (fun y2 e2 => Tot.bind tI (fun y3 e3 => ?_))
  rw [e2, e3]
  refine Tot.bind h2 (fun y4 e4 => ?_)
  rw [e4]
  refine Tot.bind eR (fun y5 e5 => Tot.pos e5 (Tot.up ?_))
  simp only [laws_FnExactCyclesOf.j0, bne_self_eq_false]
  refine Tot.neg (by simp) (Tot.bind tI (fun y6 e6 => ?_))
  rw [e6]
  refine Tot.bind (eqIntS_tot l hl) (fun y7 e7 => Tot.pos e7 (Tot.bind (markIntS_tot l hl 1 (by omega) (by omega)) (fun y8 e8 => ?_)))
  rw [e8]
  refine Tot.neg (by simp only; omega) (Tot.bind eR (fun y9 e9 => Tot.pos e9 (Tot.up ?_)))
  simp only [laws_FnExactCyclesOf.j1]
  refine Tot.neg (by simp) (Tot.bind (markSS_tot r hr) (fun y10 e10 => ?_))
  rw [e10]
  simp only
  refine Tot.bind hH (fun y11 e11 => Tot.neg (by omega) (Tot.pos e11 (Tot.bind tI (fun y12 e12 => ?_))))
  rw [e12]
  refine Tot.bind h2 (fun y13 e13 => ?_)
  rw [e13]
  refine Tot.bind eR (fun y14 e14 => Tot.pos e14 (Tot.up ?_))
  simp only [laws_FnExactCyclesOf.j2, bne_self_eq_false]
  exact Tot.neg (by simp) (Tot.bind hH (fun y15 e15 => Tot.neg (by omega) (Tot.pos e15 (Tot.some_ rfl))))

end Go.Proofs.Ytbjoddpaefecmaa.Pure
