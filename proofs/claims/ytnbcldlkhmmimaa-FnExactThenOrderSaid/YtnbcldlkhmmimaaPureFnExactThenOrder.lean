/- Proved: ThenOrder of the program and of the reference answer alike at all arguments, and the answer owns its memory. Conditions: those of the given statement alone. -/
import Derived.Test.YtnbcldlkhmmimaaPFnExactThenOrderx3
import Derived.Test.YtnbcldlkhmmimaaBase
set_option linter.unusedVariables false
set_option linter.unusedSimpArgs false
namespace Go.Proofs.Ytnbcldlkhmmimaa.Pure
open Go.RowKit Go.Proofs.Ytnbcldlkhmmimaa.PFnExactThenOrder Go.Proofs.Ytnbcldlkhmmimaa.Base Go.Proofs.YtnbcldlkhmmimaaW.PrintWords Go.Proofs.YtnbcldlkhmmimaaW.PrintLast Go.Proofs.YtnbcldlkhmmimaaW.PrintMore

theorem toIntS_l0 (l : List Int) (hl : l.length ≤ 1048576) : ∀ (d k i : Nat) (out : List Int), l.length - i = d → d < k → i ≤ l.length → out.length = l.length → out.take i = l.take i → laws_toIntS.l0 k l out (i : Int) = some l := by
  intro d
  induction d with
  | zero =>
    intro k i out hd hk hi ho ht
    obtain ⟨k, rfl⟩ := rounds hk
    simp only [laws_toIntS.l0]
    rw [if_neg (by omega), take_all out l i ht (by omega) (by omega)]
  | succ d ih =>
    intro k i out hd hk hi ho ht
    obtain ⟨k, rfl⟩ := rounds hk
    simp only [laws_toIntS.l0]
    rw [if_pos (by omega), if_pos (by omega), if_pos (by omega), w64 (by omega) (by omega), Int.toNat_natCast, rd_in l i (by omega)]
    exact ih k (i + 1) _ (by omega) (by omega) (by omega) (by rw [List.length_set]; exact ho) (take_set out l i _ ht (by omega) (by omega) rfl)

theorem toIntS_eq (l : List Int) (hl : l.length ≤ 1048576) (k : Nat) (hk : l.length < k) : laws_toIntS.f k l = some l := by
  unfold laws_toIntS.f
  rw [if_pos (by omega), if_pos (by omega)]
  exact toIntS_l0 l hl l.length k 0 _ (by omega) hk (by omega) (by simp) (by simp)

theorem eqIntS_l0 (l : List Int) (hl : l.length ≤ 1048576) : ∀ (d k i : Nat), l.length - i = d → d < k → laws_eqIntS.l0 k l l (i : Int) = some true := by
  intro d
  induction d with
  | zero =>
    intro k i hd hk
    obtain ⟨k, rfl⟩ := rounds hk
    simp only [laws_eqIntS.l0]
    rw [if_neg (by omega)]
  | succ d ih =>
    intro k i hd hk
    obtain ⟨k, rfl⟩ := rounds hk
    simp only [laws_eqIntS.l0]
    rw [if_pos (by omega), if_pos (by omega), if_pos (by omega), if_pos trivial, w64 (by omega) (by omega)]
    exact ih k (i + 1) (by omega) (by omega)

theorem eqIntS_self (l : List Int) (hl : l.length ≤ 1048576) (k : Nat) (hk : l.length < k) : laws_eqIntS.f k l l = some true := by
  unfold laws_eqIntS.f
  rw [if_pos rfl]
  exact eqIntS_l0 l hl l.length k 0 (by omega) hk

theorem toIntS_tot (l : List Int) (hl : l.length ≤ 1048576) : Tot (fun k => laws_toIntS.f k l) (fun y => y = l) := Tot.at_ (l.length + 1) rfl (fun k hk => toIntS_eq l hl k (by omega))
theorem eqIntS_tot (l : List Int) (hl : l.length ≤ 1048576) : Tot (fun k => laws_eqIntS.f k l l) (fun y => y = true) := Tot.at_ (l.length + 1) rfl (fun k hk => eqIntS_self l hl k (by omega))

theorem markIntS_l0 (n : Nat) (hn : n ≤ 1048576) (m : Int) (h0 : 0 ≤ m) (h1 : m ≤ 4294967296) : ∀ (d k i : Nat) (out : List Int), n - i = d → d < k → i ≤ n → out.length = n → out.take i = (ups m n).take i → laws_markIntS.l0 k out (m + (i : Int)) (i : Int) = some (m + (n : Int), ups m n) := by
  intro d
  induction d with
  | zero =>
    intro k i out hd hk hi ho ht
    obtain ⟨k, rfl⟩ := rounds hk
    simp only [laws_markIntS.l0]
    rw [if_neg (by omega), take_all out (ups m n) i ht (by omega) (by rw [ups_length]; omega), show i = n by omega]
  | succ d ih =>
    intro k i out hd hk hi ho ht
    obtain ⟨k, rfl⟩ := rounds hk
    simp only [laws_markIntS.l0]
    rw [if_pos (by omega), if_pos (by omega), w64 (n := (i : Int) + 1) (by omega) (by omega), w64 (n := m + (i : Int) + 1) (by omega) (by omega), Int.toNat_natCast]
    rw [show m + (i : Int) + 1 = m + ((i + 1 : Nat) : Int) by omega]
    exact ih k (i + 1) _ (by omega) (by omega) (by omega) (by rw [List.length_set]; exact ho) (take_set out (ups m n) i _ ht (by omega) (by rw [ups_length]; omega) (ups_get m n i (by omega)).symm)

theorem markIntS_eq (l : List Int) (hl : l.length ≤ 1048576) (m : Int) (h0 : 0 ≤ m) (h1 : m ≤ 4294967296) (k : Nat) (hk : l.length < k) : laws_markIntS.f k l m = some (m + (l.length : Int), ups m l.length) := by
  have h := markIntS_l0 l.length hl m h0 h1 l.length k 0 l (by omega) hk (by omega) rfl (by simp)
  unfold laws_markIntS.f
  simpa using h

theorem heldIntS_l0 (n : Nat) (hn : n ≤ 1048576) (m : Int) (h0 : 0 ≤ m) (h1 : m ≤ 4294967296) : ∀ (d k i : Nat), n - i = d → d < k → i ≤ n → laws_heldIntS.l0 k (ups m n) (m + (i : Int)) (i : Int) = some (m + (n : Int)) := by
  intro d
  induction d with
  | zero =>
    intro k i hd hk hi
    obtain ⟨k, rfl⟩ := rounds hk
    simp only [laws_heldIntS.l0]
    rw [if_neg (by rw [ups_length]; omega), show i = n by omega]
  | succ d ih =>
    intro k i hd hk hi
    obtain ⟨k, rfl⟩ := rounds hk
    simp only [laws_heldIntS.l0]
    rw [if_pos (by rw [ups_length]; omega), if_pos (by omega), rd_in _ i (by rw [ups_length]; omega), ups_get m n i (by omega), if_pos rfl, w64 (n := (i : Int) + 1) (by omega) (by omega), w64 (n := m + (i : Int) + 1) (by omega) (by omega)]
    rw [show m + (i : Int) + 1 = m + ((i + 1 : Nat) : Int) by omega]
    exact ih k (i + 1) (by omega) (by omega) (by omega)

theorem heldIntS_eq (n : Nat) (hn : n ≤ 1048576) (m : Int) (h0 : 0 ≤ m) (h1 : m ≤ 4294967296) (k : Nat) (hk : n < k) : laws_heldIntS.f k (ups m n) m = some (m + (n : Int)) := by
  have h := heldIntS_l0 n hn m h0 h1 n k 0 (by omega) hk (by omega)
  unfold laws_heldIntS.f
  simpa using h

theorem markIntS_tot (l : List Int) (hl : l.length ≤ 1048576) (m : Int) (h0 : 0 ≤ m) (h1 : m ≤ 4294967296) : Tot (fun k => laws_markIntS.f k l m) (fun y => y = (m + (l.length : Int), ups m l.length)) := Tot.at_ (l.length + 1) rfl (fun k hk => markIntS_eq l hl m h0 h1 k (by omega))
theorem heldIntS_tot (n : Nat) (hn : n ≤ 1048576) (m : Int) (h0 : 0 ≤ m) (h1 : m ≤ 4294967296) : Tot (fun k => laws_heldIntS.f k (ups m n) m) (fun y => y = m + (n : Int)) := Tot.at_ (n + 1) rfl (fun k hk => heldIntS_eq n hn m h0 h1 k (by omega))

theorem index_l0 (l : List Int) (hl : l.length ≤ 1048576) (v : Int) : ∀ (d k i : Nat), l.length - i = d → d < k → i ≤ l.length → ∃ r, slices_Index_int_int.l0 k l v (l.length : Int) (i : Int) = some r ∧ (r ≥ 0 ↔ v ∈ l.drop i) := by
  intro d
  induction d with
  | zero =>
    intro k i hd hk hi
    obtain ⟨k, rfl⟩ := rounds hk
    refine ⟨-1, ?_, ?_⟩
    · simp only [slices_Index_int_int.l0]
      rw [if_neg (by omega)]
    · rw [List.drop_of_length_le (by omega)]
      simp
  | succ d ih =>
    intro k i hd hk hi
    obtain ⟨k, rfl⟩ := rounds hk
    simp only [slices_Index_int_int.l0]
    rw [if_pos (by omega), if_pos (by omega), if_pos (by omega), rd_in l i (by omega), w64 (by omega) (by omega)]
    have hdrop := List.drop_eq_getElem_cons (show i < l.length by omega)
    by_cases e : v = l[i]
    · exact ⟨i, by rw [if_pos e], by rw [hdrop, ← e]; simp⟩
    · obtain ⟨r, hr, h⟩ := ih k (i + 1) (by omega) (by omega) (by omega)
      refine ⟨r, by rw [if_neg e]; exact hr, ?_⟩
      rw [h, hdrop, List.mem_cons]
      exact ⟨fun h => .inr h, fun h => h.resolve_left e⟩

theorem contains_eq (l : List Int) (hl : l.length ≤ 1048576) (v : Int) (k : Nat) (hk : l.length < k) : slices_Contains_int_int.f k l v = some (decide (v ∈ l)) := by
  obtain ⟨r, hr, h⟩ := index_l0 l hl v l.length k 0 (by omega) hk (by omega)
  unfold slices_Contains_int_int.f slices_Index_int_int.f
  have hr' : slices_Index_int_int.l0 k l v (l.length : Int) 0 = some r := hr
  rw [hr']
  simp only [Option.bind_some]
  rw [List.drop_zero] at h
  congr 1
  exact decide_eq_decide.2 h

theorem l1In_eq (a b c : Int) : spec_l1In.f a b c = some (decide (b ≤ a ∧ a ≤ c)) := by
  unfold spec_l1In.f
  by_cases h : a ≥ b
  · rw [if_pos h]
    congr 1
    exact decide_eq_decide.2 ⟨fun h1 => ⟨h, h1⟩, fun h1 => h1.2⟩
  · rw [if_neg h, decide_eq_false (fun h1 => h h1.1)]

theorem l1Has_l0 (l : List Int) (hl : l.length ≤ 1048576) (v : Int) : ∀ (d k i : Nat), l.length - i = d → d < k → i ≤ l.length → spec_l1Has.l0 k v l (l.length : Int) (i : Int) = some (decide (v ∈ l.drop i)) := by
  intro d
  induction d with
  | zero =>
    intro k i hd hk hi
    obtain ⟨k, rfl⟩ := rounds hk
    simp only [spec_l1Has.l0]
    rw [if_neg (by omega), List.drop_of_length_le (by omega)]
    simp
  | succ d ih =>
    intro k i hd hk hi
    obtain ⟨k, rfl⟩ := rounds hk
    simp only [spec_l1Has.l0]
    rw [if_pos (by omega), if_pos (by omega), if_pos (by omega), rd_in l i (by omega), w64 (by omega) (by omega), List.drop_eq_getElem_cons (show i < l.length by omega)]
    by_cases e : l[i] = v
    · rw [if_pos e]
      simp [e]
    · have h := ih k (i + 1) (by omega) (by omega) (by omega)
      rw [if_neg e]
      have h' : spec_l1Has.l0 k v l (l.length : Int) ((i : Int) + 1) = some (decide (v ∈ l.drop (i + 1))) := h
      rw [h']
      congr 1
      refine decide_eq_decide.2 ?_
      rw [List.mem_cons]
      exact ⟨fun h => .inr h, fun h => h.resolve_left (fun h => e h.symm)⟩

theorem l1Has_eq (l : List Int) (hl : l.length ≤ 1048576) (v : Int) (k : Nat) (hk : l.length < k) : spec_l1Has.f k l v = some (decide (v ∈ l)) := by
  have h := l1Has_l0 l hl v l.length k 0 (by omega) hk (by omega)
  rw [List.drop_zero] at h
  exact h

theorem implIsOrder_l0 (l : List Int) (hl : l.length ≤ 1048576) : ∀ (d k i : Nat), l.length - i = d → d + l.length < k → i ≤ l.length → ∃ b, impl_IsOrder.l0 k l (l.length : Int) (i : Int) = some b ∧ (b = true ↔ l.length ≤ 9 ∧ ∀ v : Int, (i : Int) ≤ v → v < l.length → v ∈ l) := by
  intro d
  induction d with
  | zero =>
    intro k i hd hk hi
    obtain ⟨k, rfl⟩ := rounds hk
    refine ⟨decide ((l.length : Int) ≤ 9), ?_, ?_⟩
    · simp only [impl_IsOrder.l0]
      rw [if_neg (by omega)]
    · rw [decide_eq_true_iff]
      exact ⟨fun h => ⟨by omega, fun v _ _ => by omega⟩, fun h => by omega⟩
  | succ d ih =>
    intro k i hd hk hi
    obtain ⟨k, rfl⟩ := rounds hk
    simp only [impl_IsOrder.l0]
    rw [if_pos (by omega), w64 (by omega) (by omega)]
    obtain ⟨b, hb, h⟩ := ih k (i + 1) (by omega) (by omega) (by omega)
    have hb' : impl_IsOrder.l0 k l (l.length : Int) ((i : Int) + 1) = some b := hb
    rw [hb', contains_eq l hl _ k (by omega)]
    by_cases h9 : (i : Int) < 9
    · rw [if_pos h9]
      simp only [Option.bind_some]
      by_cases hm : (i : Int) ∈ l
      · refine ⟨b, by rw [decide_eq_true hm, if_pos rfl], ?_⟩
        rw [h]
        refine ⟨fun ⟨h1, h2⟩ => ⟨h1, fun v h3 h4 => ?_⟩, fun ⟨h1, h2⟩ => ⟨h1, fun v h3 h4 => h2 v (by omega) h4⟩⟩
        by_cases e : v = (i : Int)
        · rw [e]; exact hm
        · exact h2 v (by omega) h4
      · refine ⟨false, by rw [decide_eq_false hm, if_neg (by simp)], ?_⟩
        refine ⟨(fun hf => by cases hf), fun ⟨h1, h2⟩ => absurd (h2 i (by omega) (by omega)) hm⟩
    · refine ⟨b, by rw [if_neg h9], ?_⟩
      rw [h]
      exact ⟨fun ⟨h1, h2⟩ => by omega, fun ⟨h1, h2⟩ => by omega⟩

theorem implIsOrder_eq (l : List Int) (hl : l.length ≤ 1048576) (k : Nat) (hk : l.length + l.length < k) : ∃ b, impl_IsOrder.f k l = some b ∧ (b = true ↔ l.length ≤ 9 ∧ Ord l) := by
  obtain ⟨b, hb, h⟩ := implIsOrder_l0 l hl l.length k 0 (by omega) hk (by omega)
  refine ⟨b, hb, ?_⟩
  rw [h]
  refine and_congr_right fun _ => ⟨fun h => ord_of_has (fun v h0 h1 => h v (by omega) h1), fun h v h0 h1 => h.has v (by omega) h1⟩

theorem specOrder_l0 (l : List Int) (hl : l.length ≤ 1048576) : ∀ (d k i : Nat), l.length - i = d → d + l.length < k → i ≤ l.length → (l.take i).Nodup → (∀ x ∈ l.take i, 0 ≤ x ∧ x < l.length) →
    ∃ b, spec_l4Order.l0 k l l (l.length : Int) (i : Int) = some b ∧ (b = true ↔ l.length ≤ 9 ∧ Ord l) := by
  intro d
  induction d with
  | zero =>
    intro k i hd hk hi hn hr
    obtain ⟨k, rfl⟩ := rounds hk
    refine ⟨decide ((l.length : Int) ≤ 9), ?_, ?_⟩
    · simp only [spec_l4Order.l0]
      rw [if_neg (by omega)]
    · rw [decide_eq_true_iff]
      rw [List.take_of_length_le (by omega)] at hn hr
      exact ⟨fun h => ⟨by omega, hn, hr⟩, fun h => by omega⟩
  | succ d ih =>
    intro k i hd hk hi hn hr
    obtain ⟨k, rfl⟩ := rounds hk
    have hlt : i < l.length := by omega
    simp only [spec_l4Order.l0]
    rw [if_pos (by omega), if_pos (by omega), if_pos (by omega), w64 (n := (i : Int) + 1) (by omega) (by omega), w64 (n := (l.length : Int) - 1) (by omega) (by omega), rd_in l i hlt, l1In_eq]
    simp only [Option.bind_some]
    have htk : l.take (i + 1) = l.take i ++ [l[i]] := by rw [List.take_succ_eq_append_getElem hlt]
    by_cases h1 : 0 ≤ l[i] ∧ l[i] ≤ (l.length : Int) - 1
    · rw [decide_eq_true h1, if_pos rfl, if_pos (by omega), Int.toNat_natCast, l1Has_eq (l.take i) (by rw [List.length_take]; omega) _ k (by rw [List.length_take]; omega)]
      simp only [Option.bind_some]
      by_cases hm : l[i] ∈ l.take i
      · refine ⟨false, by rw [decide_eq_true hm, if_pos rfl], (fun hf => by cases hf), fun ⟨_, ho⟩ => ?_⟩
        exfalso
        have h2 := List.take_append_drop (i + 1) l
        have h3 : ((l.take i ++ [l[i]]) ++ l.drop (i + 1)).Nodup := by rw [← htk, h2]; exact ho.1
        have h4 := (List.nodup_append.1 (List.nodup_append.1 h3).1).2.2 _ hm l[i] (by simp)
        exact h4 rfl
      · rw [decide_eq_false hm, if_neg (by simp)]
        refine ih k (i + 1) (by omega) (by omega) (by omega) ?_ ?_
        · rw [htk]
          refine List.nodup_append.2 ⟨hn, by simp, fun a ha b hb e => ?_⟩
          rw [List.mem_singleton] at hb
          exact hm (by rw [← hb, ← e]; exact ha)
        · intro x hx
          rw [htk] at hx
          rcases List.mem_append.1 hx with hx | hx
          · exact hr x hx
          · rw [List.mem_singleton.1 hx]
            omega
    · refine ⟨false, by rw [decide_eq_false h1, if_neg (by simp)], (fun hf => by cases hf), fun ⟨_, ho⟩ => ?_⟩
      exact absurd (by have := ho.2 l[i] (List.getElem_mem hlt); omega) h1

theorem specOrder_eq (l : List Int) (hl : l.length ≤ 1048576) (k : Nat) (hk : l.length + l.length < k) : ∃ b, spec_l4Order.f k l = some b ∧ (b = true ↔ l.length ≤ 9 ∧ Ord l) :=
  specOrder_l0 l hl l.length k 0 (by omega) hk (by omega) (by simp) (by simp)

/-- Both say the same of an order, with rounds enough. -/
theorem orders_same (l : List Int) (hl : l.length ≤ 1048576) (k : Nat) (hk : l.length + l.length < k) :
    ∃ b, spec_l4Order.f k l = some b ∧ impl_IsOrder.f k l = some b ∧ (b = true ↔ l.length ≤ 9 ∧ Ord l) := by
  obtain ⟨b, h1, h2⟩ := specOrder_eq l hl k hk
  obtain ⟨c, h3, h4⟩ := implIsOrder_eq l hl k hk
  have e : b = c := by
    rw [Bool.eq_iff_iff, h2, h4]
  exact ⟨b, h1, e ▸ h3, h2⟩

/-- Is it an order? -/
instance (l : List Int) : Decidable (Ord l) := inferInstanceAs (Decidable (l.Nodup ∧ _))
def isOrd (l : List Int) : Bool := decide (l.length ≤ 9 ∧ Ord l)
theorem isOrd_iff {l : List Int} : isOrd l = true ↔ l.length ≤ 9 ∧ Ord l := by
  unfold isOrd
  rw [decide_eq_true_iff]
theorem specOrd_tot (l : List Int) (hl : l.length ≤ 1048576) : Tot (fun k => spec_l4Order.f k l) (fun y => y = isOrd l) := Tot.at_ (l.length + l.length + 1) rfl (fun k hk => by
  obtain ⟨b, h1, h2⟩ := specOrder_eq l hl k (by omega)
  rw [h1, show b = isOrd l by rw [Bool.eq_iff_iff, h2, isOrd_iff]])
theorem implOrd_tot (l : List Int) (hl : l.length ≤ 1048576) : Tot (fun k => impl_IsOrder.f k l) (fun y => y = isOrd l) := Tot.at_ (l.length + l.length + 1) rfl (fun k hk => by
  obtain ⟨b, h1, h2⟩ := implIsOrder_eq l hl k (by omega)
  rw [h1, show b = isOrd l by rw [Bool.eq_iff_iff, h2, isOrd_iff]])

/-- One order, then another. -/
def thenV (a b : List Int) : List Int := b.map fun x => rd a x
theorem specThen_eq (a b : List Int) (hb : b.length ≤ 1048576) (hr : ∀ x ∈ b, 0 ≤ x ∧ x < a.length) (k : Nat) (hk : b.length < k) : spec_l9Then.f k a b = some (thenV a b) := by
  have hlen : (thenV a b).length = b.length := by simp [thenV]
  have h := loop_up (fun k (x : List Int × Int) => spec_l9Then.l0 k a x.1 b (b.length : Int) x.2) b.length 0
    (fun i => ((thenV a b).take i, (i : Int))) (thenV a b) (fun i k hi hB => by
    have hx := hr _ (List.getElem_mem hi)
    simp only [spec_l9Then.l0]
    rw [if_pos (by omega), if_pos (by omega), if_pos (by omega), rd_in b i hi, if_pos hx.1, if_pos hx.2, if_pos (by rw [List.length_take]; omega), w64 (n := (i : Int) + 1) (by omega) (by omega), List.take_succ_eq_append_getElem (by omega)]
    simp only [thenV, List.getElem_map]
    rfl) (fun k _ => by
    simp only [spec_l9Then.l0]
    rw [if_neg (by omega), List.take_of_length_le (by omega)]) k hk
  exact h
theorem implThen_eq (a b : List Int) (hb : b.length ≤ 1048576) (hr : ∀ x ∈ b, 0 ≤ x ∧ x < a.length) (k : Nat) (hk : b.length < k) : impl_then.f k a b = some (thenV a b) := by
  have hlen : (thenV a b).length = b.length := by simp [thenV]
  have h := loop_up (fun k (x : List Int × Int) => impl_then.l0 k a x.1 b (b.length : Int) x.2) b.length 0
    (fun i => ((thenV a b).take i, (i : Int))) (thenV a b) (fun i k hi hB => by
    have hx := hr _ (List.getElem_mem hi)
    simp only [impl_then.l0]
    rw [if_pos (by omega), if_pos (by omega), if_pos (by omega), rd_in b i hi, if_pos hx.1, if_pos hx.2, if_pos (by rw [List.length_take]; omega), w64 (n := (i : Int) + 1) (by omega) (by omega), List.take_succ_eq_append_getElem (by omega)]
    simp only [thenV, List.getElem_map]
    rfl) (fun k _ => by
    simp only [impl_then.l0]
    rw [if_neg (by omega), List.take_of_length_le (by omega)]) k hk
  exact h

def thenOV (a b : List Int) : List Int × Bool := if isOrd a = true ∧ isOrd b = true ∧ a.length = b.length then (thenV a b, true) else ([], false)
theorem specThenOrder_tot (a b : List Int) (ha : a.length ≤ 1048576) (hb : b.length ≤ 1048576) : Tot (fun k => spec_ThenOrder.f k a b) (fun y => y = thenOV a b) := by
  simp only [spec_ThenOrder.f]
  refine Tot.bind (specOrd_tot a ha) (fun y1 e1 => ?_)
  rw [e1]
  refine Tot.ite (fun h1 => ?_) (fun h1 => Tot.some_ (by unfold thenOV; rw [if_neg (fun h => h1 h.1)]))
  refine Tot.bind (specOrd_tot b hb) (fun y2 e2 => ?_)
  rw [e2]
  refine Tot.ite (fun h2 => ?_) (fun h2 => Tot.some_ (by unfold thenOV; rw [if_neg (fun h => h2 h.2.1)]))
  refine Tot.ite (fun h3 => ?_) (fun h3 => Tot.some_ (by unfold thenOV; rw [if_neg (fun h => h3 (by rw [h.2.2]))]))
  have ho := (isOrd_iff.1 h2).2.2
  refine Tot.bind (Q := fun y => y = thenV a b) (Tot.at_ (b.length + 1) rfl (fun k hk => specThen_eq a b hb (fun x hx => by have := ho x hx; omega) k (by omega))) (fun y3 e3 => Tot.some_ ?_)
  unfold thenOV
  rw [e3, if_pos ⟨h1, h2, by omega⟩]
theorem implThenOrder_tot (a b : List Int) (ha : a.length ≤ 1048576) (hb : b.length ≤ 1048576) : Tot (fun k => impl_ThenOrder.f k a b) (fun y => y = thenOV a b) := by
  simp only [impl_ThenOrder.f]
  refine Tot.bind (implOrd_tot a ha) (fun y1 e1 => ?_)
  rw [e1]
  refine Tot.ite (fun h1 => ?_) (fun h1 => Tot.some_ (by unfold thenOV; rw [if_neg (fun h => h1 h.1)]))
  refine Tot.bind (implOrd_tot b hb) (fun y2 e2 => ?_)
  rw [e2]
  refine Tot.ite (fun h2 => ?_) (fun h2 => Tot.some_ (by unfold thenOV; rw [if_neg (fun h => h2 h.2.1)]))
  refine Tot.ite (fun h3 => ?_) (fun h3 => Tot.some_ (by unfold thenOV; rw [if_neg (fun h => h3 (by rw [h.2.2]))]))
  have ho := (isOrd_iff.1 h2).2.2
  refine Tot.bind (Q := fun y => y = thenV a b) (Tot.at_ (b.length + 1) rfl (fun k hk => implThen_eq a b hb (fun x hx => by have := ho x hx; omega) k (by omega))) (fun y3 e3 => Tot.some_ ?_)
  unfold thenOV
  rw [e3, if_pos ⟨h1, h2, by omega⟩]
theorem thenOV_length (a b : List Int) : (thenOV a b).1.length ≤ b.length := by
  unfold thenOV
  split
  · simp [thenV]
  · simp

theorem FnExactThenOrder : laws_FnExactThenOrder.Pure := by
  intro a b _ _ _ _ _ _
  refine Tot.ex ?_
  simp only [laws_FnExactThenOrder.f]
  refine Tot.ite (fun _ => Tot.some_ rfl) (fun ha => Tot.ite (fun _ => Tot.some_ rfl) (fun hb => ?_))
  have ha : a.length ≤ 1048576 := by omega
  have hb : b.length ≤ 1048576 := by omega
  have hr := thenOV_length a b
  generalize hv : thenOV a b = v at hr
  obtain ⟨r, o⟩ := v
  simp only at hr
  have hr : r.length ≤ 1048576 := by omega
  have hs := specThenOrder_tot a b ha hb
  have hi := implThenOrder_tot a b ha hb
  rw [hv] at hs hi
  refine Tot.bind (toIntS_tot a ha) (fun y1 e1 => ?_)
  refine Tot.bind (toIntS_tot b hb) (fun y2 e2 => ?_)
  rw [e1, e2]
  refine Tot.bind hs (fun y3 e3 => ?_)
  rw [e3]
  refine Tot.bind (toIntS_tot a ha) (fun y4 e4 => ?_)
  refine Tot.bind (toIntS_tot b hb) (fun y5 e5 => ?_)
  rw [e4, e5]
  refine Tot.bind hi (fun y6 e6 => ?_)
  rw [e6]
  refine Tot.bind (eqIntS_tot r hr) (fun y7 e7 => Tot.pos e7 ?_)
  simp only [bne_self_eq_false]
  refine Tot.up ?_
  simp only [laws_FnExactThenOrder.j0]
  refine Tot.neg (by simp) ?_
  refine Tot.bind (toIntS_tot a ha) (fun y8 e8 => ?_)
  rw [e8]
  refine Tot.bind (eqIntS_tot a ha) (fun y9 e9 => Tot.pos e9 ?_)
  refine Tot.bind (toIntS_tot b hb) (fun y10 e10 => ?_)
  rw [e10]
  refine Tot.bind (eqIntS_tot b hb) (fun y11 e11 => Tot.pos e11 ?_)
  refine Tot.bind (markIntS_tot a ha 1 (by omega) (by omega)) (fun y12 e12 => ?_)
  rw [e12]
  refine Tot.bind (markIntS_tot b hb _ (by omega) (by omega)) (fun y13 e13 => ?_)
  rw [e13]
  refine Tot.neg (by simp only; omega) ?_
  refine Tot.bind (eqIntS_tot r hr) (fun y14 e14 => Tot.pos e14 ?_)
  simp only [bne_self_eq_false]
  refine Tot.up ?_
  simp only [laws_FnExactThenOrder.j1]
  refine Tot.neg (by simp) ?_
  refine Tot.bind (markIntS_tot r hr 1 (by omega) (by omega)) (fun y15 e15 => ?_)
  rw [e15]
  refine Tot.bind (heldIntS_tot r.length hr 1 (by omega) (by omega)) (fun y16 e16 => ?_)
  rw [e16]
  refine Tot.neg (by omega) (Tot.pos rfl ?_)
  refine Tot.bind (toIntS_tot a ha) (fun y17 e17 => ?_)
  refine Tot.bind (toIntS_tot b hb) (fun y18 e18 => ?_)
  rw [e17, e18]
  refine Tot.bind hi (fun y19 e19 => ?_)
  rw [e19]
  refine Tot.bind (eqIntS_tot r hr) (fun y20 e20 => Tot.pos e20 ?_)
  simp only [bne_self_eq_false]
  refine Tot.up ?_
  simp only [laws_FnExactThenOrder.j2]
  refine Tot.neg (by simp) ?_
  refine Tot.bind (heldIntS_tot r.length hr 1 (by omega) (by omega)) (fun y21 e21 => ?_)
  rw [e21]
  exact Tot.neg (by omega) (Tot.pos rfl (Tot.some_ rfl))

end Go.Proofs.Ytnbcldlkhmmimaa.Pure
