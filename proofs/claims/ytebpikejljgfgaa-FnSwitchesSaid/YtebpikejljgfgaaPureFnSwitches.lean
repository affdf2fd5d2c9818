/- Proved: every order is made by some setting of the switches, for all bytes that orders are drawn from. Conditions: those of the given statement alone. -/
import Derived.Test.YtebpikejljgfgaaPFnSwitchesx11
import Derived.Test.YtebpikejljgfgaaBase
set_option linter.unusedVariables false
set_option linter.unusedSimpArgs false
namespace Go.Proofs.Ytebpikejljgfgaa.Pure
open Go.RowKit Go.Proofs.Ytebpikejljgfgaa.PFnSwitches Go.Proofs.Ytebpikejljgfgaa.Base Go.Proofs.YtebpikejljgfgaaW.PrintWords Go.Proofs.YtebpikejljgfgaaW.PrintLast Go.Proofs.YtebpikejljgfgaaW.PrintMore Go.Proofs.Ytebpikejljgfgaa

theorem index_l0 (l : List Int) (hl : l.length ≤ 1048576) (v : Int) : ∀ (d k i : Nat), l.length - i = d → d < k → i ≤ l.length → ∃ r, slices_Index_int_int.l0 k l v (l.length : Int) (i : Int) = some r ∧ (r ≥ 0 ↔ v ∈ l.drop i) := by
  intro d
  induction d with
  | zero =>
    intro k i hd hk hi
    obtain ⟨k, rfl⟩ := rounds hk
    refine ⟨-1, ?_, ?_⟩
    · simp only [slices_Index_int_int.l0]
      rw [if_neg (by omega)]
    · rw [List.drop_of_length_le (by omega)]
      simp
  | succ d ih =>
    intro k i hd hk hi
    obtain ⟨k, rfl⟩ := rounds hk
    simp only [slices_Index_int_int.l0]
    rw [if_pos (by omega), if_pos (by omega), if_pos (by omega), rd_in l i (by omega), w64 (by omega) (by omega)]
    have hdrop := List.drop_eq_getElem_cons (show i < l.length by omega)
    by_cases e : v = l[i]
    · exact ⟨i, by rw [if_pos e], by rw [hdrop, ← e]; simp⟩
    · obtain ⟨r, hr, h⟩ := ih k (i + 1) (by omega) (by omega) (by omega)
      refine ⟨r, by rw [if_neg e]; exact hr, ?_⟩
      rw [h, hdrop, List.mem_cons]
      exact ⟨fun h => .inr h, fun h => h.resolve_left e⟩

theorem contains_eq (l : List Int) (hl : l.length ≤ 1048576) (v : Int) (k : Nat) (hk : l.length < k) : slices_Contains_int_int.f k l v = some (decide (v ∈ l)) := by
  obtain ⟨r, hr, h⟩ := index_l0 l hl v l.length k 0 (by omega) hk (by omega)
  unfold slices_Contains_int_int.f slices_Index_int_int.f
  have hr' : slices_Index_int_int.l0 k l v (l.length : Int) 0 = some r := hr
  rw [hr']
  simp only [Option.bind_some]
  rw [List.drop_zero] at h
  congr 1
  exact decide_eq_decide.2 h

theorem l1In_eq (a b c : Int) : spec_l1In.f a b c = some (decide (b ≤ a ∧ a ≤ c)) := by
  unfold spec_l1In.f
  by_cases h : a ≥ b
  · rw [if_pos h]
    congr 1
    exact decide_eq_decide.2 ⟨fun h1 => ⟨h, h1⟩, fun h1 => h1.2⟩
  · rw [if_neg h, decide_eq_false (fun h1 => h h1.1)]

theorem l1Has_l0 (l : List Int) (hl : l.length ≤ 1048576) (v : Int) : ∀ (d k i : Nat), l.length - i = d → d < k → i ≤ l.length → spec_l1Has.l0 k v l (l.length : Int) (i : Int) = some (decide (v ∈ l.drop i)) := by
  intro d
  induction d with
  | zero =>
    intro k i hd hk hi
    obtain ⟨k, rfl⟩ := rounds hk
    simp only [spec_l1Has.l0]
    rw [if_neg (by omega), List.drop_of_length_le (by omega)]
    simp
  | succ d ih =>
    intro k i hd hk hi
    obtain ⟨k, rfl⟩ := rounds hk
    simp only [spec_l1Has.l0]
    rw [if_pos (by omega), if_pos (by omega), if_pos (by omega), rd_in l i (by omega), w64 (by omega) (by omega), List.drop_eq_getElem_cons (show i < l.length by omega)]
    by_cases e : l[i] = v
    · rw [if_pos e]
      simp [e]
    · have h := ih k (i + 1) (by omega) (by omega) (by omega)
      rw [if_neg e]
      have h' : spec_l1Has.l0 k v l (l.length : Int) ((i : Int) + 1) = some (decide (v ∈ l.drop (i + 1))) := h
      rw [h']
      congr 1
      refine decide_eq_decide.2 ?_
      rw [List.mem_cons]
      exact ⟨fun h => .inr h, fun h => h.resolve_left (fun h => e h.symm)⟩

theorem l1Has_eq (l : List Int) (hl : l.length ≤ 1048576) (v : Int) (k : Nat) (hk : l.length < k) : spec_l1Has.f k l v = some (decide (v ∈ l)) := by
  have h := l1Has_l0 l hl v l.length k 0 (by omega) hk (by omega)
  rw [List.drop_zero] at h
  exact h

theorem implIsOrder_l0 (l : List Int) (hl : l.length ≤ 1048576) : ∀ (d k i : Nat), l.length - i = d → d + l.length < k → i ≤ l.length → ∃ b, impl_IsOrder.l0 k l (l.length : Int) (i : Int) = some b ∧ (b = true ↔ l.length ≤ 9 ∧ ∀ v : Int, (i : Int) ≤ v → v < l.length → v ∈ l) := by
  intro d
  induction d with
  | zero =>
    intro k i hd hk hi
    obtain ⟨k, rfl⟩ := rounds hk
    refine ⟨decide ((l.length : Int) ≤ 9), ?_, ?_⟩
    · simp only [impl_IsOrder.l0]
      rw [if_neg (by omega)]
    · rw [decide_eq_true_iff]
      exact ⟨fun h => ⟨by omega, fun v _ _ => by omega⟩, fun h => by omega⟩
  | succ d ih =>
    intro k i hd hk hi
    obtain ⟨k, rfl⟩ := rounds hk
    simp only [impl_IsOrder.l0]
    rw [if_pos (by omega), w64 (by omega) (by omega)]
    obtain ⟨b, hb, h⟩ := ih k (i + 1) (by omega) (by omega) (by omega)
    have hb' : impl_IsOrder.l0 k l (l.length : Int) ((i : Int) + 1) = some b := hb
    rw [hb', contains_eq l hl _ k (by omega)]
    by_cases h9 : (i : Int) < 9
    · rw [if_pos h9]
      simp only [Option.bind_some]
      by_cases hm : (i : Int) ∈ l
      · refine ⟨b, by rw [decide_eq_true hm, if_pos rfl], ?_⟩
        rw [h]
        refine ⟨fun ⟨h1, h2⟩ => ⟨h1, fun v h3 h4 => ?_⟩, fun ⟨h1, h2⟩ => ⟨h1, fun v h3 h4 => h2 v (by omega) h4⟩⟩
        by_cases e : v = (i : Int)
        · rw [e]; exact hm
        · exact h2 v (by omega) h4
      · refine ⟨false, by rw [decide_eq_false hm, if_neg (by simp)], ?_⟩
        refine ⟨(fun hf => by cases hf), fun ⟨h1, h2⟩ => absurd (h2 i (by omega) (by omega)) hm⟩
    · refine ⟨b, by rw [if_neg h9], ?_⟩
      rw [h]
      exact ⟨fun ⟨h1, h2⟩ => by omega, fun ⟨h1, h2⟩ => by omega⟩

theorem implIsOrder_eq (l : List Int) (hl : l.length ≤ 1048576) (k : Nat) (hk : l.length + l.length < k) : ∃ b, impl_IsOrder.f k l = some b ∧ (b = true ↔ l.length ≤ 9 ∧ Ord l) := by
  obtain ⟨b, hb, h⟩ := implIsOrder_l0 l hl l.length k 0 (by omega) hk (by omega)
  refine ⟨b, hb, ?_⟩
  rw [h]
  refine and_congr_right fun _ => ⟨fun h => ord_of_has (fun v h0 h1 => h v (by omega) h1), fun h v h0 h1 => h.has v (by omega) h1⟩

theorem specOrder_l0 (l : List Int) (hl : l.length ≤ 1048576) : ∀ (d k i : Nat), l.length - i = d → d + l.length < k → i ≤ l.length → (l.take i).Nodup → (∀ x ∈ l.take i, 0 ≤ x ∧ x < l.length) →
    ∃ b, spec_l4Order.l0 k l l (l.length : Int) (i : Int) = some b ∧ (b = true ↔ l.length ≤ 9 ∧ Ord l) := by
  intro d
  induction d with
  | zero =>
    intro k i hd hk hi hn hr
    obtain ⟨k, rfl⟩ := rounds hk
    refine ⟨decide ((l.length : Int) ≤ 9), ?_, ?_⟩
    · simp only [spec_l4Order.l0]
      rw [if_neg (by omega)]
    · rw [decide_eq_true_iff]
      rw [List.take_of_length_le (by omega)] at hn hr
      exact ⟨fun h => ⟨by omega, hn, hr⟩, fun h => by omega⟩
  | succ d ih =>
    intro k i hd hk hi hn hr
    obtain ⟨k, rfl⟩ := rounds hk
    have hlt : i < l.length := by omega
    simp only [spec_l4Order.l0]
    rw [if_pos (by omega), if_pos (by omega), if_pos (by omega), w64 (n := (i : Int) + 1) (by omega) (by omega), w64 (n := (l.length : Int) - 1) (by omega) (by omega), rd_in l i hlt, l1In_eq]
    simp only [Option.bind_some]
    have htk : l.take (i + 1) = l.take i ++ [l[i]] := by rw [List.take_succ_eq_append_getElem hlt]
    by_cases h1 : 0 ≤ l[i] ∧ l[i] ≤ (l.length : Int) - 1
    · rw [decide_eq_true h1, if_pos rfl, if_pos (by omega), Int.toNat_natCast, l1Has_eq (l.take i) (by rw [List.length_take]; omega) _ k (by rw [List.length_take]; omega)]
      simp only [Option.bind_some]
      by_cases hm : l[i] ∈ l.take i
      · refine ⟨false, by rw [decide_eq_true hm, if_pos rfl], (fun hf => by cases hf), fun ⟨_, ho⟩ => ?_⟩
        exfalso
        have h2 := List.take_append_drop (i + 1) l
        have h3 : ((l.take i ++ [l[i]]) ++ l.drop (i + 1)).Nodup := by rw [← htk, h2]; exact ho.1
        have h4 := (List.nodup_append.1 (List.nodup_append.1 h3).1).2.2 _ hm l[i] (by simp)
        exact h4 rfl
      · rw [decide_eq_false hm, if_neg (by simp)]
        refine ih k (i + 1) (by omega) (by omega) (by omega) ?_ ?_
        · rw [htk]
          refine List.nodup_append.2 ⟨hn, by simp, fun a ha b hb e => ?_⟩
          rw [List.mem_singleton] at hb
          exact hm (by rw [← hb, ← e]; exact ha)
        · intro x hx
          rw [htk] at hx
          rcases List.mem_append.1 hx with hx | hx
          · exact hr x hx
          · rw [List.mem_singleton.1 hx]
            omega
    · refine ⟨false, by rw [decide_eq_false h1, if_neg (by simp)], (fun hf => by cases hf), fun ⟨_, ho⟩ => ?_⟩
      exact absurd (by have := ho.2 l[i] (List.getElem_mem hlt); omega) h1

theorem specOrder_eq (l : List Int) (hl : l.length ≤ 1048576) (k : Nat) (hk : l.length + l.length < k) : ∃ b, spec_l4Order.f k l = some b ∧ (b = true ↔ l.length ≤ 9 ∧ Ord l) :=
  specOrder_l0 l hl l.length k 0 (by omega) hk (by omega) (by simp) (by simp)

/-- Is it an order? -/
instance (l : List Int) : Decidable (Ord l) := inferInstanceAs (Decidable (l.Nodup ∧ _))
def isOrd (l : List Int) : Bool := decide (l.length ≤ 9 ∧ Ord l)
theorem isOrd_iff {l : List Int} : isOrd l = true ↔ l.length ≤ 9 ∧ Ord l := by
  unfold isOrd
  rw [decide_eq_true_iff]
theorem specOrd_tot (l : List Int) (hl : l.length ≤ 1048576) : Tot (fun k => spec_l4Order.f k l) (fun y => y = isOrd l) := Tot.at_ (l.length + l.length + 1) rfl (fun k hk => by
  obtain ⟨b, h1, h2⟩ := specOrder_eq l hl k (by omega)
  rw [h1, show b = isOrd l by rw [Bool.eq_iff_iff, h2, isOrd_iff]])
theorem implOrd_tot (l : List Int) (hl : l.length ≤ 1048576) : Tot (fun k => impl_IsOrder.f k l) (fun y => y = isOrd l) := Tot.at_ (l.length + l.length + 1) rfl (fun k hk => by
  obtain ⟨b, h1, h2⟩ := implIsOrder_eq l hl k (by omega)
  rw [h1, show b = isOrd l by rw [Bool.eq_iff_iff, h2, isOrd_iff]])

def PermN (n : Nat) (f : Nat → Nat) : Prop := (∀ i, i < n → f i < n) ∧ (∀ i j, i < n → j < n → f i = f j → i = j) ∧ (∀ j, j < n → ∃ i, i < n ∧ f i = j)
/-- What an order does, on numbers from 0 on. -/
def fnO (l : List Int) (i : Nat) : Nat := (rd l (i : Int)).toNat
theorem fnO_cast (l : List Int) (hr : ∀ x ∈ l, 0 ≤ x ∧ x < l.length) (i : Nat) (hi : i < l.length) : rd l (i : Int) = ((fnO l i : Nat) : Int) ∧ fnO l i < l.length := by
  have h := hr _ (rd_mem l i hi)
  unfold fnO
  omega
theorem fnO_get (l : List Int) (i : Nat) (hi : i < l.length) : fnO l i = l[i].toNat := by
  unfold fnO
  rw [rd_in l i hi]
theorem nodup_at {α : Type} {l : List α} (h : l.Nodup) {i j : Nat} {hi : i < l.length} {hj : j < l.length} (e : l[i] = l[j]) : i = j := by
  rw [List.nodup_iff_pairwise_ne, List.pairwise_iff_getElem] at h
  rcases Nat.lt_trichotomy i j with h1 | h1 | h1
  · exact absurd e (h i j hi hj h1)
  · exact h1
  · exact absurd e.symm (h j i hj hi h1)
theorem fnO_perm (l : List Int) (ho : Ord l) : PermN l.length (fnO l) := by
  refine ⟨fun i hi => (fnO_cast l ho.2 i hi).2, fun i j hi hj e => ?_, fun j hj => ?_⟩
  · have h1 := (fnO_cast l ho.2 i hi).1
    have h2 := (fnO_cast l ho.2 j hj).1
    rw [rd_in l i hi] at h1
    rw [rd_in l j hj] at h2
    exact nodup_at ho.1 (by rw [h1, h2, e])
  · obtain ⟨i, hi, e⟩ := List.mem_iff_getElem.1 (ho.has (j : Int) (by omega) (by omega))
    refine ⟨i, hi, ?_⟩
    rw [fnO_get l i hi, e]
    omega
theorem toNat_getD (xs : List Int) (i : Nat) : rd xs (i : Int) = xs.getD i 0 := rfl
/-- r is the order that undoes l. -/
def BackOk (l r : List Int) : Prop := r.length = l.length ∧ ∀ j, j < l.length → rd r ((fnO l j : Nat) : Int) = (j : Int)
theorem back_val (l : List Int) (hl : l.length ≤ 1048576) (ho : Ord l) : ∀ (d i : Nat) (out : List Int), l.length - i = d → i ≤ l.length → out.length = l.length → (∀ j, j < i → rd out ((fnO l j : Nat) : Int) = (j : Int)) →
    ∃ r : List Int, BackOk l r ∧ ∀ k, d < k → spec_l9Back.l0 k out l (l.length : Int) (i : Int) = some r ∧ impl_back.l0 k out l (l.length : Int) (i : Int) = some r := by
  intro d
  induction d with
  | zero =>
    intro i out hd hi hout hj
    refine ⟨out, ⟨hout, fun j h => hj j (by omega)⟩, fun k hk => ?_⟩
    obtain ⟨k, rfl⟩ := rounds hk
    refine ⟨?_, ?_⟩
    · simp only [spec_l9Back.l0]
      rw [if_neg (by omega)]
    · simp only [impl_back.l0]
      rw [if_neg (by omega)]
  | succ d ih =>
    intro i out hd hi hout hj
    have hlt : i < l.length := by omega
    have hx := ho.2 _ (rd_mem l i hlt)
    have hp := fnO_perm l ho
    obtain ⟨r, h0, h1⟩ := ih (i + 1) (out.set (fnO l i) (i : Int)) (by omega) (by omega) (by rw [List.length_set]; exact hout) (fun j hj2 => by
      rw [toNat_getD]
      by_cases e : j = i
      · subst e
        exact getD_set _ _ _ _ (by have := hp.1 j hlt; omega)
      · have hne : fnO l i ≠ fnO l j := fun h => e (hp.2.1 j i (by omega) hlt h.symm)
        rw [List.getD_eq_getElem?_getD, List.getElem?_set_ne hne, ← List.getD_eq_getElem?_getD]
        exact hj j (by omega))
    refine ⟨r, h0, fun k hk => ?_⟩
    obtain ⟨k, rfl⟩ := rounds hk
    obtain ⟨h2, h3⟩ := h1 k (by omega)
    refine ⟨?_, ?_⟩
    · simp only [spec_l9Back.l0]
      rw [if_pos (by omega), if_pos (by omega), if_pos (by omega), if_pos hx.1, if_pos (by omega), w64 (by omega) (by omega)]
      exact h2
    · simp only [impl_back.l0]
      rw [if_pos (by omega), if_pos (by omega), if_pos (by omega), if_pos hx.1, if_pos (by omega), w64 (by omega) (by omega)]
      exact h3

theorem rdBg (l : List Bool) (i : Nat) : rdOf false l (i : Int) = l.getD i false := by
  unfold rdOf
  rw [Int.toNat_natCast]

set_option maxHeartbeats 1000000
theorem gs {α : Type} (l : List α) (i j : Nat) (v d : α) (h : i < l.length) : (l.set i v).getD j d = if j = i then v else l.getD j d := by
  by_cases e : j = i
  · rw [if_pos e, e]
    exact getD_set _ _ _ _ h
  · rw [if_neg e, List.getD_eq_getElem?_getD, List.getElem?_set_ne (fun h => e h.symm), ← List.getD_eq_getElem?_getD]
/-- The number beside another one. -/
def fl (x : Nat) : Nat := if x % 2 = 0 then x + 1 else x - 1
theorem fl_fl (x : Nat) : fl (fl x) = x := by
  unfold fl
  split <;> split <;> omega
theorem fl_ne (x : Nat) : fl x ≠ x := by
  unfold fl
  split <;> omega
theorem fl_lt {n x : Nat} (hn : n % 2 = 0) (h : x < n) : fl x < n := by
  unfold fl
  split <;> omega
theorem fl_div (x : Nat) : fl x / 2 = x / 2 := by
  unfold fl
  split <;> omega
theorem fl_of {x y : Nat} (h : x / 2 = y / 2) : x = y ∨ x = fl y := by
  unfold fl
  split <;> omega
theorem xor_one : ∀ x : Nat, x < 16 → Go.bits .xor .i64 (x : Int) 1 = ((fl x : Nat) : Int) := by decide +kernel
/-- An order of n numbers, and the one that undoes it. -/
structure Pm (n : Nat) (P B : Nat → Nat) : Prop where
  ev : n % 2 = 0
  pl : ∀ j, j < n → P j < n
  bl : ∀ j, j < n → B j < n
  pb : ∀ j, j < n → P (B j) = j
  bp : ∀ j, j < n → B (P j) = j
/-- The place whose number is beside this one's. -/
def ta (P B : Nat → Nat) (j : Nat) : Nat := B (fl (P j))
section
variable {n : Nat} {P B : Nat → Nat}
theorem Pm.ta_lt (h : Pm n P B) {j : Nat} (hj : j < n) : ta P B j < n := h.bl _ (fl_lt h.ev (h.pl j hj))
theorem Pm.p_ta (h : Pm n P B) {j : Nat} (hj : j < n) : P (ta P B j) = fl (P j) := h.pb _ (fl_lt h.ev (h.pl j hj))
theorem Pm.ta_ta (h : Pm n P B) {j : Nat} (hj : j < n) : ta P B (ta P B j) = j := by
  show B (fl (P (ta P B j))) = j
  rw [h.p_ta hj, fl_fl, h.bp j hj]
theorem Pm.ta_ne (h : Pm n P B) {j : Nat} (hj : j < n) : ta P B j ≠ j := fun e => by
  have h1 := h.p_ta hj
  rw [e] at h1
  exact fl_ne _ h1.symm
/-- All that is known is known whole: with what is beside it, here and there. -/
structure Full (n : Nat) (P B : Nat → Nat) (kn lo : List Bool) : Prop where
  ln : kn.length = n
  ll : lo.length = n
  lk : ∀ j, j < n → lo.getD j false = true → kn.getD j false = true
  a : ∀ j, j < n → kn.getD j false = true → kn.getD (ta P B j) false = true ∧ lo.getD (ta P B j) false = !lo.getD j false
  b : ∀ j, j < n → kn.getD j false = true → kn.getD (fl j) false = true ∧ lo.getD (fl j) false = !lo.getD j false
/-- On the way round, from i, now at k. -/
structure Mid (n : Nat) (P B : Nat → Nat) (kn lo : List Bool) (i k : Nat) : Prop where
  ln : kn.length = n
  ll : lo.length = n
  hi : i < n
  hk : k < n
  lk : ∀ j, j < n → lo.getD j false = true → kn.getD j false = true
  a : ∀ j, j < n → kn.getD j false = true → kn.getD (ta P B j) false = true ∧ lo.getD (ta P B j) false = !lo.getD j false
  b : ∀ j, j < n → kn.getD j false = true → j ≠ i → j ≠ fl k → kn.getD (fl j) false = true ∧ fl j ≠ i ∧ fl j ≠ fl k ∧ lo.getD (fl j) false = !lo.getD j false
  c : (k = i ∧ kn.getD i false = false ∧ kn.getD (fl i) false = false) ∨ (kn.getD i false = true ∧ lo.getD i false = false ∧ kn.getD (fl k) false = true ∧ lo.getD (fl k) false = true)
theorem Full.mid {kn lo : List Bool} (hp : Pm n P B) (h : Full n P B kn lo) {i : Nat} (hi : i < n) (hk : kn.getD i false = false) : Mid n P B kn lo i i where
  ln := h.ln
  ll := h.ll
  hi := hi
  hk := hi
  lk := h.lk
  a := h.a
  b := fun j hj h1 h2 h3 => ⟨(h.b j hj h1).1, fun e => h3 (by rw [← e, fl_fl]), fun e => h2 (by rw [← fl_fl j, e, fl_fl]), (h.b j hj h1).2⟩
  c := .inl ⟨rfl, hk, by
    cases e : kn.getD (fl i) false with
    | false => rfl
    | true =>
      have := (h.b (fl i) (fl_lt hp.ev hi) e).1
      rw [fl_fl, hk] at this
      cases this⟩
theorem Mid.close {kn lo : List Bool} {i k : Nat} (h : Mid n P B kn lo i k) (hk : kn.getD k false = true) : Full n P B kn lo ∧ kn.getD i false = true := by
  rcases h.c with ⟨e, h1, _⟩ | ⟨c1, c2, c3, c4⟩
  · rw [e, h1] at hk
    cases hk
  · have e : k = i := by
      rcases Classical.em (k = i) with e | e
      · exact e
      · have := (h.b k h.hk hk e (fun x => fl_ne k x.symm)).2.2.1
        exact absurd rfl this
    subst e
    refine ⟨⟨h.ln, h.ll, h.lk, h.a, fun j hj hj2 => ?_⟩, c1⟩
    by_cases e1 : j = k
    · subst e1
      exact ⟨c3, by rw [c4, c2]; rfl⟩
    · by_cases e2 : j = fl k
      · rw [e2, fl_fl]
        exact ⟨c1, by rw [c2, c4]; rfl⟩
      · have := h.b j hj hj2 e1 e2
        exact ⟨this.1, this.2.2.2⟩
theorem Mid.new {kn lo : List Bool} {i k : Nat} (hp : Pm n P B) (h : Mid n P B kn lo i k) (hk : kn.getD k false = false) : kn.getD (ta P B k) false = false := by
  cases e : kn.getD (ta P B k) false with
  | false => rfl
  | true =>
    have := (h.a _ (hp.ta_lt h.hk) e).1
    rw [hp.ta_ta h.hk, hk] at this
    cases this
def knS (P B : Nat → Nat) (kn : List Bool) (k : Nat) : List Bool := (kn.set k true).set (ta P B k) true
def loS (P B : Nat → Nat) (lo : List Bool) (k : Nat) : List Bool := lo.set (ta P B k) true
theorem knS_get (hp : Pm n P B) {kn : List Bool} (hl : kn.length = n) {k : Nat} (hk : k < n) (j : Nat) : (knS P B kn k).getD j false = if j = ta P B k then true else if j = k then true else kn.getD j false := by
  unfold knS
  rw [gs _ _ _ _ _ (by rw [List.length_set, hl]; exact hp.ta_lt hk), gs _ _ _ _ _ (by omega)]
theorem loS_get (hp : Pm n P B) {lo : List Bool} (hl : lo.length = n) {k : Nat} (hk : k < n) (j : Nat) : (loS P B lo k).getD j false = if j = ta P B k then true else lo.getD j false := by
  unfold loS
  rw [gs _ _ _ _ _ (by rw [hl]; exact hp.ta_lt hk)]
theorem Mid.step {kn lo : List Bool} {i k : Nat} (hp : Pm n P B) (h : Mid n P B kn lo i k) (hk : kn.getD k false = false) : Mid n P B (knS P B kn k) (loS P B lo k) i (fl (ta P B k)) := by
  have hkn := h.hk
  have ht := hp.ta_lt hkn
  have hnew := h.new hp hk
  have hne := hp.ta_ne hkn
  have K := knS_get hp h.ln hkn
  have L := loS_get hp h.ll hkn
  have lok : lo.getD k false = false := by
    cases e : lo.getD k false with
    | false => rfl
    | true => rw [h.lk k hkn e] at hk; cases hk
  have old : ∀ j, kn.getD j false = true → j ≠ ta P B k ∧ j ≠ k := fun j hj => ⟨(fun e => by rw [e, hnew] at hj; cases hj), (fun e => by rw [e, hk] at hj; cases hj)⟩
  have Ko : ∀ j, kn.getD j false = true → (knS P B kn k).getD j false = true := fun j hj => by
    rw [K, if_neg (old j hj).1, if_neg (old j hj).2, hj]
  have Lo : ∀ j, kn.getD j false = true → (loS P B lo k).getD j false = lo.getD j false := fun j hj => by rw [L, if_neg (old j hj).1]
  have Kk : (knS P B kn k).getD k false = true := by rw [K, if_neg (fun e => hne e.symm), if_pos rfl]
  have Kt : (knS P B kn k).getD (ta P B k) false = true := by rw [K, if_pos rfl]
  have Lk : (loS P B lo k).getD k false = false := by rw [L, if_neg (fun e => hne e.symm), lok]
  have Lt : (loS P B lo k).getD (ta P B k) false = true := by rw [L, if_pos rfl]
  have inK : ∀ j, (knS P B kn k).getD j false = true → j = ta P B k ∨ j = k ∨ kn.getD j false = true := fun j hj => by
    rw [K] at hj
    by_cases e1 : j = ta P B k
    · exact .inl e1
    · rw [if_neg e1] at hj
      by_cases e2 : j = k
      · exact .inr (.inl e2)
      · rw [if_neg e2] at hj
        exact .inr (.inr hj)
  refine ⟨by unfold knS; rw [List.length_set, List.length_set, h.ln], by unfold loS; rw [List.length_set, h.ll], h.hi, fl_lt hp.ev ht, fun j hj hl => ?_, fun j hj hj2 => ?_, fun j hj hj2 h1 h2 => ?_, ?_⟩
  · by_cases e : j = ta P B k
    · rw [e]
      exact Kt
    · rw [L, if_neg e] at hl
      exact Ko j (h.lk j hj hl)
  · rcases inK j hj2 with e | e | e
    · rw [e, hp.ta_ta hkn]
      exact ⟨Kk, by rw [Lk, Lt]; rfl⟩
    · rw [e]
      exact ⟨Kt, by rw [Lk, Lt]; rfl⟩
    · have := h.a j hj e
      exact ⟨Ko _ this.1, by rw [Lo _ this.1, Lo _ e, this.2]⟩
  · rw [fl_fl] at h2 ⊢
    rcases inK j hj2 with e | e | e
    · exact absurd e h2
    · subst e
      rcases h.c with ⟨e, _, _⟩ | ⟨c1, c2, c3, c4⟩
      · exact absurd e h1
      · exact ⟨Ko _ c3, (fun e => by rw [e, c2] at c4; cases c4), (old _ c3).1, by rw [Lo _ c3, Lk, c4]; rfl⟩
    · by_cases e3 : j = fl k
      · subst e3
        rw [fl_fl]
        rcases h.c with ⟨e4, _, c3⟩ | ⟨c1, c2, c3, c4⟩
        · rw [← e4, e] at c3
          cases c3
        · exact ⟨Kk, (fun e5 => by rw [e5, c1] at hk; cases hk), fun e5 => hne e5.symm, by rw [Lk, Lo _ e, c4]; rfl⟩
      · have := h.b j hj e h1 e3
        exact ⟨Ko _ this.1, this.2.1, (old _ this.1).1, by rw [Lo _ this.1, Lo _ e, this.2.2.2]⟩
  · rw [fl_fl]
    refine .inr ⟨?_, ?_, Kt, Lt⟩
    · rcases h.c with ⟨e, _, _⟩ | ⟨c1, _⟩
      · rw [← e]
        exact Kk
      · exact Ko i c1
    · rcases h.c with ⟨e, _, _⟩ | ⟨c1, c2, _⟩
      · rw [← e]
        exact Lk
      · rw [Lo i c1, c2]
/-- The way round: d steps at the most. -/
def orb (P B : Nat → Nat) : Nat → List Bool → List Bool → Nat → List Bool × List Bool
  | 0, kn, lo, _ => (kn, lo)
  | d + 1, kn, lo, k => if kn.getD k false = true then (kn, lo) else orb P B d (knS P B kn k) (loS P B lo k) (fl (ta P B k))
theorem count_knS (hp : Pm n P B) {kn : List Bool} (hl : kn.length = n) {k : Nat} (hk : k < n) (h1 : kn.getD k false = false) : (knS P B kn k).count false < kn.count false := by
  have key : ∀ (l : List Bool) (j : Nat), j < l.length → (l.set j true).count false ≤ l.count false ∧ (l.getD j false = false → (l.set j true).count false < l.count false) := by
    intro l
    induction l with
    | nil => intro j hj; simp at hj
    | cons x l ih =>
      intro j hj
      cases j with
      | zero =>
        cases x <;> simp
      | succ j =>
        have := ih j (by simpa using hj)
        simp only [List.set_cons_succ, List.count_cons, List.getD_cons_succ]
        exact ⟨by omega, fun h => by have := this.2 h; omega⟩
  have h2 := (key kn k (by omega)).2 h1
  have h3 := (key (kn.set k true) (ta P B k) (by rw [List.length_set, hl]; exact hp.ta_lt hk)).1
  unfold knS
  omega
theorem orb_full (hp : Pm n P B) {i : Nat} : ∀ (d : Nat) (kn lo : List Bool) (k : Nat), kn.count false ≤ d → Mid n P B kn lo i k → Full n P B (orb P B d kn lo k).1 (orb P B d kn lo k).2 ∧ (orb P B d kn lo k).1.getD i false = true ∧ ∀ j, j < n → kn.getD j false = true → (orb P B d kn lo k).1.getD j false = true := by
  intro d
  induction d with
  | zero =>
    intro kn lo k hd h
    have hk : kn.getD k false = true := by
      have h0 : false ∉ kn := List.count_eq_zero.1 (by omega)
      have hlt : k < kn.length := by rw [h.ln]; exact h.hk
      rw [getDin kn false k hlt]
      cases e : kn[k] with
      | true => rfl
      | false => exact absurd (by rw [← e]; exact List.getElem_mem hlt) h0
    simp only [orb]
    exact ⟨(h.close hk).1, (h.close hk).2, fun j _ hj => hj⟩
  | succ d ih =>
    intro kn lo k hd h
    simp only [orb]
    by_cases hk : kn.getD k false = true
    · rw [if_pos hk]
      exact ⟨(h.close hk).1, (h.close hk).2, fun j _ hj => hj⟩
    · rw [if_neg hk]
      rw [Bool.not_eq_true] at hk
      have h1 := ih _ _ _ (by have := count_knS hp h.ln h.hk hk; omega) (h.step hp hk)
      refine ⟨h1.1, h1.2.1, fun j hj hj2 => h1.2.2 j hj ?_⟩
      rw [knS_get hp h.ln h.hk]
      split
      · rfl
      · split
        · rfl
        · exact hj2
/-- Behind the first i starts. -/
def st (n : Nat) (P B : Nat → Nat) : Nat → List Bool × List Bool
  | 0 => (List.replicate n false, List.replicate n false)
  | i + 1 => orb P B n (st n P B i).1 (st n P B i).2 i
theorem rep_get (m j : Nat) : (List.replicate m false).getD j false = false := by
  rw [List.getD_eq_getElem?_getD, List.getElem?_replicate]
  split <;> rfl
theorem orb_known (hp : Pm n P B) {kn lo : List Bool} {k : Nat} (h : kn.getD k false = true) : ∀ d, orb P B d kn lo k = (kn, lo)
  | 0 => rfl
  | d + 1 => by
    simp only [orb]
    rw [if_pos h]
theorem st_full (hp : Pm n P B) : ∀ i, i ≤ n → Full n P B (st n P B i).1 (st n P B i).2 ∧ ∀ j, j < i → (st n P B i).1.getD j false = true
  | 0 => fun _ => ⟨⟨by simp [st], by simp [st], (fun j _ h => by simp only [st] at h; rw [rep_get] at h; cases h), (fun j _ h => by simp only [st] at h; rw [rep_get] at h; cases h), (fun j _ h => by simp only [st] at h; rw [rep_get] at h; cases h)⟩, fun j hj => by omega⟩
  | i + 1 => fun hi => by
    obtain ⟨h1, h2⟩ := st_full hp i (by omega)
    simp only [st]
    by_cases hk : (st n P B i).1.getD i false = true
    · rw [orb_known hp hk]
      exact ⟨h1, fun j hj => by
        by_cases e : j = i
        · rw [e]
          exact hk
        · exact h2 j (by omega)⟩
    · rw [Bool.not_eq_true] at hk
      have h3 := orb_full hp n _ _ i (by have := List.count_le_length (a := false) (l := (st n P B i).1); rw [h1.ln] at this; exact this) (h1.mid hp (by omega) hk)
      exact ⟨h3.1, fun j hj => by
        by_cases e : j = i
        · rw [e]
          exact h3.2.1
        · exact h3.2.2 j (by omega) (h2 j (by omega))⟩
/-- Which places take from the lower half. -/
def low (n : Nat) (P B : Nat → Nat) : Nat → Bool := fun j => (st n P B n).2.getD j false
theorem low_fl (hp : Pm n P B) {j : Nat} (hj : j < n) : low n P B (fl j) = !low n P B j := ((st_full hp n (Nat.le_refl n)).1.b j hj ((st_full hp n (Nat.le_refl n)).2 j hj)).2
theorem low_ta (hp : Pm n P B) {j : Nat} (hj : j < n) : low n P B (ta P B j) = !low n P B j := ((st_full hp n (Nat.le_refl n)).1.a j hj ((st_full hp n (Nat.le_refl n)).2 j hj)).2
end
/-- The settings and the two halves that belong to it. -/
def entV (h : Nat) (P B : Nat → Nat) : List Bool := (List.range h).map fun m => low (2 * h) P B (B (2 * m))
def exiV (h : Nat) (P B : Nat → Nat) : List Bool := (List.range h).map fun m => low (2 * h) P B (2 * m)
def upV (h : Nat) (P B : Nat → Nat) : List Int := (List.range h).map fun m => ((P (if low (2 * h) P B (2 * m) = true then 2 * m + 1 else 2 * m) / 2 : Nat) : Int)
def dnV (h : Nat) (P B : Nat → Nat) : List Int := (List.range h).map fun m => ((P (if low (2 * h) P B (2 * m) = true then 2 * m else 2 * m + 1) / 2 : Nat) : Int)
theorem map_fix {α : Type} (d : α) (h : Nat) (f : Nat → α) (l : List α) (hl : l.length = h) (hf : ∀ m, m < h → l.getD m d = f m) : l = (List.range h).map f := by
  refine List.ext_getElem (by simp [hl]) (fun i h1 h2 => ?_)
  rw [← getDin l d i h1, hf i (by omega)]
  simp

/-- What has been written when kn is known. -/
structure Wr (h : Nat) (P : Nat → Nat) (kn lo en ex : List Bool) (up dn : List Int) : Prop where
  le : en.length = h
  lx : ex.length = h
  lu : up.length = h
  ld : dn.length = h
  u : ∀ j, j < 2 * h → kn.getD j false = true → lo.getD j false = false → up.getD (j / 2) 0 = ((P j / 2 : Nat) : Int) ∧ ex.getD (j / 2) false = (j % 2 == 1) ∧ en.getD (P j / 2) false = (P j % 2 == 1)
  d : ∀ j, j < 2 * h → kn.getD j false = true → lo.getD j false = true → dn.getD (j / 2) 0 = ((P j / 2 : Nat) : Int)
section
variable {h : Nat} {P B : Nat → Nat}
theorem Wr.step {kn lo en ex : List Bool} {up dn : List Int} {i k : Nat} (hp : Pm (2 * h) P B) (m : Mid (2 * h) P B kn lo i k) (hk : kn.getD k false = false) (w : Wr h P kn lo en ex up dn) :
    Wr h P (knS P B kn k) (loS P B lo k) (en.set (P k / 2) (P k % 2 == 1)) (ex.set (k / 2) (k % 2 == 1)) (up.set (k / 2) ((P k / 2 : Nat) : Int)) (dn.set (ta P B k / 2) ((P k / 2 : Nat) : Int)) := by
  have hkn := m.hk
  have hpk := hp.pl k hkn
  have ht := hp.ta_lt hkn
  have hnew := m.new hp hk
  have hne := hp.ta_ne hkn
  have K := knS_get hp m.ln hkn
  have L := loS_get hp m.ll hkn
  have lok : lo.getD k false = false := by
    cases e : lo.getD k false with
    | false => rfl
    | true => rw [m.lk k hkn e] at hk; cases hk
  have flk : kn.getD (fl k) false = true → lo.getD (fl k) false = true := fun e => by
    rcases m.c with ⟨e1, _, e2⟩ | ⟨_, _, _, c4⟩
    · rw [← e1, e] at e2
      cases e2
    · exact c4
  have nei : ∀ j, kn.getD j false = true → lo.getD j false = true → j ≠ i := fun j h1 h2 e => by
    rw [e] at h1 h2
    rcases m.c with ⟨_, e1, _⟩ | ⟨_, e1, _⟩
    · rw [e1] at h1
      cases h1
    · rw [e1] at h2
      cases h2
  refine ⟨by rw [List.length_set, w.le], by rw [List.length_set, w.lx], by rw [List.length_set, w.lu], by rw [List.length_set, w.ld], fun j hj h1 h2 => ?_, fun j hj h1 h2 => ?_⟩
  · rw [gs _ _ _ _ _ (by rw [w.lu]; omega), gs _ _ _ _ _ (by rw [w.lx]; omega), gs _ _ _ _ _ (by rw [w.le]; omega)]
    rw [L] at h2
    by_cases e1 : j = ta P B k
    · rw [if_pos e1] at h2
      cases h2
    rw [if_neg e1] at h2
    rw [K, if_neg e1] at h1
    by_cases e2 : j = k
    · rw [e2, if_pos rfl, if_pos rfl, if_pos rfl]
      exact ⟨rfl, rfl, rfl⟩
    · rw [if_neg e2] at h1
      have n1 : j / 2 ≠ k / 2 := fun e => by
        rcases fl_of e with e3 | e3
        · exact e2 e3
        · rw [e3] at h1 h2
          rw [flk h1] at h2
          cases h2
      have n2 : P j / 2 ≠ P k / 2 := fun e => by
        rcases fl_of e with e3 | e3
        · exact e2 (by rw [← hp.bp j hj, e3, hp.bp k hkn])
        · exact e1 (by rw [← hp.bp j hj, e3]; rfl)
      rw [if_neg n1, if_neg n1, if_neg n2]
      exact w.u j hj h1 h2
  · rw [gs _ _ _ _ _ (by rw [w.ld]; omega)]
    by_cases e1 : j = ta P B k
    · rw [e1, if_pos rfl, hp.p_ta hkn, fl_div]
    rw [L, if_neg e1] at h2
    rw [K, if_neg e1] at h1
    by_cases e2 : j = k
    · rw [e2, lok] at h2
      cases h2
    · rw [if_neg e2] at h1
      have n1 : j / 2 ≠ ta P B k / 2 := fun e => by
        rcases fl_of e with e3 | e3
        · exact e1 e3
        · have h3 := (m.b j hj h1 (nei j h1 h2) (fun e4 => by
            rw [e3] at e4
            have := congrArg fl e4
            rw [fl_fl, fl_fl] at this
            exact hne this)).1
          rw [e3, fl_fl, hnew] at h3
          cases h3
      rw [if_neg n1]
      exact w.d j hj h1 h2
theorem Wr.fin {en ex : List Bool} {up dn : List Int} (hp : Pm (2 * h) P B) (w : Wr h P (st (2 * h) P B (2 * h)).1 (st (2 * h) P B (2 * h)).2 en ex up dn) : en = entV h P B ∧ ex = exiV h P B ∧ up = upV h P B ∧ dn = dnV h P B := by
  have hk := (st_full hp (2 * h) (Nat.le_refl _)).2
  have U : ∀ j, j < 2 * h → low (2 * h) P B j = false → up.getD (j / 2) 0 = ((P j / 2 : Nat) : Int) ∧ ex.getD (j / 2) false = (j % 2 == 1) ∧ en.getD (P j / 2) false = (P j % 2 == 1) := fun j hj hl => w.u j hj (hk j hj) hl
  have D : ∀ j, j < 2 * h → low (2 * h) P B j = true → dn.getD (j / 2) 0 = ((P j / 2 : Nat) : Int) := fun j hj hl => w.d j hj (hk j hj) hl
  have f2 : ∀ m, fl (2 * m) = 2 * m + 1 := fun m => by unfold fl; split <;> omega
  refine ⟨map_fix false h _ en w.le (fun m hm => ?_), map_fix false h _ ex w.lx (fun m hm => ?_), map_fix 0 h _ up w.lu (fun m hm => ?_), map_fix 0 h _ dn w.ld (fun m hm => ?_)⟩
  · have hb := hp.bl (2 * m) (by omega)
    have pb := hp.pb (2 * m) (by omega)
    cases hl : low (2 * h) P B (B (2 * m)) with
    | false =>
      have := (U _ hb hl).2.2
      rw [pb, show 2 * m / 2 = m by omega] at this
      rw [this]
      have : 2 * m % 2 = 0 := by omega
      rw [this]
      rfl
    | true =>
      have h1 := low_ta hp hb
      rw [hl] at h1
      have := (U _ (hp.ta_lt hb) h1).2.2
      rw [hp.p_ta hb, pb, f2, show (2 * m + 1) / 2 = m by omega, show (2 * m + 1) % 2 = 1 by omega] at this
      rw [this]
      rfl
  · cases hl : low (2 * h) P B (2 * m) with
    | false =>
      have := (U _ (by omega) hl).2.1
      rw [show 2 * m / 2 = m by omega, show 2 * m % 2 = 0 by omega] at this
      rw [this]
      rfl
    | true =>
      have h1 := low_fl hp (show 2 * m < 2 * h by omega)
      rw [hl, f2] at h1
      have := (U _ (by omega) h1).2.1
      rw [show (2 * m + 1) / 2 = m by omega, show (2 * m + 1) % 2 = 1 by omega] at this
      rw [this]
      rfl
  · cases hl : low (2 * h) P B (2 * m) with
    | false =>
      have := (U _ (by omega) hl).1
      rw [show 2 * m / 2 = m by omega] at this
      rw [this, if_neg (by simp)]
    | true =>
      have h1 := low_fl hp (show 2 * m < 2 * h by omega)
      rw [hl, f2] at h1
      have := (U _ (by omega) h1).1
      rw [show (2 * m + 1) / 2 = m by omega] at this
      rw [this, if_pos rfl]
  · cases hl : low (2 * h) P B (2 * m) with
    | true =>
      have := D _ (by omega) hl
      rw [show 2 * m / 2 = m by omega] at this
      rw [this, if_pos rfl]
    | false =>
      have h1 := low_fl hp (show 2 * m < 2 * h by omega)
      rw [hl, f2] at h1
      have := D _ (by omega) h1
      rw [show (2 * m + 1) / 2 = m by omega] at this
      rw [this, if_neg (by simp)]
end
theorem Mid.zero {n : Nat} {P B : Nat → Nat} {kn lo : List Bool} {i k : Nat} (h : Mid n P B kn lo i k) (hd : kn.count false ≤ 0) : kn.getD k false = true := by
  have h0 : false ∉ kn := List.count_eq_zero.1 (by omega)
  have hlt : k < kn.length := by rw [h.ln]; exact h.hk
  rw [getDin kn false k hlt]
  cases e : kn[k] with
  | true => rfl
  | false => exact absurd (by rw [← e]; exact List.getElem_mem hlt) h0
theorem td2 (k : Nat) : Int.tdiv (k : Int) 2 = ((k / 2 : Nat) : Int) := rfl
theorem tm2 (k : Nat) : (Int.tmod (k : Int) 2 == 1) = (k % 2 == 1) := by
  show ((((k % 2 : Nat) : Int)) == 1) = (k % 2 == 1)
  rcases Nat.mod_two_eq_zero_or_one k with h | h <;> rw [h] <;> rfl
/-- What goes with an order: how it is read, and how what undoes it is. -/
structure Od (h : Nat) (p r : List Int) (P B : Nat → Nat) : Prop where
  pm : Pm (2 * h) P B
  lp : p.length = 2 * h
  lr : r.length = 2 * h
  rp : ∀ j, j < 2 * h → rd p (j : Int) = ((P j : Nat) : Int)
  rr : ∀ j, j < 2 * h → rd r (j : Int) = ((B j : Nat) : Int)
section
variable {h : Nat} {p r : List Int} {P B : Nat → Nat}
theorem halves_l1 (h4 : h ≤ 4) (o : Od h p r P B) (Q : List Bool → Prop) (i : Nat) : ∀ (d : Nat) (kn lo : List Bool) (k : Nat), kn.count false ≤ d → Mid (2 * h) P B kn lo i k →
    Tot (fun f => spec_l9Halves.l0 f p r (orb P B d kn lo k).1 (orb P B d kn lo k).2 ((2 * h : Nat) : Int) ((i + 1 : Nat) : Int)) Q → Tot (fun f => spec_l9Halves.l1 f p r kn lo (k : Int) ((2 * h : Nat) : Int) (i : Int)) Q := by
  intro d
  induction d with
  | zero =>
    intro kn lo k hd m hQ
    have hk := m.zero hd
    have hkn := m.hk
    have hi := m.hi
    have hl := m.ln
    refine Tot.up ?_
    simp only [spec_l9Halves.l1]
    rw [rdBg, w64 (n := (i : Int) + 1) (by omega) (by omega)]
    exact Tot.pos (by omega) (Tot.pos (by omega) (Tot.pos hk hQ))
  | succ d ih =>
    intro kn lo k hd m hQ
    have hkn := m.hk
    have hi := m.hi
    have hl := m.ln
    have hll := m.ll
    by_cases hk : kn.getD k false = true
    · rw [orb_known o.pm hk] at hQ
      refine Tot.up ?_
      simp only [spec_l9Halves.l1]
      rw [rdBg, w64 (n := (i : Int) + 1) (by omega) (by omega)]
      exact Tot.pos (by omega) (Tot.pos (by omega) (Tot.pos hk hQ))
    · simp only [orb] at hQ
      rw [if_neg hk] at hQ
      have hk2 := hk
      rw [Bool.not_eq_true] at hk2
      have hpk := o.pm.pl k hkn
      have hfl := fl_lt o.pm.ev hpk
      have ht := o.pm.ta_lt hkn
      have hlp := o.lp
      have hlr := o.lr
      have e1 := o.rr _ hfl
      have e2 : ((B (fl (P k)) : Nat) : Int) = ((ta P B k : Nat) : Int) := rfl
      have h1 := ih (knS P B kn k) (loS P B lo k) (fl (ta P B k)) (by have := count_knS o.pm hl hkn hk2; omega) (m.step o.pm hk2) hQ
      refine Tot.up ?_
      simp only [spec_l9Halves.l1]
      rw [rdBg, o.rp k hkn, xor_one (P k) (by omega), e1, e2, xor_one (ta P B k) (by omega), Int.toNat_natCast, Int.toNat_natCast]
      exact Tot.pos (by omega) (Tot.pos (by omega) (Tot.neg hk (Tot.pos (by omega) (Tot.pos (by omega) (Tot.pos (by omega) (Tot.pos (by omega) (Tot.pos (by omega) (Tot.pos (by omega) h1))))))))
theorem halves_l0 (h4 : h ≤ 4) (o : Od h p r P B) : ∀ (d i : Nat), 2 * h - i = d → i ≤ 2 * h →
    Tot (fun f => spec_l9Halves.l0 f p r (st (2 * h) P B i).1 (st (2 * h) P B i).2 ((2 * h : Nat) : Int) (i : Int)) (fun y => y = (st (2 * h) P B (2 * h)).2) := by
  intro d
  induction d with
  | zero =>
    intro i hd hi
    have e : i = 2 * h := by omega
    subst e
    refine Tot.up ?_
    simp only [spec_l9Halves.l0]
    exact Tot.neg (by omega) (Tot.some_ rfl)
  | succ d ih =>
    intro i hd hi
    have h1 := ih (i + 1) (by omega) (by omega)
    obtain ⟨f1, f2⟩ := st_full o.pm i hi
    have hl := f1.ln
    refine Tot.up ?_
    simp only [spec_l9Halves.l0]
    refine Tot.pos (by omega) ?_
    by_cases hk : (st (2 * h) P B i).1.getD i false = true
    · simp only [st] at h1
      rw [orb_known o.pm hk] at h1
      refine Tot.up ?_
      simp only [spec_l9Halves.l1]
      rw [rdBg, w64 (n := (i : Int) + 1) (by omega) (by omega)]
      exact Tot.pos (by omega) (Tot.pos (by omega) (Tot.pos hk h1))
    · rw [Bool.not_eq_true] at hk
      exact halves_l1 h4 o _ i (2 * h) _ _ i (by have := List.count_le_length (a := false) (l := (st (2 * h) P B i).1); rw [hl] at this; exact this) (f1.mid o.pm (by omega) hk) h1
theorem route_l1 (h4 : h ≤ 4) (o : Od h p r P B) (Q : List Bool → Prop) (i : Nat) : ∀ (d : Nat) (kn lo : List Bool) (k : Nat) (en ex : List Bool) (up dn : List Int), kn.count false ≤ d → Mid (2 * h) P B kn lo i k → Wr h P kn lo en ex up dn →
    (∀ (en ex : List Bool) (up dn : List Int), Wr h P (orb P B d kn lo k).1 (orb P B d kn lo k).2 en ex up dn → Tot (fun f => impl_route.l0 f p en ex (orb P B d kn lo k).1 up dn r ((2 * h : Nat) : Int) ((i + 1 : Nat) : Int)) Q) →
    Tot (fun f => impl_route.l1 f p en ex kn up dn r (k : Int) ((2 * h : Nat) : Int) (i : Int)) Q := by
  intro d
  induction d with
  | zero =>
    intro kn lo k en ex up dn hd m w hQ
    have hk := m.zero hd
    have hkn := m.hk
    have hi := m.hi
    have hl := m.ln
    refine Tot.up ?_
    simp only [impl_route.l1]
    rw [rdBg, w64 (n := (i : Int) + 1) (by omega) (by omega)]
    exact Tot.pos (by omega) (Tot.pos (by omega) (Tot.pos hk (hQ en ex up dn w)))
  | succ d ih =>
    intro kn lo k en ex up dn hd m w hQ
    have hkn := m.hk
    have hi := m.hi
    have hl := m.ln
    by_cases hk : kn.getD k false = true
    · rw [orb_known o.pm hk] at hQ
      refine Tot.up ?_
      simp only [impl_route.l1]
      rw [rdBg, w64 (n := (i : Int) + 1) (by omega) (by omega)]
      exact Tot.pos (by omega) (Tot.pos (by omega) (Tot.pos hk (hQ en ex up dn w)))
    · simp only [orb] at hQ
      rw [if_neg hk] at hQ
      have hk2 := hk
      rw [Bool.not_eq_true] at hk2
      have hpk := o.pm.pl k hkn
      have hfl := fl_lt o.pm.ev hpk
      have ht := o.pm.ta_lt hkn
      have hlp := o.lp
      have hlr := o.lr
      have w1 := w.le
      have w2 := w.lx
      have w3 := w.lu
      have w4 := w.ld
      have e1 := o.rr _ hfl
      have e2 : ((B (fl (P k)) : Nat) : Int) = ((ta P B k : Nat) : Int) := rfl
      have h1 := ih (knS P B kn k) (loS P B lo k) (fl (ta P B k)) _ _ _ _ (by have := count_knS o.pm hl hkn hk2; omega) (m.step o.pm hk2) (w.step o.pm m hk2) hQ
      refine Tot.up ?_
      simp only [impl_route.l1]
      rw [rdBg, o.rp k hkn, xor_one (P k) (by omega), e1, e2, xor_one (ta P B k) (by omega), td2, td2, td2, tm2, tm2, wnat (k / 2) (by omega), wnat (P k / 2) (by omega), wnat (ta P B k / 2) (by omega), Int.toNat_natCast, Int.toNat_natCast, Int.toNat_natCast, Int.toNat_natCast, Int.toNat_natCast]
      exact Tot.pos (by omega) (Tot.pos (by omega) (Tot.neg hk (Tot.pos (by omega) (Tot.pos (by omega) (Tot.pos (by omega) (Tot.pos (by omega) (Tot.pos (by omega) (Tot.pos (by omega) (Tot.pos (by omega) (Tot.pos (by omega) (Tot.pos (by omega) (Tot.pos (by omega) (Tot.pos (by omega) (Tot.pos (by omega) h1))))))))))))))
theorem route_l0 (h4 : h ≤ 4) (o : Od h p r P B) (Q : List Bool → Prop)
    (hE : ∀ (en ex : List Bool) (up dn : List Int), Wr h P (st (2 * h) P B (2 * h)).1 (st (2 * h) P B (2 * h)).2 en ex up dn → Tot (fun f => impl_route.l0 f p en ex (st (2 * h) P B (2 * h)).1 up dn r ((2 * h : Nat) : Int) ((2 * h : Nat) : Int)) Q) :
    ∀ (d i : Nat) (en ex : List Bool) (up dn : List Int), 2 * h - i = d → i ≤ 2 * h → Wr h P (st (2 * h) P B i).1 (st (2 * h) P B i).2 en ex up dn →
    Tot (fun f => impl_route.l0 f p en ex (st (2 * h) P B i).1 up dn r ((2 * h : Nat) : Int) (i : Int)) Q := by
  intro d
  induction d with
  | zero =>
    intro i en ex up dn hd hi w
    have e : i = 2 * h := by omega
    subst e
    exact hE en ex up dn w
  | succ d ih =>
    intro i en ex up dn hd hi w
    have h1 := fun en ex up dn w => ih (i + 1) en ex up dn (by omega) (by omega) w
    obtain ⟨f1, f2⟩ := st_full o.pm i hi
    have hl := f1.ln
    refine Tot.up ?_
    simp only [impl_route.l0]
    refine Tot.pos (by omega) ?_
    by_cases hk : (st (2 * h) P B i).1.getD i false = true
    · simp only [st] at h1
      rw [orb_known o.pm hk] at h1
      refine Tot.up ?_
      simp only [impl_route.l1]
      rw [rdBg, w64 (n := (i : Int) + 1) (by omega) (by omega)]
      exact Tot.pos (by omega) (Tot.pos (by omega) (Tot.pos hk (h1 en ex up dn w)))
    · rw [Bool.not_eq_true] at hk
      exact route_l1 h4 o _ i (2 * h) _ _ i en ex up dn (by have := List.count_le_length (a := false) (l := (st (2 * h) P B i).1); rw [hl] at this; exact this) (f1.mid o.pm (by omega) hk) w h1
end

/-- What the reference has written behind i places. -/
structure Sw (h : Nat) (P B : Nat → Nat) (i : Nat) (en ex : List Bool) (up dn : List Int) : Prop where
  le : en.length = h
  lx : ex.length = h
  lu : up.length = h
  ld : dn.length = h
  u : ∀ j, j < i → low (2 * h) P B j = false → up.getD (j / 2) 0 = ((P j / 2 : Nat) : Int)
  d : ∀ j, j < i → low (2 * h) P B j = true → dn.getD (j / 2) 0 = ((P j / 2 : Nat) : Int)
  e : ∀ j, j < i → P j % 2 = 0 → en.getD (P j / 2) false = low (2 * h) P B j
  x : ∀ j, j < i → j % 2 = 0 → ex.getD (j / 2) false = low (2 * h) P B j
theorem Sw.fin {h : Nat} {P B : Nat → Nat} {en ex : List Bool} {up dn : List Int} (hp : Pm (2 * h) P B) (w : Sw h P B (2 * h) en ex up dn) : en = entV h P B ∧ ex = exiV h P B ∧ up = upV h P B ∧ dn = dnV h P B := by
  have f2 : ∀ m, fl (2 * m) = 2 * m + 1 := fun m => by unfold fl; split <;> omega
  refine ⟨map_fix false h _ en w.le (fun m hm => ?_), map_fix false h _ ex w.lx (fun m hm => ?_), map_fix 0 h _ up w.lu (fun m hm => ?_), map_fix 0 h _ dn w.ld (fun m hm => ?_)⟩
  · have pb := hp.pb (2 * m) (by omega)
    have := w.e _ (hp.bl (2 * m) (by omega)) (by rw [pb]; omega)
    rw [pb, show 2 * m / 2 = m by omega] at this
    exact this
  · have := w.x (2 * m) (by omega) (by omega)
    rw [show 2 * m / 2 = m by omega] at this
    exact this
  · cases hl : low (2 * h) P B (2 * m) with
    | false =>
      have := w.u _ (by omega) hl
      rw [show 2 * m / 2 = m by omega] at this
      rw [this, if_neg (by simp)]
    | true =>
      have h1 := low_fl hp (show 2 * m < 2 * h by omega)
      rw [hl, f2] at h1
      have := w.u _ (by omega) h1
      rw [show (2 * m + 1) / 2 = m by omega] at this
      rw [this, if_pos rfl]
  · cases hl : low (2 * h) P B (2 * m) with
    | true =>
      have := w.d _ (by omega) hl
      rw [show 2 * m / 2 = m by omega] at this
      rw [this, if_pos rfl]
    | false =>
      have h1 := low_fl hp (show 2 * m < 2 * h by omega)
      rw [hl, f2] at h1
      have := w.d _ (by omega) h1
      rw [show (2 * m + 1) / 2 = m by omega] at this
      rw [this, if_neg (by simp)]
/-- One place more. -/
theorem Sw.step {h : Nat} {P B : Nat → Nat} {i : Nat} {en ex : List Bool} {up dn : List Int} (hp : Pm (2 * h) P B) (hi : i < 2 * h) (w : Sw h P B i en ex up dn) :
    Sw h P B (i + 1) (if P i % 2 = 0 then en.set (P i / 2) (low (2 * h) P B i) else en) (if i % 2 = 0 then ex.set (i / 2) (low (2 * h) P B i) else ex)
      (if low (2 * h) P B i = true then up else up.set (i / 2) ((P i / 2 : Nat) : Int)) (if low (2 * h) P B i = true then dn.set (i / 2) ((P i / 2 : Nat) : Int) else dn) := by
  have hpi := hp.pl i hi
  have w1 := w.le
  have w2 := w.lx
  have w3 := w.lu
  have w4 := w.ld
  have nf : ∀ j, j < i → j / 2 = i / 2 → low (2 * h) P B j = !low (2 * h) P B i := fun j hj e => by
    rcases fl_of e with e3 | e3
    · omega
    · rw [e3]
      exact low_fl hp hi
  refine ⟨by split <;> simp [w1], by split <;> simp [w2], by split <;> simp [w3], by split <;> simp [w4], fun j hj hl => ?_, fun j hj hl => ?_, fun j hj hl => ?_, fun j hj hl => ?_⟩
  · by_cases e : j = i
    · subst e
      rw [hl, if_neg (by simp), gs _ _ _ _ _ (by omega), if_pos rfl]
    · have hj2 : j < i := by omega
      by_cases c : low (2 * h) P B i = true
      · rw [if_pos c]
        exact w.u j hj2 hl
      · rw [if_neg c, gs _ _ _ _ _ (by omega), if_neg (fun e2 => by
          have := nf j hj2 e2
          rw [hl] at this
          rw [Bool.not_eq_true] at c
          rw [c] at this
          cases this)]
        exact w.u j hj2 hl
  · by_cases e : j = i
    · subst e
      rw [hl, if_pos rfl, gs _ _ _ _ _ (by omega), if_pos rfl]
    · have hj2 : j < i := by omega
      by_cases c : low (2 * h) P B i = true
      · rw [if_pos c, gs _ _ _ _ _ (by omega), if_neg (fun e2 => by
          have := nf j hj2 e2
          rw [hl, c] at this
          cases this)]
        exact w.d j hj2 hl
      · rw [if_neg c]
        exact w.d j hj2 hl
  · by_cases e : j = i
    · subst e
      rw [if_pos hl, gs _ _ _ _ _ (by omega), if_pos rfl]
    · have hj2 : j < i := by omega
      by_cases c : P i % 2 = 0
      · rw [if_pos c, gs _ _ _ _ _ (by omega), if_neg (fun e2 => e (by rw [← hp.bp j (by omega), show P j = P i by omega, hp.bp i hi]))]
        exact w.e j hj2 hl
      · rw [if_neg c]
        exact w.e j hj2 hl
  · by_cases e : j = i
    · subst e
      rw [if_pos hl, gs _ _ _ _ _ (by omega), if_pos rfl]
    · have hj2 : j < i := by omega
      by_cases c : i % 2 = 0
      · rw [if_pos c, gs _ _ _ _ _ (by omega), if_neg (by omega)]
        exact w.x j hj2 hl
      · rw [if_neg c]
        exact w.x j hj2 hl
theorem tm0 (k : Nat) : (Int.tmod (k : Int) 2 = 0) ↔ k % 2 = 0 := by
  show ((k % 2 : Nat) : Int) = 0 ↔ _
  omega
theorem set_tot {h : Nat} {p r : List Int} {P B : Nat → Nat} (h4 : h ≤ 4) (o : Od h p r P B) (Q : List Bool → Prop)
    (hE : ∀ (en ex : List Bool) (up dn : List Int), Sw h P B (2 * h) en ex up dn → Tot (fun f => spec_l9Route.l0 f (st (2 * h) P B (2 * h)).2 en ex up dn p ((2 * h : Nat) : Int) ((2 * h : Nat) : Int)) Q) :
    ∀ (d i : Nat) (en ex : List Bool) (up dn : List Int), 2 * h - i = d → i ≤ 2 * h → Sw h P B i en ex up dn →
    Tot (fun f => spec_l9Route.l0 f (st (2 * h) P B (2 * h)).2 en ex up dn p ((2 * h : Nat) : Int) (i : Int)) Q := by
  intro d
  induction d with
  | zero =>
    intro i en ex up dn hd hi w
    have e : i = 2 * h := by omega
    subst e
    exact hE en ex up dn w
  | succ d ih =>
    intro i en ex up dn hd hi w
    have hlt : i < 2 * h := by omega
    have h1 := ih (i + 1) _ _ _ _ (by omega) (by omega) (w.step o.pm hlt)
    have hpi := o.pm.pl i hlt
    have w1 := w.le
    have w2 := w.lx
    have w3 := w.lu
    have w4 := w.ld
    have hlp := o.lp
    have hll := (st_full o.pm (2 * h) (Nat.le_refl _)).1.ll
    have hj : ∀ (up dn : List Int), Tot (fun f => spec_l9Route.l0 f (st (2 * h) P B (2 * h)).2 (if P i % 2 = 0 then en.set (P i / 2) (low (2 * h) P B i) else en) (if i % 2 = 0 then ex.set (i / 2) (low (2 * h) P B i) else ex) up dn p ((2 * h : Nat) : Int) ((i + 1 : Nat) : Int)) Q →
        Tot (fun f => spec_l9Route.j1 f (st (2 * h) P B (2 * h)).2 en ex up dn (i : Int) ((P i : Nat) : Int) p ((2 * h : Nat) : Int) (i : Int)) Q := by
      intro up dn h2
      refine Tot.up ?_
      simp only [spec_l9Route.j1]
      rw [rdBg, td2, td2, wnat (i / 2) (by omega), wnat (P i / 2) (by omega), Int.toNat_natCast, Int.toNat_natCast, w64 (n := (i : Int) + 1) (by omega) (by omega)]
      by_cases c1 : P i % 2 = 0
      · rw [if_pos c1] at h2
        refine Tot.pos ((tm0 _).2 c1) (Tot.pos (by omega) (Tot.pos (by omega) (Tot.pos (by omega) (Tot.pos (by omega) (Tot.bind (Tot.some_ (Q := fun z => z = en.set (P i / 2) (low (2 * h) P B i)) rfl) (fun z hz => ?_))))))
        subst hz
        by_cases c2 : i % 2 = 0
        · rw [if_pos c2] at h2
          exact Tot.pos ((tm0 _).2 c2) (Tot.pos (by omega) (Tot.pos (by omega) h2))
        · rw [if_neg c2] at h2
          exact Tot.neg (fun h => c2 ((tm0 _).1 h)) h2
      · rw [if_neg c1] at h2
        refine Tot.neg (fun h => c1 ((tm0 _).1 h)) ?_
        by_cases c2 : i % 2 = 0
        · rw [if_pos c2] at h2
          exact Tot.pos ((tm0 _).2 c2) (Tot.pos (by omega) (Tot.pos (by omega) (Tot.pos (by omega) (Tot.pos (by omega) h2))))
        · rw [if_neg c2] at h2
          exact Tot.neg (fun h => c2 ((tm0 _).1 h)) h2
    refine Tot.up ?_
    simp only [spec_l9Route.l0]
    rw [rdBg, o.rp i hlt, td2, td2, wnat (i / 2) (by omega), wnat (P i / 2) (by omega), Int.toNat_natCast]
    refine Tot.pos (by omega) (Tot.pos (by omega) (Tot.pos (by omega) (Tot.pos (by omega) ?_)))
    by_cases c : low (2 * h) P B i = true
    · rw [if_pos c, if_pos c] at h1
      exact Tot.pos c (Tot.pos (by omega) (Tot.pos (by omega) (hj _ _ h1)))
    · rw [if_neg c, if_neg c] at h1
      exact Tot.neg c (Tot.pos (by omega) (Tot.pos (by omega) (hj _ _ h1)))
/-- Rows put together. -/
theorem concat_tot (ls : List (List Bool)) (hn : ls.length ≤ 100) (hw : ls.flatten.length ≤ 1000) : Tot (fun k => slices_Concat_bool_bool.f k ls) (fun y => y = ls.flatten) := by
  have hg : ∀ i, (hi : i < ls.length) → rd_L4 ls (i : Int) = ls[i] := fun i hi => by
    unfold rd_L4
    rw [Int.toNat_natCast]
    exact getDin ls _ i hi
  have hf : ∀ i, (hi : i < ls.length) → (ls.take (i + 1)).flatten = (ls.take i).flatten ++ ls[i] := fun i hi => by
    rw [List.take_succ_eq_append_getElem hi, List.flatten_append]
    simp
  have hle : ∀ i, (ls.take i).flatten.length ≤ ls.flatten.length := fun i => by
    have h := congrArg List.flatten (List.take_append_drop i ls)
    rw [List.flatten_append] at h
    have := congrArg List.length h
    rw [List.length_append] at this
    omega
  have l1 : ∀ (d i : Nat), ls.length - i = d → i ≤ ls.length → Tot (fun k => slices_Concat_bool_bool.l1 k (ls.take i).flatten ls (ls.length : Int) (i : Int)) (fun y => y = ls.flatten) := by
    intro d
    induction d with
    | zero =>
      intro i hd hi
      refine Tot.up ?_
      simp only [slices_Concat_bool_bool.l1]
      exact Tot.neg (by omega) (Tot.some_ (by rw [List.take_of_length_le (by omega)]))
    | succ d ih =>
      intro i hd hi
      have hlt : i < ls.length := by omega
      have h1 := ih (i + 1) (by omega) (by omega)
      have h2 := hle (i + 1)
      rw [hf i hlt] at h1 h2
      rw [List.length_append] at h2
      refine Tot.up ?_
      simp only [slices_Concat_bool_bool.l1]
      rw [hg i hlt, w64 (n := (i : Int) + 1) (by omega) (by omega)]
      exact Tot.pos (by omega) (Tot.pos (by omega) (Tot.pos (by omega) (Tot.pos (by omega) h1)))
  have l0 : ∀ (d i : Nat), ls.length - i = d → i ≤ ls.length → Tot (fun k => slices_Concat_bool_bool.l0 k ls ((ls.take i).flatten.length : Int) ls (ls.length : Int) (i : Int)) (fun y => y = ls.flatten) := by
    intro d
    induction d with
    | zero =>
      intro i hd hi
      have h2 := hle i
      refine Tot.up ?_
      simp only [slices_Concat_bool_bool.l0]
      refine Tot.neg (by omega) (Tot.bind (Q := fun z => z = []) (Tot.fix ⟨[], ?_, rfl⟩) (fun z hz => ?_))
      · unfold slices_Grow_bool_bool.f
        exact if_pos ⟨rfl, by omega, by omega⟩
      · subst hz
        exact l1 ls.length 0 (by omega) (by omega)
    | succ d ih =>
      intro i hd hi
      have hlt : i < ls.length := by omega
      have h1 := ih (i + 1) (by omega) (by omega)
      have h2 := hle (i + 1)
      rw [hf i hlt, List.length_append] at h1 h2
      refine Tot.up ?_
      simp only [slices_Concat_bool_bool.l0]
      rw [hg i hlt, w64 (n := (i : Int) + 1) (by omega) (by omega), w64 (n := ((ls.take i).flatten.length : Int) + (ls[i].length : Int)) (by omega) (by omega), show ((ls.take i).flatten.length : Int) + (ls[i].length : Int) = (((ls.take i).flatten.length + ls[i].length : Nat) : Int) by omega]
      exact Tot.pos (by omega) (Tot.pos (by omega) (Tot.pos (by omega) (Tot.neg (by omega) h1)))
  simp only [slices_Concat_bool_bool.f]
  exact l0 ls.length 0 (by omega) (by omega)
/-- Settings that an order has. -/
inductive Bn : Nat → List Int → List Bool → Prop
  | one (p : List Int) (h1 : p.length = 1) : Bn 1 p []
  | two (p : List Int) (h1 : p.length = 2) : Bn 2 p [rd p 0 == 1]
  | more (h : Nat) (hh : h = 2 ∨ h = 4) (p r : List Int) (P B : Nat → Nat) (y1 y2 : List Bool) (o : Od h p r P B) (b1 : Bn h (upV h P B) y1) (b2 : Bn h (dnV h P B) y2) : Bn (2 * h) p (entV h P B ++ y1 ++ y2 ++ exiV h P B)
def cntR (n : Nat) : Nat := if n = 8 then 20 else if n = 4 then 6 else if n = 2 then 1 else 0
def RouteOk (n : Nat) : Prop := ∀ p : List Int, p.length = n → Ord p → ∃ y : List Bool, y.length = cntR n ∧ Bn n p y ∧ Tot (fun k => spec_l9Route.f k p) (fun z => z = y) ∧ Tot (fun k => impl_route.f k p) (fun z => z = y)
theorem rt_one : RouteOk 1 := by
  intro p hp ho
  refine ⟨[], rfl, Bn.one p hp, Tot.up ?_, Tot.up ?_⟩
  · simp only [spec_l9Route.f]
    exact Tot.pos (by omega) (Tot.some_ rfl)
  · simp only [impl_route.f]
    exact Tot.pos (by omega) (Tot.some_ rfl)
theorem rt_two : RouteOk 2 := by
  intro p hp ho
  refine ⟨[rd p 0 == 1], rfl, Bn.two p hp, Tot.up ?_, Tot.up ?_⟩
  · simp only [spec_l9Route.f]
    exact Tot.neg (by omega) (Tot.pos (by omega) (Tot.pos (by omega) (Tot.some_ rfl)))
  · simp only [impl_route.f]
    exact Tot.neg (by omega) (Tot.pos (by omega) (Tot.pos (by omega) (Tot.some_ rfl)))
theorem od_of (h : Nat) (p r : List Int) (hp : p.length = 2 * h) (ho : Ord p) (hb : BackOk p r) : Od h p r (fnO p) (fnO r) := by
  have pp := fnO_perm p ho
  rw [hp] at pp
  have hr := hb.1
  have bp : ∀ j, j < 2 * h → fnO r (fnO p j) = j := fun j hj => by
    have := hb.2 j (by omega)
    unfold fnO at this ⊢
    omega
  have ex : ∀ j, j < 2 * h → ∃ i, i < 2 * h ∧ fnO p i = j := pp.2.2
  have bl : ∀ j, j < 2 * h → fnO r j < 2 * h := fun j hj => by
    obtain ⟨i, hi, e⟩ := ex j hj
    rw [← e, bp i hi]
    exact hi
  refine ⟨⟨by omega, pp.1, bl, fun j hj => ?_, bp⟩, hp, by omega, fun j hj => (fnO_cast p ho.2 j (by omega)).1, fun j hj => ?_⟩
  · obtain ⟨i, hi, e⟩ := ex j hj
    rw [← e, bp i hi]
  · obtain ⟨i, hi, e⟩ := ex j hj
    have h1 := hb.2 i (by omega)
    rw [e] at h1
    have h2 := bp i hi
    rw [e] at h2
    rw [h1, h2]
theorem half_ord {h : Nat} {P B : Nat → Nat} (hp : Pm (2 * h) P B) : (Ord (upV h P B) ∧ (upV h P B).length = h) ∧ (Ord (dnV h P B) ∧ (dnV h P B).length = h) := by
  have f2 : ∀ m, fl (2 * m) = 2 * m + 1 := fun m => by unfold fl; split <;> omega
  have key : ∀ (s : Nat → Nat) (b : Bool), (∀ m, m < h → (s m < 2 * h ∧ low (2 * h) P B (s m) = b ∧ s m / 2 = m)) → Ord ((List.range h).map fun m => ((P (s m) / 2 : Nat) : Int)) := by
    intro s b hs
    refine ⟨?_, fun x hx => ?_⟩
    · rw [List.nodup_iff_pairwise_ne, List.pairwise_map]
      refine List.Pairwise.imp_of_mem (fun {a c} ha hc hne e => hne ?_) (List.nodup_iff_pairwise_ne.1 List.nodup_range)
      have h1 := hs a (List.mem_range.1 ha)
      have h2 := hs c (List.mem_range.1 hc)
      have e2 : P (s a) / 2 = P (s c) / 2 := by omega
      rcases fl_of e2 with e3 | e3
      · have : s a = s c := by rw [← hp.bp _ h1.1, e3, hp.bp _ h2.1]
        rw [← h1.2.2, this, h2.2.2]
      · have e4 : s a = ta P B (s c) := by rw [← hp.bp _ h1.1, e3]; rfl
        have h3 := low_ta hp h2.1
        rw [← e4, h1.2.1, h2.2.1] at h3
        cases b <;> cases h3
    · rw [List.mem_map] at hx
      obtain ⟨m, hm, rfl⟩ := hx
      have h1 := hs m (List.mem_range.1 hm)
      have h2 := hp.pl _ h1.1
      rw [List.length_map, List.length_range]
      omega
  refine ⟨⟨key _ false (fun m hm => ?_), by simp [upV]⟩, ⟨key _ true (fun m hm => ?_), by simp [dnV]⟩⟩
  · have h1 := low_fl hp (show 2 * m < 2 * h by omega)
    rw [f2] at h1
    by_cases c : low (2 * h) P B (2 * m) = true
    · rw [if_pos c, h1, c]
      exact ⟨by omega, rfl, by omega⟩
    · rw [if_neg c]
      exact ⟨by omega, by simpa using c, by omega⟩
  · have h1 := low_fl hp (show 2 * m < 2 * h by omega)
    rw [f2] at h1
    by_cases c : low (2 * h) P B (2 * m) = true
    · rw [if_pos c]
      exact ⟨by omega, c, by omega⟩
    · rw [Bool.not_eq_true] at c
      rw [if_neg (by rw [c]; simp), h1, c]
      exact ⟨by omega, rfl, by omega⟩
theorem rt_more (h : Nat) (hh : h = 2 ∨ h = 4) (hr : RouteOk h) : RouteOk (2 * h) := by
  intro p hp ho
  have h4 : h ≤ 4 ∧ 2 ≤ h := by omega
  obtain ⟨r, hb, hbk⟩ := back_val p (by omega) ho p.length 0 (List.replicate p.length 0) (by omega) (by omega) (by simp) (fun j hj => by omega)
  have o := od_of h p r hp ho hb
  generalize fnO p = P at o
  generalize fnO r = B at o
  obtain ⟨⟨u1, u2⟩, d1, d2⟩ := half_ord o.pm
  obtain ⟨y1, a1, a2, a3, a4⟩ := hr _ u2 u1
  obtain ⟨y2, c1, c2, c3, c4⟩ := hr _ d2 d1
  have le : (entV h P B).length = h := by simp [entV]
  have lx : (exiV h P B).length = h := by simp [exiV]
  have hcn : cntR h ≤ 6 ∧ cntR (2 * h) = 2 * h + 2 * cntR h := by
    rcases hh with rfl | rfl <;> decide
  refine ⟨entV h P B ++ y1 ++ y2 ++ exiV h P B, by simp only [List.length_append]; omega, Bn.more h hh p r P B y1 y2 o a2 c2, Tot.up ?_, Tot.up ?_⟩
  · simp only [spec_l9Route.f]
    have hhf : Tot (fun k => spec_l9Halves.f k p) (fun z => z = (st (2 * h) P B (2 * h)).2) := by
      simp only [spec_l9Halves.f]
      refine Tot.bind (Q := fun z => z = r) (Tot.at_ (p.length + 1) rfl (fun k hk => ?_)) (fun z hz => ?_)
      · unfold spec_l9Back.f
        rw [if_pos (by omega), if_pos (by omega)]
        exact (hbk k (by omega)).1
      · subst hz
        rw [hp, Int.toNat_natCast]
        exact Tot.pos (by omega) (Tot.pos (by omega) (halves_l0 h4.1 o (2 * h) 0 (by omega) (by omega)))
    rw [hp, show ((2 * h : Nat) : Int) / 2 = (h : Int) by omega, wnat h (by omega), Int.toNat_natCast]
    refine Tot.neg (by omega) (Tot.neg (by omega) (Tot.bind hhf (fun z hz => ?_)))
    subst hz
    refine Tot.pos (by omega) (Tot.pos (by omega) (Tot.pos (by omega) ?_))
    refine set_tot h4.1 o _ (fun en ex up dn w => ?_) (2 * h) 0 _ _ _ _ (by omega) (by omega) ⟨by simp, by simp, by simp, by simp, fun j hj => by omega, fun j hj => by omega, fun j hj => by omega, fun j hj => by omega⟩
    obtain ⟨e1, e2, e3, e4⟩ := w.fin o.pm
    subst e1 e2 e3 e4
    refine Tot.up ?_
    simp only [spec_l9Route.l0]
    refine Tot.neg (by omega) (Tot.bind (Tot.some_ (Q := fun z => z = ([] : List Bool)) rfl) (fun z1 hz1 => ?_))
    subst hz1
    refine Tot.pos (by simp only [List.length_nil]; omega) (Tot.bind (Tot.some_ (Q := fun z => z = entV h P B) (List.nil_append _)) (fun z2 hz2 => ?_))
    subst hz2
    refine Tot.bind a3 (fun z3 hz3 => ?_)
    subst hz3
    refine Tot.pos (by omega) (Tot.bind (Tot.some_ rfl) (fun z4 hz4 => ?_))
    subst hz4
    refine Tot.bind c3 (fun z5 hz5 => ?_)
    subst hz5
    refine Tot.pos (by simp only [List.length_append]; omega) (Tot.bind (Tot.some_ rfl) (fun z6 hz6 => ?_))
    subst hz6
    exact Tot.pos (by simp only [List.length_append]; omega) (Tot.some_ rfl)
  · simp only [impl_route.f]
    rw [hp, show ((2 * h : Nat) : Int) / 2 = (h : Int) by omega, wnat h (by omega), Int.toNat_natCast, Int.toNat_natCast]
    refine Tot.neg (by omega) (Tot.neg (by omega) (Tot.pos (by omega) (Tot.pos (by omega) (Tot.pos (by omega) (Tot.pos (by omega) (Tot.pos (by omega) (Tot.bind (Q := fun z => z = r) (Tot.at_ (p.length + 1) rfl (fun k hk => ?_)) (fun z hz => ?_))))))))
    · unfold impl_back.f
      rw [if_pos (by omega), if_pos (by omega)]
      exact (hbk k (by omega)).2
    · subst hz
      refine route_l0 h4.1 o _ (fun en ex up dn w => ?_) (2 * h) 0 _ _ _ _ (by omega) (by omega) ⟨by simp, by simp, by simp, by simp, (fun j hj h1 => by simp only [st] at h1; rw [rep_get] at h1; cases h1), (fun j hj h1 => by simp only [st] at h1; rw [rep_get] at h1; cases h1)⟩
      obtain ⟨e1, e2, e3, e4⟩ := w.fin o.pm
      subst e1 e2 e3 e4
      refine Tot.up ?_
      simp only [impl_route.l0]
      refine Tot.neg (by omega) (Tot.bind a4 (fun z3 hz3 => ?_))
      subst hz3
      refine Tot.bind c4 (fun z5 hz5 => ?_)
      subst hz5
      refine Tot.bind (concat_tot _ (by simp) ?_) (fun z6 hz6 => Tot.some_ ?_)
      · simp only [List.flatten_cons, List.flatten_nil, List.length_append, List.length_nil]
        omega
      · rw [hz6]
        simp only [List.flatten_cons, List.flatten_nil, List.append_nil, List.append_assoc]
theorem rt_all (n : Nat) (hn : n = 1 ∨ n = 2 ∨ n = 4 ∨ n = 8) : RouteOk n := by
  rcases hn with rfl | rfl | rfl | rfl
  · exact rt_one
  · exact rt_two
  · exact rt_more 2 (.inl rfl) rt_two
  · exact rt_more 4 (.inr rfl) (rt_more 2 (.inl rfl) rt_two)
def prtN (n : Nat) : Bool := decide (n = 1 ∨ n = 2 ∨ n = 4 ∨ n = 8)
theorem ports_eq (n : Nat) : spec_l9Ports.f (n : Int) = some (prtN n) ∧ impl_arePorts.f (n : Int) = some (prtN n) := by
  unfold spec_l9Ports.f impl_arePorts.f prtN
  by_cases h1 : n = 1
  · subst h1
    exact ⟨rfl, rfl⟩
  by_cases h2 : n = 2
  · subst h2
    exact ⟨rfl, rfl⟩
  by_cases h4 : n = 4
  · subst h4
    exact ⟨rfl, rfl⟩
  rw [if_neg (by omega), if_neg (by omega), if_neg (by omega)]
  have : ((n : Int) == 8) = decide (n = 1 ∨ n = 2 ∨ n = 4 ∨ n = 8) := by
    by_cases h8 : n = 8
    · subst h8
      rfl
    · rw [decide_eq_false (by omega)]
      exact beq_eq_false_iff_ne.2 (by omega)
  rw [this]
  exact ⟨rfl, rfl⟩
theorem routes_same (p : List Int) (hl : p.length ≤ 1048576) : ∃ r : List Bool × Bool, r.1.length ≤ 20 ∧ r.2 = (isOrd p && prtN p.length) ∧ (r.2 = true → r.1.length = cntR p.length ∧ Bn p.length p r.1) ∧ Tot (fun k => spec_RouteOrder.f k p) (fun z => z = r) ∧ Tot (fun k => impl_RouteOrder.f k p) (fun z => z = r) := by
  simp only [spec_RouteOrder.f, impl_RouteOrder.f, (ports_eq p.length).1, (ports_eq p.length).2]
  by_cases h : isOrd p = true
  · by_cases hn : prtN p.length = true
    · have hn2 : p.length = 1 ∨ p.length = 2 ∨ p.length = 4 ∨ p.length = 8 := of_decide_eq_true hn
      obtain ⟨y, y1, y2, y3, y4⟩ := rt_all p.length hn2 p rfl (isOrd_iff.1 h).2
      have hc : cntR p.length ≤ 20 := by
        rcases hn2 with e | e | e | e <;> rw [e] <;> decide
      refine ⟨(y, true), by simp only; omega, by rw [h, hn]; rfl, fun _ => ⟨y1, y2⟩, ?_, ?_⟩
      · exact Tot.bind (specOrd_tot p hl) (fun z hz => Tot.pos (hz.trans h) (Tot.bind (Tot.some_ rfl) (fun b hb => Tot.pos (by rw [← hb]; exact hn) (Tot.bind y3 (fun t ht => Tot.some_ (by rw [ht]))))))
      · exact Tot.bind (implOrd_tot p hl) (fun z hz => Tot.pos (hz.trans h) (Tot.bind (Tot.some_ rfl) (fun b hb => Tot.pos (by rw [← hb]; exact hn) (Tot.bind y4 (fun t ht => Tot.some_ (by rw [ht]))))))
    · refine ⟨([], false), by simp, by rw [Bool.not_eq_true] at hn; rw [hn]; simp, (fun h2 => by cases h2), ?_, ?_⟩
      · exact Tot.bind (specOrd_tot p hl) (fun z hz => Tot.pos (hz.trans h) (Tot.bind (Tot.some_ rfl) (fun b hb => Tot.neg (by rw [← hb]; exact hn) (Tot.some_ rfl))))
      · exact Tot.bind (implOrd_tot p hl) (fun z hz => Tot.pos (hz.trans h) (Tot.bind (Tot.some_ rfl) (fun b hb => Tot.neg (by rw [← hb]; exact hn) (Tot.some_ rfl))))
  · refine ⟨([], false), by simp, by rw [Bool.not_eq_true] at h; rw [h]; rfl, (fun h2 => by cases h2), ?_, ?_⟩
    · exact Tot.bind (specOrd_tot p hl) (fun z hz => Tot.neg (by rw [hz]; exact h) (Tot.some_ rfl))
    · exact Tot.bind (implOrd_tot p hl) (fun z hz => Tot.neg (by rw [hz]; exact h) (Tot.some_ rfl))

theorem rdStr (l : List ByteArray) (i : Nat) (h : i < l.length) : rdOf ByteArray.empty l (i : Int) = l[i] := by
  unfold rdOf
  rw [Int.toNat_natCast]
  exact getDin l _ i h

set_option maxHeartbeats 2000000
theorem rdBl (l : List Bool) (i : Nat) : rdOf false l (i : Int) = l.getD i false := by
  unfold rdOf
  rw [Int.toNat_natCast]
/-- How many switches so many ports want. -/
def cntS (n : Nat) : Nat := if n = 8 then 20 else if n = 4 then 6 else if n = 2 then 1 else 0
theorem cnt_tot (n : Nat) (hn : n = 1 ∨ n = 2 ∨ n = 4 ∨ n = 8) : Tot (fun k => spec_l9Count.f k (n : Int)) (fun y => y = (cntS n : Int)) ∧ Tot (fun k => impl_switches.f k (n : Int)) (fun y => y = (cntS n : Int)) := by
  have h : ∀ j, spec_l9Count.f (j + 4) (n : Int) = some (cntS n : Int) ∧ impl_switches.f (j + 4) (n : Int) = some (cntS n : Int) := by
    intro j
    rcases hn with rfl | rfl | rfl | rfl <;> exact ⟨by simp [spec_l9Count.f, cntS, wrap64], by simp [impl_switches.f, cntS, wrap64]⟩
  refine ⟨Tot.at_ 4 rfl (fun k hk => ?_), Tot.at_ 4 rfl (fun k hk => ?_)⟩
  · obtain ⟨j, rfl⟩ : ∃ j, k = j + 4 := ⟨k - 4, by omega⟩
    exact (h j).1
  · obtain ⟨j, rfl⟩ : ∃ j, k = j + 4 := ⟨k - 4, by omega⟩
    exact (h j).2
theorem run_out (sw : List Bool) (m c : Nat) (hm : m ≤ 4) (hc : c ≤ 20) (hsw : sw.length = 2 * m + 2 * c) (T B : List ByteArray) (hT : T.length = m) (hB : B.length = m) : ∀ (d i : Nat) (o : List ByteArray), m - i = d → i ≤ m → o.length = 2 * i →
    ∃ y : List ByteArray, y.length = 2 * m ∧ Tot (fun k => spec_l9Run.l1 k sw (m : Int) (c : Int) T B o (i : Int)) (fun z => z = y) ∧ Tot (fun k => impl_run.l1 k (sw.drop (m + 2 * c)) T B o (m : Int) (i : Int)) (fun z => z = y) := by
  intro d
  induction d with
  | zero =>
    intro i o hd hi ho
    refine ⟨o, by omega, Tot.up ?_, Tot.up ?_⟩
    · simp only [spec_l9Run.l1]
      exact Tot.neg (by omega) (Tot.some_ rfl)
    · simp only [impl_run.l1]
      exact Tot.neg (by omega) (Tot.some_ rfl)
  | succ d ih =>
    intro i o hd hi ho
    have e1 := Aside0.mk (show wrap64 ((i : Int) + 1) = ((i + 1 : Nat) : Int) from by rw [w64 (by omega) (by omega)]; omega)
    have e2 := Aside0.mk (show wrap64 (wrap64 ((m : Int) + wrap64 (2 * (c : Int))) + (i : Int)) = ((m + 2 * c + i : Nat) : Int) from by
      rw [w64 (n := 2 * (c : Int)) (by omega) (by omega), w64 (n := (m : Int) + 2 * (c : Int)) (by omega) (by omega), w64 (by omega) (by omega)]
      omega)
    have e3 : (sw.drop (m + 2 * c)).getD i false = sw.getD (m + 2 * c + i) false := by
      simp only [List.getD_eq_getElem?_getD, List.getElem?_drop]
    have hdl : (sw.drop (m + 2 * c)).length = m := by rw [List.length_drop]; omega
    by_cases hs : sw.getD (m + 2 * c + i) false = true
    · obtain ⟨y, hy, h1, h2⟩ := ih (i + 1) (o ++ [B[i], T[i]]) (by omega) (by omega) (by simp; omega)
      refine ⟨y, hy, Tot.up ?_, Tot.up ?_⟩
      · simp only [spec_l9Run.l1, spec_l9Cross.f]
        rw [e2.out, e1.out, rdBl, rdStr T i (by omega), rdStr B i (by omega), hs]
        refine Tot.pos (by omega) (Tot.pos (by omega) (Tot.pos (by omega) (Tot.pos (by omega) (Tot.pos (by omega) (Tot.pos (by omega) ?_)))))
        refine Tot.bind (Q := fun z => z = (B[i], T[i])) (Tot.pos rfl (Tot.some_ rfl)) (fun z hz => Tot.bind (Tot.some_ rfl) (fun v hv => ?_))
        rw [← hv, hz]
        exact Tot.pos (by simp; omega) h1
      · simp only [impl_run.l1]
        rw [e1.out, rdBl, e3, rdStr T i (by omega), rdStr B i (by omega), hs, hdl]
        refine Tot.pos (by omega) (Tot.pos (by omega) (Tot.pos (by omega) (Tot.pos (by omega) (Tot.pos (by omega) (Tot.pos rfl ?_)))))
        refine Tot.bind (Tot.some_ rfl) (fun v hv => ?_)
        rw [← hv]
        exact Tot.pos (by simp; omega) h2
    · obtain ⟨y, hy, h1, h2⟩ := ih (i + 1) (o ++ [T[i], B[i]]) (by omega) (by omega) (by simp; omega)
      refine ⟨y, hy, Tot.up ?_, Tot.up ?_⟩
      · simp only [spec_l9Run.l1, spec_l9Cross.f]
        rw [e2.out, e1.out, rdBl, rdStr T i (by omega), rdStr B i (by omega)]
        refine Tot.pos (by omega) (Tot.pos (by omega) (Tot.pos (by omega) (Tot.pos (by omega) (Tot.pos (by omega) (Tot.pos (by omega) ?_)))))
        refine Tot.bind (Q := fun z => z = (T[i], B[i])) (Tot.neg hs (Tot.some_ rfl)) (fun z hz => Tot.bind (Tot.some_ rfl) (fun v hv => ?_))
        rw [← hv, hz]
        exact Tot.pos (by simp; omega) h1
      · simp only [impl_run.l1]
        rw [e1.out, rdBl, e3, rdStr T i (by omega), rdStr B i (by omega), hdl]
        refine Tot.pos (by omega) (Tot.pos (by omega) (Tot.pos (by omega) (Tot.pos (by omega) (Tot.pos (by omega) (Tot.neg hs ?_)))))
        refine Tot.bind (Tot.some_ rfl) (fun v hv => ?_)
        rw [← hv]
        exact Tot.pos (by simp; omega) h2
theorem swRun (sw : List Bool) (l : List ByteArray) (m c : Nat) (hm : m ≤ 4) (hl : l.length = 2 * m) (hsw : sw.length = 2 * m + 2 * c) : ∀ (d i : Nat) (t b : List ByteArray), m - i = d → i ≤ m → t.length = i → b.length = i →
    ∃ T B : List ByteArray, T.length = m ∧ B.length = m ∧ (∀ Q, Tot (fun k => spec_l9Run.l0 k sw l (m : Int) (c : Int) T B (m : Int)) Q → Tot (fun k => spec_l9Run.l0 k sw l (m : Int) (c : Int) t b (i : Int)) Q) ∧ (∀ Q, Tot (fun k => impl_run.l0 k sw l ((2 * m : Nat) : Int) T B (m : Int) (m : Int)) Q → Tot (fun k => impl_run.l0 k sw l ((2 * m : Nat) : Int) t b (m : Int) (i : Int)) Q) := by
  intro d
  induction d with
  | zero =>
    intro i t b hd hi ht hb
    have : i = m := by omega
    subst this
    exact ⟨t, b, ht, hb, fun Q h => h, fun Q h => h⟩
  | succ d ih =>
    intro i t b hd hi ht hb
    have e1 := Aside0.mk (show wrap64 ((i : Int) + 1) = ((i + 1 : Nat) : Int) from by rw [w64 (by omega) (by omega)]; omega)
    have e2 := Aside0.mk (show wrap64 (2 * (i : Int)) = ((2 * i : Nat) : Int) from by rw [w64 (by omega) (by omega)]; omega)
    have e3 := Aside0.mk (show wrap64 (((2 * i : Nat) : Int) + 1) = ((2 * i + 1 : Nat) : Int) from by rw [w64 (by omega) (by omega)]; omega)
    by_cases hs : sw.getD i false = true
    · obtain ⟨T, B, hT, hB, h1, h2⟩ := ih (i + 1) (t ++ [l[2 * i + 1]]) (b ++ [l[2 * i]]) (by omega) (by omega) (by simp; omega) (by simp; omega)
      refine ⟨T, B, hT, hB, fun Q hQ => Tot.up ?_, fun Q hQ => Tot.up ?_⟩
      · simp only [spec_l9Run.l0, spec_l9Cross.f]
        rw [e2.out, e3.out, e1.out, rdBl, rdStr l (2 * i) (by omega), rdStr l (2 * i + 1) (by omega)]
        refine Tot.pos (by omega) (Tot.pos (by omega) (Tot.pos (by omega) (Tot.pos (by omega) (Tot.pos (by omega) (Tot.pos (by omega) (Tot.pos (by omega) ?_))))))
        refine Tot.bind (Q := fun z => z = (l[2 * i + 1], l[2 * i])) (Tot.pos hs (Tot.some_ rfl)) (fun z hz => ?_)
        rw [hz]
        exact Tot.pos (by omega) (Tot.pos (by omega) (h1 Q hQ))
      · simp only [impl_run.l0]
        rw [e2.out, e3.out, e1.out, rdBl, rdStr l (2 * i) (by omega), rdStr l (2 * i + 1) (by omega)]
        exact Tot.pos (by omega) (Tot.pos (by omega) (Tot.pos (by omega) (Tot.pos (by omega) (Tot.pos (by omega) (Tot.pos (by omega) (Tot.pos (by omega) (Tot.pos hs (Tot.pos (by omega) (Tot.pos (by omega) (h2 Q hQ))))))))))
    · obtain ⟨T, B, hT, hB, h1, h2⟩ := ih (i + 1) (t ++ [l[2 * i]]) (b ++ [l[2 * i + 1]]) (by omega) (by omega) (by simp; omega) (by simp; omega)
      refine ⟨T, B, hT, hB, fun Q hQ => Tot.up ?_, fun Q hQ => Tot.up ?_⟩
      · simp only [spec_l9Run.l0, spec_l9Cross.f]
        rw [e2.out, e3.out, e1.out, rdBl, rdStr l (2 * i) (by omega), rdStr l (2 * i + 1) (by omega)]
        refine Tot.pos (by omega) (Tot.pos (by omega) (Tot.pos (by omega) (Tot.pos (by omega) (Tot.pos (by omega) (Tot.pos (by omega) (Tot.pos (by omega) ?_))))))
        refine Tot.bind (Q := fun z => z = (l[2 * i], l[2 * i + 1])) (Tot.neg hs (Tot.some_ rfl)) (fun z hz => ?_)
        rw [hz]
        exact Tot.pos (by omega) (Tot.pos (by omega) (h1 Q hQ))
      · simp only [impl_run.l0]
        rw [e2.out, e3.out, e1.out, rdBl, rdStr l (2 * i) (by omega), rdStr l (2 * i + 1) (by omega)]
        exact Tot.pos (by omega) (Tot.pos (by omega) (Tot.pos (by omega) (Tot.pos (by omega) (Tot.pos (by omega) (Tot.pos (by omega) (Tot.pos (by omega) (Tot.neg hs (Tot.pos (by omega) (Tot.pos (by omega) (h2 Q hQ))))))))))
def RunOk (n : Nat) : Prop := ∀ (sw : List Bool) (l : List ByteArray), l.length = n → sw.length = cntS n → ∃ y : List ByteArray, y.length = n ∧ Tot (fun k => spec_l9Run.f k sw l) (fun z => z = y) ∧ Tot (fun k => impl_run.f k sw l) (fun z => z = y)
theorem run_one : RunOk 1 := by
  intro sw l hl hs
  refine ⟨l, hl, Tot.up ?_, Tot.up ?_⟩
  · simp only [spec_l9Run.f]
    refine Tot.pos (by omega) (Tot.bind (Tot.some_ rfl) (fun z hz => ?_))
    rw [← hz]
    exact Tot.pos (by simp only [List.length_nil]; omega) (Tot.some_ rfl)
  · simp only [impl_run.f, slices_Clone_string_string.f]
    refine Tot.pos (by omega) (Tot.bind (Q := fun z => z = l) (Tot.pos (by omega) (Tot.some_ rfl)) (fun z hz => Tot.some_ hz))
theorem run_two : RunOk 2 := by
  intro sw l hl hs
  have hs1 : sw.length = 1 := hs
  have r0 : rdOf ByteArray.empty l 0 = l[0] := rdStr l 0 (by omega)
  have r1 : rdOf ByteArray.empty l 1 = l[1] := rdStr l 1 (by omega)
  have el : l = [l[0], l[1]] := by
    match l, hl with
    | [a, b], _ => rfl
  by_cases h : rdOf false sw 0 = true
  · refine ⟨[l[1], l[0]], rfl, Tot.up ?_, Tot.up ?_⟩
    · simp only [spec_l9Run.f, spec_l9Cross.f]
      rw [r0, r1]
      refine Tot.neg (by omega) (Tot.pos (by omega) (Tot.pos (by omega) (Tot.pos (by omega) (Tot.pos (by omega) (Tot.bind (Q := fun z => z = (l[1], l[0])) (Tot.pos h (Tot.some_ rfl)) (fun z hz => Tot.some_ (by rw [hz])))))))
    · simp only [impl_run.f]
      refine Tot.neg (by omega) (Tot.pos (by omega) (Tot.pos (by omega) (Tot.up ?_)))
      simp only [impl_run.j0]
      rw [r0, r1]
      exact Tot.pos h (Tot.pos (by omega) (Tot.pos (by omega) (Tot.some_ rfl)))
  · refine ⟨[l[0], l[1]], rfl, Tot.up ?_, Tot.up ?_⟩
    · simp only [spec_l9Run.f, spec_l9Cross.f]
      rw [r0, r1]
      refine Tot.neg (by omega) (Tot.pos (by omega) (Tot.pos (by omega) (Tot.pos (by omega) (Tot.pos (by omega) (Tot.bind (Q := fun z => z = (l[0], l[1])) (Tot.neg h (Tot.some_ rfl)) (fun z hz => Tot.some_ (by rw [hz])))))))
    · simp only [impl_run.f]
      refine Tot.neg (by omega) (Tot.pos (by omega) (Tot.pos (by omega) (Tot.up ?_)))
      simp only [impl_run.j0, slices_Clone_string_string.f]
      exact Tot.neg h (Tot.pos (by omega) (Tot.bind (Q := fun z => z = l) (Tot.pos (by omega) (Tot.some_ rfl)) (fun z hz => Tot.some_ (hz.trans el))))
theorem run_more (m : Nat) (hm : m = 2 ∨ m = 4) (hr : RunOk m) : RunOk (2 * m) := by
  intro sw l hl hs
  obtain ⟨c, hc⟩ : ∃ c, c = cntS m := ⟨_, rfl⟩
  have hc2 : cntS (2 * m) = 2 * m + 2 * c ∧ c ≤ 20 := by
    rw [hc]
    rcases hm with rfl | rfl <;> decide
  have hsw : sw.length = 2 * m + 2 * c := by omega
  have hm4 : m ≤ 4 ∧ 2 ≤ m := by omega
  have hcnt := cnt_tot m (by omega)
  rw [← hc] at hcnt
  obtain ⟨T, B, hT, hB, h1, h2⟩ := swRun sw l m c hm4.1 hl hsw m 0 [] [] (by omega) (by omega) rfl rfl
  obtain ⟨t, ht, t1, t2⟩ := hr ((sw.take (m + c)).drop m) T hT (by rw [List.length_drop, List.length_take, ← hc]; omega)
  obtain ⟨b, hb, b1, b2⟩ := hr ((sw.take (m + 2 * c)).drop (m + c)) B hB (by rw [List.length_drop, List.length_take, ← hc]; omega)
  obtain ⟨y, hy, y1, y2⟩ := run_out sw m c hm4.1 hc2.2 hsw t b ht hb m 0 [] (by omega) (by omega) rfl
  have w2 := Aside0.mk (show wrap64 (2 * (c : Int)) = ((2 * c : Nat) : Int) from by rw [w64 (by omega) (by omega)]; omega)
  have wmc := Aside0.mk (show wrap64 ((m : Int) + (c : Int)) = ((m + c : Nat) : Int) from by rw [w64 (by omega) (by omega)]; omega)
  have wm2 := Aside0.mk (show wrap64 ((m : Int) + ((2 * c : Nat) : Int)) = ((m + 2 * c : Nat) : Int) from by rw [w64 (by omega) (by omega)]; omega)
  have wh := Aside0.mk (show wrap64 (((2 * m : Nat) : Int) / 2) = (m : Int) from by rw [w64 (by omega) (by omega)]; omega)
  have wt := Aside0.mk (show wrap64 (Int.tdiv ((2 * m : Nat) : Int) 2) = (m : Int) from by rw [Int.tdiv_eq_ediv_of_nonneg (by omega)]; exact wh.out)
  refine ⟨y, hy, Tot.up ?_, Tot.up ?_⟩
  · simp only [spec_l9Run.f]
    rw [hl, wh.out]
    refine Tot.neg (by omega) (Tot.neg (by omega) (Tot.bind hcnt.1 (fun z hz => ?_)))
    rw [hz]
    refine h1 _ (Tot.up ?_)
    simp only [spec_l9Run.l0]
    rw [w2.out, wmc.out, wm2.out, Int.toNat_natCast, Int.toNat_natCast, Int.toNat_natCast]
    refine Tot.neg (by omega) (Tot.pos (by omega) (Tot.pos (by omega) (Tot.pos (by omega) (Tot.bind t1 (fun u hu => ?_)))))
    rw [hu]
    refine Tot.pos (by omega) (Tot.pos (by omega) (Tot.pos (by omega) (Tot.bind b1 (fun v hv => ?_))))
    rw [hv]
    exact y1
  · simp only [impl_run.f]
    rw [hl]
    refine Tot.neg (by omega) (Tot.neg (by omega) (Tot.up ?_))
    simp only [impl_run.j0]
    rw [wt.out]
    refine Tot.neg (by simp) (Tot.neg (by omega) ?_)
    refine h2 _ (Tot.up ?_)
    simp only [impl_run.l0]
    rw [wt.out]
    refine Tot.neg (by omega) (Tot.pos (by omega) (Tot.pos (by omega) (Tot.bind (Tot.some_ rfl) (fun z hz => ?_))))
    rw [← hz, Int.toNat_natCast]
    refine Tot.bind hcnt.2 (fun u hu => ?_)
    rw [hu, w2.out, Int.toNat_natCast, Int.toNat_natCast]
    have hdl : (sw.drop m).length = m + 2 * c := by rw [List.length_drop]; omega
    refine Tot.pos (by omega) (Tot.pos (by omega) ?_)
    rw [List.take_drop]
    refine Tot.bind t2 (fun p hp => ?_)
    rw [hp, hdl]
    refine Tot.pos (by omega) (Tot.pos (by omega) ?_)
    rw [List.take_drop, List.drop_drop]
    refine Tot.bind b2 (fun q hq => ?_)
    rw [hq, List.drop_drop]
    exact Tot.pos (by omega) y2
theorem run_all (n : Nat) (hn : n = 1 ∨ n = 2 ∨ n = 4 ∨ n = 8) : RunOk n := by
  rcases hn with rfl | rfl | rfl | rfl
  · exact run_one
  · exact run_two
  · exact run_more 2 (.inl rfl) run_two
  · exact run_more 4 (.inr rfl) (run_more 2 (.inl rfl) run_two)

def appV (o : List Int) (t : List ByteArray) : List ByteArray × Bool := if isOrd o = true ∧ t.length = o.length then (o.map fun x => rdOf ByteArray.empty t x, true) else ([], false)
theorem implApp_l0 (o : List Int) (t : List ByteArray) (ho : o.length ≤ 9) (hr : ∀ x ∈ o, 0 ≤ x ∧ x < t.length) (k : Nat) (hk : o.length < k) : impl_ApplyOrder.l0 k t [] o (o.length : Int) 0 = some (o.map fun x => rdOf ByteArray.empty t x, true) := by
  have h := loop_up (fun k (x : List ByteArray × Int) => impl_ApplyOrder.l0 k t x.1 o (o.length : Int) x.2) o.length 0
    (fun i => ((o.map fun x => rdOf ByteArray.empty t x).take i, (i : Int))) (o.map fun x => rdOf ByteArray.empty t x, true) (fun i k hi _ => by
    have hx := hr _ (List.getElem_mem hi)
    simp only [impl_ApplyOrder.l0]
    rw [if_pos (by omega), if_pos (by omega), if_pos (by omega), rd_in o i hi, if_pos hx.1, if_pos hx.2, if_pos (by rw [List.length_take]; omega), w64 (n := (i : Int) + 1) (by omega) (by omega), List.take_succ_eq_append_getElem (by simpa using hi), List.getElem_map]
    rfl) (fun k _ => by
    simp only [impl_ApplyOrder.l0]
    rw [if_neg (by omega), List.take_of_length_le (by simp)]) k hk
  exact h
theorem implApp_tot (o : List Int) (t : List ByteArray) (ho : o.length ≤ 1048576) : Tot (fun k => impl_ApplyOrder.f k o t) (fun y => y = appV o t) := by
  simp only [impl_ApplyOrder.f]
  refine Tot.bind (implOrd_tot o ho) (fun y e => ?_)
  rw [e]
  refine Tot.ite (fun h => ?_) (fun h => Tot.up ?_)
  · obtain ⟨h9, hr⟩ := isOrd_iff.1 h
    refine Tot.up ?_
    simp only [impl_ApplyOrder.j0]
    by_cases he : t.length = o.length
    · refine Tot.neg (by rw [he]; simp) (Tot.at_ (o.length + 1) ?_ (fun k hk => implApp_l0 o t h9 (fun x hx => by have := hr.2 x hx; omega) k (by omega)))
      unfold appV
      rw [if_pos ⟨h, he⟩]
    · refine Tot.pos (by rw [bne_iff_ne]; omega) (Tot.some_ ?_)
      unfold appV
      rw [if_neg (fun h => he h.2)]
  · simp only [impl_ApplyOrder.j0, if_true]
    refine Tot.some_ ?_
    unfold appV
    rw [if_neg (fun h2 => h h2.1)]
theorem rdSg (l : List ByteArray) (i : Nat) : rdOf ByteArray.empty l (i : Int) = l.getD i ByteArray.empty := by
  unfold rdOf
  rw [Int.toNat_natCast]
theorem take_get (l : List ByteArray) (i : Nat) (h : i < l.length) : l.take (i + 1) = l.take i ++ [l.getD i ByteArray.empty] := by
  rw [List.take_succ_eq_append_getElem h, getDin l _ i h]
theorem runI_in (sw : List Bool) (l T B : List ByteArray) (m : Nat) (hm : m ≤ 4) (hl : l.length = 2 * m) (hsw : m ≤ sw.length) (hT : T.length = m) (hB : B.length = m)
    (vT : ∀ i, i < m → T.getD i ByteArray.empty = if sw.getD i false = true then l.getD (2 * i + 1) ByteArray.empty else l.getD (2 * i) ByteArray.empty)
    (vB : ∀ i, i < m → B.getD i ByteArray.empty = if sw.getD i false = true then l.getD (2 * i) ByteArray.empty else l.getD (2 * i + 1) ByteArray.empty) (Q : List ByteArray → Prop)
    (hQ : Tot (fun k => impl_run.l0 k sw l ((2 * m : Nat) : Int) T B (m : Int) (m : Int)) Q) : ∀ (d i : Nat), m - i = d → i ≤ m → Tot (fun k => impl_run.l0 k sw l ((2 * m : Nat) : Int) (T.take i) (B.take i) (m : Int) (i : Int)) Q := by
  intro d
  induction d with
  | zero =>
    intro i hd hi
    have e : i = m := by omega
    subst e
    rw [List.take_of_length_le (by omega), List.take_of_length_le (by omega)]
    exact hQ
  | succ d ih =>
    intro i hd hi
    have hlt : i < m := by omega
    have h1 := ih (i + 1) (by omega) (by omega)
    rw [take_get T i (by omega), take_get B i (by omega), vT i hlt, vB i hlt] at h1
    have e2 := Aside0.mk (show wrap64 (2 * (i : Int)) = ((2 * i : Nat) : Int) from by rw [w64 (by omega) (by omega)]; omega)
    have e3 := Aside0.mk (show wrap64 (((2 * i : Nat) : Int) + 1) = ((2 * i + 1 : Nat) : Int) from by rw [w64 (by omega) (by omega)]; omega)
    have e1 := Aside0.mk (show wrap64 ((i : Int) + 1) = ((i + 1 : Nat) : Int) from by rw [w64 (by omega) (by omega)]; omega)
    have t1 : (T.take i).length = i := by rw [List.length_take]; omega
    have t2 : (B.take i).length = i := by rw [List.length_take]; omega
    refine Tot.up ?_
    simp only [impl_run.l0]
    rw [e2.out, e3.out, e1.out, rdBg, rdSg, rdSg]
    refine Tot.pos (by omega) (Tot.pos (by omega) (Tot.pos (by omega) (Tot.pos (by omega) (Tot.pos (by omega) (Tot.pos (by omega) (Tot.pos (by omega) ?_))))))
    by_cases hs : sw.getD i false = true
    · rw [if_pos hs, if_pos hs] at h1
      exact Tot.pos hs (Tot.pos (by omega) (Tot.pos (by omega) h1))
    · rw [if_neg hs, if_neg hs] at h1
      exact Tot.neg hs (Tot.pos (by omega) (Tot.pos (by omega) h1))
theorem runI_out (ex : List Bool) (T B O : List ByteArray) (m : Nat) (hm : m ≤ 4) (hx : ex.length = m) (hT : T.length = m) (hB : B.length = m) (hO : O.length = 2 * m)
    (v0 : ∀ i, i < m → O.getD (2 * i) ByteArray.empty = if ex.getD i false = true then B.getD i ByteArray.empty else T.getD i ByteArray.empty)
    (v1 : ∀ i, i < m → O.getD (2 * i + 1) ByteArray.empty = if ex.getD i false = true then T.getD i ByteArray.empty else B.getD i ByteArray.empty) :
    ∀ (d i : Nat), m - i = d → i ≤ m → Tot (fun k => impl_run.l1 k ex T B (O.take (2 * i)) (m : Int) (i : Int)) (fun z => z = O) := by
  intro d
  induction d with
  | zero =>
    intro i hd hi
    refine Tot.up ?_
    simp only [impl_run.l1]
    exact Tot.neg (by omega) (Tot.some_ (by rw [List.take_of_length_le (by omega)]))
  | succ d ih =>
    intro i hd hi
    have hlt : i < m := by omega
    have h1 := ih (i + 1) (by omega) (by omega)
    rw [show 2 * (i + 1) = 2 * i + 1 + 1 by omega, take_get O (2 * i + 1) (by omega), take_get O (2 * i) (by omega), v0 i hlt, v1 i hlt, List.append_assoc, List.singleton_append] at h1
    have e1 := Aside0.mk (show wrap64 ((i : Int) + 1) = ((i + 1 : Nat) : Int) from by rw [w64 (by omega) (by omega)]; omega)
    have t1 : (O.take (2 * i)).length = 2 * i := by rw [List.length_take]; omega
    refine Tot.up ?_
    simp only [impl_run.l1]
    rw [e1.out, rdBg, rdSg, rdSg]
    refine Tot.pos (by omega) (Tot.pos (by omega) (Tot.pos (by omega) (Tot.pos (by omega) (Tot.pos (by omega) ?_))))
    by_cases hs : ex.getD i false = true
    · rw [if_pos hs, if_pos hs] at h1
      refine Tot.pos hs (Tot.bind (Tot.some_ rfl) (fun v hv => ?_))
      rw [← hv]
      exact Tot.pos (by simp only [List.length_cons, List.length_nil]; omega) h1
    · rw [if_neg hs, if_neg hs] at h1
      refine Tot.neg hs (Tot.bind (Tot.some_ rfl) (fun v hv => ?_))
      rw [← hv]
      exact Tot.pos (by simp only [List.length_cons, List.length_nil]; omega) h1
def putV (p : List Int) (l : List ByteArray) : List ByteArray := p.map fun x => rdOf ByteArray.empty l x
theorem putV_length (p : List Int) (l : List ByteArray) : (putV p l).length = p.length := by simp [putV]
theorem putV_get (p : List Int) (l : List ByteArray) (i : Nat) (h : i < p.length) : (putV p l).getD i ByteArray.empty = rdOf ByteArray.empty l (rd p (i : Int)) := by
  rw [getDin _ _ i (by rw [putV_length]; exact h), rd_in p i h]
  simp [putV]
theorem map_get {α : Type} (d : α) (h : Nat) (f : Nat → α) (m : Nat) (hm : m < h) : ((List.range h).map f).getD m d = f m := by
  rw [getDin _ _ m (by simp [hm])]
  simp
/-- What the settings of an order make is the order. -/
theorem bn_len {n : Nat} {p : List Int} {y : List Bool} (b : Bn n p y) : p.length = n ∧ ((n = 1 ∨ n = 2 ∨ n = 4 ∨ n = 8) → y.length = cntS n) := by
  induction b with
  | one p h1 => exact ⟨h1, fun _ => rfl⟩
  | two p h1 => exact ⟨h1, fun _ => rfl⟩
  | more h hh p r P B y1 y2 o b1 b2 i1 i2 =>
    refine ⟨o.lp, fun hn => ?_⟩
    have l1 := i1.2 (by omega)
    have l2 := i2.2 (by omega)
    have le : (entV h P B).length = h := by simp [entV]
    have lx : (exiV h P B).length = h := by simp [exiV]
    simp only [List.length_append]
    rw [l1, l2, le, lx]
    rcases hh with rfl | rfl <;> decide
theorem bn_run {n : Nat} {p : List Int} {y : List Bool} (b : Bn n p y) : Ord p → ∀ l : List ByteArray, l.length = n → Tot (fun k => impl_run.f k y l) (fun z => z = putV p l) := by
  induction b with
  | one p h1 =>
    intro ho l hl
    have h0 : p = [0] := by
      match p, h1 with
      | [a], _ =>
        have := ho.2 a (by simp)
        simp only [List.length_singleton] at this
        rw [show a = 0 by omega]
    have hp : putV p l = l := by
      match l, hl with
      | [a], _ => rw [h0]; rfl
    refine Tot.up ?_
    simp only [impl_run.f, slices_Clone_string_string.f]
    exact Tot.pos (by omega) (Tot.bind (Q := fun z => z = l) (Tot.pos (by omega) (Tot.some_ rfl)) (fun z hz => Tot.some_ (hz.trans hp.symm)))
  | two p h1 =>
    intro ho l hl
    obtain ⟨a, b, hab, h2⟩ : ∃ a b, p = [a, b] ∧ ((a = 0 ∧ b = 1) ∨ (a = 1 ∧ b = 0)) := by
      match p, h1 with
      | [a, b], _ =>
        have ha := ho.2 a (by simp)
        have hb := ho.2 b (by simp)
        have hn := ho.1
        simp only [List.length_cons, List.length_nil] at ha hb
        simp only [List.nodup_cons, List.mem_singleton, List.not_mem_nil, not_false_eq_true, List.nodup_nil, and_true] at hn
        exact ⟨a, b, rfl, by omega⟩
    have e0 : rdOf false [rd p 0 == 1] 0 = (rd p 0 == 1) := rfl
    refine Tot.up ?_
    simp only [impl_run.f]
    refine Tot.neg (by omega) (Tot.pos (by omega) (Tot.pos (by simp) (Tot.up ?_)))
    rw [e0]
    rcases h2 with ⟨rfl, rfl⟩ | ⟨rfl, rfl⟩
    · have hp : putV p l = l := by
        match l, hl with
        | [a, b], _ => rw [hab]; rfl
      have e1 : (rd p 0 == 1) = false := by rw [hab]; rfl
      simp only [impl_run.j0, slices_Clone_string_string.f]
      rw [e1]
      exact Tot.neg (by simp) (Tot.pos (by omega) (Tot.bind (Q := fun z => z = l) (Tot.pos (by omega) (Tot.some_ rfl)) (fun z hz => Tot.some_ (hz.trans hp.symm))))
    · have hp : putV p l = [rdOf ByteArray.empty l 1, rdOf ByteArray.empty l 0] := by rw [hab]; rfl
      have e1 : (rd p 0 == 1) = true := by rw [hab]; rfl
      simp only [impl_run.j0]
      rw [e1]
      exact Tot.pos rfl (Tot.pos (by omega) (Tot.pos (by omega) (Tot.some_ hp.symm)))
  | more h hh p r P B y1 y2 o b1 b2 i1 i2 =>
    intro ho l hl
    have h4 : h ≤ 4 ∧ 2 ≤ h := by omega
    obtain ⟨⟨u1, u2⟩, d1, d2⟩ := half_ord o.pm
    obtain ⟨n1, n2⟩ := bn_len b1
    obtain ⟨n3, n4⟩ := bn_len b2
    have n2 := n2 (by omega)
    have n4 := n4 (by omega)
    obtain ⟨c, hc⟩ : ∃ c, c = cntS h := ⟨_, rfl⟩
    rw [← hc] at n2 n4
    have hc2 : c ≤ 20 := by
      rw [hc]
      rcases hh with rfl | rfl <;> decide
    have le : (entV h P B).length = h := by simp [entV]
    have lx : (exiV h P B).length = h := by simp [exiV]
    have gE : ∀ m, m < h → (entV h P B).getD m false = low (2 * h) P B (B (2 * m)) := fun m hm => map_get false h _ m hm
    have gX : ∀ m, m < h → (exiV h P B).getD m false = low (2 * h) P B (2 * m) := fun m hm => map_get false h _ m hm
    -- the texts of both halves
    obtain ⟨T, hTd⟩ : ∃ T : List ByteArray, T = (List.range h).map fun i => if low (2 * h) P B (B (2 * i)) = true then l.getD (2 * i + 1) ByteArray.empty else l.getD (2 * i) ByteArray.empty := ⟨_, rfl⟩
    obtain ⟨D, hDd⟩ : ∃ D : List ByteArray, D = (List.range h).map fun i => if low (2 * h) P B (B (2 * i)) = true then l.getD (2 * i) ByteArray.empty else l.getD (2 * i + 1) ByteArray.empty := ⟨_, rfl⟩
    have lT : T.length = h := by rw [hTd]; simp
    have lD : D.length = h := by rw [hDd]; simp
    have gT : ∀ m, m < h → T.getD m ByteArray.empty = if low (2 * h) P B (B (2 * m)) = true then l.getD (2 * m + 1) ByteArray.empty else l.getD (2 * m) ByteArray.empty := fun m hm => by rw [hTd]; exact map_get ByteArray.empty h _ m hm
    have gD : ∀ m, m < h → D.getD m ByteArray.empty = if low (2 * h) P B (B (2 * m)) = true then l.getD (2 * m) ByteArray.empty else l.getD (2 * m + 1) ByteArray.empty := fun m hm => by rw [hDd]; exact map_get ByteArray.empty h _ m hm
    have f2 : ∀ m, fl (2 * m) = 2 * m + 1 := fun m => by unfold fl; split <;> omega
    have tT : ∀ j, j < 2 * h → low (2 * h) P B j = false → T.getD (P j / 2) ByteArray.empty = l.getD (P j) ByteArray.empty := fun j hj hlo => by
      have hp := o.pm.pl j hj
      rw [gT _ (by omega)]
      rcases Nat.mod_two_eq_zero_or_one (P j) with e | e
      · rw [show 2 * (P j / 2) = P j by omega, o.pm.bp j hj, hlo, if_neg (by simp)]
      · have e2 : 2 * (P j / 2) = fl (P j) := by unfold fl; rw [if_neg (by omega)]; omega
        have e3 := low_ta o.pm hj
        rw [hlo] at e3
        rw [e2, show low (2 * h) P B (B (fl (P j))) = true from e3, if_pos rfl, ← e2, show 2 * (P j / 2) + 1 = P j by omega]
    have tD : ∀ j, j < 2 * h → low (2 * h) P B j = true → D.getD (P j / 2) ByteArray.empty = l.getD (P j) ByteArray.empty := fun j hj hlo => by
      have hp := o.pm.pl j hj
      rw [gD _ (by omega)]
      rcases Nat.mod_two_eq_zero_or_one (P j) with e | e
      · rw [show 2 * (P j / 2) = P j by omega, o.pm.bp j hj, hlo, if_pos rfl]
      · have e2 : 2 * (P j / 2) = fl (P j) := by unfold fl; rw [if_neg (by omega)]; omega
        have e3 := low_ta o.pm hj
        rw [hlo] at e3
        rw [e2, show low (2 * h) P B (B (fl (P j))) = false from e3, if_neg (by simp), ← e2, show 2 * (P j / 2) + 1 = P j by omega]
    have r1 := i1 u1 T lT
    have r2 := i2 d1 D lD
    have gU : ∀ m, m < h → (putV (upV h P B) T).getD m ByteArray.empty = l.getD (P (if low (2 * h) P B (2 * m) = true then 2 * m + 1 else 2 * m)) ByteArray.empty := fun m hm => by
      have h1 := low_fl o.pm (show 2 * m < 2 * h by omega)
      rw [f2] at h1
      rw [putV_get _ _ m (by omega), toNat_getD, show (upV h P B).getD m 0 = _ from map_get 0 h _ m hm, rdSg]
      by_cases cc : low (2 * h) P B (2 * m) = true
      · rw [if_pos cc]
        exact tT _ (by omega) (by rw [h1, cc]; rfl)
      · rw [if_neg cc]
        exact tT _ (by omega) (by simpa using cc)
    have gV : ∀ m, m < h → (putV (dnV h P B) D).getD m ByteArray.empty = l.getD (P (if low (2 * h) P B (2 * m) = true then 2 * m else 2 * m + 1)) ByteArray.empty := fun m hm => by
      have h1 := low_fl o.pm (show 2 * m < 2 * h by omega)
      rw [f2] at h1
      rw [putV_get _ _ m (by omega), toNat_getD, show (dnV h P B).getD m 0 = _ from map_get 0 h _ m hm, rdSg]
      by_cases cc : low (2 * h) P B (2 * m) = true
      · rw [if_pos cc]
        exact tD _ (by omega) cc
      · rw [if_neg cc]
        rw [Bool.not_eq_true] at cc
        exact tD _ (by omega) (by rw [h1, cc]; rfl)
    have gO : ∀ j, j < 2 * h → (putV p l).getD j ByteArray.empty = l.getD (P j) ByteArray.empty := fun j hj => by
      rw [putV_get _ _ j (by have := o.lp; omega), o.rp j hj, rdSg]
    have out := runI_out (exiV h P B) (putV (upV h P B) T) (putV (dnV h P B) D) (putV p l) h h4.1 lx (by rw [putV_length]; exact n1) (by rw [putV_length]; exact n3) (by rw [putV_length]; exact o.lp)
      (fun m hm => by
        rw [gO _ (by omega), gX m hm, gU m hm, gV m hm]
        split <;> rfl)
      (fun m hm => by
        rw [gO _ (by omega), gX m hm, gU m hm, gV m hm]
        split <;> rfl) h 0 (by omega) (by omega)
    obtain ⟨sw, hsw⟩ : ∃ sw, sw = entV h P B ++ y1 ++ y2 ++ exiV h P B := ⟨_, rfl⟩
    have lsw : sw.length = 2 * h + 2 * c := by rw [hsw]; simp only [List.length_append]; omega
    have s1 : sw.drop h = y1 ++ y2 ++ exiV h P B := by rw [hsw, List.append_assoc, List.append_assoc, List.drop_left' le, List.append_assoc]
    have s2 : (y1 ++ y2 ++ exiV h P B).take c = y1 := by rw [List.append_assoc, List.take_left' n2]
    have s3 : ((y1 ++ y2 ++ exiV h P B).take (2 * c)).drop c = y2 := by
      rw [List.take_left' (by rw [List.length_append]; omega), List.drop_left' n2]
    have s4 : (y1 ++ y2 ++ exiV h P B).drop (2 * c) = exiV h P B := by rw [List.drop_left' (by rw [List.length_append]; omega)]
    have gS : ∀ m, m < h → sw.getD m false = low (2 * h) P B (B (2 * m)) := fun m hm => by
      rw [← gE m hm, hsw, List.append_assoc, List.append_assoc, List.getD_eq_getElem?_getD, List.getElem?_append_left (by omega), ← List.getD_eq_getElem?_getD]
    have hcnt := cnt_tot h (by omega)
    rw [← hc] at hcnt
    rw [← hsw]
    have wt := Aside0.mk (show wrap64 (Int.tdiv ((2 * h : Nat) : Int) 2) = (h : Int) from by rw [Int.tdiv_eq_ediv_of_nonneg (by omega), w64 (by omega) (by omega)]; omega)
    have w2 := Aside0.mk (show wrap64 (2 * (c : Int)) = ((2 * c : Nat) : Int) from by rw [w64 (by omega) (by omega)]; omega)
    refine Tot.up ?_
    simp only [impl_run.f]
    rw [hl]
    refine Tot.neg (by omega) (Tot.neg (by omega) (Tot.up ?_))
    simp only [impl_run.j0]
    rw [wt.out]
    refine Tot.neg (by simp) (Tot.neg (by omega) ?_)
    refine runI_in sw l T D h h4.1 hl (by omega) lT lD (fun m hm => by rw [gT m hm, gS m hm]) (fun m hm => by rw [gD m hm, gS m hm]) _ (Tot.up ?_) h 0 (by omega) (by omega)
    simp only [impl_run.l0]
    rw [wt.out]
    refine Tot.neg (by omega) (Tot.pos (by omega) (Tot.pos (by omega) (Tot.bind (Tot.some_ (Q := fun z => z = y1 ++ y2 ++ exiV h P B) (by rw [Int.toNat_natCast]; exact s1)) (fun z hz => ?_))))
    subst hz
    refine Tot.bind hcnt.2 (fun u hu => ?_)
    have l3 : (y1 ++ y2 ++ exiV h P B).length = h + 2 * c := by simp only [List.length_append]; omega
    rw [hu, w2.out, Int.toNat_natCast, Int.toNat_natCast, s2, s3, s4, l3]
    refine Tot.pos (by omega) (Tot.pos (by omega) (Tot.bind r1 (fun q hq => ?_)))
    subst hq
    refine Tot.pos (by omega) (Tot.pos (by omega) (Tot.bind r2 (fun q hq => ?_)))
    subst hq
    exact Tot.pos (by omega) out

/-- The bits of a letter: where it stands is small, its bytes are bytes. -/
def Bytes (l : List Int) : Prop := l.length ≤ 1048576 ∧ ∀ x ∈ l, 0 ≤ x ∧ x ≤ 255
theorem and255 (E : Int) : 0 ≤ Go.bits .and .u64 E 255 ∧ Go.bits .and .u64 E 255 ≤ 255 := by
  have h : Go.bits .and .u64 E 255 = IntKind.u64.wrap (((BitVec.ofInt 64 E) &&& (BitVec.ofInt 64 255)).toNat : Int) := rfl
  have h2 : ((BitVec.ofInt 64 E) &&& (BitVec.ofInt 64 255)).toNat ≤ 255 := by
    rw [BitVec.toNat_and]
    exact Nat.and_le_right
  have h3 : IntKind.u64.wrap (((BitVec.ofInt 64 E) &&& (BitVec.ofInt 64 255)).toNat : Int) = (((BitVec.ofInt 64 E) &&& (BitVec.ofInt 64 255)).toNat : Int) := by
    show (_ : Int) % 2 ^ 64 = _
    omega
  rw [h, h3]
  omega
def CurOk (p' p : Int) : Prop := p ≤ p' ∧ p' ≤ p + 2
theorem next_tot (l : List Int) (hl : Bytes l) (p h : Int) (hp : 0 ≤ p ∧ p ≤ 1099511627776) : ∃ y, spec_l1Cur_next.f l p h = some y ∧ (0 ≤ y.1 ∧ y.1 ≤ 255 ∧ y.2.1 = p + 1) := by
  have hl1 := hl.1
  unfold spec_l1Cur_next.f
  rw [w64 (n := p + 1) (by omega) (by omega)]
  by_cases h1 : p < (l.length : Int)
  · obtain ⟨i, rfl⟩ := Int.eq_ofNat_of_zero_le hp.1
    have h2 := hl.2 _ (rd_mem l i (by omega))
    rw [if_pos h1, if_pos hp.1, if_pos (by omega)]
    refine ⟨_, rfl, ?_⟩
    simp only
    rw [w64 (by omega) (by omega)]
    exact ⟨h2.1, h2.2, trivial⟩
  · rw [if_neg h1, if_neg (by omega)]
    refine ⟨_, rfl, ?_⟩
    have h3 := and255 ((IntKind.u64.wrap ((IntKind.u64.wrap ((IntKind.u64.wrap (h * 6364136223846793005)) + 0)) + 1442695040888963407)) / 1099511627776)
    simp only
    rw [w64 (by omega) (by omega)]
    exact ⟨h3.1, h3.2, trivial⟩
theorem pick_tot (l : List Int) (hl : Bytes l) (p h a : Int) (hp : 0 ≤ p ∧ p ≤ 549755813888) (ha : a ≤ 1048576) : ∃ y, spec_l1Cur_pick.f l p h a = some y ∧ (0 ≤ y.1 ∧ (y.1 < a ∨ y.1 = 0) ∧ p ≤ y.2.1 ∧ y.2.1 ≤ p + 2) := by
  unfold spec_l1Cur_pick.f
  by_cases h1 : a ≤ 1
  · rw [if_pos h1]
    exact ⟨_, rfl, by simp only; omega, .inr rfl, by simp only; omega, by simp only; omega⟩
  · rw [if_neg h1]
    obtain ⟨⟨b, p1, h'⟩, e1, hb0, hb1, hp1⟩ := next_tot l hl p h (by omega)
    simp only at hb0 hb1 hp1
    rw [e1]
    simp only [Option.bind_some]
    by_cases h2 : a > 200
    · obtain ⟨⟨c, p2, h''⟩, e2, hc0, hc1, hp2⟩ := next_tot l hl p1 h' (by omega)
      simp only at hc0 hc1 hp2
      rw [if_pos h2, e2]
      simp only [Option.bind_some]
      rw [if_neg (by omega), w64 (n := b * 256) (by omega) (by omega), w64 (by omega) (by omega), Int.tmod_eq_emod_of_nonneg (by omega)]
      have h3 := Int.emod_nonneg (b * 256 + c) (show a ≠ 0 by omega)
      have h4 := Int.emod_lt_of_pos (b * 256 + c) (show 0 < a by omega)
      exact ⟨_, rfl, h3, .inl h4, by simp only; omega, by simp only; omega⟩
    · rw [if_neg h2, if_neg (by omega), Int.tmod_eq_emod_of_nonneg (by omega)]
      have h3 := Int.emod_nonneg b (show a ≠ 0 by omega)
      have h4 := Int.emod_lt_of_pos b (show 0 < a by omega)
      exact ⟨_, rfl, h3, .inl h4, by simp only; omega, by simp only; omega⟩

theorem one_tot (l : List Int) (hl : Bytes l) (p h a : Int) (hp : 0 ≤ p ∧ p ≤ 549755813888) (ha : a ≤ 1048576) : ∃ y, spec_l1Cur_one.f l p h a = some y ∧ (p ≤ y.2.1 ∧ y.2.1 ≤ p + 2) := by
  unfold spec_l1Cur_one.f
  obtain ⟨⟨b, p1, h'⟩, e1, hb0, hb1, hp0, hp1⟩ := pick_tot l hl p h a hp ha
  simp only at hp0 hp1
  rw [e1]
  exact ⟨_, rfl, hp0, hp1⟩

theorem among_tot (l : List Int) (hl : Bytes l) (p h : Int) (m : List Int) (hp : 0 ≤ p ∧ p ≤ 549755813888) (hm : 0 < m.length) (hm2 : m.length ≤ 1048576) : ∃ y, spec_l1Cur_among.f l p h m = some y ∧ (y.1 ∈ m ∧ p ≤ y.2.1 ∧ y.2.1 ≤ p + 2) := by
  unfold spec_l1Cur_among.f
  obtain ⟨⟨b, p1, h'⟩, e1, hb0, hb1, hp0, hp1⟩ := pick_tot l hl p h (m.length : Int) hp (by omega)
  simp only at hb0 hb1 hp0 hp1
  rw [e1]
  simp only [Option.bind_some]
  obtain ⟨i, rfl⟩ := Int.eq_ofNat_of_zero_le hb0
  rw [if_pos hb0, if_pos (by omega)]
  exact ⟨_, rfl, rd_mem m i (by omega), by simp only; omega, by simp only; omega⟩

theorem bytes_of {l : List Int} (h : l.length ≤ 1048576) (hw : ∀ x ∈ l, (Lit.int .u8 x).wf = true) : Bytes l := by
  refine ⟨h, fun x hx => ?_⟩
  have h2 := hw x hx
  simp only [Lit.wf, Bool.and_eq_true, decide_eq_true_iff] at h2
  exact h2

/-- 1 times 2 times .. n. -/
def fac : Nat → Nat
  | 0 => 1
  | n + 1 => (n + 1) * fac n
theorem fac_pos : ∀ n, 1 ≤ fac n
  | 0 => Nat.le_refl _
  | n + 1 => Nat.mul_pos (by omega) (fac_pos n)
theorem fac_le : ∀ n, n ≤ 12 → fac n ≤ 479001600 := by
  have h : ∀ n, n < 13 → fac n ≤ 479001600 := by decide
  exact fun n hn => h n (by omega)
theorem specOrders_l0 (m : Nat) (hm : m ≤ 12) : ∀ (d i k : Nat), m - i = d → i ≤ m → 1 ≤ i → d + 1 < k → spec_l4Orders.l0 k (m : Int) ((fac i : Nat) : Int) (((i + 1 : Nat)) : Int) = some ((fac m : Nat) : Int) := by
  intro d
  induction d with
  | zero =>
    intro i k hd hi h1 hk
    obtain ⟨k, rfl⟩ := rounds hk
    have e : i = m := by omega
    subst e
    simp only [spec_l4Orders.l0]
    rw [if_neg (by omega)]
  | succ d ih =>
    intro i k hd hi h1 hk
    obtain ⟨k, rfl⟩ := rounds hk
    have hf := fac_le (i + 1) (by omega)
    have e : ((fac i : Nat) : Int) * ((i + 1 : Nat) : Int) = ((fac (i + 1) : Nat) : Int) := by
      show _ = (((i + 1) * fac i : Nat) : Int)
      rw [← Int.natCast_mul, Nat.mul_comm]
    simp only [spec_l4Orders.l0]
    rw [if_pos (by omega), e, wnat _ (by omega), w64 (n := ((i + 1 : Nat) : Int) + 1) (by omega) (by omega)]
    exact ih (i + 1) k (by omega) (by omega) (by omega) (by omega)
theorem specOrders_eq (m : Int) (hm : m ≤ 12) (k : Nat) (hk : 14 < k) : spec_l4Orders.f k m = some ((fac m.toNat : Nat) : Int) := by
  simp only [spec_l4Orders.f]
  by_cases h : 1 ≤ m
  · obtain ⟨m, rfl⟩ := Int.eq_ofNat_of_zero_le (show 0 ≤ m by omega)
    rw [Int.toNat_natCast]
    exact specOrders_l0 m (by omega) (m - 1) 1 k rfl (by omega) (by omega) (by omega)
  · obtain ⟨k, rfl⟩ := rounds hk
    simp only [spec_l4Orders.l0]
    rw [if_neg (by omega), show m.toNat = 0 by omega]
    rfl

/-- An order by its number: of those left the one that the number says, and on. -/
def lehm : Nat → List Int → Nat → List Int
  | 0, _, _ => []
  | d + 1, left, n => left.getD (n / fac d) 0 :: lehm d (left.eraseIdx (n / fac d)) (n % fac d)
theorem lehm_length : ∀ (d : Nat) (left : List Int) (n : Nat), (lehm d left n).length = d
  | 0, _, _ => rfl
  | d + 1, left, n => by simp only [lehm, List.length_cons, lehm_length d]
theorem lehm_lt (d n : Nat) (h : n < fac (d + 1)) : n / fac d < d + 1 := by
  rw [Nat.div_lt_iff_lt_mul (fac_pos d)]
  exact h
theorem atOrder_l1 : ∀ (d : Nat) (left out : List Int) (n : Nat), left.length = d → d ≤ 9 → n < fac d → out.length + d ≤ 100 →
    Tot (fun k => spec_OrderAt.l1 k (n : Int) left out) (fun y => y = (out ++ lehm d left n, true)) := by
  intro d
  induction d with
  | zero =>
    intro left out n hl hd hn ho
    refine Tot.up ?_
    simp only [spec_OrderAt.l1]
    exact Tot.neg (by omega) (Tot.some_ (by simp [lehm]))
  | succ d ih =>
    intro left out n hl hd hn ho
    have hf1 := fac_pos d
    have hf2 := fac_le d (by omega)
    have hf3 := fac_le (d + 1) (by omega)
    have hq := lehm_lt d n hn
    have hr : n % fac d < fac d := Nat.mod_lt _ (by omega)
    refine Tot.up ?_
    simp only [spec_OrderAt.l1]
    refine Tot.pos (by omega) ?_
    rw [w64 (n := (left.length : Int) - 1) (by omega) (by omega)]
    refine Tot.bind (Q := fun y => y = ((fac d : Nat) : Int)) (Tot.at_ 15 rfl (fun k hk => by rw [specOrders_eq _ (by omega) k (by omega), show ((left.length : Int) - 1).toNat = d by omega])) (fun y e => ?_)
    rw [e, tdiv_nat, tmod_nat]
    generalize hqq : n / fac d = q at *
    generalize hrr : n % fac d = r at *
    rw [wnat q (by omega), w64 (n := (q : Int) + 1) (by omega) (by omega), show (q : Int) + 1 = ((q + 1 : Nat) : Int) by omega, Int.toNat_natCast, Int.toNat_natCast]
    refine Tot.neg (by omega) (Tot.pos (by omega) (Tot.pos (by omega) (Tot.pos (by omega) (Tot.bind (Tot.some_ rfl) (fun y1 e1 => Tot.pos (by omega) (Tot.bind (Tot.some_ rfl) (fun y2 e2 => ?_)))))))
    subst e1 e2
    refine Tot.pos (by rw [List.length_take]; simp; omega) (Tot.bind (Tot.some_ rfl) (fun y3 e3 => Tot.pos (by omega) (Tot.pos (by omega) (Tot.bind (Tot.some_ rfl) (fun y4 e4 => ?_)))))
    subst e3 e4
    refine Tot.pos (by rw [List.length_append, List.length_take, List.length_drop]; simp; omega) ?_
    have h := ih (left.eraseIdx q) (out ++ [rd left (q : Int)]) r (by rw [List.length_eraseIdx_of_lt (by omega)]; omega) (by omega) hr (by rw [List.length_append, List.length_singleton]; omega)
    rw [List.eraseIdx_eq_take_drop_succ] at h
    rw [List.nil_append]
    refine h.imp (fun y hy => ?_)
    rw [hy]
    simp only [lehm, hqq, hrr, List.eraseIdx_eq_take_drop_succ, List.append_assoc, List.singleton_append]
    rfl
theorem firsts_snoc2 (m : Nat) : firsts (m + 1) = firsts m ++ [(m : Int)] := by
  unfold firsts
  rw [List.range_succ, List.map_append, List.map_singleton]
def atV (m n : Int) : List Int × Bool := if (0 ≤ m ∧ m ≤ 9) ∧ (0 ≤ n ∧ n ≤ (fac m.toNat : Int) - 1) then (lehm m.toNat (firsts m.toNat) n.toNat, true) else ([], false)
theorem atOrder_l0 (m : Nat) (hm : m ≤ 9) (n : Nat) (hn : n < fac m) : ∀ (d i : Nat), m - i = d → i ≤ m →
    Tot (fun k => spec_OrderAt.l0 k (m : Int) (n : Int) (firsts i) (i : Int)) (fun y => y = (lehm m (firsts m) n, true)) := by
  intro d
  induction d with
  | zero =>
    intro i hd hi
    have e : i = m := by omega
    subst e
    refine Tot.up ?_
    simp only [spec_OrderAt.l0]
    exact Tot.neg (by omega) (atOrder_l1 i (firsts i) [] n (firsts_length i) hm hn (by simp; omega))
  | succ d ih =>
    intro i hd hi
    refine Tot.up ?_
    simp only [spec_OrderAt.l0]
    refine Tot.pos (by omega) (Tot.pos (by rw [firsts_length]; omega) ?_)
    rw [← firsts_snoc2, w64 (n := (i : Int) + 1) (by omega) (by omega)]
    exact ih (i + 1) (by omega) (by omega)
theorem specOrderAt_tot (m n : Int) : Tot (fun k => spec_OrderAt.f k m n) (fun y => y = atV m n) := by
  have bad : (¬ ((0 ≤ m ∧ m ≤ 9) ∧ (0 ≤ n ∧ n ≤ (fac m.toNat : Int) - 1))) → Tot (fun k => spec_OrderAt.j0 k m n true) (fun y => y = atV m n) := fun h => by
    refine Tot.up ?_
    simp only [spec_OrderAt.j0]
    exact Tot.pos trivial (Tot.some_ (by unfold atV; rw [if_neg h]))
  simp only [spec_OrderAt.f, l1In_eq, Option.bind_some]
  refine Tot.ite (fun h => ?_) (fun h => bad (fun h2 => h (decide_eq_true h2.1)))
  have h := of_decide_eq_true h
  have hf := fac_le m.toNat (by omega)
  have hf1 := fac_pos m.toNat
  refine Tot.bind (Q := fun y => y = ((fac m.toNat : Nat) : Int)) (Tot.at_ 15 rfl (fun k hk => specOrders_eq _ (by omega) k (by omega))) (fun y e => ?_)
  rw [e, w64 (n := ((fac m.toNat : Nat) : Int) - 1) (by omega) (by omega)]
  by_cases h2 : 0 ≤ n ∧ n ≤ (fac m.toNat : Int) - 1
  · rw [decide_eq_true h2]
    refine Tot.up ?_
    simp only [spec_OrderAt.j0]
    refine Tot.neg (by simp) ?_
    have h3 := atOrder_l0 m.toNat (by omega) n.toNat (by omega) m.toNat 0 (by omega) (by omega)
    rw [show ((m.toNat : Nat) : Int) = m by omega, show ((n.toNat : Nat) : Int) = n by omega] at h3
    unfold atV
    rw [if_pos ⟨h, h2⟩]
    exact h3
  · rw [decide_eq_false h2]
    exact bad (fun h3 => h2 h3.2)
theorem atV_length (m n : Int) : (atV m n).1.length ≤ 9 := by
  unfold atV
  split
  · rename_i h
    rw [lehm_length]
    omega
  · simp

theorem order_tot (l : List Int) (hl : Bytes l) (p h : Int) (hp : 0 ≤ p ∧ p ≤ 1073741824) : Tot (fun k => spec_l1Cur_order.f k l p h) (fun y => y.1.length ≤ 9 ∧ p ≤ y.2.1 ∧ y.2.1 ≤ p + 20) := by
  simp only [spec_l1Cur_order.f]
  refine Tot.bind (Tot.fix (among_tot l hl p h [0, 1, 2, 4, 4, 8, 8, 8, 3, 9] (by omega) (by simp) (by simp))) (fun y1 h1 => ?_)
  have hm : 0 ≤ y1.1 ∧ y1.1 ≤ 9 := by
    have h2 := h1.1
    simp only [List.mem_cons, List.not_mem_nil, or_false] at h2
    omega
  refine Tot.bind (Tot.fix (pick_tot l hl y1.2.1 y1.2.2 256 (by omega) (by omega))) (fun y2 h2 => ?_)
  refine Tot.bind (Tot.fix (pick_tot l hl y2.2.1 y2.2.2 256 (by omega) (by omega))) (fun y3 h3 => ?_)
  have hf := fac_pos y1.1.toNat
  refine Tot.bind (Q := fun y => y = ((fac y1.1.toNat : Nat) : Int)) (Tot.at_ 15 rfl (fun k hk => specOrders_eq _ (by omega) k (by omega))) (fun y4 e4 => Tot.neg (by omega) ?_)
  refine Tot.bind (specOrderAt_tot _ _) (fun y5 e5 => ?_)
  have h5 := atV_length y1.1 (Int.tmod (wrap64 (wrap64 (y2.1 * 256) + y3.1)) y4)
  rw [e5]
  refine Tot.ite (fun h6 => ?_) (fun _ => Tot.some_ ⟨h5, by simp only; omega, by simp only; omega⟩)
  refine Tot.bind (Tot.fix (one_tot l hl y3.2.1 y3.2.2 20 (by omega) (by omega))) (fun y6 h7 => Tot.ite (fun _ => ?_) (fun _ => Tot.some_ ⟨h5, by simp only; omega, by simp only; omega⟩))
  refine Tot.bind (Tot.fix (pick_tot l hl y6.2.1 y6.2.2 10 (by omega) (by omega))) (fun y7 h8 => Tot.pos (by omega) (Tot.some_ ⟨by rw [List.length_set]; exact h5, by simp only; omega, by simp only; omega⟩))

theorem sameTexts_self (a : List ByteArray) (ha : a.length ≤ 1048576) : Tot (fun k => laws_sameTexts.f k a a) (fun y => y = true) := by
  have key : ∀ (d i : Nat), a.length - i = d → i ≤ a.length → Tot (fun k => laws_sameTexts.l0 k a a (a.length : Int) (i : Int)) (fun y => y = true) := by
    intro d
    induction d with
    | zero =>
      intro i hd hi
      refine Tot.up ?_
      simp only [laws_sameTexts.l0]
      exact Tot.neg (by omega) (Tot.some_ rfl)
    | succ d ih =>
      intro i hd hi
      refine Tot.up ?_
      simp only [laws_sameTexts.l0]
      rw [w64 (n := (i : Int) + 1) (by omega) (by omega)]
      exact Tot.pos (by omega) (Tot.pos (by omega) (Tot.pos (by omega) (Tot.pos (by omega) (Tot.pos trivial (ih (i + 1) (by omega) (by omega))))))
  simp only [laws_sameTexts.f]
  exact Tot.pos trivial (key a.length 0 (by omega) (by omega))

theorem ports_ex (a : Int) : ∃ b : Bool, spec_l9Ports.f a = some b ∧ impl_arePorts.f a = some b ∧ (b = true → a = 1 ∨ a = 2 ∨ a = 4 ∨ a = 8) := by
  unfold spec_l9Ports.f impl_arePorts.f
  by_cases h1 : a = 1
  · exact ⟨true, by rw [if_pos h1], by rw [if_pos h1], fun _ => .inl h1⟩
  by_cases h2 : a = 2
  · exact ⟨true, by rw [if_neg h1, if_pos h2], by rw [if_neg h1, if_pos h2], fun _ => .inr (.inl h2)⟩
  by_cases h4 : a = 4
  · exact ⟨true, by rw [if_neg h1, if_neg h2, if_pos h4], by rw [if_neg h1, if_neg h2, if_pos h4], fun _ => .inr (.inr (.inl h4))⟩
  · exact ⟨a == 8, by rw [if_neg h1, if_neg h2, if_neg h4], by rw [if_neg h1, if_neg h2, if_neg h4], fun h => .inr (.inr (.inr (beq_iff_eq.1 h)))⟩
theorem switches_same (a : Int) (sw : List Bool) (l : List ByteArray) : ∃ r : List ByteArray × Bool, r.1.length ≤ 8 ∧ Tot (fun k => spec_RunSwitches.f k a sw l) (fun z => z = r) ∧ Tot (fun k => impl_RunSwitches.f k a sw l) (fun z => z = r) := by
  obtain ⟨b, hb1, hb2, hb3⟩ := ports_ex a
  simp only [spec_RunSwitches.f, impl_RunSwitches.f, hb1, hb2, Option.bind_some]
  by_cases hb : b = true
  · by_cases hl : (l.length : Int) = a
    · have hn := hb3 hb
      have hcnt := cnt_tot l.length (by omega)
      by_cases hs : (sw.length : Int) = (cntS l.length : Int)
      · obtain ⟨y, hy, h1, h2⟩ := run_all l.length (by omega) sw l rfl (by omega)
        refine ⟨(y, true), by simp only; omega, ?_, ?_⟩
        · refine Tot.pos hb (Tot.pos hl ?_)
          rw [← hl]
          refine Tot.bind hcnt.1 (fun z hz => Tot.pos (hs.trans hz.symm) (Tot.bind h1 (fun u hu => Tot.some_ (by rw [hu]))))
        · refine Tot.pos hb (Tot.pos hl ?_)
          rw [← hl]
          refine Tot.bind hcnt.2 (fun z hz => Tot.pos (hs.trans hz.symm) (Tot.bind h2 (fun u hu => Tot.some_ (by rw [hu]))))
      · refine ⟨([], false), by simp, ?_, ?_⟩
        · refine Tot.pos hb (Tot.pos hl ?_)
          rw [← hl]
          exact Tot.bind hcnt.1 (fun z hz => Tot.neg (fun h => hs (h.trans hz)) (Tot.some_ rfl))
        · refine Tot.pos hb (Tot.pos hl ?_)
          rw [← hl]
          exact Tot.bind hcnt.2 (fun z hz => Tot.neg (fun h => hs (h.trans hz)) (Tot.some_ rfl))
    · exact ⟨([], false), by simp, Tot.pos hb (Tot.neg hl (Tot.some_ rfl)), Tot.pos hb (Tot.neg hl (Tot.some_ rfl))⟩
  · exact ⟨([], false), by simp, Tot.neg hb (Tot.some_ rfl), Tot.neg hb (Tot.some_ rfl)⟩
theorem cntS_le (n : Nat) : cntS n ≤ 20 := by
  unfold cntS
  split
  · omega
  · split
    · omega
    · split <;> omega
theorem count_same (a : Int) : ∃ r : Int × Bool, (0 ≤ r.1 ∧ r.1 ≤ 20) ∧ Tot (fun k => spec_SwitchCount.f k a) (fun z => z = r) ∧ Tot (fun k => impl_SwitchCount.f k a) (fun z => z = r) := by
  obtain ⟨b, hb1, hb2, hb3⟩ := ports_ex a
  simp only [spec_SwitchCount.f, impl_SwitchCount.f, hb1, hb2]
  by_cases hb : b = true
  · have hn := hb3 hb
    obtain ⟨n, rfl⟩ := Int.eq_ofNat_of_zero_le (show 0 ≤ a by omega)
    obtain ⟨h1, h2⟩ := cnt_tot n (by omega)
    refine ⟨((cntS n : Int), true), by have := cntS_le n; simp only; omega, ?_, ?_⟩
    · exact Tot.bind (Tot.some_ rfl) (fun z hz => Tot.pos (by rw [← hz]; exact hb) (Tot.bind h1 (fun u hu => Tot.some_ (by rw [hu]))))
    · exact Tot.bind (Tot.some_ rfl) (fun z hz => Tot.pos (by rw [← hz]; exact hb) (Tot.bind h2 (fun u hu => Tot.some_ (by rw [hu]))))
  · refine ⟨(0, false), by simp, ?_, ?_⟩
    · exact Tot.bind (Tot.some_ rfl) (fun z hz => Tot.neg (by rw [← hz]; exact hb) (Tot.some_ rfl))
    · exact Tot.bind (Tot.some_ rfl) (fun z hz => Tot.neg (by rw [← hz]; exact hb) (Tot.some_ rfl))
theorem bits_tot (c : List Int) (hc : Bytes c) (n : Nat) (hn : n ≤ 40) : ∀ (d i : Nat) (l : List Bool) (p h : Int), n - i = d → i ≤ n → l.length ≤ i → (0 ≤ p ∧ p + 4 * (d : Int) ≤ 1073741824) → Tot (fun k => spec_l1Cur_bits.l0 k (n : Int) l (i : Int) c p h) (fun _ => True) := by
  intro d
  induction d with
  | zero =>
    intro i l p h hd hi hl hp
    refine Tot.up ?_
    simp only [spec_l1Cur_bits.l0]
    exact Tot.neg (by omega) (Tot.some_ trivial)
  | succ d ih =>
    intro i l p h hd hi hl hp
    refine Tot.up ?_
    simp only [spec_l1Cur_bits.l0]
    rw [w64 (n := (i : Int) + 1) (by omega) (by omega)]
    exact Tot.pos (by omega) (Tot.bind (Tot.fix (one_tot c hc p h 2 (by omega) (by omega))) (fun y hy => Tot.pos (by omega) (ih (i + 1) _ _ _ (by omega) (by omega) (by rw [List.length_append, List.length_singleton]; omega) (by omega))))
theorem drawRunS_tot (c : List Int) (hc : Bytes c) : Tot (fun k => spec_DrawRunSwitches.f k c) (fun _ => True) := by
  have loop : ∀ (n : Nat) (s : Int) (hs : 0 ≤ s ∧ s ≤ 20) (p h : Int) (hp : 0 ≤ p ∧ p ≤ 1000) (d i : Nat) (l : List ByteArray), n ≤ 8 → n - i = d → i ≤ n → l.length ≤ i → Tot (fun k => spec_DrawRunSwitches.l0 k (n : Int) s l (i : Int) c p h) (fun _ => True) := by
    intro n s hs p h hp d
    induction d with
    | zero =>
      intro i l hn hd hi hl
      refine Tot.up ?_
      simp only [spec_DrawRunSwitches.l0, spec_l1Cur_bits.f]
      refine Tot.neg (by omega) (Tot.bind (Tot.fix (pick_tot c hc p h 20 (by omega) (by omega))) (fun y hy => ?_))
      have hy1 : 0 ≤ y.1 ∧ y.1 < 20 := by omega
      have e : wrap64 (s + wrap64 (Int.tdiv y.1 19)) = s + y.1 / 19 := by
        rw [Int.tdiv_eq_ediv_of_nonneg (by omega), w64 (n := y.1 / 19) (by omega) (by omega), w64 (by omega) (by omega)]
      rw [e]
      obtain ⟨m, hm⟩ := Int.eq_ofNat_of_zero_le (show 0 ≤ s + y.1 / 19 by omega)
      rw [hm]
      exact Tot.bind (bits_tot c hc m (by omega) m 0 [] _ _ (by omega) (by omega) (by simp) (by omega)) (fun z _ => Tot.some_ trivial)
    | succ d ih =>
      intro i l hn hd hi hl
      refine Tot.up ?_
      simp only [spec_DrawRunSwitches.l0]
      rw [w64 (n := (i : Int) + 1) (by omega) (by omega)]
      exact Tot.pos (by omega) (Tot.pos (by omega) (ih (i + 1) _ hn (by omega) (by omega) (by rw [List.length_append, List.length_singleton]; omega)))
  simp only [spec_DrawRunSwitches.f]
  refine Tot.bind (Tot.fix (among_tot c hc 0 0 [1, 2, 4, 8, 8, 3] (by omega) (by simp) (by simp))) (fun y hy => ?_)
  have h1 := hy.1
  simp only [List.mem_cons, List.not_mem_nil, or_false] at h1
  obtain ⟨r, r1, r2, _⟩ := count_same y.1
  refine Tot.bind r2 (fun z hz => ?_)
  rw [hz]
  obtain ⟨n, hn⟩ := Int.eq_ofNat_of_zero_le (show 0 ≤ y.1 by omega)
  rw [hn]
  exact loop n r.1 r1 _ _ (by omega) n 0 [] (by omega) (by omega) (by omega) (by simp)
theorem j1_tot (c : List Int) (hc : Bytes c) : Tot (fun k => laws_FnSwitches.j1 k c) (fun y => y = true) := by
  refine Tot.up ?_
  simp only [laws_FnSwitches.j1, spec_DrawSwitchCount.f]
  refine Tot.bind (drawRunS_tot c hc) (fun a _ => ?_)
  obtain ⟨r, r1, r2, r3⟩ := switches_same a.1 a.2.1 a.2.2
  refine Tot.bind r3 (fun y1 e1 => Tot.bind r2 (fun y2 e2 => ?_))
  rw [e1, e2]
  refine Tot.bind (Q := fun _ => True) (Tot.bind (Tot.fix (pick_tot c hc 0 0 12 (by omega) (by omega))) (fun _ _ => Tot.some_ trivial)) (fun n _ => ?_)
  obtain ⟨s, _, s2, s3⟩ := count_same n
  refine Tot.bind s3 (fun y3 e3 => Tot.bind s2 (fun y4 e4 => ?_))
  rw [e3, e4]
  exact Tot.pos (by simp) (Tot.bind (sameTexts_self r.1 (by omega)) (fun y5 e5 => Tot.pos e5 (Tot.pos (by simp) (Tot.some_ (by simp)))))
theorem sameBools_self (a : List Bool) (ha : a.length ≤ 1048576) : Tot (fun k => laws_sameBools.f k a a) (fun y => y = true) := by
  have key : ∀ (d i : Nat), a.length - i = d → i ≤ a.length → Tot (fun k => laws_sameBools.l0 k a a (a.length : Int) (i : Int)) (fun y => y = true) := by
    intro d
    induction d with
    | zero =>
      intro i hd hi
      refine Tot.up ?_
      simp only [laws_sameBools.l0]
      exact Tot.neg (by omega) (Tot.some_ rfl)
    | succ d ih =>
      intro i hd hi
      refine Tot.up ?_
      simp only [laws_sameBools.l0]
      rw [w64 (n := (i : Int) + 1) (by omega) (by omega)]
      exact Tot.pos (by omega) (Tot.pos (by omega) (Tot.pos (by omega) (Tot.pos (by omega) (Tot.neg (by simp) (ih (i + 1) (by omega) (by omega))))))
  simp only [laws_sameBools.f]
  exact Tot.pos (by first | rfl | trivial) (key a.length 0 (by omega) (by omega))
theorem l0_tot (c : List Int) (hc : Bytes c) (o : List Int) (r : List Bool) (ho : isOrd o = true) (hn : prtN o.length = true) (hb : Bn o.length o r) :
    ∀ (d i : Nat) (l : List ByteArray), o.length - i = d → i ≤ o.length → l.length = i → Tot (fun k => laws_FnSwitches.l0 k c o r l (o.length : Int) (i : Int)) (fun y => y = true) := by
  have hn2 : o.length = 1 ∨ o.length = 2 ∨ o.length = 4 ∨ o.length = 8 := of_decide_eq_true hn
  intro d
  induction d with
  | zero =>
    intro i l hd hi hl
    have e : i = o.length := by omega
    subst e
    have hrl := (bn_len hb).2 hn2
    have hcnt := (cnt_tot o.length hn2).2
    have hrun := bn_run hb (isOrd_iff.1 ho).2 l hl
    have hap : appV o l = (putV o l, true) := by
      unfold appV putV
      rw [if_pos ⟨ho, hl⟩]
    refine Tot.up ?_
    simp only [laws_FnSwitches.l0, impl_RunSwitches.f, impl_SwitchCount.f, (ports_eq o.length).2]
    refine Tot.neg (by omega) (Tot.bind (implApp_tot o l (by omega)) (fun y1 e1 => ?_))
    rw [e1, hap]
    refine Tot.bind (Q := fun z => z = (putV o l, true)) (Tot.bind (Tot.some_ rfl) (fun z hz => Tot.pos (by rw [← hz]; exact hn) (Tot.pos (by omega) (Tot.bind hcnt (fun u hu => Tot.pos (by omega) (Tot.bind hrun (fun v hv => Tot.some_ (by rw [hv])))))))) (fun y2 e2 => ?_)
    rw [e2]
    refine Tot.bind (Q := fun z => z = ((cntS o.length : Int), true)) (Tot.bind (Tot.some_ rfl) (fun z hz => Tot.pos (by rw [← hz]; exact hn) (Tot.bind hcnt (fun u hu => Tot.some_ (by rw [hu]))))) (fun y3 e3 => ?_)
    rw [e3]
    exact Tot.pos rfl (Tot.pos rfl (Tot.bind (sameTexts_self _ (by rw [putV_length]; omega)) (fun y4 e4 => Tot.pos e4 (Tot.pos rfl (Tot.pos (by simp only; omega) (j1_tot c hc))))))
  | succ d ih =>
    intro i l hd hi hl
    refine Tot.up ?_
    simp only [laws_FnSwitches.l0]
    rw [w64 (n := (i : Int) + 1) (by omega) (by omega)]
    exact Tot.pos (by omega) (Tot.pos (by omega) (ih (i + 1) _ (by omega) (by omega) (by rw [List.length_append, List.length_singleton, hl])))
theorem FnSwitches : laws_FnSwitches.Pure := by
  intro l0 l1 hm0 hx0 hw0 hm1 hx1 hw1
  have hmx : maxLen = 9223372036854775807 := rfl
  refine Tot.ex ?_
  simp only [laws_FnSwitches.f]
  rw [w64 (n := (l0.length : Int) + (l1.length : Int)) (by omega) (by omega)]
  refine Tot.ite (fun _ => Tot.some_ rfl) (fun hlen => ?_)
  have hb0 : Bytes l0 := bytes_of (by omega) hw0
  have hb1 : Bytes l1 := bytes_of (by omega) hw1
  simp only [spec_DrawRouteOrder.f, spec_DrawIsOrder.f]
  refine Tot.bind (Q := fun y : List Int => y.length ≤ 9) (Tot.bind (Tot.bind (order_tot l0 hb0 0 0 (by omega)) (fun y h => Tot.some_ (Q := fun y : List Int => y.length ≤ 9) h.1)) (fun y h => Tot.some_ h)) (fun o ho => ?_)
  obtain ⟨r, r0, r1, r2, r3, r4⟩ := routes_same o (by omega)
  refine Tot.bind r4 (fun y1 e1 => Tot.bind r3 (fun y2 e2 => ?_))
  rw [e1, e2]
  refine Tot.neg (by simp) (Tot.bind (sameBools_self r.1 (by omega)) (fun y3 e3 => Tot.pos e3 (Tot.ite (fun h => ?_) (fun _ => j1_tot l1 hb1))))
  have h1 := r2 h
  rw [h, eq_comm, Bool.and_eq_true] at r1
  exact l0_tot l1 hb1 o r.1 r1.1 r1.2 h1.2 o.length 0 [] (by omega) (by omega) rfl

end Go.Proofs.Ytebpikejljgfgaa.Pure
