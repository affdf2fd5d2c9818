/- Proved: RouteOrder of the program and of the reference answer alike at all arguments, and the answer owns its memory. Conditions: those of the given statement alone. -/
import Derived.Test.YtlhcibfliapbpaaPFnExactRouteOrderx6
import Derived.Test.YtlhcibfliapbpaaBase
set_option linter.unusedVariables false
set_option linter.unusedSimpArgs false
namespace Go.Proofs.Ytlhcibfliapbpaa.Pure
open Go.RowKit Go.Proofs.Ytlhcibfliapbpaa.PFnExactRouteOrder Go.Proofs.Ytlhcibfliapbpaa.Base Go.Proofs.YtlhcibfliapbpaaW.PrintWords Go.Proofs.YtlhcibfliapbpaaW.PrintLast Go.Proofs.YtlhcibfliapbpaaW.PrintMore Go.Proofs.Ytlhcibfliapbpaa

theorem index_l0 (l : List Int) (hl : l.length ≤ 1048576) (v : Int) : ∀ (d k i : Nat), l.length - i = d → d < k → i ≤ l.length → ∃ r, slices_Index_int_int.l0 k l v (l.length : Int) (i : Int) = some r ∧ (r ≥ 0 ↔ v ∈ l.drop i) := by
  intro d
  induction d with
  | zero =>
    intro k i hd hk hi
    obtain ⟨k, rfl⟩ := rounds hk
    refine ⟨-1, ?_, ?_⟩
    · simp only [slices_Index_int_int.l0]
      rw [if_neg (by omega)]
    · rw [List.drop_of_length_le (by omega)]
      simp
  | succ d ih =>
    intro k i hd hk hi
    obtain ⟨k, rfl⟩ := rounds hk
    simp only [slices_Index_int_int.l0]
    rw [if_pos (by omega), if_pos (by omega), if_pos (by omega), rd_in l i (by omega), w64 (by omega) (by omega)]
    have hdrop := List.drop_eq_getElem_cons (show i < l.length by omega)
    by_cases e : v = l[i]
    · exact ⟨i, by rw [if_pos e], by rw [hdrop, ← e]; simp⟩
    · obtain ⟨r, hr, h⟩ := ih k (i + 1) (by omega) (by omega) (by omega)
      refine ⟨r, by rw [if_neg e]; exact hr, ?_⟩
      rw [h, hdrop, List.mem_cons]
      exact ⟨fun h => .inr h, fun h => h.resolve_left e⟩

theorem contains_eq (l : List Int) (hl : l.length ≤ 1048576) (v : Int) (k : Nat) (hk : l.length < k) : slices_Contains_int_int.f k l v = some (decide (v ∈ l)) := by
  obtain ⟨r, hr, h⟩ := index_l0 l hl v l.length k 0 (by omega) hk (by omega)
  unfold slices_Contains_int_int.f slices_Index_int_int.f
  have hr' : slices_Index_int_int.l0 k l v (l.length : Int) 0 = some r := hr
  rw [hr']
  simp only [Option.bind_some]
  rw [List.drop_zero] at h
  congr 1
  exact decide_eq_decide.2 h

theorem l1In_eq (a b c : Int) : spec_l1In.f a b c = some (decide (b ≤ a ∧ a ≤ c)) := by
  unfold spec_l1In.f
  by_cases h : a ≥ b
  · rw [if_pos h]
    congr 1
    exact decide_eq_decide.2 ⟨fun h1 => ⟨h, h1⟩, fun h1 => h1.2⟩
  · rw [if_neg h, decide_eq_false (fun h1 => h h1.1)]

theorem l1Has_l0 (l : List Int) (hl : l.length ≤ 1048576) (v : Int) : ∀ (d k i : Nat), l.length - i = d → d < k → i ≤ l.length → spec_l1Has.l0 k v l (l.length : Int) (i : Int) = some (decide (v ∈ l.drop i)) := by
  intro d
  induction d with
  | zero =>
    intro k i hd hk hi
    obtain ⟨k, rfl⟩ := rounds hk
    simp only [spec_l1Has.l0]
    rw [if_neg (by omega), List.drop_of_length_le (by omega)]
    simp
  | succ d ih =>
    intro k i hd hk hi
    obtain ⟨k, rfl⟩ := rounds hk
    simp only [spec_l1Has.l0]
    rw [if_pos (by omega), if_pos (by omega), if_pos (by omega), rd_in l i (by omega), w64 (by omega) (by omega), List.drop_eq_getElem_cons (show i < l.length by omega)]
    by_cases e : l[i] = v
    · rw [if_pos e]
      simp [e]
    · have h := ih k (i + 1) (by omega) (by omega) (by omega)
      rw [if_neg e]
      have h' : spec_l1Has.l0 k v l (l.length : Int) ((i : Int) + 1) = some (decide (v ∈ l.drop (i + 1))) := h
      rw [h']
      congr 1
      refine decide_eq_decide.2 ?_
      rw [List.mem_cons]
      exact ⟨fun h => .inr h, fun h => h.resolve_left (fun h => e h.symm)⟩

theorem l1Has_eq (l : List Int) (hl : l.length ≤ 1048576) (v : Int) (k : Nat) (hk : l.length < k) : spec_l1Has.f k l v = some (decide (v ∈ l)) := by
  have h := l1Has_l0 l hl v l.length k 0 (by omega) hk (by omega)
  rw [List.drop_zero] at h
  exact h

theorem implIsOrder_l0 (l : List Int) (hl : l.length ≤ 1048576) : ∀ (d k i : Nat), l.length - i = d → d + l.length < k → i ≤ l.length → ∃ b, impl_IsOrder.l0 k l (l.length : Int) (i : Int) = some b ∧ (b = true ↔ l.length ≤ 9 ∧ ∀ v : Int, (i : Int) ≤ v → v < l.length → v ∈ l) := by
  intro d
  induction d with
  | zero =>
    intro k i hd hk hi
    obtain ⟨k, rfl⟩ := rounds hk
    refine ⟨decide ((l.length : Int) ≤ 9), ?_, ?_⟩
    · simp only [impl_IsOrder.l0]
      rw [if_neg (by omega)]
    · rw [decide_eq_true_iff]
      exact ⟨fun h => ⟨by omega, fun v _ _ => by omega⟩, fun h => by omega⟩
  | succ d ih =>
    intro k i hd hk hi
    obtain ⟨k, rfl⟩ := rounds hk
    simp only [impl_IsOrder.l0]
    rw [if_pos (by omega), w64 (by omega) (by omega)]
    obtain ⟨b, hb, h⟩ := ih k (i + 1) (by omega) (by omega) (by omega)
    have hb' : impl_IsOrder.l0 k l (l.length : Int) ((i : Int) + 1) = some b := hb
    rw [hb', contains_eq l hl _ k (by omega)]
    by_cases h9 : (i : Int) < 9
    · rw [if_pos h9]
      simp only [Option.bind_some]
      by_cases hm : (i : Int) ∈ l
      · refine ⟨b, by rw [decide_eq_true hm, if_pos rfl], ?_⟩
        rw [h]
        refine ⟨fun ⟨h1, h2⟩ => ⟨h1, fun v h3 h4 => ?_⟩, fun ⟨h1, h2⟩ => ⟨h1, fun v h3 h4 => h2 v (by omega) h4⟩⟩
        by_cases e : v = (i : Int)
        · rw [e]; exact hm
        · exact h2 v (by omega) h4
      · refine ⟨false, by rw [decide_eq_false hm, if_neg (by simp)], ?_⟩
        refine ⟨(fun hf => by cases hf), fun ⟨h1, h2⟩ => absurd (h2 i (by omega) (by omega)) hm⟩
    · refine ⟨b, by rw [if_neg h9], ?_⟩
      rw [h]
      exact ⟨fun ⟨h1, h2⟩ => by omega, fun ⟨h1, h2⟩ => by omega⟩

theorem implIsOrder_eq (l : List Int) (hl : l.length ≤ 1048576) (k : Nat) (hk : l.length + l.length < k) : ∃ b, impl_IsOrder.f k l = some b ∧ (b = true ↔ l.length ≤ 9 ∧ Ord l) := by
  obtain ⟨b, hb, h⟩ := implIsOrder_l0 l hl l.length k 0 (by omega) hk (by omega)
  refine ⟨b, hb, ?_⟩
  rw [h]
  refine and_congr_right fun _ => ⟨fun h => ord_of_has (fun v h0 h1 => h v (by omega) h1), fun h v h0 h1 => h.has v (by omega) h1⟩

theorem specOrder_l0 (l : List Int) (hl : l.length ≤ 1048576) : ∀ (d k i : Nat), l.length - i = d → d + l.length < k → i ≤ l.length → (l.take i).Nodup → (∀ x ∈ l.take i, 0 ≤ x ∧ x < l.length) →
    ∃ b, spec_l4Order.l0 k l l (l.length : Int) (i : Int) = some b ∧ (b = true ↔ l.length ≤ 9 ∧ Ord l) := by
  intro d
  induction d with
  | zero =>
    intro k i hd hk hi hn hr
    obtain ⟨k, rfl⟩ := rounds hk
    refine ⟨decide ((l.length : Int) ≤ 9), ?_, ?_⟩
    · simp only [spec_l4Order.l0]
      rw [if_neg (by omega)]
    · rw [decide_eq_true_iff]
      rw [List.take_of_length_le (by omega)] at hn hr
      exact ⟨fun h => ⟨by omega, hn, hr⟩, fun h => by omega⟩
  | succ d ih =>
    intro k i hd hk hi hn hr
    obtain ⟨k, rfl⟩ := rounds hk
    have hlt : i < l.length := by omega
    simp only [spec_l4Order.l0]
    rw [if_pos (by omega), if_pos (by omega), if_pos (by omega), w64 (n := (i : Int) + 1) (by omega) (by omega), w64 (n := (l.length : Int) - 1) (by omega) (by omega), rd_in l i hlt, l1In_eq]
    simp only [Option.bind_some]
    have htk : l.take (i + 1) = l.take i ++ [l[i]] := by rw [List.take_succ_eq_append_getElem hlt]
    by_cases h1 : 0 ≤ l[i] ∧ l[i] ≤ (l.length : Int) - 1
    · rw [decide_eq_true h1, if_pos rfl, if_pos (by omega), Int.toNat_natCast, l1Has_eq (l.take i) (by rw [List.length_take]; omega) _ k (by rw [List.length_take]; omega)]
      simp only [Option.bind_some]
      by_cases hm : l[i] ∈ l.take i
      · refine ⟨false, by rw [decide_eq_true hm, if_pos rfl], (fun hf => by cases hf), fun ⟨_, ho⟩ => ?_⟩
        exfalso
        have h2 := List.take_append_drop (i + 1) l
        have h3 : ((l.take i ++ [l[i]]) ++ l.drop (i + 1)).Nodup := by rw [← htk, h2]; exact ho.1
        have h4 := (List.nodup_append.1 (List.nodup_append.1 h3).1).2.2 _ hm l[i] (by simp)
        exact h4 rfl
      · rw [decide_eq_false hm, if_neg (by simp)]
        refine ih k (i + 1) (by omega) (by omega) (by omega) ?_ ?_
        · rw [htk]
          refine List.nodup_append.2 ⟨hn, by simp, fun a ha b hb e => ?_⟩
          rw [List.mem_singleton] at hb
          exact hm (by rw [← hb, ← e]; exact ha)
        · intro x hx
          rw [htk] at hx
          rcases List.mem_append.1 hx with hx | hx
          · exact hr x hx
          · rw [List.mem_singleton.1 hx]
            omega
    · refine ⟨false, by rw [decide_eq_false h1, if_neg (by simp)], (fun hf => by cases hf), fun ⟨_, ho⟩ => ?_⟩
      exact absurd (by have := ho.2 l[i] (List.getElem_mem hlt); omega) h1

theorem specOrder_eq (l : List Int) (hl : l.length ≤ 1048576) (k : Nat) (hk : l.length + l.length < k) : ∃ b, spec_l4Order.f k l = some b ∧ (b = true ↔ l.length ≤ 9 ∧ Ord l) :=
  specOrder_l0 l hl l.length k 0 (by omega) hk (by omega) (by simp) (by simp)

/-- Both say the same of an order, with rounds enough. -/
theorem orders_same (l : List Int) (hl : l.length ≤ 1048576) (k : Nat) (hk : l.length + l.length < k) :
    ∃ b, spec_l4Order.f k l = some b ∧ impl_IsOrder.f k l = some b ∧ (b = true ↔ l.length ≤ 9 ∧ Ord l) := by
  obtain ⟨b, h1, h2⟩ := specOrder_eq l hl k hk
  obtain ⟨c, h3, h4⟩ := implIsOrder_eq l hl k hk
  have e : b = c := by
    rw [Bool.eq_iff_iff, h2, h4]
  exact ⟨b, h1, e ▸ h3, h2⟩

/-- Is it an order? -/
instance (l : List Int) : Decidable (Ord l) := inferInstanceAs (Decidable (l.Nodup ∧ _))
def isOrd (l : List Int) : Bool := decide (l.length ≤ 9 ∧ Ord l)
theorem isOrd_iff {l : List Int} : isOrd l = true ↔ l.length ≤ 9 ∧ Ord l := by
  unfold isOrd
  rw [decide_eq_true_iff]
theorem specOrd_tot (l : List Int) (hl : l.length ≤ 1048576) : Tot (fun k => spec_l4Order.f k l) (fun y => y = isOrd l) := Tot.at_ (l.length + l.length + 1) rfl (fun k hk => by
  obtain ⟨b, h1, h2⟩ := specOrder_eq l hl k (by omega)
  rw [h1, show b = isOrd l by rw [Bool.eq_iff_iff, h2, isOrd_iff]])
theorem implOrd_tot (l : List Int) (hl : l.length ≤ 1048576) : Tot (fun k => impl_IsOrder.f k l) (fun y => y = isOrd l) := Tot.at_ (l.length + l.length + 1) rfl (fun k hk => by
  obtain ⟨b, h1, h2⟩ := implIsOrder_eq l hl k (by omega)
  rw [h1, show b = isOrd l by rw [Bool.eq_iff_iff, h2, isOrd_iff]])

def PermN (n : Nat) (f : Nat → Nat) : Prop := (∀ i, i < n → f i < n) ∧ (∀ i j, i < n → j < n → f i = f j → i = j) ∧ (∀ j, j < n → ∃ i, i < n ∧ f i = j)
/-- What an order does, on numbers from 0 on. -/
def fnO (l : List Int) (i : Nat) : Nat := (rd l (i : Int)).toNat
theorem fnO_cast (l : List Int) (hr : ∀ x ∈ l, 0 ≤ x ∧ x < l.length) (i : Nat) (hi : i < l.length) : rd l (i : Int) = ((fnO l i : Nat) : Int) ∧ fnO l i < l.length := by
  have h := hr _ (rd_mem l i hi)
  unfold fnO
  omega
theorem fnO_get (l : List Int) (i : Nat) (hi : i < l.length) : fnO l i = l[i].toNat := by
  unfold fnO
  rw [rd_in l i hi]
theorem nodup_at {α : Type} {l : List α} (h : l.Nodup) {i j : Nat} {hi : i < l.length} {hj : j < l.length} (e : l[i] = l[j]) : i = j := by
  rw [List.nodup_iff_pairwise_ne, List.pairwise_iff_getElem] at h
  rcases Nat.lt_trichotomy i j with h1 | h1 | h1
  · exact absurd e (h i j hi hj h1)
  · exact h1
  · exact absurd e.symm (h j i hj hi h1)
theorem fnO_perm (l : List Int) (ho : Ord l) : PermN l.length (fnO l) := by
  refine ⟨fun i hi => (fnO_cast l ho.2 i hi).2, fun i j hi hj e => ?_, fun j hj => ?_⟩
  · have h1 := (fnO_cast l ho.2 i hi).1
    have h2 := (fnO_cast l ho.2 j hj).1
    rw [rd_in l i hi] at h1
    rw [rd_in l j hj] at h2
    exact nodup_at ho.1 (by rw [h1, h2, e])
  · obtain ⟨i, hi, e⟩ := List.mem_iff_getElem.1 (ho.has (j : Int) (by omega) (by omega))
    refine ⟨i, hi, ?_⟩
    rw [fnO_get l i hi, e]
    omega
theorem toNat_getD (xs : List Int) (i : Nat) : rd xs (i : Int) = xs.getD i 0 := rfl
/-- r is the order that undoes l. -/
def BackOk (l r : List Int) : Prop := r.length = l.length ∧ ∀ j, j < l.length → rd r ((fnO l j : Nat) : Int) = (j : Int)
theorem back_val (l : List Int) (hl : l.length ≤ 1048576) (ho : Ord l) : ∀ (d i : Nat) (out : List Int), l.length - i = d → i ≤ l.length → out.length = l.length → (∀ j, j < i → rd out ((fnO l j : Nat) : Int) = (j : Int)) →
    ∃ r : List Int, BackOk l r ∧ ∀ k, d < k → spec_l9Back.l0 k out l (l.length : Int) (i : Int) = some r ∧ impl_back.l0 k out l (l.length : Int) (i : Int) = some r := by
  intro d
  induction d with
  | zero =>
    intro i out hd hi hout hj
    refine ⟨out, ⟨hout, fun j h => hj j (by omega)⟩, fun k hk => ?_⟩
    obtain ⟨k, rfl⟩ := rounds hk
    refine ⟨?_, ?_⟩
    · simp only [spec_l9Back.l0]
      rw [if_neg (by omega)]
    · simp only [impl_back.l0]
      rw [if_neg (by omega)]
  | succ d ih =>
    intro i out hd hi hout hj
    have hlt : i < l.length := by omega
    have hx := ho.2 _ (rd_mem l i hlt)
    have hp := fnO_perm l ho
    obtain ⟨r, h0, h1⟩ := ih (i + 1) (out.set (fnO l i) (i : Int)) (by omega) (by omega) (by rw [List.length_set]; exact hout) (fun j hj2 => by
      rw [toNat_getD]
      by_cases e : j = i
      · subst e
        exact getD_set _ _ _ _ (by have := hp.1 j hlt; omega)
      · have hne : fnO l i ≠ fnO l j := fun h => e (hp.2.1 j i (by omega) hlt h.symm)
        rw [List.getD_eq_getElem?_getD, List.getElem?_set_ne hne, ← List.getD_eq_getElem?_getD]
        exact hj j (by omega))
    refine ⟨r, h0, fun k hk => ?_⟩
    obtain ⟨k, rfl⟩ := rounds hk
    obtain ⟨h2, h3⟩ := h1 k (by omega)
    refine ⟨?_, ?_⟩
    · simp only [spec_l9Back.l0]
      rw [if_pos (by omega), if_pos (by omega), if_pos (by omega), if_pos hx.1, if_pos (by omega), w64 (by omega) (by omega)]
      exact h2
    · simp only [impl_back.l0]
      rw [if_pos (by omega), if_pos (by omega), if_pos (by omega), if_pos hx.1, if_pos (by omega), w64 (by omega) (by omega)]
      exact h3

theorem rdBg (l : List Bool) (i : Nat) : rdOf false l (i : Int) = l.getD i false := by
  unfold rdOf
  rw [Int.toNat_natCast]

set_option maxHeartbeats 1000000
theorem gs {α : Type} (l : List α) (i j : Nat) (v d : α) (h : i < l.length) : (l.set i v).getD j d = if j = i then v else l.getD j d := by
  by_cases e : j = i
  · rw [if_pos e, e]
    exact getD_set _ _ _ _ h
  · rw [if_neg e, List.getD_eq_getElem?_getD, List.getElem?_set_ne (fun h => e h.symm), ← List.getD_eq_getElem?_getD]
/-- The number beside another one. -/
def fl (x : Nat) : Nat := if x % 2 = 0 then x + 1 else x - 1
theorem fl_fl (x : Nat) : fl (fl x) = x := by
  unfold fl
  split <;> split <;> omega
theorem fl_ne (x : Nat) : fl x ≠ x := by
  unfold fl
  split <;> omega
theorem fl_lt {n x : Nat} (hn : n % 2 = 0) (h : x < n) : fl x < n := by
  unfold fl
  split <;> omega
theorem fl_div (x : Nat) : fl x / 2 = x / 2 := by
  unfold fl
  split <;> omega
theorem fl_mod (x : Nat) : fl x % 2 = 1 - x % 2 := by
  unfold fl
  split <;> omega
theorem fl_of {x y : Nat} (h : x / 2 = y / 2) : x = y ∨ x = fl y := by
  unfold fl
  split <;> omega
theorem xor_one : ∀ x : Nat, x < 16 → Go.bits .xor .i64 (x : Int) 1 = ((fl x : Nat) : Int) := by decide +kernel
/-- An order of n numbers, and the one that undoes it. -/
structure Pm (n : Nat) (P B : Nat → Nat) : Prop where
  ev : n % 2 = 0
  pl : ∀ j, j < n → P j < n
  bl : ∀ j, j < n → B j < n
  pb : ∀ j, j < n → P (B j) = j
  bp : ∀ j, j < n → B (P j) = j
/-- The place whose number is beside this one's. -/
def ta (P B : Nat → Nat) (j : Nat) : Nat := B (fl (P j))
section
variable {n : Nat} {P B : Nat → Nat}
theorem Pm.ta_lt (h : Pm n P B) {j : Nat} (hj : j < n) : ta P B j < n := h.bl _ (fl_lt h.ev (h.pl j hj))
theorem Pm.p_ta (h : Pm n P B) {j : Nat} (hj : j < n) : P (ta P B j) = fl (P j) := h.pb _ (fl_lt h.ev (h.pl j hj))
theorem Pm.ta_ta (h : Pm n P B) {j : Nat} (hj : j < n) : ta P B (ta P B j) = j := by
  show B (fl (P (ta P B j))) = j
  rw [h.p_ta hj, fl_fl, h.bp j hj]
theorem Pm.ta_ne (h : Pm n P B) {j : Nat} (hj : j < n) : ta P B j ≠ j := fun e => by
  have h1 := h.p_ta hj
  rw [e] at h1
  exact fl_ne _ h1.symm
/-- All that is known is known whole: with what is beside it, here and there. -/
structure Full (n : Nat) (P B : Nat → Nat) (kn lo : List Bool) : Prop where
  ln : kn.length = n
  ll : lo.length = n
  lk : ∀ j, j < n → lo.getD j false = true → kn.getD j false = true
  a : ∀ j, j < n → kn.getD j false = true → kn.getD (ta P B j) false = true ∧ lo.getD (ta P B j) false = !lo.getD j false
  b : ∀ j, j < n → kn.getD j false = true → kn.getD (fl j) false = true ∧ lo.getD (fl j) false = !lo.getD j false
/-- On the way round, from i, now at k. -/
structure Mid (n : Nat) (P B : Nat → Nat) (kn lo : List Bool) (i k : Nat) : Prop where
  ln : kn.length = n
  ll : lo.length = n
  hi : i < n
  hk : k < n
  lk : ∀ j, j < n → lo.getD j false = true → kn.getD j false = true
  a : ∀ j, j < n → kn.getD j false = true → kn.getD (ta P B j) false = true ∧ lo.getD (ta P B j) false = !lo.getD j false
  b : ∀ j, j < n → kn.getD j false = true → j ≠ i → j ≠ fl k → kn.getD (fl j) false = true ∧ fl j ≠ i ∧ fl j ≠ fl k ∧ lo.getD (fl j) false = !lo.getD j false
  c : (k = i ∧ kn.getD i false = false ∧ kn.getD (fl i) false = false) ∨ (kn.getD i false = true ∧ lo.getD i false = false ∧ kn.getD (fl k) false = true ∧ lo.getD (fl k) false = true)
theorem Full.mid {kn lo : List Bool} (hp : Pm n P B) (h : Full n P B kn lo) {i : Nat} (hi : i < n) (hk : kn.getD i false = false) : Mid n P B kn lo i i where
  ln := h.ln
  ll := h.ll
  hi := hi
  hk := hi
  lk := h.lk
  a := h.a
  b := fun j hj h1 h2 h3 => ⟨(h.b j hj h1).1, fun e => h3 (by rw [← e, fl_fl]), fun e => h2 (by rw [← fl_fl j, e, fl_fl]), (h.b j hj h1).2⟩
  c := .inl ⟨rfl, hk, by
    cases e : kn.getD (fl i) false with
    | false => rfl
    | true =>
      have := (h.b (fl i) (fl_lt hp.ev hi) e).1
      rw [fl_fl, hk] at this
      cases this⟩
theorem Mid.close {kn lo : List Bool} {i k : Nat} (h : Mid n P B kn lo i k) (hk : kn.getD k false = true) : Full n P B kn lo ∧ kn.getD i false = true := by
  rcases h.c with ⟨e, h1, _⟩ | ⟨c1, c2, c3, c4⟩
  · rw [e, h1] at hk
    cases hk
  · have e : k = i := by
      rcases Classical.em (k = i) with e | e
      · exact e
      · have := (h.b k h.hk hk e (fun x => fl_ne k x.symm)).2.2.1
        exact absurd rfl this
    subst e
    refine ⟨⟨h.ln, h.ll, h.lk, h.a, fun j hj hj2 => ?_⟩, c1⟩
    by_cases e1 : j = k
    · subst e1
      exact ⟨c3, by rw [c4, c2]; rfl⟩
    · by_cases e2 : j = fl k
      · rw [e2, fl_fl]
        exact ⟨c1, by rw [c2, c4]; rfl⟩
      · have := h.b j hj hj2 e1 e2
        exact ⟨this.1, this.2.2.2⟩
theorem Mid.new {kn lo : List Bool} {i k : Nat} (hp : Pm n P B) (h : Mid n P B kn lo i k) (hk : kn.getD k false = false) : kn.getD (ta P B k) false = false := by
  cases e : kn.getD (ta P B k) false with
  | false => rfl
  | true =>
    have := (h.a _ (hp.ta_lt h.hk) e).1
    rw [hp.ta_ta h.hk, hk] at this
    cases this
def knS (P B : Nat → Nat) (kn : List Bool) (k : Nat) : List Bool := (kn.set k true).set (ta P B k) true
def loS (P B : Nat → Nat) (lo : List Bool) (k : Nat) : List Bool := lo.set (ta P B k) true
theorem knS_get (hp : Pm n P B) {kn : List Bool} (hl : kn.length = n) {k : Nat} (hk : k < n) (j : Nat) : (knS P B kn k).getD j false = if j = ta P B k then true else if j = k then true else kn.getD j false := by
  unfold knS
  rw [gs _ _ _ _ _ (by rw [List.length_set, hl]; exact hp.ta_lt hk), gs _ _ _ _ _ (by omega)]
theorem loS_get (hp : Pm n P B) {lo : List Bool} (hl : lo.length = n) {k : Nat} (hk : k < n) (j : Nat) : (loS P B lo k).getD j false = if j = ta P B k then true else lo.getD j false := by
  unfold loS
  rw [gs _ _ _ _ _ (by rw [hl]; exact hp.ta_lt hk)]
theorem Mid.step {kn lo : List Bool} {i k : Nat} (hp : Pm n P B) (h : Mid n P B kn lo i k) (hk : kn.getD k false = false) : Mid n P B (knS P B kn k) (loS P B lo k) i (fl (ta P B k)) := by
  have hkn := h.hk
  have ht := hp.ta_lt hkn
  have hnew := h.new hp hk
  have hne := hp.ta_ne hkn
  have K := knS_get hp h.ln hkn
  have L := loS_get hp h.ll hkn
  have lok : lo.getD k false = false := by
    cases e : lo.getD k false with
    | false => rfl
    | true => rw [h.lk k hkn e] at hk; cases hk
  have old : ∀ j, kn.getD j false = true → j ≠ ta P B k ∧ j ≠ k := fun j hj => ⟨(fun e => by rw [e, hnew] at hj; cases hj), (fun e => by rw [e, hk] at hj; cases hj)⟩
  have Ko : ∀ j, kn.getD j false = true → (knS P B kn k).getD j false = true := fun j hj => by
    rw [K, if_neg (old j hj).1, if_neg (old j hj).2, hj]
  have Lo : ∀ j, kn.getD j false = true → (loS P B lo k).getD j false = lo.getD j false := fun j hj => by rw [L, if_neg (old j hj).1]
  have Kk : (knS P B kn k).getD k false = true := by rw [K, if_neg (fun e => hne e.symm), if_pos rfl]
  have Kt : (knS P B kn k).getD (ta P B k) false = true := by rw [K, if_pos rfl]
  have Lk : (loS P B lo k).getD k false = false := by rw [L, if_neg (fun e => hne e.symm), lok]
  have Lt : (loS P B lo k).getD (ta P B k) false = true := by rw [L, if_pos rfl]
  have inK : ∀ j, (knS P B kn k).getD j false = true → j = ta P B k ∨ j = k ∨ kn.getD j false = true := fun j hj => by
    rw [K] at hj
    by_cases e1 : j = ta P B k
    · exact .inl e1
    · rw [if_neg e1] at hj
      by_cases e2 : j = k
      · exact .inr (.inl e2)
      · rw [if_neg e2] at hj
        exact .inr (.inr hj)
  refine ⟨by unfold knS; rw [List.length_set, List.length_set, h.ln], by unfold loS; rw [List.length_set, h.ll], h.hi, fl_lt hp.ev ht, fun j hj hl => ?_, fun j hj hj2 => ?_, fun j hj hj2 h1 h2 => ?_, ?_⟩
  · by_cases e : j = ta P B k
    · rw [e]
      exact Kt
    · rw [L, if_neg e] at hl
      exact Ko j (h.lk j hj hl)
  · rcases inK j hj2 with e | e | e
    · rw [e, hp.ta_ta hkn]
      exact ⟨Kk, by rw [Lk, Lt]; rfl⟩
    · rw [e]
      exact ⟨Kt, by rw [Lk, Lt]; rfl⟩
    · have := h.a j hj e
      exact ⟨Ko _ this.1, by rw [Lo _ this.1, Lo _ e, this.2]⟩
  · rw [fl_fl] at h2 ⊢
    rcases inK j hj2 with e | e | e
    · exact absurd e h2
    · subst e
      rcases h.c with ⟨e, _, _⟩ | ⟨c1, c2, c3, c4⟩
      · exact absurd e h1
      · exact ⟨Ko _ c3, (fun e => by rw [e, c2] at c4; cases c4), (old _ c3).1, by rw [Lo _ c3, Lk, c4]; rfl⟩
    · by_cases e3 : j = fl k
      · subst e3
        rw [fl_fl]
        rcases h.c with ⟨e4, _, c3⟩ | ⟨c1, c2, c3, c4⟩
        · rw [← e4, e] at c3
          cases c3
        · exact ⟨Kk, (fun e5 => by rw [e5, c1] at hk; cases hk), fun e5 => hne e5.symm, by rw [Lk, Lo _ e, c4]; rfl⟩
      · have := h.b j hj e h1 e3
        exact ⟨Ko _ this.1, this.2.1, (old _ this.1).1, by rw [Lo _ this.1, Lo _ e, this.2.2.2]⟩
  · rw [fl_fl]
    refine .inr ⟨?_, ?_, Kt, Lt⟩
    · rcases h.c with ⟨e, _, _⟩ | ⟨c1, _⟩
      · rw [← e]
        exact Kk
      · exact Ko i c1
    · rcases h.c with ⟨e, _, _⟩ | ⟨c1, c2, _⟩
      · rw [← e]
        exact Lk
      · rw [Lo i c1, c2]
/-- The way round: d steps at the most. -/
def orb (P B : Nat → Nat) : Nat → List Bool → List Bool → Nat → List Bool × List Bool
  | 0, kn, lo, _ => (kn, lo)
  | d + 1, kn, lo, k => if kn.getD k false = true then (kn, lo) else orb P B d (knS P B kn k) (loS P B lo k) (fl (ta P B k))
theorem count_knS (hp : Pm n P B) {kn : List Bool} (hl : kn.length = n) {k : Nat} (hk : k < n) (h1 : kn.getD k false = false) : (knS P B kn k).count false < kn.count false := by
  have key : ∀ (l : List Bool) (j : Nat), j < l.length → (l.set j true).count false ≤ l.count false ∧ (l.getD j false = false → (l.set j true).count false < l.count false) := by
    intro l
    induction l with
    | nil => intro j hj; simp at hj
    | cons x l ih =>
      intro j hj
      cases j with
      | zero =>
        cases x <;> simp
      | succ j =>
        have := ih j (by simpa using hj)
        simp only [List.set_cons_succ, List.count_cons, List.getD_cons_succ]
        exact ⟨by omega, fun h => by have := this.2 h; omega⟩
  have h2 := (key kn k (by omega)).2 h1
  have h3 := (key (kn.set k true) (ta P B k) (by rw [List.length_set, hl]; exact hp.ta_lt hk)).1
  unfold knS
  omega
theorem orb_full (hp : Pm n P B) {i : Nat} : ∀ (d : Nat) (kn lo : List Bool) (k : Nat), kn.count false ≤ d → Mid n P B kn lo i k → Full n P B (orb P B d kn lo k).1 (orb P B d kn lo k).2 ∧ (orb P B d kn lo k).1.getD i false = true ∧ ∀ j, j < n → kn.getD j false = true → (orb P B d kn lo k).1.getD j false = true := by
  intro d
  induction d with
  | zero =>
    intro kn lo k hd h
    have hk : kn.getD k false = true := by
      have h0 : false ∉ kn := List.count_eq_zero.1 (by omega)
      have hlt : k < kn.length := by rw [h.ln]; exact h.hk
      rw [getDin kn false k hlt]
      cases e : kn[k] with
      | true => rfl
      | false => exact absurd (by rw [← e]; exact List.getElem_mem hlt) h0
    simp only [orb]
    exact ⟨(h.close hk).1, (h.close hk).2, fun j _ hj => hj⟩
  | succ d ih =>
    intro kn lo k hd h
    simp only [orb]
    by_cases hk : kn.getD k false = true
    · rw [if_pos hk]
      exact ⟨(h.close hk).1, (h.close hk).2, fun j _ hj => hj⟩
    · rw [if_neg hk]
      rw [Bool.not_eq_true] at hk
      have h1 := ih _ _ _ (by have := count_knS hp h.ln h.hk hk; omega) (h.step hp hk)
      refine ⟨h1.1, h1.2.1, fun j hj hj2 => h1.2.2 j hj ?_⟩
      rw [knS_get hp h.ln h.hk]
      split
      · rfl
      · split
        · rfl
        · exact hj2
/-- Behind the first i starts. -/
def st (n : Nat) (P B : Nat → Nat) : Nat → List Bool × List Bool
  | 0 => (List.replicate n false, List.replicate n false)
  | i + 1 => orb P B n (st n P B i).1 (st n P B i).2 i
theorem rep_get (m j : Nat) : (List.replicate m false).getD j false = false := by
  rw [List.getD_eq_getElem?_getD, List.getElem?_replicate]
  split <;> rfl
theorem orb_known (hp : Pm n P B) {kn lo : List Bool} {k : Nat} (h : kn.getD k false = true) : ∀ d, orb P B d kn lo k = (kn, lo)
  | 0 => rfl
  | d + 1 => by
    simp only [orb]
    rw [if_pos h]
theorem st_full (hp : Pm n P B) : ∀ i, i ≤ n → Full n P B (st n P B i).1 (st n P B i).2 ∧ ∀ j, j < i → (st n P B i).1.getD j false = true
  | 0 => fun _ => ⟨⟨by simp [st], by simp [st], (fun j _ h => by simp only [st] at h; rw [rep_get] at h; cases h), (fun j _ h => by simp only [st] at h; rw [rep_get] at h; cases h), (fun j _ h => by simp only [st] at h; rw [rep_get] at h; cases h)⟩, fun j hj => by omega⟩
  | i + 1 => fun hi => by
    obtain ⟨h1, h2⟩ := st_full hp i (by omega)
    simp only [st]
    by_cases hk : (st n P B i).1.getD i false = true
    · rw [orb_known hp hk]
      exact ⟨h1, fun j hj => by
        by_cases e : j = i
        · rw [e]
          exact hk
        · exact h2 j (by omega)⟩
    · rw [Bool.not_eq_true] at hk
      have h3 := orb_full hp n _ _ i (by have := List.count_le_length (a := false) (l := (st n P B i).1); rw [h1.ln] at this; exact this) (h1.mid hp (by omega) hk)
      exact ⟨h3.1, fun j hj => by
        by_cases e : j = i
        · rw [e]
          exact h3.2.1
        · exact h3.2.2 j (by omega) (h2 j (by omega))⟩
/-- Which places take from the lower half. -/
def low (n : Nat) (P B : Nat → Nat) : Nat → Bool := fun j => (st n P B n).2.getD j false
theorem low_fl (hp : Pm n P B) {j : Nat} (hj : j < n) : low n P B (fl j) = !low n P B j := ((st_full hp n (Nat.le_refl n)).1.b j hj ((st_full hp n (Nat.le_refl n)).2 j hj)).2
theorem low_ta (hp : Pm n P B) {j : Nat} (hj : j < n) : low n P B (ta P B j) = !low n P B j := ((st_full hp n (Nat.le_refl n)).1.a j hj ((st_full hp n (Nat.le_refl n)).2 j hj)).2
end
/-- The settings and the two halves that belong to it. -/
def entV (h : Nat) (P B : Nat → Nat) : List Bool := (List.range h).map fun m => low (2 * h) P B (B (2 * m))
def exiV (h : Nat) (P B : Nat → Nat) : List Bool := (List.range h).map fun m => low (2 * h) P B (2 * m)
def upV (h : Nat) (P B : Nat → Nat) : List Int := (List.range h).map fun m => ((P (if low (2 * h) P B (2 * m) = true then 2 * m + 1 else 2 * m) / 2 : Nat) : Int)
def dnV (h : Nat) (P B : Nat → Nat) : List Int := (List.range h).map fun m => ((P (if low (2 * h) P B (2 * m) = true then 2 * m else 2 * m + 1) / 2 : Nat) : Int)
theorem map_fix {α : Type} (d : α) (h : Nat) (f : Nat → α) (l : List α) (hl : l.length = h) (hf : ∀ m, m < h → l.getD m d = f m) : l = (List.range h).map f := by
  refine List.ext_getElem (by simp [hl]) (fun i h1 h2 => ?_)
  rw [← getDin l d i h1, hf i (by omega)]
  simp

/-- What has been written when kn is known. -/
structure Wr (h : Nat) (P : Nat → Nat) (kn lo en ex : List Bool) (up dn : List Int) : Prop where
  le : en.length = h
  lx : ex.length = h
  lu : up.length = h
  ld : dn.length = h
  u : ∀ j, j < 2 * h → kn.getD j false = true → lo.getD j false = false → up.getD (j / 2) 0 = ((P j / 2 : Nat) : Int) ∧ ex.getD (j / 2) false = (j % 2 == 1) ∧ en.getD (P j / 2) false = (P j % 2 == 1)
  d : ∀ j, j < 2 * h → kn.getD j false = true → lo.getD j false = true → dn.getD (j / 2) 0 = ((P j / 2 : Nat) : Int)
section
variable {h : Nat} {P B : Nat → Nat}
theorem Wr.step {kn lo en ex : List Bool} {up dn : List Int} {i k : Nat} (hp : Pm (2 * h) P B) (m : Mid (2 * h) P B kn lo i k) (hk : kn.getD k false = false) (w : Wr h P kn lo en ex up dn) :
    Wr h P (knS P B kn k) (loS P B lo k) (en.set (P k / 2) (P k % 2 == 1)) (ex.set (k / 2) (k % 2 == 1)) (up.set (k / 2) ((P k / 2 : Nat) : Int)) (dn.set (ta P B k / 2) ((P k / 2 : Nat) : Int)) := by
  have hkn := m.hk
  have hpk := hp.pl k hkn
  have ht := hp.ta_lt hkn
  have hnew := m.new hp hk
  have hne := hp.ta_ne hkn
  have K := knS_get hp m.ln hkn
  have L := loS_get hp m.ll hkn
  have lok : lo.getD k false = false := by
    cases e : lo.getD k false with
    | false => rfl
    | true => rw [m.lk k hkn e] at hk; cases hk
  have flk : kn.getD (fl k) false = true → lo.getD (fl k) false = true := fun e => by
    rcases m.c with ⟨e1, _, e2⟩ | ⟨_, _, _, c4⟩
    · rw [← e1, e] at e2
      cases e2
    · exact c4
  have nei : ∀ j, kn.getD j false = true → lo.getD j false = true → j ≠ i := fun j h1 h2 e => by
    rw [e] at h1 h2
    rcases m.c with ⟨_, e1, _⟩ | ⟨_, e1, _⟩
    · rw [e1] at h1
      cases h1
    · rw [e1] at h2
      cases h2
  refine ⟨by rw [List.length_set, w.le], by rw [List.length_set, w.lx], by rw [List.length_set, w.lu], by rw [List.length_set, w.ld], fun j hj h1 h2 => ?_, fun j hj h1 h2 => ?_⟩
  · rw [gs _ _ _ _ _ (by rw [w.lu]; omega), gs _ _ _ _ _ (by rw [w.lx]; omega), gs _ _ _ _ _ (by rw [w.le]; omega)]
    rw [L] at h2
    by_cases e1 : j = ta P B k
    · rw [if_pos e1] at h2
      cases h2
    rw [if_neg e1] at h2
    rw [K, if_neg e1] at h1
    by_cases e2 : j = k
    · rw [e2, if_pos rfl, if_pos rfl, if_pos rfl]
      exact ⟨rfl, rfl, rfl⟩
    · rw [if_neg e2] at h1
      have n1 : j / 2 ≠ k / 2 := fun e => by
        rcases fl_of e with e3 | e3
        · exact e2 e3
        · rw [e3] at h1 h2
          rw [flk h1] at h2
          cases h2
      have n2 : P j / 2 ≠ P k / 2 := fun e => by
        rcases fl_of e with e3 | e3
        · exact e2 (by rw [← hp.bp j hj, e3, hp.bp k hkn])
        · exact e1 (by rw [← hp.bp j hj, e3]; rfl)
      rw [if_neg n1, if_neg n1, if_neg n2]
      exact w.u j hj h1 h2
  · rw [gs _ _ _ _ _ (by rw [w.ld]; omega)]
    by_cases e1 : j = ta P B k
    · rw [e1, if_pos rfl, hp.p_ta hkn, fl_div]
    rw [L, if_neg e1] at h2
    rw [K, if_neg e1] at h1
    by_cases e2 : j = k
    · rw [e2, lok] at h2
      cases h2
    · rw [if_neg e2] at h1
      have n1 : j / 2 ≠ ta P B k / 2 := fun e => by
        rcases fl_of e with e3 | e3
        · exact e1 e3
        · have h3 := (m.b j hj h1 (nei j h1 h2) (fun e4 => by
            rw [e3] at e4
            have := congrArg fl e4
            rw [fl_fl, fl_fl] at this
            exact hne this)).1
          rw [e3, fl_fl, hnew] at h3
          cases h3
      rw [if_neg n1]
      exact w.d j hj h1 h2
theorem Wr.fin {en ex : List Bool} {up dn : List Int} (hp : Pm (2 * h) P B) (w : Wr h P (st (2 * h) P B (2 * h)).1 (st (2 * h) P B (2 * h)).2 en ex up dn) : en = entV h P B ∧ ex = exiV h P B ∧ up = upV h P B ∧ dn = dnV h P B := by
  have hk := (st_full hp (2 * h) (Nat.le_refl _)).2
  have U : ∀ j, j < 2 * h → low (2 * h) P B j = false → up.getD (j / 2) 0 = ((P j / 2 : Nat) : Int) ∧ ex.getD (j / 2) false = (j % 2 == 1) ∧ en.getD (P j / 2) false = (P j % 2 == 1) := fun j hj hl => w.u j hj (hk j hj) hl
  have D : ∀ j, j < 2 * h → low (2 * h) P B j = true → dn.getD (j / 2) 0 = ((P j / 2 : Nat) : Int) := fun j hj hl => w.d j hj (hk j hj) hl
  have f2 : ∀ m, fl (2 * m) = 2 * m + 1 := fun m => by unfold fl; split <;> omega
  refine ⟨map_fix false h _ en w.le (fun m hm => ?_), map_fix false h _ ex w.lx (fun m hm => ?_), map_fix 0 h _ up w.lu (fun m hm => ?_), map_fix 0 h _ dn w.ld (fun m hm => ?_)⟩
  · have hb := hp.bl (2 * m) (by omega)
    have pb := hp.pb (2 * m) (by omega)
    cases hl : low (2 * h) P B (B (2 * m)) with
    | false =>
      have := (U _ hb hl).2.2
      rw [pb, show 2 * m / 2 = m by omega] at this
      rw [this]
      have : 2 * m % 2 = 0 := by omega
      rw [this]
      rfl
    | true =>
      have h1 := low_ta hp hb
      rw [hl] at h1
      have := (U _ (hp.ta_lt hb) h1).2.2
      rw [hp.p_ta hb, pb, f2, show (2 * m + 1) / 2 = m by omega, show (2 * m + 1) % 2 = 1 by omega] at this
      rw [this]
      rfl
  · cases hl : low (2 * h) P B (2 * m) with
    | false =>
      have := (U _ (by omega) hl).2.1
      rw [show 2 * m / 2 = m by omega, show 2 * m % 2 = 0 by omega] at this
      rw [this]
      rfl
    | true =>
      have h1 := low_fl hp (show 2 * m < 2 * h by omega)
      rw [hl, f2] at h1
      have := (U _ (by omega) h1).2.1
      rw [show (2 * m + 1) / 2 = m by omega, show (2 * m + 1) % 2 = 1 by omega] at this
      rw [this]
      rfl
  · cases hl : low (2 * h) P B (2 * m) with
    | false =>
      have := (U _ (by omega) hl).1
      rw [show 2 * m / 2 = m by omega] at this
      rw [this, if_neg (by simp)]
    | true =>
      have h1 := low_fl hp (show 2 * m < 2 * h by omega)
      rw [hl, f2] at h1
      have := (U _ (by omega) h1).1
      rw [show (2 * m + 1) / 2 = m by omega] at this
      rw [this, if_pos rfl]
  · cases hl : low (2 * h) P B (2 * m) with
    | true =>
      have := D _ (by omega) hl
      rw [show 2 * m / 2 = m by omega] at this
      rw [this, if_pos rfl]
    | false =>
      have h1 := low_fl hp (show 2 * m < 2 * h by omega)
      rw [hl, f2] at h1
      have := D _ (by omega) h1
      rw [show (2 * m + 1) / 2 = m by omega] at this
      rw [this, if_neg (by simp)]
end
theorem Mid.zero {n : Nat} {P B : Nat → Nat} {kn lo : List Bool} {i k : Nat} (h : Mid n P B kn lo i k) (hd : kn.count false ≤ 0) : kn.getD k false = true := by
  have h0 : false ∉ kn := List.count_eq_zero.1 (by omega)
  have hlt : k < kn.length := by rw [h.ln]; exact h.hk
  rw [getDin kn false k hlt]
  cases e : kn[k] with
  | true => rfl
  | false => exact absurd (by rw [← e]; exact List.getElem_mem hlt) h0
theorem td2 (k : Nat) : Int.tdiv (k : Int) 2 = ((k / 2 : Nat) : Int) := rfl
theorem tm2 (k : Nat) : (Int.tmod (k : Int) 2 == 1) = (k % 2 == 1) := by
  show ((((k % 2 : Nat) : Int)) == 1) = (k % 2 == 1)
  rcases Nat.mod_two_eq_zero_or_one k with h | h <;> rw [h] <;> rfl
/-- What goes with an order: how it is read, and how what undoes it is. -/
structure Od (h : Nat) (p r : List Int) (P B : Nat → Nat) : Prop where
  pm : Pm (2 * h) P B
  lp : p.length = 2 * h
  lr : r.length = 2 * h
  rp : ∀ j, j < 2 * h → rd p (j : Int) = ((P j : Nat) : Int)
  rr : ∀ j, j < 2 * h → rd r (j : Int) = ((B j : Nat) : Int)
section
variable {h : Nat} {p r : List Int} {P B : Nat → Nat}
theorem halves_l1 (h4 : h ≤ 4) (o : Od h p r P B) (Q : List Bool → Prop) (i : Nat) : ∀ (d : Nat) (kn lo : List Bool) (k : Nat), kn.count false ≤ d → Mid (2 * h) P B kn lo i k →
    Tot (fun f => spec_l9Halves.l0 f p r (orb P B d kn lo k).1 (orb P B d kn lo k).2 ((2 * h : Nat) : Int) ((i + 1 : Nat) : Int)) Q → Tot (fun f => spec_l9Halves.l1 f p r kn lo (k : Int) ((2 * h : Nat) : Int) (i : Int)) Q := by
  intro d
  induction d with
  | zero =>
    intro kn lo k hd m hQ
    have hk := m.zero hd
    have hkn := m.hk
    have hi := m.hi
    have hl := m.ln
    refine Tot.up ?_
    simp only [spec_l9Halves.l1]
    rw [rdBg, w64 (n := (i : Int) + 1) (by omega) (by omega)]
    exact Tot.pos (by omega) (Tot.pos (by omega) (Tot.pos hk hQ))
  | succ d ih =>
    intro kn lo k hd m hQ
    have hkn := m.hk
    have hi := m.hi
    have hl := m.ln
    have hll := m.ll
    by_cases hk : kn.getD k false = true
    · rw [orb_known o.pm hk] at hQ
      refine Tot.up ?_
      simp only [spec_l9Halves.l1]
      rw [rdBg, w64 (n := (i : Int) + 1) (by omega) (by omega)]
      exact Tot.pos (by omega) (Tot.pos (by omega) (Tot.pos hk hQ))
    · simp only [orb] at hQ
      rw [if_neg hk] at hQ
      have hk2 := hk
      rw [Bool.not_eq_true] at hk2
      have hpk := o.pm.pl k hkn
      have hfl := fl_lt o.pm.ev hpk
      have ht := o.pm.ta_lt hkn
      have hlp := o.lp
      have hlr := o.lr
      have e1 := o.rr _ hfl
      have e2 : ((B (fl (P k)) : Nat) : Int) = ((ta P B k : Nat) : Int) := rfl
      have h1 := ih (knS P B kn k) (loS P B lo k) (fl (ta P B k)) (by have := count_knS o.pm hl hkn hk2; omega) (m.step o.pm hk2) hQ
      refine Tot.up ?_
      simp only [spec_l9Halves.l1]
      rw [rdBg, o.rp k hkn, xor_one (P k) (by omega), e1, e2, xor_one (ta P B k) (by omega), Int.toNat_natCast, Int.toNat_natCast]
      exact Tot.pos (by omega) (Tot.pos (by omega) (Tot.neg hk (Tot.pos (by omega) (Tot.pos (by omega) (Tot.pos (by omega) (Tot.pos (by omega) (Tot.pos (by omega) (Tot.pos (by omega) h1))))))))
theorem halves_l0 (h4 : h ≤ 4) (o : Od h p r P B) : ∀ (d i : Nat), 2 * h - i = d → i ≤ 2 * h →
    Tot (fun f => spec_l9Halves.l0 f p r (st (2 * h) P B i).1 (st (2 * h) P B i).2 ((2 * h : Nat) : Int) (i : Int)) (fun y => y = (st (2 * h) P B (2 * h)).2) := by
  intro d
  induction d with
  | zero =>
    intro i hd hi
    have e : i = 2 * h := by omega
    subst e
    refine Tot.up ?_
    simp only [spec_l9Halves.l0]
    exact Tot.neg (by omega) (Tot.some_ rfl)
  | succ d ih =>
    intro i hd hi
    have h1 := ih (i + 1) (by omega) (by omega)
    obtain ⟨f1, f2⟩ := st_full o.pm i hi
    have hl := f1.ln
    refine Tot.up ?_
    simp only [spec_l9Halves.l0]
    refine Tot.pos (by omega) ?_
    by_cases hk : (st (2 * h) P B i).1.getD i false = true
    · simp only [st] at h1
      rw [orb_known o.pm hk] at h1
      refine Tot.up ?_
      simp only [spec_l9Halves.l1]
      rw [rdBg, w64 (n := (i : Int) + 1) (by omega) (by omega)]
      exact Tot.pos (by omega) (Tot.pos (by omega) (Tot.pos hk h1))
    · rw [Bool.not_eq_true] at hk
      exact halves_l1 h4 o _ i (2 * h) _ _ i (by have := List.count_le_length (a := false) (l := (st (2 * h) P B i).1); rw [hl] at this; exact this) (f1.mid o.pm (by omega) hk) h1
theorem route_l1 (h4 : h ≤ 4) (o : Od h p r P B) (Q : List Bool → Prop) (i : Nat) : ∀ (d : Nat) (kn lo : List Bool) (k : Nat) (en ex : List Bool) (up dn : List Int), kn.count false ≤ d → Mid (2 * h) P B kn lo i k → Wr h P kn lo en ex up dn →
    (∀ (en ex : List Bool) (up dn : List Int), Wr h P (orb P B d kn lo k).1 (orb P B d kn lo k).2 en ex up dn → Tot (fun f => impl_route.l0 f p en ex (orb P B d kn lo k).1 up dn r ((2 * h : Nat) : Int) ((i + 1 : Nat) : Int)) Q) →
    Tot (fun f => impl_route.l1 f p en ex kn up dn r (k : Int) ((2 * h : Nat) : Int) (i : Int)) Q := by
  intro d
  induction d with
  | zero =>
    intro kn lo k en ex up dn hd m w hQ
    have hk := m.zero hd
    have hkn := m.hk
    have hi := m.hi
    have hl := m.ln
    refine Tot.up ?_
    simp only [impl_route.l1]
    rw [rdBg, w64 (n := (i : Int) + 1) (by omega) (by omega)]
    exact Tot.pos (by omega) (Tot.pos (by omega) (Tot.pos hk (hQ en ex up dn w)))
  | succ d ih =>
    intro kn lo k en ex up dn hd m w hQ
    have hkn := m.hk
    have hi := m.hi
    have hl := m.ln
    by_cases hk : kn.getD k false = true
    · rw [orb_known o.pm hk] at hQ
      refine Tot.up ?_
      simp only [impl_route.l1]
      rw [rdBg, w64 (n := (i : Int) + 1) (by omega) (by omega)]
      exact Tot.pos (by omega) (Tot.pos (by omega) (Tot.pos hk (hQ en ex up dn w)))
    · simp only [orb] at hQ
      rw [if_neg hk] at hQ
      have hk2 := hk
      rw [Bool.not_eq_true] at hk2
      have hpk := o.pm.pl k hkn
      have hfl := fl_lt o.pm.ev hpk
      have ht := o.pm.ta_lt hkn
      have hlp := o.lp
      have hlr := o.lr
      have w1 := w.le
      have w2 := w.lx
      have w3 := w.lu
      have w4 := w.ld
      have e1 := o.rr _ hfl
      have e2 : ((B (fl (P k)) : Nat) : Int) = ((ta P B k : Nat) : Int) := rfl
      have h1 := ih (knS P B kn k) (loS P B lo k) (fl (ta P B k)) _ _ _ _ (by have := count_knS o.pm hl hkn hk2; omega) (m.step o.pm hk2) (w.step o.pm m hk2) hQ
      refine Tot.up ?_
      simp only [impl_route.l1]
      rw [rdBg, o.rp k hkn, xor_one (P k) (by omega), e1, e2, xor_one (ta P B k) (by omega), td2, td2, td2, tm2, tm2, wnat (k / 2) (by omega), wnat (P k / 2) (by omega), wnat (ta P B k / 2) (by omega), Int.toNat_natCast, Int.toNat_natCast, Int.toNat_natCast, Int.toNat_natCast, Int.toNat_natCast]
      exact Tot.pos (by omega) (Tot.pos (by omega) (Tot.neg hk (Tot.pos (by omega) (Tot.pos (by omega) (Tot.pos (by omega) (Tot.pos (by omega) (Tot.pos (by omega) (Tot.pos (by omega) (Tot.pos (by omega) (Tot.pos (by omega) (Tot.pos (by omega) (Tot.pos (by omega) (Tot.pos (by omega) (Tot.pos (by omega) h1))))))))))))))
theorem route_l0 (h4 : h ≤ 4) (o : Od h p r P B) (Q : List Bool → Prop)
    (hE : ∀ (en ex : List Bool) (up dn : List Int), Wr h P (st (2 * h) P B (2 * h)).1 (st (2 * h) P B (2 * h)).2 en ex up dn → Tot (fun f => impl_route.l0 f p en ex (st (2 * h) P B (2 * h)).1 up dn r ((2 * h : Nat) : Int) ((2 * h : Nat) : Int)) Q) :
    ∀ (d i : Nat) (en ex : List Bool) (up dn : List Int), 2 * h - i = d → i ≤ 2 * h → Wr h P (st (2 * h) P B i).1 (st (2 * h) P B i).2 en ex up dn →
    Tot (fun f => impl_route.l0 f p en ex (st (2 * h) P B i).1 up dn r ((2 * h : Nat) : Int) (i : Int)) Q := by
  intro d
  induction d with
  | zero =>
    intro i en ex up dn hd hi w
    have e : i = 2 * h := by omega
    subst e
    exact hE en ex up dn w
  | succ d ih =>
    intro i en ex up dn hd hi w
    have h1 := fun en ex up dn w => ih (i + 1) en ex up dn (by omega) (by omega) w
    obtain ⟨f1, f2⟩ := st_full o.pm i hi
    have hl := f1.ln
    refine Tot.up ?_
    simp only [impl_route.l0]
    refine Tot.pos (by omega) ?_
    by_cases hk : (st (2 * h) P B i).1.getD i false = true
    · simp only [st] at h1
      rw [orb_known o.pm hk] at h1
      refine Tot.up ?_
      simp only [impl_route.l1]
      rw [rdBg, w64 (n := (i : Int) + 1) (by omega) (by omega)]
      exact Tot.pos (by omega) (Tot.pos (by omega) (Tot.pos hk (h1 en ex up dn w)))
    · rw [Bool.not_eq_true] at hk
      exact route_l1 h4 o _ i (2 * h) _ _ i en ex up dn (by have := List.count_le_length (a := false) (l := (st (2 * h) P B i).1); rw [hl] at this; exact this) (f1.mid o.pm (by omega) hk) w h1
end

/-- What the reference has written behind i places. -/
structure Sw (h : Nat) (P B : Nat → Nat) (i : Nat) (en ex : List Bool) (up dn : List Int) : Prop where
  le : en.length = h
  lx : ex.length = h
  lu : up.length = h
  ld : dn.length = h
  u : ∀ j, j < i → low (2 * h) P B j = false → up.getD (j / 2) 0 = ((P j / 2 : Nat) : Int)
  d : ∀ j, j < i → low (2 * h) P B j = true → dn.getD (j / 2) 0 = ((P j / 2 : Nat) : Int)
  e : ∀ j, j < i → P j % 2 = 0 → en.getD (P j / 2) false = low (2 * h) P B j
  x : ∀ j, j < i → j % 2 = 0 → ex.getD (j / 2) false = low (2 * h) P B j
theorem Sw.fin {h : Nat} {P B : Nat → Nat} {en ex : List Bool} {up dn : List Int} (hp : Pm (2 * h) P B) (w : Sw h P B (2 * h) en ex up dn) : en = entV h P B ∧ ex = exiV h P B ∧ up = upV h P B ∧ dn = dnV h P B := by
  have f2 : ∀ m, fl (2 * m) = 2 * m + 1 := fun m => by unfold fl; split <;> omega
  refine ⟨map_fix false h _ en w.le (fun m hm => ?_), map_fix false h _ ex w.lx (fun m hm => ?_), map_fix 0 h _ up w.lu (fun m hm => ?_), map_fix 0 h _ dn w.ld (fun m hm => ?_)⟩
  · have pb := hp.pb (2 * m) (by omega)
    have := w.e _ (hp.bl (2 * m) (by omega)) (by rw [pb]; omega)
    rw [pb, show 2 * m / 2 = m by omega] at this
    exact this
  · have := w.x (2 * m) (by omega) (by omega)
    rw [show 2 * m / 2 = m by omega] at this
    exact this
  · cases hl : low (2 * h) P B (2 * m) with
    | false =>
      have := w.u _ (by omega) hl
      rw [show 2 * m / 2 = m by omega] at this
      rw [this, if_neg (by simp)]
    | true =>
      have h1 := low_fl hp (show 2 * m < 2 * h by omega)
      rw [hl, f2] at h1
      have := w.u _ (by omega) h1
      rw [show (2 * m + 1) / 2 = m by omega] at this
      rw [this, if_pos rfl]
  · cases hl : low (2 * h) P B (2 * m) with
    | true =>
      have := w.d _ (by omega) hl
      rw [show 2 * m / 2 = m by omega] at this
      rw [this, if_pos rfl]
    | false =>
      have h1 := low_fl hp (show 2 * m < 2 * h by omega)
      rw [hl, f2] at h1
      have := w.d _ (by omega) h1
      rw [show (2 * m + 1) / 2 = m by omega] at this
      rw [this, if_neg (by simp)]
/-- One place more. -/
theorem Sw.step {h : Nat} {P B : Nat → Nat} {i : Nat} {en ex : List Bool} {up dn : List Int} (hp : Pm (2 * h) P B) (hi : i < 2 * h) (w : Sw h P B i en ex up dn) :
    Sw h P B (i + 1) (if P i % 2 = 0 then en.set (P i / 2) (low (2 * h) P B i) else en) (if i % 2 = 0 then ex.set (i / 2) (low (2 * h) P B i) else ex)
      (if low (2 * h) P B i = true then up else up.set (i / 2) ((P i / 2 : Nat) : Int)) (if low (2 * h) P B i = true then dn.set (i / 2) ((P i / 2 : Nat) : Int) else dn) := by
  have hpi := hp.pl i hi
  have w1 := w.le
  have w2 := w.lx
  have w3 := w.lu
  have w4 := w.ld
  have nf : ∀ j, j < i → j / 2 = i / 2 → low (2 * h) P B j = !low (2 * h) P B i := fun j hj e => by
    rcases fl_of e with e3 | e3
    · omega
    · rw [e3]
      exact low_fl hp hi
  refine ⟨by split <;> simp [w1], by split <;> simp [w2], by split <;> simp [w3], by split <;> simp [w4], fun j hj hl => ?_, fun j hj hl => ?_, fun j hj hl => ?_, fun j hj hl => ?_⟩
  · by_cases e : j = i
    · subst e
      rw [hl, if_neg (by simp), gs _ _ _ _ _ (by omega), if_pos rfl]
    · have hj2 : j < i := by omega
      by_cases c : low (2 * h) P B i = true
      · rw [if_pos c]
        exact w.u j hj2 hl
      · rw [if_neg c, gs _ _ _ _ _ (by omega), if_neg (fun e2 => by
          have := nf j hj2 e2
          rw [hl] at this
          rw [Bool.not_eq_true] at c
          rw [c] at this
          cases this)]
        exact w.u j hj2 hl
  · by_cases e : j = i
    · subst e
      rw [hl, if_pos rfl, gs _ _ _ _ _ (by omega), if_pos rfl]
    · have hj2 : j < i := by omega
      by_cases c : low (2 * h) P B i = true
      · rw [if_pos c, gs _ _ _ _ _ (by omega), if_neg (fun e2 => by
          have := nf j hj2 e2
          rw [hl, c] at this
          cases this)]
        exact w.d j hj2 hl
      · rw [if_neg c]
        exact w.d j hj2 hl
  · by_cases e : j = i
    · subst e
      rw [if_pos hl, gs _ _ _ _ _ (by omega), if_pos rfl]
    · have hj2 : j < i := by omega
      by_cases c : P i % 2 = 0
      · rw [if_pos c, gs _ _ _ _ _ (by omega), if_neg (fun e2 => e (by rw [← hp.bp j (by omega), show P j = P i by omega, hp.bp i hi]))]
        exact w.e j hj2 hl
      · rw [if_neg c]
        exact w.e j hj2 hl
  · by_cases e : j = i
    · subst e
      rw [if_pos hl, gs _ _ _ _ _ (by omega), if_pos rfl]
    · have hj2 : j < i := by omega
      by_cases c : i % 2 = 0
      · rw [if_pos c, gs _ _ _ _ _ (by omega), if_neg (by omega)]
        exact w.x j hj2 hl
      · rw [if_neg c]
        exact w.x j hj2 hl
theorem tm0 (k : Nat) : (Int.tmod (k : Int) 2 = 0) ↔ k % 2 = 0 := by
  show ((k % 2 : Nat) : Int) = 0 ↔ _
  omega
theorem set_tot {h : Nat} {p r : List Int} {P B : Nat → Nat} (h4 : h ≤ 4) (o : Od h p r P B) (Q : List Bool → Prop)
    (hE : ∀ (en ex : List Bool) (up dn : List Int), Sw h P B (2 * h) en ex up dn → Tot (fun f => spec_l9Route.l0 f (st (2 * h) P B (2 * h)).2 en ex up dn p ((2 * h : Nat) : Int) ((2 * h : Nat) : Int)) Q) :
    ∀ (d i : Nat) (en ex : List Bool) (up dn : List Int), 2 * h - i = d → i ≤ 2 * h → Sw h P B i en ex up dn →
    Tot (fun f => spec_l9Route.l0 f (st (2 * h) P B (2 * h)).2 en ex up dn p ((2 * h : Nat) : Int) (i : Int)) Q := by
  intro d
  induction d with
  | zero =>
    intro i en ex up dn hd hi w
    have e : i = 2 * h := by omega
    subst e
    exact hE en ex up dn w
  | succ d ih =>
    intro i en ex up dn hd hi w
    have hlt : i < 2 * h := by omega
    have h1 := ih (i + 1) _ _ _ _ (by omega) (by omega) (w.step o.pm hlt)
    have hpi := o.pm.pl i hlt
    have w1 := w.le
    have w2 := w.lx
    have w3 := w.lu
    have w4 := w.ld
    have hlp := o.lp
    have hll := (st_full o.pm (2 * h) (Nat.le_refl _)).1.ll
    have hj : ∀ (up dn : List Int), Tot (fun f => spec_l9Route.l0 f (st (2 * h) P B (2 * h)).2 (if P i % 2 = 0 then en.set (P i / 2) (low (2 * h) P B i) else en) (if i % 2 = 0 then ex.set (i / 2) (low (2 * h) P B i) else ex) up dn p ((2 * h : Nat) : Int) ((i + 1 : Nat) : Int)) Q →
        Tot (fun f => spec_l9Route.j1 f (st (2 * h) P B (2 * h)).2 en ex up dn (i : Int) ((P i : Nat) : Int) p ((2 * h : Nat) : Int) (i : Int)) Q := by
      intro up dn h2
      refine Tot.up ?_
      simp only [spec_l9Route.j1]
      rw [rdBg, td2, td2, wnat (i / 2) (by omega), wnat (P i / 2) (by omega), Int.toNat_natCast, Int.toNat_natCast, w64 (n := (i : Int) + 1) (by omega) (by omega)]
      by_cases c1 : P i % 2 = 0
      · rw [if_pos c1] at h2
        refine Tot.pos ((tm0 _).2 c1) (Tot.pos (by omega) (Tot.pos (by omega) (Tot.pos (by omega) (Tot.pos (by omega) (Tot.bind (Tot.some_ (Q := fun z => z = en.set (P i / 2) (low (2 * h) P B i)) rfl) (fun z hz => ?_))))))
        subst hz
        by_cases c2 : i % 2 = 0
        · rw [if_pos c2] at h2
          exact Tot.pos ((tm0 _).2 c2) (Tot.pos (by omega) (Tot.pos (by omega) h2))
        · rw [if_neg c2] at h2
          exact Tot.neg (fun h => c2 ((tm0 _).1 h)) h2
      · rw [if_neg c1] at h2
        refine Tot.neg (fun h => c1 ((tm0 _).1 h)) ?_
        by_cases c2 : i % 2 = 0
        · rw [if_pos c2] at h2
          exact Tot.pos ((tm0 _).2 c2) (Tot.pos (by omega) (Tot.pos (by omega) (Tot.pos (by omega) (Tot.pos (by omega) h2))))
        · rw [if_neg c2] at h2
          exact Tot.neg (fun h => c2 ((tm0 _).1 h)) h2
    refine Tot.up ?_
    simp only [spec_l9Route.l0]
    rw [rdBg, o.rp i hlt, td2, td2, wnat (i / 2) (by omega), wnat (P i / 2) (by omega), Int.toNat_natCast]
    refine Tot.pos (by omega) (Tot.pos (by omega) (Tot.pos (by omega) (Tot.pos (by omega) ?_)))
    by_cases c : low (2 * h) P B i = true
    · rw [if_pos c, if_pos c] at h1
      exact Tot.pos c (Tot.pos (by omega) (Tot.pos (by omega) (hj _ _ h1)))
    · rw [if_neg c, if_neg c] at h1
      exact Tot.neg c (Tot.pos (by omega) (Tot.pos (by omega) (hj _ _ h1)))
/-- Rows put together. -/
theorem concat_tot (ls : List (List Bool)) (hn : ls.length ≤ 100) (hw : ls.flatten.length ≤ 1000) : Tot (fun k => slices_Concat_bool_bool.f k ls) (fun y => y = ls.flatten) := by
  have hg : ∀ i, (hi : i < ls.length) → rd_L2 ls (i : Int) = ls[i] := fun i hi => by
    unfold rd_L2
    rw [Int.toNat_natCast]
    exact getDin ls _ i hi
  have hf : ∀ i, (hi : i < ls.length) → (ls.take (i + 1)).flatten = (ls.take i).flatten ++ ls[i] := fun i hi => by
    rw [List.take_succ_eq_append_getElem hi, List.flatten_append]
    simp
  have hle : ∀ i, (ls.take i).flatten.length ≤ ls.flatten.length := fun i => by
    have h := congrArg List.flatten (List.take_append_drop i ls)
    rw [List.flatten_append] at h
    have := congrArg List.length h
    rw [List.length_append] at this
    omega
  have l1 : ∀ (d i : Nat), ls.length - i = d → i ≤ ls.length → Tot (fun k => slices_Concat_bool_bool.l1 k (ls.take i).flatten ls (ls.length : Int) (i : Int)) (fun y => y = ls.flatten) := by
    intro d
    induction d with
    | zero =>
      intro i hd hi
      refine Tot.up ?_
      simp only [slices_Concat_bool_bool.l1]
      exact Tot.neg (by omega) (Tot.some_ (by rw [List.take_of_length_le (by omega)]))
    | succ d ih =>
      intro i hd hi
      have hlt : i < ls.length := by omega
      have h1 := ih (i + 1) (by omega) (by omega)
      have h2 := hle (i + 1)
      rw [hf i hlt] at h1 h2
      rw [List.length_append] at h2
      refine Tot.up ?_
      simp only [slices_Concat_bool_bool.l1]
      rw [hg i hlt, w64 (n := (i : Int) + 1) (by omega) (by omega)]
      exact Tot.pos (by omega) (Tot.pos (by omega) (Tot.pos (by omega) (Tot.pos (by omega) h1)))
  have l0 : ∀ (d i : Nat), ls.length - i = d → i ≤ ls.length → Tot (fun k => slices_Concat_bool_bool.l0 k ls ((ls.take i).flatten.length : Int) ls (ls.length : Int) (i : Int)) (fun y => y = ls.flatten) := by
    intro d
    induction d with
    | zero =>
      intro i hd hi
      have h2 := hle i
      refine Tot.up ?_
      simp only [slices_Concat_bool_bool.l0]
      refine Tot.neg (by omega) (Tot.bind (Q := fun z => z = []) (Tot.fix ⟨[], ?_, rfl⟩) (fun z hz => ?_))
      · unfold slices_Grow_bool_bool.f
        exact if_pos ⟨rfl, by omega, by omega⟩
      · subst hz
        exact l1 ls.length 0 (by omega) (by omega)
    | succ d ih =>
      intro i hd hi
      have hlt : i < ls.length := by omega
      have h1 := ih (i + 1) (by omega) (by omega)
      have h2 := hle (i + 1)
      rw [hf i hlt, List.length_append] at h1 h2
      refine Tot.up ?_
      simp only [slices_Concat_bool_bool.l0]
      rw [hg i hlt, w64 (n := (i : Int) + 1) (by omega) (by omega), w64 (n := ((ls.take i).flatten.length : Int) + (ls[i].length : Int)) (by omega) (by omega), show ((ls.take i).flatten.length : Int) + (ls[i].length : Int) = (((ls.take i).flatten.length + ls[i].length : Nat) : Int) by omega]
      exact Tot.pos (by omega) (Tot.pos (by omega) (Tot.pos (by omega) (Tot.neg (by omega) h1)))
  simp only [slices_Concat_bool_bool.f]
  exact l0 ls.length 0 (by omega) (by omega)
/-- Settings that an order has. -/
inductive Bn : Nat → List Int → List Bool → Prop
  | one (p : List Int) (h1 : p.length = 1) : Bn 1 p []
  | two (p : List Int) (h1 : p.length = 2) : Bn 2 p [rd p 0 == 1]
  | more (h : Nat) (p r : List Int) (P B : Nat → Nat) (y1 y2 : List Bool) (o : Od h p r P B) (b1 : Bn h (upV h P B) y1) (b2 : Bn h (dnV h P B) y2) : Bn (2 * h) p (entV h P B ++ y1 ++ y2 ++ exiV h P B)
def cntR (n : Nat) : Nat := if n = 8 then 20 else if n = 4 then 6 else if n = 2 then 1 else 0
def RouteOk (n : Nat) : Prop := ∀ p : List Int, p.length = n → Ord p → ∃ y : List Bool, y.length = cntR n ∧ Bn n p y ∧ Tot (fun k => spec_l9Route.f k p) (fun z => z = y) ∧ Tot (fun k => impl_route.f k p) (fun z => z = y)
theorem rt_one : RouteOk 1 := by
  intro p hp ho
  refine ⟨[], rfl, Bn.one p hp, Tot.up ?_, Tot.up ?_⟩
  · simp only [spec_l9Route.f]
    exact Tot.pos (by omega) (Tot.some_ rfl)
  · simp only [impl_route.f]
    exact Tot.pos (by omega) (Tot.some_ rfl)
theorem rt_two : RouteOk 2 := by
  intro p hp ho
  refine ⟨[rd p 0 == 1], rfl, Bn.two p hp, Tot.up ?_, Tot.up ?_⟩
  · simp only [spec_l9Route.f]
    exact Tot.neg (by omega) (Tot.pos (by omega) (Tot.pos (by omega) (Tot.some_ rfl)))
  · simp only [impl_route.f]
    exact Tot.neg (by omega) (Tot.pos (by omega) (Tot.pos (by omega) (Tot.some_ rfl)))
theorem od_of (h : Nat) (p r : List Int) (hp : p.length = 2 * h) (ho : Ord p) (hb : BackOk p r) : Od h p r (fnO p) (fnO r) := by
  have pp := fnO_perm p ho
  rw [hp] at pp
  have hr := hb.1
  have bp : ∀ j, j < 2 * h → fnO r (fnO p j) = j := fun j hj => by
    have := hb.2 j (by omega)
    unfold fnO at this ⊢
    omega
  have ex : ∀ j, j < 2 * h → ∃ i, i < 2 * h ∧ fnO p i = j := pp.2.2
  have bl : ∀ j, j < 2 * h → fnO r j < 2 * h := fun j hj => by
    obtain ⟨i, hi, e⟩ := ex j hj
    rw [← e, bp i hi]
    exact hi
  refine ⟨⟨by omega, pp.1, bl, fun j hj => ?_, bp⟩, hp, by omega, fun j hj => (fnO_cast p ho.2 j (by omega)).1, fun j hj => ?_⟩
  · obtain ⟨i, hi, e⟩ := ex j hj
    rw [← e, bp i hi]
  · obtain ⟨i, hi, e⟩ := ex j hj
    have h1 := hb.2 i (by omega)
    rw [e] at h1
    have h2 := bp i hi
    rw [e] at h2
    rw [h1, h2]
theorem half_ord {h : Nat} {P B : Nat → Nat} (hp : Pm (2 * h) P B) : (Ord (upV h P B) ∧ (upV h P B).length = h) ∧ (Ord (dnV h P B) ∧ (dnV h P B).length = h) := by
  have f2 : ∀ m, fl (2 * m) = 2 * m + 1 := fun m => by unfold fl; split <;> omega
  have key : ∀ (s : Nat → Nat) (b : Bool), (∀ m, m < h → (s m < 2 * h ∧ low (2 * h) P B (s m) = b ∧ s m / 2 = m)) → Ord ((List.range h).map fun m => ((P (s m) / 2 : Nat) : Int)) := by
    intro s b hs
    refine ⟨?_, fun x hx => ?_⟩
    · rw [List.nodup_iff_pairwise_ne, List.pairwise_map]
      refine List.Pairwise.imp_of_mem (fun {a c} ha hc hne e => hne ?_) (List.nodup_iff_pairwise_ne.1 List.nodup_range)
      have h1 := hs a (List.mem_range.1 ha)
      have h2 := hs c (List.mem_range.1 hc)
      have e2 : P (s a) / 2 = P (s c) / 2 := by omega
      rcases fl_of e2 with e3 | e3
      · have : s a = s c := by rw [← hp.bp _ h1.1, e3, hp.bp _ h2.1]
        rw [← h1.2.2, this, h2.2.2]
      · have e4 : s a = ta P B (s c) := by rw [← hp.bp _ h1.1, e3]; rfl
        have h3 := low_ta hp h2.1
        rw [← e4, h1.2.1, h2.2.1] at h3
        cases b <;> cases h3
    · rw [List.mem_map] at hx
      obtain ⟨m, hm, rfl⟩ := hx
      have h1 := hs m (List.mem_range.1 hm)
      have h2 := hp.pl _ h1.1
      rw [List.length_map, List.length_range]
      omega
  refine ⟨⟨key _ false (fun m hm => ?_), by simp [upV]⟩, ⟨key _ true (fun m hm => ?_), by simp [dnV]⟩⟩
  · have h1 := low_fl hp (show 2 * m < 2 * h by omega)
    rw [f2] at h1
    by_cases c : low (2 * h) P B (2 * m) = true
    · rw [if_pos c, h1, c]
      exact ⟨by omega, rfl, by omega⟩
    · rw [if_neg c]
      exact ⟨by omega, by simpa using c, by omega⟩
  · have h1 := low_fl hp (show 2 * m < 2 * h by omega)
    rw [f2] at h1
    by_cases c : low (2 * h) P B (2 * m) = true
    · rw [if_pos c]
      exact ⟨by omega, c, by omega⟩
    · rw [Bool.not_eq_true] at c
      rw [if_neg (by rw [c]; simp), h1, c]
      exact ⟨by omega, rfl, by omega⟩
theorem rep_int (m j : Nat) : (List.replicate m (0 : Int)).getD j 0 = 0 := by
  rw [List.getD_eq_getElem?_getD, List.getElem?_replicate]
  split <;> rfl
theorem rt_more (h : Nat) (hh : h = 2 ∨ h = 4) (hr : RouteOk h) : RouteOk (2 * h) := by
  intro p hp ho
  have h4 : h ≤ 4 ∧ 2 ≤ h := by omega
  obtain ⟨r, hb, hbk⟩ := back_val p (by omega) ho p.length 0 (List.replicate p.length 0) (by omega) (by omega) (by simp) (fun j hj => by omega)
  have o := od_of h p r hp ho hb
  generalize fnO p = P at o
  generalize fnO r = B at o
  obtain ⟨⟨u1, u2⟩, d1, d2⟩ := half_ord o.pm
  obtain ⟨y1, a1, a2, a3, a4⟩ := hr _ u2 u1
  obtain ⟨y2, c1, c2, c3, c4⟩ := hr _ d2 d1
  have le : (entV h P B).length = h := by simp [entV]
  have lx : (exiV h P B).length = h := by simp [exiV]
  have hcn : cntR h ≤ 6 ∧ cntR (2 * h) = 2 * h + 2 * cntR h := by
    rcases hh with rfl | rfl <;> decide
  refine ⟨entV h P B ++ y1 ++ y2 ++ exiV h P B, by simp only [List.length_append]; omega, Bn.more h p r P B y1 y2 o a2 c2, Tot.up ?_, Tot.up ?_⟩
  · simp only [spec_l9Route.f]
    have hhf : Tot (fun k => spec_l9Halves.f k p) (fun z => z = (st (2 * h) P B (2 * h)).2) := by
      simp only [spec_l9Halves.f]
      refine Tot.bind (Q := fun z => z = r) (Tot.at_ (p.length + 1) rfl (fun k hk => ?_)) (fun z hz => ?_)
      · unfold spec_l9Back.f
        rw [if_pos (by omega), if_pos (by omega)]
        exact (hbk k (by omega)).1
      · subst hz
        rw [hp, Int.toNat_natCast]
        exact Tot.pos (by omega) (Tot.pos (by omega) (halves_l0 h4.1 o (2 * h) 0 (by omega) (by omega)))
    rw [hp, show ((2 * h : Nat) : Int) / 2 = (h : Int) by omega, wnat h (by omega), Int.toNat_natCast]
    refine Tot.neg (by omega) (Tot.neg (by omega) (Tot.bind hhf (fun z hz => ?_)))
    subst hz
    refine Tot.pos (by omega) (Tot.pos (by omega) (Tot.pos (by omega) ?_))
    refine set_tot h4.1 o _ (fun en ex up dn w => ?_) (2 * h) 0 _ _ _ _ (by omega) (by omega) ⟨by simp, by simp, by simp, by simp, fun j hj => by omega, fun j hj => by omega, fun j hj => by omega, fun j hj => by omega⟩
    obtain ⟨e1, e2, e3, e4⟩ := w.fin o.pm
    subst e1 e2 e3 e4
    refine Tot.up ?_
    simp only [spec_l9Route.l0]
    refine Tot.neg (by omega) (Tot.bind (Tot.some_ (Q := fun z => z = ([] : List Bool)) rfl) (fun z1 hz1 => ?_))
    subst hz1
    refine Tot.pos (by simp only [List.length_nil]; omega) (Tot.bind (Tot.some_ (Q := fun z => z = entV h P B) (List.nil_append _)) (fun z2 hz2 => ?_))
    subst hz2
    refine Tot.bind a3 (fun z3 hz3 => ?_)
    subst hz3
    refine Tot.pos (by omega) (Tot.bind (Tot.some_ rfl) (fun z4 hz4 => ?_))
    subst hz4
    refine Tot.bind c3 (fun z5 hz5 => ?_)
    subst hz5
    refine Tot.pos (by simp only [List.length_append]; omega) (Tot.bind (Tot.some_ rfl) (fun z6 hz6 => ?_))
    subst hz6
    exact Tot.pos (by simp only [List.length_append]; omega) (Tot.some_ rfl)
  · simp only [impl_route.f]
    rw [hp, show ((2 * h : Nat) : Int) / 2 = (h : Int) by omega, wnat h (by omega), Int.toNat_natCast, Int.toNat_natCast]
    refine Tot.neg (by omega) (Tot.neg (by omega) (Tot.pos (by omega) (Tot.pos (by omega) (Tot.pos (by omega) (Tot.pos (by omega) (Tot.pos (by omega) (Tot.bind (Q := fun z => z = r) (Tot.at_ (p.length + 1) rfl (fun k hk => ?_)) (fun z hz => ?_))))))))
    · unfold impl_back.f
      rw [if_pos (by omega), if_pos (by omega)]
      exact (hbk k (by omega)).2
    · subst hz
      refine route_l0 h4.1 o _ (fun en ex up dn w => ?_) (2 * h) 0 _ _ _ _ (by omega) (by omega) ⟨by simp, by simp, by simp, by simp, (fun j hj h1 => by simp only [st] at h1; rw [rep_get] at h1; cases h1), (fun j hj h1 => by simp only [st] at h1; rw [rep_get] at h1; cases h1)⟩
      obtain ⟨e1, e2, e3, e4⟩ := w.fin o.pm
      subst e1 e2 e3 e4
      refine Tot.up ?_
      simp only [impl_route.l0]
      refine Tot.neg (by omega) (Tot.bind a4 (fun z3 hz3 => ?_))
      subst hz3
      refine Tot.bind c4 (fun z5 hz5 => ?_)
      subst hz5
      refine Tot.bind (concat_tot _ (by simp) ?_) (fun z6 hz6 => Tot.some_ ?_)
      · simp only [List.flatten_cons, List.flatten_nil, List.length_append, List.length_nil]
        omega
      · rw [hz6]
        simp only [List.flatten_cons, List.flatten_nil, List.append_nil, List.append_assoc]
theorem rt_all (n : Nat) (hn : n = 1 ∨ n = 2 ∨ n = 4 ∨ n = 8) : RouteOk n := by
  rcases hn with rfl | rfl | rfl | rfl
  · exact rt_one
  · exact rt_two
  · exact rt_more 2 (.inl rfl) rt_two
  · exact rt_more 4 (.inr rfl) (rt_more 2 (.inl rfl) rt_two)
def prtN (n : Nat) : Bool := decide (n = 1 ∨ n = 2 ∨ n = 4 ∨ n = 8)
theorem ports_eq (n : Nat) : spec_l9Ports.f (n : Int) = some (prtN n) ∧ impl_arePorts.f (n : Int) = some (prtN n) := by
  unfold spec_l9Ports.f impl_arePorts.f prtN
  by_cases h1 : n = 1
  · subst h1
    exact ⟨rfl, rfl⟩
  by_cases h2 : n = 2
  · subst h2
    exact ⟨rfl, rfl⟩
  by_cases h4 : n = 4
  · subst h4
    exact ⟨rfl, rfl⟩
  rw [if_neg (by omega), if_neg (by omega), if_neg (by omega)]
  have : ((n : Int) == 8) = decide (n = 1 ∨ n = 2 ∨ n = 4 ∨ n = 8) := by
    by_cases h8 : n = 8
    · subst h8
      rfl
    · rw [decide_eq_false (by omega)]
      exact beq_eq_false_iff_ne.2 (by omega)
  rw [this]
  exact ⟨rfl, rfl⟩
theorem routes_same (p : List Int) (hl : p.length ≤ 1048576) : ∃ r : List Bool × Bool, r.1.length ≤ 20 ∧ r.2 = (isOrd p && prtN p.length) ∧ (r.2 = true → r.1.length = cntR p.length ∧ Bn p.length p r.1) ∧ Tot (fun k => spec_RouteOrder.f k p) (fun z => z = r) ∧ Tot (fun k => impl_RouteOrder.f k p) (fun z => z = r) := by
  simp only [spec_RouteOrder.f, impl_RouteOrder.f, (ports_eq p.length).1, (ports_eq p.length).2]
  by_cases h : isOrd p = true
  · by_cases hn : prtN p.length = true
    · have hn2 : p.length = 1 ∨ p.length = 2 ∨ p.length = 4 ∨ p.length = 8 := of_decide_eq_true hn
      obtain ⟨y, y1, y2, y3, y4⟩ := rt_all p.length hn2 p rfl (isOrd_iff.1 h).2
      have hc : cntR p.length ≤ 20 := by
        rcases hn2 with e | e | e | e <;> rw [e] <;> decide
      refine ⟨(y, true), by simp only; omega, by rw [h, hn]; rfl, fun _ => ⟨y1, y2⟩, ?_, ?_⟩
      · exact Tot.bind (specOrd_tot p hl) (fun z hz => Tot.pos (hz.trans h) (Tot.bind (Tot.some_ rfl) (fun b hb => Tot.pos (by rw [← hb]; exact hn) (Tot.bind y3 (fun t ht => Tot.some_ (by rw [ht]))))))
      · exact Tot.bind (implOrd_tot p hl) (fun z hz => Tot.pos (hz.trans h) (Tot.bind (Tot.some_ rfl) (fun b hb => Tot.pos (by rw [← hb]; exact hn) (Tot.bind y4 (fun t ht => Tot.some_ (by rw [ht]))))))
    · refine ⟨([], false), by simp, by rw [Bool.not_eq_true] at hn; rw [hn]; simp, (fun h2 => by cases h2), ?_, ?_⟩
      · exact Tot.bind (specOrd_tot p hl) (fun z hz => Tot.pos (hz.trans h) (Tot.bind (Tot.some_ rfl) (fun b hb => Tot.neg (by rw [← hb]; exact hn) (Tot.some_ rfl))))
      · exact Tot.bind (implOrd_tot p hl) (fun z hz => Tot.pos (hz.trans h) (Tot.bind (Tot.some_ rfl) (fun b hb => Tot.neg (by rw [← hb]; exact hn) (Tot.some_ rfl))))
  · refine ⟨([], false), by simp, by rw [Bool.not_eq_true] at h; rw [h]; rfl, (fun h2 => by cases h2), ?_, ?_⟩
    · exact Tot.bind (specOrd_tot p hl) (fun z hz => Tot.neg (by rw [hz]; exact h) (Tot.some_ rfl))
    · exact Tot.bind (implOrd_tot p hl) (fun z hz => Tot.neg (by rw [hz]; exact h) (Tot.some_ rfl))

theorem toIntS_l0 (l : List Int) (hl : l.length ≤ 1048576) : ∀ (d k i : Nat) (out : List Int), l.length - i = d → d < k → i ≤ l.length → out.length = l.length → out.take i = l.take i → laws_toIntS.l0 k l out (i : Int) = some l := by
  intro d
  induction d with
  | zero =>
    intro k i out hd hk hi ho ht
    obtain ⟨k, rfl⟩ := rounds hk
    simp only [laws_toIntS.l0]
    rw [if_neg (by omega), take_all out l i ht (by omega) (by omega)]
  | succ d ih =>
    intro k i out hd hk hi ho ht
    obtain ⟨k, rfl⟩ := rounds hk
    simp only [laws_toIntS.l0]
    rw [if_pos (by omega), if_pos (by omega), if_pos (by omega), w64 (by omega) (by omega), Int.toNat_natCast, rd_in l i (by omega)]
    exact ih k (i + 1) _ (by omega) (by omega) (by omega) (by rw [List.length_set]; exact ho) (take_set out l i _ ht (by omega) (by omega) rfl)

theorem toIntS_eq (l : List Int) (hl : l.length ≤ 1048576) (k : Nat) (hk : l.length < k) : laws_toIntS.f k l = some l := by
  unfold laws_toIntS.f
  rw [if_pos (by omega), if_pos (by omega)]
  exact toIntS_l0 l hl l.length k 0 _ (by omega) hk (by omega) (by simp) (by simp)

theorem eqIntS_l0 (l : List Int) (hl : l.length ≤ 1048576) : ∀ (d k i : Nat), l.length - i = d → d < k → laws_eqIntS.l0 k l l (i : Int) = some true := by
  intro d
  induction d with
  | zero =>
    intro k i hd hk
    obtain ⟨k, rfl⟩ := rounds hk
    simp only [laws_eqIntS.l0]
    rw [if_neg (by omega)]
  | succ d ih =>
    intro k i hd hk
    obtain ⟨k, rfl⟩ := rounds hk
    simp only [laws_eqIntS.l0]
    rw [if_pos (by omega), if_pos (by omega), if_pos (by omega), if_pos trivial, w64 (by omega) (by omega)]
    exact ih k (i + 1) (by omega) (by omega)

theorem eqIntS_self (l : List Int) (hl : l.length ≤ 1048576) (k : Nat) (hk : l.length < k) : laws_eqIntS.f k l l = some true := by
  unfold laws_eqIntS.f
  rw [if_pos rfl]
  exact eqIntS_l0 l hl l.length k 0 (by omega) hk

theorem toIntS_tot (l : List Int) (hl : l.length ≤ 1048576) : Tot (fun k => laws_toIntS.f k l) (fun y => y = l) := Tot.at_ (l.length + 1) rfl (fun k hk => toIntS_eq l hl k (by omega))
theorem eqIntS_tot (l : List Int) (hl : l.length ≤ 1048576) : Tot (fun k => laws_eqIntS.f k l l) (fun y => y = true) := Tot.at_ (l.length + 1) rfl (fun k hk => eqIntS_self l hl k (by omega))

theorem markIntS_l0 (n : Nat) (hn : n ≤ 1048576) (m : Int) (h0 : 0 ≤ m) (h1 : m ≤ 4294967296) : ∀ (d k i : Nat) (out : List Int), n - i = d → d < k → i ≤ n → out.length = n → out.take i = (ups m n).take i → laws_markIntS.l0 k out (m + (i : Int)) (i : Int) = some (m + (n : Int), ups m n) := by
  intro d
  induction d with
  | zero =>
    intro k i out hd hk hi ho ht
    obtain ⟨k, rfl⟩ := rounds hk
    simp only [laws_markIntS.l0]
    rw [if_neg (by omega), take_all out (ups m n) i ht (by omega) (by rw [ups_length]; omega), show i = n by omega]
  | succ d ih =>
    intro k i out hd hk hi ho ht
    obtain ⟨k, rfl⟩ := rounds hk
    simp only [laws_markIntS.l0]
    rw [if_pos (by omega), if_pos (by omega), w64 (n := (i : Int) + 1) (by omega) (by omega), w64 (n := m + (i : Int) + 1) (by omega) (by omega), Int.toNat_natCast]
    rw [show m + (i : Int) + 1 = m + ((i + 1 : Nat) : Int) by omega]
    exact ih k (i + 1) _ (by omega) (by omega) (by omega) (by rw [List.length_set]; exact ho) (take_set out (ups m n) i _ ht (by omega) (by rw [ups_length]; omega) (ups_get m n i (by omega)).symm)

theorem markIntS_eq (l : List Int) (hl : l.length ≤ 1048576) (m : Int) (h0 : 0 ≤ m) (h1 : m ≤ 4294967296) (k : Nat) (hk : l.length < k) : laws_markIntS.f k l m = some (m + (l.length : Int), ups m l.length) := by
  have h := markIntS_l0 l.length hl m h0 h1 l.length k 0 l (by omega) hk (by omega) rfl (by simp)
  unfold laws_markIntS.f
  simpa using h

def bz (m : Int) : Bool := Int.tmod m 3 == 0
def mbs (m : Int) (n : Nat) : List Bool := (List.range n).map fun (i : Nat) => bz (m + (i : Int))
theorem mbs_length (m : Int) (n : Nat) : (mbs m n).length = n := by simp [mbs]
theorem mbs_get (m : Int) (n i : Nat) (h : i < n) (d : Bool) : (mbs m n).getD i d = bz (m + (i : Int)) := by
  rw [getDin _ d i (by rw [mbs_length]; exact h)]
  simp [mbs]
theorem rdB (l : List Bool) (i : Nat) (d : Bool) : rdOf d l (i : Int) = l.getD i d := by
  unfold rdOf
  rw [Int.toNat_natCast]
theorem eqBoolS_tot (l : List Bool) (hl : l.length ≤ 1048576) : Tot (fun k => laws_eqBoolS.f k l l) (fun y => y = true) := by
  have h := fun k hk => loop_up (fun k (x : Int) => laws_eqBoolS.l0 k l l x) l.length 0 (fun i => (i : Int)) true (fun i k hi _ => by
    simp only [laws_eqBoolS.l0, bne_self_eq_false]
    rw [if_pos (by omega), if_pos (by omega), if_pos (by omega), if_neg (by simp), w64 (by omega) (by omega)]
    rfl) (fun k _ => by
    simp only [laws_eqBoolS.l0]
    rw [if_neg (by omega)]) k hk
  simp only [laws_eqBoolS.f]
  exact Tot.pos trivial (Tot.at_ (l.length + 1) rfl (fun k hk => h k (by omega)))
theorem markBoolS_tot (l : List Bool) (hl : l.length ≤ 1048576) (m : Int) (h0 : 0 ≤ m) (h1 : m ≤ 4294967296) : Tot (fun k => laws_markBoolS.f k l m) (fun y => y = (m + (l.length : Int), mbs m l.length)) := by
  have hz := mbs_length m l.length
  have h := fun k hk => loop_up (fun k (x : List Bool × Int × Int) => laws_markBoolS.l0 k x.1 x.2.1 x.2.2) l.length 0 (fun i => (mixed (mbs m l.length) l i, m + (i : Int), (i : Int))) (m + (l.length : Int), mbs m l.length) (fun i k hi _ => by
    have e2 := mixed_length (mbs m l.length) l i hz
    have e3 := mixed_set (mbs m l.length) l i (bz (m + (i : Int))) hz hi (mbs_get m l.length i hi _)
    simp only [laws_markBoolS.l0, Int.toNat_natCast]
    rw [if_pos (by rw [e2]; omega), if_pos (by omega), w64 (n := m + (i : Int) + 1) (by omega) (by omega), w64 (n := (i : Int) + 1) (by omega) (by omega)]
    unfold bz at e3
    rw [e3, show m + (i : Int) + 1 = m + ((i + 1 : Nat) : Int) by omega]
    rfl) (fun k _ => by
    simp only [laws_markBoolS.l0]
    rw [if_neg (by rw [mixed_length _ _ _ hz]; omega), mixed_end _ _ _ (by omega) (by omega)]) k hk
  rw [mixed_zero] at h
  simp only [laws_markBoolS.f]
  refine Tot.at_ (l.length + 1) rfl (fun k hk => ?_)
  have h2 := h k (by omega)
  simpa using h2

theorem heldBoolS_tot (n : Nat) (hn : n ≤ 1048576) (m : Int) (h0 : 0 ≤ m) (h1 : m ≤ 4294967296) : Tot (fun k => laws_heldBoolS.f k (mbs m n) m) (fun y => y = m + (n : Int)) := by
  have hz := mbs_length m n
  have h := fun k hk => loop_up (fun k (x : Int × Int) => laws_heldBoolS.l0 k (mbs m n) x.1 x.2) n 0 (fun i => (m + (i : Int), (i : Int))) (m + (n : Int)) (fun i k hi _ => by
    simp only [laws_heldBoolS.l0]
    rw [if_pos (by omega), if_pos (by omega), rdB, mbs_get m n i hi, show (bz (m + (i : Int)) != (Int.tmod (m + (i : Int)) 3 == 0)) = false by unfold bz; simp, if_neg (by simp), w64 (n := m + (i : Int) + 1) (by omega) (by omega), w64 (n := (i : Int) + 1) (by omega) (by omega), show m + (i : Int) + 1 = m + ((i + 1 : Nat) : Int) by omega]
    rfl) (fun k _ => by
    simp only [laws_heldBoolS.l0]
    rw [if_neg (by omega)]) k hk
  simp only [laws_heldBoolS.f]
  refine Tot.at_ (n + 1) rfl (fun k hk => ?_)
  have h2 := h k (by omega)
  simpa using h2

theorem markIntS_tot (l : List Int) (hl : l.length ≤ 1048576) (m : Int) (h0 : 0 ≤ m) (h1 : m ≤ 4294967296) : Tot (fun k => laws_markIntS.f k l m) (fun y => y = (m + (l.length : Int), ups m l.length)) := Tot.at_ (l.length + 1) rfl (fun k hk => markIntS_eq l hl m h0 h1 k (by omega))
theorem FnExactRouteOrder : laws_FnExactRouteOrder.Pure := by
  intro l _ _ _
  refine Tot.ex ?_
  simp only [laws_FnExactRouteOrder.f]
  by_cases c0 : (l.length : Int) > 1048576
  · exact Tot.pos c0 (Tot.some_ rfl)
  refine Tot.neg c0 ?_
  obtain ⟨r, r1, _, _, r2, r3⟩ := routes_same l (by omega)
  have ti : Tot (fun k => laws_toIntS.f k l) (fun y => y = l) := toIntS_tot l (by omega)
  refine Tot.bind ti (fun y e => ?_)
  subst e
  refine Tot.bind r2 (fun y1 e1 => ?_)
  refine Tot.bind ti (fun y e => ?_)
  rw [e]
  refine Tot.bind r3 (fun y2 e2 => ?_)
  rw [e1, e2]
  refine Tot.bind (eqBoolS_tot r.1 (by omega)) (fun y e => Tot.pos e (Tot.neg (by simp) ?_))
  refine Tot.bind ti (fun y e => ?_)
  rw [e]
  refine Tot.bind (eqIntS_tot _ (by omega)) (fun y e => Tot.pos e ?_)
  refine Tot.bind (markIntS_tot _ (by omega) 1 (by omega) (by omega)) (fun y e => ?_)
  rw [e]
  refine Tot.neg (by simp only; omega) ?_
  refine Tot.bind (eqBoolS_tot r.1 (by omega)) (fun y e => Tot.pos e ?_)
  refine Tot.bind (markBoolS_tot r.1 (by omega) 1 (by omega) (by omega)) (fun y e => ?_)
  rw [e]
  refine Tot.bind (heldBoolS_tot r.1.length (by omega) 1 (by omega) (by omega)) (fun y e => ?_)
  rw [e]
  refine Tot.neg (by omega) (Tot.pos rfl ?_)
  refine Tot.bind ti (fun y e => ?_)
  rw [e]
  refine Tot.bind r3 (fun y3 e3 => ?_)
  rw [e3]
  refine Tot.bind (eqBoolS_tot r.1 (by omega)) (fun y e => Tot.pos e (Tot.neg (by simp) ?_))
  refine Tot.bind (heldBoolS_tot r.1.length (by omega) 1 (by omega) (by omega)) (fun y e => ?_)
  rw [e]
  exact Tot.neg (by omega) (Tot.pos rfl (Tot.some_ rfl))

end Go.Proofs.Ytlhcibfliapbpaa.Pure
