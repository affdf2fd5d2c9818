/- Proved: WaitFor of the program and of the reference answer alike at all arguments. Conditions: those of the given statement alone. -/
import Derived.Test.YtdiehchbbhlfgaaPFnExactWaitForx3
import Derived.Test.YtdiehchbbhlfgaaBase
set_option linter.unusedVariables false
set_option linter.unusedSimpArgs false
namespace Go.Proofs.Ytdiehchbbhlfgaa.Pure
open Go.RowKit Go.Proofs.Ytdiehchbbhlfgaa.PFnExactWaitFor Go.Proofs.Ytdiehchbbhlfgaa.Base Go.Proofs.YtdiehchbbhlfgaaW.PrintWords Go.Proofs.YtdiehchbbhlfgaaW.PrintLast Go.Proofs.YtdiehchbbhlfgaaW.PrintMore

theorem rdStr (l : List ByteArray) (i : Nat) (h : i < l.length) : rdOf ByteArray.empty l (i : Int) = l[i] := by
  unfold rdOf
  rw [Int.toNat_natCast]
  exact getD_in l _ i h

theorem toStringS_tot (l : List ByteArray) (hl : l.length ≤ 1048576) : Tot (fun k => laws_toStringS.f k l) (fun y => y = l) := by
  have hz : (List.replicate l.length (⟨#[]⟩ : ByteArray)).length = l.length := by simp
  have h := fun k hk => loop_up (fun k (x : List ByteArray × Int) => laws_toStringS.l0 k l x.1 x.2) l.length 0 (fun i => (mixed l (List.replicate l.length (⟨#[]⟩ : ByteArray)) i, (i : Int))) l (fun i k hi _ => by
    have e2 := mixed_length l (List.replicate l.length (⟨#[]⟩ : ByteArray)) i hz.symm
    have e3 := mixed_set l (List.replicate l.length (⟨#[]⟩ : ByteArray)) i l[i] hz.symm (by omega) (getD_in l _ i hi)
    simp only [laws_toStringS.l0, Int.toNat_natCast]
    rw [if_pos (by omega), if_pos (by omega), if_pos (by rw [e2, hz]; omega), w64 (by omega) (by omega), rdStr l i hi, e3]
    rfl) (fun k _ => by
    simp only [laws_toStringS.l0]
    rw [if_neg (by omega), mixed_end _ _ _ (by omega) (by rw [hz]; omega)]) k hk
  rw [mixed_zero] at h
  simp only [laws_toStringS.f]
  refine Tot.pos (by omega) (Tot.pos (by omega) (Tot.at_ (l.length + 1) rfl (fun k hk => h k (by omega))))

theorem eqStringS_tot (l : List ByteArray) (hl : l.length ≤ 1048576) : Tot (fun k => laws_eqStringS.f k l l) (fun y => y = true) := by
  have h := fun k hk => loop_up (fun k (x : Int) => laws_eqStringS.l0 k l l x) l.length 0 (fun i => (i : Int)) true (fun i k hi _ => by
    simp only [laws_eqStringS.l0]
    rw [if_pos (by omega), if_pos (by omega), if_pos (by omega), if_pos trivial, w64 (by omega) (by omega)]
    rfl) (fun k _ => by
    simp only [laws_eqStringS.l0]
    rw [if_neg (by omega)]) k hk
  simp only [laws_eqStringS.f]
  exact Tot.pos trivial (Tot.at_ (l.length + 1) rfl (fun k hk => h k (by omega)))

/-- What the texts weigh together. -/
def weight (l : List ByteArray) : Nat := (l.map fun x => x.size).sum
theorem szStringS_tot (l : List ByteArray) (hl : l.length ≤ maxLen) (hs : ∀ x ∈ l, x.size ≤ maxLen) (a : Int) (ha : 0 ≤ a ∧ a ≤ 1048576) : Tot (fun k => laws_szStringS.f k l a) (fun y => y ≤ a ∧ (0 ≤ y → y = a - (l.length : Int) - (weight l : Int)) ∧ -1 ≤ y) := by
  have hmx : maxLen = 9223372036854775807 := rfl
  have key : ∀ (d i : Nat) (b : Int), l.length - i = d → i ≤ l.length → 0 ≤ b ∧ b ≤ 1048576 → l.length ≤ 1048576 → Tot (fun k => laws_szStringS.l0 k l b (i : Int)) (fun y => y ≤ b ∧ (0 ≤ y → y = b - (weight (l.drop i) : Int)) ∧ -1 ≤ y) := by
    intro d
    induction d with
    | zero =>
      intro i b hd hi hb hll
      refine Tot.up ?_
      simp only [laws_szStringS.l0]
      refine Tot.neg (by omega) (Tot.some_ ?_)
      rw [List.drop_of_length_le (by omega)]
      simp [weight]
      omega
    | succ d ih =>
      intro i b hd hi hb hll
      have hlt : i < l.length := by omega
      have hx := hs _ (List.getElem_mem hlt)
      refine Tot.up ?_
      simp only [laws_szStringS.l0]
      refine Tot.pos (by omega) (Tot.pos (by omega) ?_)
      rw [rdStr l i hlt, w64 (n := b - (l[i].size : Int)) (by omega) (by omega), w64 (n := (i : Int) + 1) (by omega) (by omega)]
      refine Tot.ite (fun h => Tot.some_ ⟨by omega, fun h => by omega, by omega⟩) (fun h => ?_)
      refine (ih (i + 1) _ (by omega) (by omega) (by omega) hll).imp (fun y hy => ⟨by omega, fun h0 => ?_, hy.2.2⟩)
      rw [hy.2.1 h0, List.drop_eq_getElem_cons hlt]
      simp only [weight, List.map_cons, List.sum_cons]
      omega
  simp only [laws_szStringS.f]
  rw [w64 (n := a - (l.length : Int)) (by omega) (by omega)]
  refine Tot.ite (fun h => Tot.some_ ⟨by omega, fun h => by omega, by omega⟩) (fun h => ?_)
  refine (key l.length 0 _ (by omega) (by omega) (by omega) (by omega)).imp (fun y hy => ⟨by omega, fun h0 => ?_, hy.2.2⟩)
  rw [hy.2.1 h0, List.drop_zero]
theorem weight_le (l : List ByteArray) (x : ByteArray) (h : x ∈ l) : x.size ≤ weight l := by
  induction l with
  | nil => simp at h
  | cons a t ih =>
    simp only [weight, List.map_cons, List.sum_cons]
    rcases List.mem_cons.1 h with rfl | h
    · omega
    · have := ih h
      unfold weight at this
      omega

theorem toClient_tot (l : List ByteArray) (hl : l.length ≤ 1048576) (a b : Int) : Tot (fun k => laws_toClient.f k l a b) (fun y => y = (l, a, b)) := by
  simp only [laws_toClient.f]
  exact Tot.bind (toStringS_tot l hl) (fun y e => Tot.some_ (by rw [e]))
theorem eqClient_tot (l : List ByteArray) (hl : l.length ≤ 1048576) (a b : Int) : Tot (fun k => laws_eqClient.f k l a b l a b) (fun y => y = true) := by
  simp only [laws_eqClient.f]
  exact Tot.bind (eqStringS_tot l hl) (fun y e => Tot.pos e (Tot.pos trivial (Tot.pos trivial (Tot.some_ rfl))))
theorem szClient_tot (l : List ByteArray) (hl : l.length ≤ maxLen) (hs : ∀ x ∈ l, x.size ≤ maxLen) (a b : Int) : Tot (fun k => laws_szClient.f k l a b 1048576) (fun y => 0 ≤ y → y = 1048576 - (l.length : Int) - (weight l : Int)) := by
  simp only [laws_szClient.f]
  exact Tot.bind (szStringS_tot l hl hs 1048576 (by omega)) (fun y hy => Tot.ite (fun h => Tot.some_ (fun h2 => by omega)) (fun h => Tot.some_ hy.2.1))

theorem l1In_eq (a b c : Int) : spec_l1In.f a b c = some (decide (b ≤ a ∧ a ≤ c)) := by
  unfold spec_l1In.f
  by_cases h : a ≥ b
  · rw [if_pos h]
    congr 1
    exact decide_eq_decide.2 ⟨fun h1 => ⟨h, h1⟩, fun h1 => h1.2⟩
  · rw [if_neg h, decide_eq_false (fun h1 => h h1.1)]

theorem within_eq (a b c : Int) : impl_within.f a b c = some (decide (b ≤ a ∧ a ≤ c)) := by
  unfold impl_within.f
  by_cases h : a ≥ b
  · rw [if_pos h]
    congr 1
    exact decide_eq_decide.2 ⟨fun h1 => ⟨h, h1⟩, fun h1 => h1.2⟩
  · rw [if_neg h, decide_eq_false (fun h1 => h h1.1)]

def goodC (l : List ByteArray) (a b : Int) : Bool := decide ((l.length ≤ 5 ∧ ∀ x ∈ l, x.size ≤ 15) ∧ (0 ≤ a ∧ a ≤ 1000) ∧ (1 ≤ b ∧ b ≤ 4))
theorem specGood_tot (l : List ByteArray) (hl : l.length ≤ 1048576) (a b : Int) : Tot (fun k => spec_GoodClient.f k l a b) (fun y => y = goodC l a b) := by
  have key : ∀ (d i : Nat), l.length - i = d → i ≤ l.length → (∀ x ∈ l.take i, x.size ≤ 15) → Tot (fun k => spec_GoodClient.l0 k l (l.length : Int) (i : Int) l a b) (fun y => y = goodC l a b) := by
    intro d
    induction d with
    | zero =>
      intro i hd hi ht
      rw [List.take_of_length_le (by omega)] at ht
      refine Tot.up ?_
      simp only [spec_GoodClient.l0, l1In_eq, Option.bind_some]
      refine Tot.neg (by omega) (Tot.ite (fun h => Tot.ite (fun h2 => Tot.some_ ?_) (fun h2 => Tot.some_ ?_)) (fun h => Tot.some_ ?_))
      · rw [decide_eq_true_iff] at h2
        unfold goodC
        exact decide_eq_decide.2 ⟨fun h3 => ⟨⟨by omega, ht⟩, h2, h3⟩, fun h3 => h3.2.2⟩
      · rw [decide_eq_true_iff] at h2
        exact (decide_eq_false (fun h3 => h2 h3.2.1)).symm
      · exact (decide_eq_false (fun h3 => h (by have := h3.1.1; omega))).symm
    | succ d ih =>
      intro i hd hi ht
      have hlt : i < l.length := by omega
      refine Tot.up ?_
      simp only [spec_GoodClient.l0, spec_l10Text.f, Option.bind_some]
      refine Tot.pos (by omega) (Tot.pos (by omega) (Tot.pos (by omega) ?_))
      rw [rdStr l i hlt, w64 (n := (i : Int) + 1) (by omega) (by omega)]
      refine Tot.ite (fun h => ?_) (fun h => Tot.some_ ?_)
      · rw [decide_eq_true_iff] at h
        refine ih (i + 1) (by omega) (by omega) (fun x hx => ?_)
        rw [List.take_succ_eq_append_getElem hlt, List.mem_append, List.mem_singleton] at hx
        rcases hx with hx | rfl
        · exact ht x hx
        · omega
      · rw [decide_eq_true_iff] at h
        exact (decide_eq_false (fun h3 => h (by have := h3.1.2 _ (List.getElem_mem hlt); omega))).symm
  exact key l.length 0 (by omega) (by omega) (by simp)
theorem implGood_tot (l : List ByteArray) (hl : l.length ≤ 1048576) (a b : Int) : Tot (fun k => impl_GoodClient.f k l a b) (fun y => y = goodC l a b) := by
  have key : ∀ (d i : Nat), l.length - i = d → i ≤ l.length → Tot (fun k => slices_IndexFunc_string_string.l0 k l (l.length : Int) (i : Int)) (fun y => y ≥ 0 ↔ ¬ ∀ x ∈ l.drop i, x.size ≤ 15) := by
    intro d
    induction d with
    | zero =>
      intro i hd hi
      refine Tot.up ?_
      simp only [slices_IndexFunc_string_string.l0]
      refine Tot.neg (by omega) (Tot.some_ ?_)
      rw [List.drop_of_length_le (by omega)]
      simp
    | succ d ih =>
      intro i hd hi
      have hlt : i < l.length := by omega
      refine Tot.up ?_
      simp only [slices_IndexFunc_string_string.l0, impl_GoodClient_1.f, impl_isSaid.f, Option.bind_some]
      refine Tot.pos (by omega) (Tot.pos (by omega) (Tot.pos (by omega) ?_))
      rw [rdStr l i hlt, w64 (n := (i : Int) + 1) (by omega) (by omega), List.drop_eq_getElem_cons hlt]
      refine Tot.ite (fun h => Tot.some_ ?_) (fun h => (ih (i + 1) (by omega) (by omega)).imp (fun y hy => ?_))
      · rw [Bool.not_eq_true', decide_eq_false_iff_not] at h
        simp only [List.mem_cons, forall_eq_or_imp]
        exact ⟨fun _ h3 => h (by have := h3.1; omega), fun _ => by omega⟩
      · rw [Bool.not_eq_true', decide_eq_false_iff_not] at h
        rw [hy]
        simp only [List.mem_cons, forall_eq_or_imp]
        exact not_congr ⟨fun h3 => ⟨by omega, h3⟩, fun h3 => h3.2⟩
  have h0 := key l.length 0 (by omega) (by omega)
  simp only [impl_GoodClient.f, slices_ContainsFunc_string_string.f, slices_IndexFunc_string_string.f, impl_areWays.f, within_eq, Option.bind_some]
  refine Tot.ite (fun h => ?_) (fun h => Tot.some_ ((decide_eq_false (fun h3 => h (by have := h3.1.1; omega))).symm))
  refine Tot.bind (Tot.bind (R := fun y => y = true ↔ ¬ ∀ x ∈ l, x.size ≤ 15) h0 (fun y hy => Tot.some_ ?_)) (fun y hy => ?_)
  · rw [decide_eq_true_iff, hy, List.drop_zero]
  · refine Tot.ite (fun h2 => Tot.some_ ?_) (fun h2 => ?_)
    · exact (decide_eq_false (fun h3 => (hy.1 h2) h3.1.2)).symm
    · have hall : ∀ x ∈ l, x.size ≤ 15 := Classical.byContradiction fun h3 => h2 (hy.2 h3)
      refine Tot.ite (fun h4 => Tot.some_ ?_) (fun h4 => Tot.some_ ?_)
      · rw [decide_eq_true_iff] at h4
        exact decide_eq_decide.2 ⟨fun h3 => ⟨⟨by omega, hall⟩, h4, h3⟩, fun h3 => h3.2.2⟩
      · rw [decide_eq_true_iff] at h4
        exact (decide_eq_false (fun h3 => h4 h3.2.1)).symm

/-- Where the text stands first, from i on. -/
def firstAt (t : ByteArray) : List ByteArray → Nat → Option Nat
  | [], _ => none
  | x :: l, i => if x.toList = t.toList then some i else firstAt t l (i + 1)
def waitV (l : List ByteArray) (a b : Int) (t : ByteArray) : Int × Bool := if goodC l a b = true then (match firstAt t l 0 with | some i => ((i : Int) + 1, true) | none => (0, false)) else (0, false)
theorem specWait_tot (l : List ByteArray) (hl : l.length ≤ 1048576) (t : ByteArray) : ∀ (d i : Nat), l.length - i = d → i ≤ l.length →
    Tot (fun k => spec_WaitFor.l0 k t l (l.length : Int) (i : Int)) (fun y => y = (match firstAt t (l.drop i) i with | some i => ((i : Int) + 1, true) | none => (0, false))) := by
  intro d
  induction d with
  | zero =>
    intro i hd hi
    refine Tot.up ?_
    simp only [spec_WaitFor.l0]
    refine Tot.neg (by omega) (Tot.some_ ?_)
    rw [List.drop_of_length_le (by omega)]
    rfl
  | succ d ih =>
    intro i hd hi
    have hlt : i < l.length := by omega
    refine Tot.up ?_
    simp only [spec_WaitFor.l0]
    refine Tot.pos (by omega) (Tot.pos (by omega) (Tot.pos (by omega) ?_))
    rw [rdStr l i hlt, w64 (n := (i : Int) + 1) (by omega) (by omega), List.drop_eq_getElem_cons hlt]
    refine Tot.ite (fun h => Tot.some_ ?_) (fun h => ?_)
    · simp only [firstAt, if_pos h]
    · simp only [firstAt, if_neg h]
      exact ih (i + 1) (by omega) (by omega)
theorem index_tot (l : List ByteArray) (hl : l.length ≤ 1048576) (t : ByteArray) : ∀ (d i : Nat), l.length - i = d → i ≤ l.length →
    Tot (fun k => slices_Index_string_string.l0 k l t (l.length : Int) (i : Int)) (fun y => y = (match firstAt t (l.drop i) i with | some i => (i : Int) | none => -1)) := by
  intro d
  induction d with
  | zero =>
    intro i hd hi
    refine Tot.up ?_
    simp only [slices_Index_string_string.l0]
    refine Tot.neg (by omega) (Tot.some_ ?_)
    rw [List.drop_of_length_le (by omega)]
    rfl
  | succ d ih =>
    intro i hd hi
    have hlt : i < l.length := by omega
    refine Tot.up ?_
    simp only [slices_Index_string_string.l0]
    refine Tot.pos (by omega) (Tot.pos (by omega) (Tot.pos (by omega) ?_))
    rw [rdStr l i hlt, w64 (n := (i : Int) + 1) (by omega) (by omega), List.drop_eq_getElem_cons hlt]
    refine Tot.ite (fun h => Tot.some_ ?_) (fun h => ?_)
    · simp only [firstAt, if_pos h.symm]
    · have h' : ¬ l[i].toList = t.toList := fun e => h e.symm
      simp only [firstAt, if_neg h']
      exact ih (i + 1) (by omega) (by omega)
theorem firstAt_lt (t : ByteArray) : ∀ (l : List ByteArray) (i j : Nat), firstAt t l i = some j → j < i + l.length := by
  intro l
  induction l with
  | nil => intro i j h; simp [firstAt] at h
  | cons x l ih =>
    intro i j h
    simp only [firstAt] at h
    simp only [List.length_cons]
    split at h
    · injection h with h
      omega
    · have := ih _ _ h
      omega
theorem FnExactWaitFor : laws_FnExactWaitFor.Pure := by
  intro l a b t hw _ _ _
  refine Tot.ex ?_
  simp only [laws_FnExactWaitFor.f]
  refine Tot.ite (fun _ => Tot.some_ rfl) (fun _ => ?_)
  refine Tot.bind (szClient_tot l hw.1 hw.2 a b) (fun y0 h0 => Tot.ite (fun _ => Tot.some_ rfl) (fun hy0 => ?_))
  have hsz := h0 (by omega)
  have hl : l.length ≤ 1048576 := by omega
  have hs : Tot (fun k => spec_WaitFor.f k l a b t) (fun y => y = waitV l a b t) := by
    simp only [spec_WaitFor.f]
    refine Tot.bind (specGood_tot l hl a b) (fun y e => ?_)
    rw [e]
    refine Tot.ite (fun h => ?_) (fun h => Tot.some_ ?_)
    · unfold waitV
      rw [if_pos h]
      exact specWait_tot l hl t l.length 0 (by omega) (by omega)
    · unfold waitV
      rw [if_neg h]
  have hi : Tot (fun k => impl_WaitFor.f k l a b t) (fun y => y = waitV l a b t) := by
    simp only [impl_WaitFor.f, slices_Index_string_string.f]
    have h3 := index_tot l hl t l.length 0 (by omega) (by omega)
    rw [List.drop_zero] at h3
    refine Tot.bind h3 (fun z ez => ?_)
    refine Tot.bind (implGood_tot l hl a b) (fun y e => ?_)
    rw [e]
    unfold waitV
    refine Tot.ite (fun h => ?_) (fun h => Tot.some_ ?_)
    · rw [if_pos h]
      cases hf : firstAt t l 0 with
      | none =>
        rw [hf] at ez
        exact Tot.pos (by rw [ez]; simp) (Tot.some_ rfl)
      | some i =>
        have hlt := firstAt_lt t l 0 i hf
        rw [hf] at ez
        simp only at ez
        refine Tot.neg (by omega) (Tot.some_ ?_)
        rw [ez, w64 (by omega) (by omega)]
    · rw [if_neg h]
  refine Tot.bind (toClient_tot l hl a b) (fun y1 e1 => ?_)
  rw [e1]
  refine Tot.bind hs (fun y2 e2 => ?_)
  refine Tot.bind (toClient_tot l hl a b) (fun y3 e3 => ?_)
  rw [e3]
  refine Tot.bind hi (fun y4 e4 => ?_)
  rw [e2, e4]
  refine Tot.pos rfl (Tot.up ?_)
  simp only [laws_FnExactWaitFor.j0, bne_self_eq_false]
  refine Tot.neg (by simp) (Tot.bind (toClient_tot l hl a b) (fun y5 e5 => ?_))
  rw [e5]
  exact Tot.bind (eqClient_tot l hl a b) (fun y6 e6 => Tot.pos e6 (Tot.some_ rfl))

end Go.Proofs.Ytdiehchbbhlfgaa.Pure
