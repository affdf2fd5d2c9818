/- Proved: StepClient of the program and of the reference answer alike at all arguments, what came in stays as it was, and the answer owns its memory. Conditions: those of the given statement alone. -/
import Derived.Test.YtodhogegjkfemaaPFnExactStepClientx9
import Derived.Test.YtodhogegjkfemaaBase
set_option linter.unusedVariables false
set_option linter.unusedSimpArgs false
namespace Go.Proofs.Ytodhogegjkfemaa.Pure
open Go.RowKit Go.Proofs.Ytodhogegjkfemaa.PFnExactStepClient Go.Proofs.Ytodhogegjkfemaa.Base Go.Proofs.YtodhogegjkfemaaW.PrintWords Go.Proofs.YtodhogegjkfemaaW.PrintLast Go.Proofs.YtodhogegjkfemaaW.PrintMore Go.Proofs.Ytodhogegjkfemaa
theorem rdStr (l : List ByteArray) (i : Nat) (h : i < l.length) : rdOf ByteArray.empty l (i : Int) = l[i] := by
  unfold rdOf
  rw [Int.toNat_natCast]
  exact getDin l _ i h
theorem toStringS_tot (l : List ByteArray) (hl : l.length ≤ 1048576) : Tot (fun k => laws_toStringS.f k l) (fun y => y = l) := by
  have hz : (List.replicate l.length (⟨#[]⟩ : ByteArray)).length = l.length := by simp
  have h := fun k hk => loop_up (fun k (x : List ByteArray × Int) => laws_toStringS.l0 k l x.1 x.2) l.length 0 (fun i => (mixed l (List.replicate l.length (⟨#[]⟩ : ByteArray)) i, (i : Int))) l (fun i k hi _ => by
    have e2 := mixed_length l (List.replicate l.length (⟨#[]⟩ : ByteArray)) i hz.symm
    have e3 := mixed_set l (List.replicate l.length (⟨#[]⟩ : ByteArray)) i l[i] hz.symm (by omega) (getDin l _ i hi)
    simp only [laws_toStringS.l0, Int.toNat_natCast]
    rw [if_pos (by omega), if_pos (by omega), if_pos (by rw [e2, hz]; omega), w64 (by omega) (by omega), rdStr l i hi, e3]
    rfl) (fun k _ => by
    simp only [laws_toStringS.l0]
    rw [if_neg (by omega), mixed_end _ _ _ (by omega) (by rw [hz]; omega)]) k hk
  rw [mixed_zero] at h
  simp only [laws_toStringS.f]
  refine Tot.pos (by omega) (Tot.pos (by omega) (Tot.at_ (l.length + 1) rfl (fun k hk => h k (by omega))))
theorem eqStringS_tot (l : List ByteArray) (hl : l.length ≤ 1048576) : Tot (fun k => laws_eqStringS.f k l l) (fun y => y = true) := by
  have h := fun k hk => loop_up (fun k (x : Int) => laws_eqStringS.l0 k l l x) l.length 0 (fun i => (i : Int)) true (fun i k hi _ => by
    simp only [laws_eqStringS.l0]
    rw [if_pos (by omega), if_pos (by omega), if_pos (by omega), if_pos trivial, w64 (by omega) (by omega)]
    rfl) (fun k _ => by
    simp only [laws_eqStringS.l0]
    rw [if_neg (by omega)]) k hk
  simp only [laws_eqStringS.f]
  exact Tot.pos trivial (Tot.at_ (l.length + 1) rfl (fun k hk => h k (by omega)))
def weight (l : List ByteArray) : Nat := (l.map fun x => x.size).sum
theorem szStringS_tot (l : List ByteArray) (hl : l.length ≤ maxLen) (hs : ∀ x ∈ l, x.size ≤ maxLen) (a : Int) (ha : 0 ≤ a ∧ a ≤ 1048576) : Tot (fun k => laws_szStringS.f k l a) (fun y => y ≤ a ∧ (0 ≤ y → y = a - (l.length : Int) - (weight l : Int)) ∧ -1 ≤ y) := by
  have hmx : maxLen = 9223372036854775807 := rfl
  have key : ∀ (d i : Nat) (b : Int), l.length - i = d → i ≤ l.length → 0 ≤ b ∧ b ≤ 1048576 → l.length ≤ 1048576 → Tot (fun k => laws_szStringS.l0 k l b (i : Int)) (fun y => y ≤ b ∧ (0 ≤ y → y = b - (weight (l.drop i) : Int)) ∧ -1 ≤ y) := by
    intro d
    induction d with
    | zero =>
      intro i b hd hi hb hll
      refine Tot.up ?_
      simp only [laws_szStringS.l0]
      refine Tot.neg (by omega) (Tot.some_ ?_)
      rw [List.drop_of_length_le (by omega)]
      simp [weight]
      omega
    | succ d ih =>
      intro i b hd hi hb hll
      have hlt : i < l.length := by omega
      have hx := hs _ (List.getElem_mem hlt)
      refine Tot.up ?_
      simp only [laws_szStringS.l0]
      refine Tot.pos (by omega) (Tot.pos (by omega) ?_)
      rw [rdStr l i hlt, w64 (n := b - (l[i].size : Int)) (by omega) (by omega), w64 (n := (i : Int) + 1) (by omega) (by omega)]
      refine Tot.ite (fun h => Tot.some_ ⟨by omega, fun h => by omega, by omega⟩) (fun h => ?_)
      refine (ih (i + 1) _ (by omega) (by omega) (by omega) hll).imp (fun y hy => ⟨by omega, fun h0 => ?_, hy.2.2⟩)
      rw [hy.2.1 h0, List.drop_eq_getElem_cons hlt]
      simp only [weight, List.map_cons, List.sum_cons]
      omega
  simp only [laws_szStringS.f]
  rw [w64 (n := a - (l.length : Int)) (by omega) (by omega)]
  refine Tot.ite (fun h => Tot.some_ ⟨by omega, fun h => by omega, by omega⟩) (fun h => ?_)
  refine (key l.length 0 _ (by omega) (by omega) (by omega) (by omega)).imp (fun y hy => ⟨by omega, fun h0 => ?_, hy.2.2⟩)
  rw [hy.2.1 h0, List.drop_zero]
theorem toClient_tot (l : List ByteArray) (hl : l.length ≤ 1048576) (a b : Int) : Tot (fun k => laws_toClient.f k l a b) (fun y => y = (l, a, b)) := by
  simp only [laws_toClient.f]
  exact Tot.bind (toStringS_tot l hl) (fun y e => Tot.some_ (by rw [e]))
theorem eqClient_tot (l : List ByteArray) (hl : l.length ≤ 1048576) (a b : Int) : Tot (fun k => laws_eqClient.f k l a b l a b) (fun y => y = true) := by
  simp only [laws_eqClient.f]
  exact Tot.bind (eqStringS_tot l hl) (fun y e => Tot.pos e (Tot.pos trivial (Tot.pos trivial (Tot.some_ rfl))))
theorem szClient_tot (l : List ByteArray) (hl : l.length ≤ maxLen) (hs : ∀ x ∈ l, x.size ≤ maxLen) (a b : Int) : Tot (fun k => laws_szClient.f k l a b 1048576) (fun y => 0 ≤ y → y = 1048576 - (l.length : Int) - (weight l : Int)) := by
  simp only [laws_szClient.f]
  exact Tot.bind (szStringS_tot l hl hs 1048576 (by omega)) (fun y hy => Tot.ite (fun h => Tot.some_ (fun h2 => by omega)) (fun h => Tot.some_ hy.2.1))
theorem l1In_eq (a b c : Int) : spec_l1In.f a b c = some (decide (b ≤ a ∧ a ≤ c)) := by
  unfold spec_l1In.f
  by_cases h : a ≥ b
  · rw [if_pos h]
    congr 1
    exact decide_eq_decide.2 ⟨fun h1 => ⟨h, h1⟩, fun h1 => h1.2⟩
  · rw [if_neg h, decide_eq_false (fun h1 => h h1.1)]
theorem within_eq (a b c : Int) : impl_within.f a b c = some (decide (b ≤ a ∧ a ≤ c)) := by
  unfold impl_within.f
  by_cases h : a ≥ b
  · rw [if_pos h]
    congr 1
    exact decide_eq_decide.2 ⟨fun h1 => ⟨h, h1⟩, fun h1 => h1.2⟩
  · rw [if_neg h, decide_eq_false (fun h1 => h h1.1)]
def goodC (l : List ByteArray) (a b : Int) : Bool := decide ((l.length ≤ 5 ∧ ∀ x ∈ l, x.size ≤ 15) ∧ (0 ≤ a ∧ a ≤ 1000) ∧ (1 ≤ b ∧ b ≤ 4))
theorem implGood_tot (l : List ByteArray) (hl : l.length ≤ 1048576) (a b : Int) : Tot (fun k => impl_GoodClient.f k l a b) (fun y => y = goodC l a b) := by
  have key : ∀ (d i : Nat), l.length - i = d → i ≤ l.length → Tot (fun k => slices_IndexFunc_string_string.l0 k l (l.length : Int) (i : Int)) (fun y => y ≥ 0 ↔ ¬ ∀ x ∈ l.drop i, x.size ≤ 15) := by
    intro d
    induction d with
    | zero =>
      intro i hd hi
      refine Tot.up ?_
      simp only [slices_IndexFunc_string_string.l0]
      refine Tot.neg (by omega) (Tot.some_ ?_)
      rw [List.drop_of_length_le (by omega)]
      simp
    | succ d ih =>
      intro i hd hi
      have hlt : i < l.length := by omega
      refine Tot.up ?_
      simp only [slices_IndexFunc_string_string.l0, impl_GoodClient_1.f, impl_isSaid.f, Option.bind_some]
      refine Tot.pos (by omega) (Tot.pos (by omega) (Tot.pos (by omega) ?_))
      rw [rdStr l i hlt, w64 (n := (i : Int) + 1) (by omega) (by omega), List.drop_eq_getElem_cons hlt]
      refine Tot.ite (fun h => Tot.some_ ?_) (fun h => (ih (i + 1) (by omega) (by omega)).imp (fun y hy => ?_))
      · rw [Bool.not_eq_true', decide_eq_false_iff_not] at h
        simp only [List.mem_cons, forall_eq_or_imp]
        exact ⟨fun _ h3 => h (by have := h3.1; omega), fun _ => by omega⟩
      · rw [Bool.not_eq_true', decide_eq_false_iff_not] at h
        rw [hy]
        simp only [List.mem_cons, forall_eq_or_imp]
        exact not_congr ⟨fun h3 => ⟨by omega, h3⟩, fun h3 => h3.2⟩
  have h0 := key l.length 0 (by omega) (by omega)
  simp only [impl_GoodClient.f, slices_ContainsFunc_string_string.f, slices_IndexFunc_string_string.f, impl_areWays.f, within_eq, Option.bind_some]
  refine Tot.ite (fun h => ?_) (fun h => Tot.some_ ((decide_eq_false (fun h3 => h (by have := h3.1.1; omega))).symm))
  refine Tot.bind (Tot.bind (R := fun y => y = true ↔ ¬ ∀ x ∈ l, x.size ≤ 15) h0 (fun y hy => Tot.some_ ?_)) (fun y hy => ?_)
  · rw [decide_eq_true_iff, hy, List.drop_zero]
  · refine Tot.ite (fun h2 => Tot.some_ ?_) (fun h2 => ?_)
    · exact (decide_eq_false (fun h3 => (hy.1 h2) h3.1.2)).symm
    · have hall : ∀ x ∈ l, x.size ≤ 15 := Classical.byContradiction fun h3 => h2 (hy.2 h3)
      refine Tot.ite (fun h4 => Tot.some_ ?_) (fun h4 => Tot.some_ ?_)
      · rw [decide_eq_true_iff] at h4
        exact decide_eq_decide.2 ⟨fun h3 => ⟨⟨by omega, hall⟩, h4, h3⟩, fun h3 => h3.2.2⟩
      · rw [decide_eq_true_iff] at h4
        exact (decide_eq_false (fun h3 => h4 h3.2.1)).symm
theorem specGood_tot (l : List ByteArray) (hl : l.length ≤ 1048576) (a b : Int) : Tot (fun k => spec_GoodClient.f k l a b) (fun y => y = goodC l a b) := by
  have key : ∀ (d i : Nat), l.length - i = d → i ≤ l.length → (∀ x ∈ l.take i, x.size ≤ 15) → Tot (fun k => spec_GoodClient.l0 k l (l.length : Int) (i : Int) l a b) (fun y => y = goodC l a b) := by
    intro d
    induction d with
    | zero =>
      intro i hd hi ht
      rw [List.take_of_length_le (by omega)] at ht
      refine Tot.up ?_
      simp only [spec_GoodClient.l0, l1In_eq, Option.bind_some]
      refine Tot.neg (by omega) (Tot.ite (fun h => Tot.ite (fun h2 => Tot.some_ ?_) (fun h2 => Tot.some_ ?_)) (fun h => Tot.some_ ?_))
      · rw [decide_eq_true_iff] at h2
        unfold goodC
        exact decide_eq_decide.2 ⟨fun h3 => ⟨⟨by omega, ht⟩, h2, h3⟩, fun h3 => h3.2.2⟩
      · rw [decide_eq_true_iff] at h2
        exact (decide_eq_false (fun h3 => h2 h3.2.1)).symm
      · exact (decide_eq_false (fun h3 => h (by have := h3.1.1; omega))).symm
    | succ d ih =>
      intro i hd hi ht
      have hlt : i < l.length := by omega
      refine Tot.up ?_
      simp only [spec_GoodClient.l0, spec_l10Text.f, Option.bind_some]
      refine Tot.pos (by omega) (Tot.pos (by omega) (Tot.pos (by omega) ?_))
      rw [rdStr l i hlt, w64 (n := (i : Int) + 1) (by omega) (by omega)]
      refine Tot.ite (fun h => ?_) (fun h => Tot.some_ ?_)
      · rw [decide_eq_true_iff] at h
        refine ih (i + 1) (by omega) (by omega) (fun x hx => ?_)
        rw [List.take_succ_eq_append_getElem hlt, List.mem_append, List.mem_singleton] at hx
        rcases hx with hx | rfl
        · exact ht x hx
        · omega
      · rw [decide_eq_true_iff] at h
        exact (decide_eq_false (fun h3 => h (by have := h3.1.2 _ (List.getElem_mem hlt); omega))).symm
  exact key l.length 0 (by omega) (by omega) (by simp)
def hd8 : List ByteArray → ByteArray
  | [] => ⟨#[]⟩
  | x :: _ => x
def stepO (q : List ByteArray) (t w k : Int) (x : ByteArray) : Option (List ByteArray × Int × Int × Int × Int × ByteArray) :=
  if k = 1 ∧ x.size ≤ 15 ∧ q.length < 5 then some (q ++ [x], t, 0, 0, 0, ⟨#[]⟩)
  else if k = 2 ∧ x.toList = [] ∧ t < 1000 then some (q.drop 1, t + 1, t, Int.tmod t w, 24, hd8 q)
  else none
def GoodC (q : List ByteArray) (t w : Int) : Prop := (q.length ≤ 5 ∧ ∀ x ∈ q, x.size ≤ 15) ∧ (0 ≤ t ∧ t ≤ 1000) ∧ (1 ≤ w ∧ w ≤ 4)
def outS (q : List ByteArray) (t w : Int) (o : Option (List ByteArray × Int × Int × Int × Int × ByteArray)) : List ByteArray × Int × Int × Int × Int × Int × ByteArray × Bool := match o with
  | some (q', t', a, b, c, x) => (q', t', w, a, b, c, x, true)
  | none => (q, t, w, 0, 0, 0, ⟨#[]⟩, false)
def outI (w : Int) (o : Option (List ByteArray × Int × Int × Int × Int × ByteArray)) : List ByteArray × Int × Int × Int × Int × Int × ByteArray × Bool := match o with
  | some (q', t', a, b, c, x) => (q', t', w, a, b, c, x, true)
  | none => ([], 0, 0, 0, 0, 0, ⟨#[]⟩, false)
theorem rd0 (q : List ByteArray) (h : 0 < q.length) : rdOf ByteArray.empty q 0 = hd8 q := by
  cases q with
  | nil => simp at h
  | cons x q => rfl
theorem specStep_tot (q : List ByteArray) (t w : Int) (hg : GoodC q t w) (k : Int) (x : ByteArray) : Tot (fun n => spec_l10Step.f n q t w k x) (fun y => y = outS q t w (stepO q t w k x)) := by
  obtain ⟨⟨h1, h2⟩, h3, h4⟩ := hg
  have j1f : Tot (fun n => spec_l10Step.j1 n false q t w) (fun y => y = (q, t, w, 0, 0, 0, ⟨#[]⟩, false)) := by
    refine Tot.up ?_
    simp only [spec_l10Step.j1]
    exact Tot.neg (by simp) (Tot.some_ rfl)
  have e1 : wrap64 (t + 1 - 1) = t := by rw [w64 (by omega) (by omega)]; omega
  have e2 : wrap64 (t + 1) = t + 1 := w64 (by omega) (by omega)
  have j1t : Tot (fun n => spec_l10Step.j1 n true q t w) (fun y => y = (q.drop 1, t + 1, w, t, Int.tmod t w, 24, hd8 q, true)) := by
    refine Tot.up ?_
    simp only [spec_l10Step.j1, e2, e1, spec_l10Emit.f]
    refine Tot.pos trivial (Tot.ite (fun hq => ?_) (fun hq => ?_))
    · refine Tot.pos (by omega) (Tot.bind (Tot.some_ rfl) (fun y hy => Tot.pos (by omega) (Tot.bind (Tot.some_ rfl) (fun z hz => ?_))))
      rw [← hy, ← hz]
      refine Tot.pos (by rw [List.length_drop]; simp only [List.length_nil]; omega) ?_
      refine Tot.bind (Q := fun u => u = (t, Int.tmod t w, 24)) (Tot.neg (by omega) (Tot.some_ rfl)) (fun u hu => Tot.some_ ?_)
      rw [hu, rd0 q (by omega), List.nil_append]
    · refine Tot.bind (Q := fun u => u = (t, Int.tmod t w, 24)) (Tot.neg (by omega) (Tot.some_ rfl)) (fun u hu => Tot.some_ ?_)
      have : q = [] := List.eq_nil_of_length_eq_zero (by omega)
      rw [hu, this]
      rfl
  have j0f : Tot (fun n => spec_l10Step.j0 n false q t w k x) (fun y => y = outS q t w (if k = 2 ∧ x.toList = [] ∧ t < 1000 then some (q.drop 1, t + 1, t, Int.tmod t w, 24, hd8 q) else none)) := by
    refine Tot.up ?_
    simp only [spec_l10Step.j0]
    refine Tot.neg (by simp) (Tot.ite (fun c1 => Tot.ite (fun c2 => ?_) (fun c2 => ?_)) (fun c1 => ?_))
    · by_cases c3 : t < 1000
      · rw [decide_eq_true c3, if_pos ⟨c1, c2, c3⟩]
        exact j1t
      · rw [decide_eq_false c3, if_neg (fun h => c3 h.2.2)]
        exact j1f
    · rw [if_neg (fun h => c2 h.2.1)]
      exact j1f
    · rw [if_neg (fun h => c1 h.1)]
      exact j1f
  have j0t : q.length < 5 → Tot (fun n => spec_l10Step.j0 n true q t w k x) (fun y => y = (q ++ [x], t, w, 0, 0, 0, ⟨#[]⟩, true)) := by
    intro hq
    refine Tot.up ?_
    simp only [spec_l10Step.j0]
    refine Tot.pos trivial (Tot.bind (Tot.some_ rfl) (fun y hy => ?_))
    rw [← hy]
    refine Tot.pos (by simp only [List.length_nil]; omega) (Tot.bind (Tot.some_ rfl) (fun z hz => Tot.bind (Tot.some_ rfl) (fun v hv => ?_)))
    rw [← hz, ← hv]
    exact Tot.pos (by simp only [List.nil_append, List.length_singleton]; omega) (Tot.some_ (by rw [List.nil_append]))
  simp only [spec_l10Step.f, spec_l10Text.f, stepO]
  refine Tot.ite (fun c1 => Tot.bind (Tot.some_ rfl) (fun b hb => ?_)) (fun c1 => ?_)
  · refine Tot.ite (fun c2 => ?_) (fun c2 => ?_)
    · have c2' : x.size ≤ 15 := by
        have := of_decide_eq_true (hb.symm ▸ c2 : decide ((x.size : Int) ≤ 15) = true)
        omega
      by_cases c3 : q.length < 5
      · rw [decide_eq_true (show (q.length : Int) < 5 by omega), if_pos ⟨c1, c2', c3⟩]
        exact j0t c3
      · rw [decide_eq_false (show ¬ (q.length : Int) < 5 by omega), if_neg (fun h => c3 h.2.2)]
        exact j0f
    · rw [if_neg (fun h => c2 (by rw [← hb]; exact decide_eq_true (show (x.size : Int) ≤ 15 by omega)))]
      exact j0f
  · rw [if_neg (fun h => c1 h.1)]
    exact j0f
theorem implStep_tot (q : List ByteArray) (t w : Int) (hg : GoodC q t w) (k : Int) (x : ByteArray) : Tot (fun n => impl_StepClient.f n q t w k x) (fun y => y = outI w (stepO q t w k x)) := by
  have hgb : goodC q t w = true := decide_eq_true hg
  obtain ⟨⟨h1, h2⟩, h3, h4⟩ := hg
  have e2 : wrap64 (t + 1) = t + 1 := w64 (by omega) (by omega)
  have j1f : Tot (fun n => impl_StepClient.j1 n false q t w) (fun y => y = ([], 0, 0, 0, 0, 0, ⟨#[]⟩, false)) := by
    refine Tot.up ?_
    simp only [impl_StepClient.j1]
    exact Tot.neg (by simp) (Tot.some_ rfl)
  have j1t : Tot (fun n => impl_StepClient.j1 n true q t w) (fun y => y = (q.drop 1, t + 1, w, t, Int.tmod t w, 24, hd8 q, true)) := by
    refine Tot.up ?_
    simp only [impl_StepClient.j1, e2, impl_emit.f]
    refine Tot.pos trivial (Tot.bind (Q := fun u => u = (t, Int.tmod t w, 24)) (Tot.neg (by omega) (Tot.some_ rfl)) (fun u hu => ?_))
    rw [hu]
    refine Tot.ite (fun hq => ?_) (fun hq => ?_)
    · refine Tot.pos (by omega) (Tot.pos (by omega) (Tot.some_ ?_))
      rw [rd0 q (by omega)]
      rfl
    · have : q = [] := List.eq_nil_of_length_eq_zero (by omega)
      rw [this]
      exact Tot.some_ rfl
  have j0f : Tot (fun n => impl_StepClient.j0 n false q t w k x) (fun y => y = outI w (if k = 2 ∧ x.toList = [] ∧ t < 1000 then some (q.drop 1, t + 1, t, Int.tmod t w, 24, hd8 q) else none)) := by
    refine Tot.up ?_
    simp only [impl_StepClient.j0]
    refine Tot.neg (by simp) (Tot.ite (fun c1 => Tot.ite (fun c2 => ?_) (fun c2 => ?_)) (fun c1 => ?_))
    · by_cases c3 : t < 1000
      · rw [decide_eq_true c3, if_pos ⟨c1, c2, c3⟩]
        exact j1t
      · rw [decide_eq_false c3, if_neg (fun h => c3 h.2.2)]
        exact j1f
    · rw [if_neg (fun h => c2 h.2.1)]
      exact j1f
    · rw [if_neg (fun h => c1 h.1)]
      exact j1f
  have j0t : q.length < 5 → Tot (fun n => impl_StepClient.j0 n true q t w k x) (fun y => y = (q ++ [x], t, w, 0, 0, 0, ⟨#[]⟩, true)) := by
    intro hq
    refine Tot.up ?_
    simp only [impl_StepClient.j0]
    exact Tot.pos trivial (Tot.pos (by omega) (Tot.some_ rfl))
  simp only [impl_StepClient.f, impl_isSaid.f, stepO, slices_Clone_string_string.f]
  refine Tot.bind (implGood_tot q (by omega) t w) (fun g eg => Tot.pos (eg.trans hgb) ?_)
  refine Tot.bind (Q := fun y => y = q) (Tot.pos (by omega) (Tot.some_ rfl)) (fun q' hq' => ?_)
  rw [hq']
  refine Tot.ite (fun c1 => Tot.bind (Tot.some_ rfl) (fun b hb => ?_)) (fun c1 => ?_)
  · refine Tot.ite (fun c2 => ?_) (fun c2 => ?_)
    · have c2' : x.size ≤ 15 := by
        have := of_decide_eq_true (hb.symm ▸ c2 : decide ((x.size : Int) < 16) = true)
        omega
      by_cases c3 : q.length < 5
      · rw [decide_eq_true (show (q.length : Int) < 5 by omega), if_pos ⟨c1, c2', c3⟩]
        exact j0t c3
      · rw [decide_eq_false (show ¬ (q.length : Int) < 5 by omega), if_neg (fun h => c3 h.2.2)]
        exact j0f
    · rw [if_neg (fun h => c2 (by rw [← hb]; exact decide_eq_true (show (x.size : Int) < 16 by omega)))]
      exact j0f
  · rw [if_neg (fun h => c1 h.1)]
    exact j0f
theorem step_good (q : List ByteArray) (t w : Int) (hg : GoodC q t w) (k : Int) (x : ByteArray) (q' : List ByteArray) (t' a b c : Int) (z : ByteArray) (h : stepO q t w k x = some (q', t', a, b, c, z)) : GoodC q' t' w := by
  obtain ⟨⟨h1, h2⟩, h3, h4⟩ := hg
  unfold stepO at h
  split at h
  · rename_i hc
    simp only [Option.some.injEq, Prod.mk.injEq] at h
    obtain ⟨rfl, rfl, _⟩ := h
    refine ⟨⟨by rw [List.length_append, List.length_singleton]; omega, fun y hy => ?_⟩, h3, h4⟩
    rcases List.mem_append.1 hy with hy | hy
    · exact h2 y hy
    · rw [List.mem_singleton.1 hy]
      exact hc.2.1
  · split at h
    · rename_i hc
      simp only [Option.some.injEq, Prod.mk.injEq] at h
      obtain ⟨rfl, rfl, _⟩ := h
      exact ⟨⟨by rw [List.length_drop]; omega, fun y hy => h2 y (List.mem_of_mem_drop hy)⟩, by omega, h4⟩
    · simp at h
theorem markText_l0 : ∀ (n : Nat) (m : Nat) (x : ByteArray), m < 10 ^ n → x.size + n + 1 ≤ 1000 → m ≤ 1099511627776 → Tot (fun k => laws_markText.l0 k (m : Int) x) (fun y => y.size ≤ x.size + n + 1) := by
  intro n
  induction n with
  | zero =>
    intro m x hm hx hle
    refine Tot.up ?_
    simp only [laws_markText.l0]
    refine Tot.neg (by omega) (Tot.pos (by omega) (Tot.some_ ?_))
    rw [ByteArray.size_append]
    show 1 + x.size ≤ _
    omega
  | succ n ih =>
    intro m x hm hx hle
    refine Tot.up ?_
    simp only [laws_markText.l0]
    refine Tot.ite (fun h0 => ?_) (fun h0 => Tot.pos (by omega) (Tot.some_ (by
      rw [ByteArray.size_append]
      show 1 + x.size ≤ _
      omega)))
    simp only [Option.bind_some]
    have h1 : (strOfNums [wrap64 (48 + Int.tmod (m : Int) 10) % 256]).size = 1 := rfl
    rw [show (10 : Int) = ((10 : Nat) : Int) from rfl, tdiv_nat, wnat (m / 10) (by omega)]
    refine Tot.pos (by rw [show ((10 : Nat) : Int) = (10 : Int) from rfl, h1]; omega) ?_
    have hp : 10 ^ (n + 1) = 10 * 10 ^ n := by rw [Nat.pow_succ, Nat.mul_comm]
    have h2 : (strOfNums [wrap64 (48 + Int.tmod (m : Int) ((10 : Nat) : Int)) % 256] ++ x).size = 1 + x.size := by rw [ByteArray.size_append]; rfl
    refine (ih (m / 10) _ (by omega) (by rw [h2]; omega) (by omega)).imp (fun y hy => ?_)
    rw [h2] at hy
    omega
theorem markText_tot (m : Int) (h0 : 0 ≤ m) (h1 : m ≤ 1099511627776) : Tot (fun k => laws_markText.f k m) (fun y => y.size ≤ 64) := by
  obtain ⟨m, rfl⟩ := Int.eq_ofNat_of_zero_le h0
  simp only [laws_markText.f]
  refine Tot.ite (fun _ => Tot.some_ (show 2 ≤ 64 by omega)) (fun _ => ?_)
  refine (markText_l0 13 m _ (by omega) (by show 0 + 13 + 1 ≤ 1000; omega) (by omega)).imp (fun y hy => ?_)
  have h2 : (⟨#[]⟩ : ByteArray).size = 0 := rfl
  omega
noncomputable def mt (m : Int) : ByteArray := Classical.epsilon fun y => Tot (fun k => laws_markText.f k m) (fun z => z = y)
theorem mt_tot (m : Int) (h0 : 0 ≤ m) (h1 : m ≤ 1099511627776) : Tot (fun k => laws_markText.f k m) (fun z => z = mt m) := by
  obtain ⟨y, _, h⟩ := (markText_tot m h0 h1).val
  exact Classical.epsilon_spec (p := fun y => Tot (fun k => laws_markText.f k m) (fun z => z = y)) ⟨y, h⟩
noncomputable def mts (m : Int) (n : Nat) : List ByteArray := (List.range n).map fun (i : Nat) => mt (m + (i : Int))
theorem mts_length (m : Int) (n : Nat) : (mts m n).length = n := by simp [mts]
theorem mts_get (m : Int) (n i : Nat) (h : i < n) : (mts m n)[i]'(by rw [mts_length]; exact h) = mt (m + (i : Int)) := by simp [mts]
theorem markStringS_tot (l : List ByteArray) (hl : l.length ≤ 1048576) (m : Int) (h0 : 0 ≤ m) (h1 : m ≤ 4294967296) : Tot (fun k => laws_markStringS.f k l m) (fun y => y = (m + (l.length : Int), mts m l.length)) := by
  have hz := mts_length m l.length
  have key : ∀ (d i : Nat), l.length - i = d → i ≤ l.length → Tot (fun k => laws_markStringS.l0 k (mixed (mts m l.length) l i) (m + (i : Int)) (i : Int)) (fun y => y = (m + (l.length : Int), mts m l.length)) := by
    intro d
    induction d with
    | zero =>
      intro i hd hi
      refine Tot.up ?_
      have e : i = l.length := by omega
      subst e
      simp only [laws_markStringS.l0]
      refine Tot.neg (by rw [mixed_length _ _ _ hz]; omega) (Tot.some_ ?_)
      rw [mixed_end _ _ _ (by omega) (by omega)]
    | succ d ih =>
      intro i hd hi
      refine Tot.up ?_
      simp only [laws_markStringS.l0]
      refine Tot.pos (by rw [mixed_length _ _ _ hz]; omega) (Tot.bind (mt_tot _ (by omega) (by omega)) (fun y hy => Tot.pos (by omega) ?_))
      rw [hy, Int.toNat_natCast, mixed_set _ _ i _ hz (by omega) (by rw [getDin _ _ i (by omega), mts_get m _ i (by omega)]), w64 (n := m + (i : Int) + 1) (by omega) (by omega), w64 (n := (i : Int) + 1) (by omega) (by omega), show m + (i : Int) + 1 = m + ((i + 1 : Nat) : Int) by omega]
      exact ih (i + 1) (by omega) (by omega)
  have h := key l.length 0 (by omega) (by omega)
  rw [mixed_zero, show m + ((0 : Nat) : Int) = m by omega] at h
  exact h
theorem heldStringS_tot (n : Nat) (hn : n ≤ 1048576) (m : Int) (h0 : 0 ≤ m) (h1 : m ≤ 4294967296) : Tot (fun k => laws_heldStringS.f k (mts m n) m) (fun y => y = m + (n : Int)) := by
  have hz := mts_length m n
  have key : ∀ (d i : Nat), n - i = d → i ≤ n → Tot (fun k => laws_heldStringS.l0 k (mts m n) (m + (i : Int)) (i : Int)) (fun y => y = m + (n : Int)) := by
    intro d
    induction d with
    | zero =>
      intro i hd hi
      refine Tot.up ?_
      simp only [laws_heldStringS.l0]
      refine Tot.neg (by rw [hz]; omega) (Tot.some_ (by omega))
    | succ d ih =>
      intro i hd hi
      refine Tot.up ?_
      simp only [laws_heldStringS.l0]
      refine Tot.pos (by rw [hz]; omega) (Tot.pos (by omega) (Tot.bind (mt_tot _ (by omega) (by omega)) (fun y hy => ?_)))
      rw [hy, rdStr _ i (by omega), mts_get m n i (by omega), w64 (n := m + (i : Int) + 1) (by omega) (by omega), w64 (n := (i : Int) + 1) (by omega) (by omega), show m + (i : Int) + 1 = m + ((i + 1 : Nat) : Int) by omega]
      exact Tot.pos rfl (ih (i + 1) (by omega) (by omega))
  have h := key n 0 (by omega) (by omega)
  rw [show m + ((0 : Nat) : Int) = m by omega] at h
  exact h
theorem own_eq (l : List ByteArray) (hl : l.length ≤ 1048576) (a b : Int) : spec_l10Own.f l a b = some (l, a, b) := by
  simp only [spec_l10Own.f, Option.bind_some, List.nil_append, List.length_nil]
  rw [if_pos (by omega)]
open Classical in
noncomputable def stepV (q : List ByteArray) (t w k : Int) (x : ByteArray) : List ByteArray × Int × Int × Int × Int × Int × ByteArray × Bool := if GoodC q t w then outI w (stepO q t w k x) else outI w none
theorem stepV_length (q : List ByteArray) (t w k : Int) (x : ByteArray) : (stepV q t w k x).1.length ≤ 1048576 := by
  unfold stepV
  split
  · rename_i hg
    cases ho : stepO q t w k x with
    | none => simp [outI]
    | some o =>
      obtain ⟨q', t', a, b, c, z⟩ := o
      have := (step_good q t w hg k x q' t' a b c z ho).1.1
      simp only [outI]
      omega
  · simp [outI]
theorem specClient_tot (q : List ByteArray) (hq : q.length ≤ 1048576) (t w k : Int) (x : ByteArray) : Tot (fun n => spec_StepClient.f n q t w k x) (fun y => y = stepV q t w k x) := by
  simp only [spec_StepClient.f]
  refine Tot.bind (specGood_tot q hq t w) (fun y e => ?_)
  subst e
  by_cases hg : GoodC q t w
  · have hgb : goodC q t w = true := decide_eq_true hg
    refine Tot.pos hgb ?_
    rw [own_eq q hq t w]
    simp only [Option.bind_some]
    refine Tot.bind (specStep_tot q t w hg k x) (fun y e => ?_)
    subst e
    unfold stepV
    rw [if_pos hg]
    cases ho : stepO q t w k x with
    | none => exact Tot.neg (by simp [outS]) (Tot.some_ rfl)
    | some o =>
      obtain ⟨q', t', a, b, c, z⟩ := o
      have hg' := step_good q t w hg k x q' t' a b c z ho
      refine Tot.pos rfl ?_
      simp only [outS]
      rw [own_eq q' (by have := hg'.1.1; omega) t' w]
      exact Tot.some_ rfl
  · have hgb : goodC q t w = false := decide_eq_false hg
    refine Tot.neg (by rw [hgb]; simp) (Tot.some_ ?_)
    unfold stepV
    rw [if_neg hg]
    rfl
theorem implClient_tot (q : List ByteArray) (hq : q.length ≤ 1048576) (t w k : Int) (x : ByteArray) : Tot (fun n => impl_StepClient.f n q t w k x) (fun y => y = stepV q t w k x) := by
  by_cases hg : GoodC q t w
  · refine (implStep_tot q t w hg k x).imp (fun y e => ?_)
    rw [e]
    unfold stepV
    rw [if_pos hg]
  · have hgb : goodC q t w = false := decide_eq_false hg
    simp only [impl_StepClient.f]
    refine Tot.bind (implGood_tot q hq t w) (fun y e => ?_)
    subst e
    refine Tot.neg (by rw [hgb]; simp) (Tot.some_ ?_)
    unfold stepV
    rw [if_neg hg]
    rfl
theorem szStep_tot (k : Int) (x : ByteArray) (y : Int) : Tot (fun _ => laws_szCoverStep.f k x y) (fun _ => True) := by
  simp only [laws_szCoverStep.f]
  exact Tot.ite (fun _ => Tot.some_ trivial) (fun _ => Tot.some_ trivial)
theorem eqEmit_tot (a b c : Int) : Tot (fun _ => laws_eqEmit.f a b c a b c) (fun y => y = true) := by
  simp only [laws_eqEmit.f]
  exact Tot.pos trivial (Tot.pos trivial (Tot.pos trivial (Tot.some_ rfl)))
theorem markClient_tot (l : List ByteArray) (hl : l.length ≤ 1048576) (a b : Int) : Tot (fun k => laws_markClient.f k l a b 1) (fun y => y = (1 + (l.length : Int), mts 1 l.length)) := by
  simp only [laws_markClient.f]
  exact Tot.bind (markStringS_tot l hl 1 (by omega) (by omega)) (fun y e => Tot.some_ (by rw [e]))
theorem heldClient_tot (n : Nat) (hn : n ≤ 1048576) (a b : Int) : Tot (fun k => laws_heldClient.f k (mts 1 n) a b 1) (fun y => y = 1 + (n : Int)) := by
  simp only [laws_heldClient.f]
  exact Tot.bind (heldStringS_tot n hn 1 (by omega) (by omega)) (fun y e => Tot.neg (by omega) (Tot.some_ e))
theorem FnExactStepClient : laws_FnExactStepClient.Pure := by
  intro l a b k x hw ha hb hk hx
  refine Tot.ex ?_
  simp only [laws_FnExactStepClient.f]
  refine Tot.bind (szClient_tot l hw.1 hw.2 a b) (fun y0 h0 => Tot.ite (fun _ => Tot.some_ rfl) (fun hy0 => ?_))
  have hsz := h0 (by omega)
  have hl : l.length ≤ 1048576 := by omega
  refine Tot.bind (szStep_tot k x y0) (fun y1 _ => Tot.ite (fun _ => Tot.some_ rfl) (fun hy1 => ?_))
  have hr := stepV_length l a b k x
  have hs := specClient_tot l hl a b k x
  have hi := implClient_tot l hl a b k x
  generalize stepV l a b k x = v at hr hs hi
  obtain ⟨r, t, w, e1, e2, e3, z, ok⟩ := v
  simp only at hr
  simp only [laws_toCoverStep.f, Option.bind_some]
  refine Tot.bind (toClient_tot l hl a b) (fun y2 h2 => ?_)
  rw [h2]
  refine Tot.bind hs (fun y3 h3 => ?_)
  rw [h3]
  refine Tot.bind (toClient_tot l hl a b) (fun y4 h4 => ?_)
  rw [h4]
  refine Tot.bind hi (fun y5 h5 => ?_)
  rw [h5]
  refine Tot.bind (eqClient_tot r hr t w) (fun y6 h6 => Tot.pos h6 ?_)
  refine Tot.bind (eqEmit_tot e1 e2 e3) (fun y7 h7 => Tot.pos h7 (Tot.pos rfl (Tot.neg (by simp) ?_)))
  refine Tot.bind (toClient_tot l hl a b) (fun y8 h8 => ?_)
  rw [h8]
  refine Tot.bind (eqClient_tot l hl a b) (fun y9 h9 => Tot.pos h9 ?_)
  refine Tot.bind (markClient_tot l hl a b) (fun y10 h10 => ?_)
  rw [h10]
  refine Tot.neg (by simp only; omega) ?_
  refine Tot.bind (eqClient_tot r hr t w) (fun y11 h11 => Tot.pos h11 ?_)
  refine Tot.bind (eqEmit_tot e1 e2 e3) (fun y12 h12 => Tot.pos h12 ?_)
  refine Tot.bind (markClient_tot r hr t w) (fun y13 h13 => ?_)
  rw [h13]
  refine Tot.bind (heldClient_tot r.length hr t w) (fun y14 h14 => ?_)
  rw [h14]
  refine Tot.neg (by omega) (Tot.pos rfl ?_)
  refine Tot.bind (toClient_tot l hl a b) (fun y15 h15 => ?_)
  rw [h15]
  refine Tot.bind hi (fun y16 h16 => ?_)
  rw [h16]
  refine Tot.bind (eqClient_tot r hr t w) (fun y17 h17 => Tot.pos h17 ?_)
  refine Tot.bind (eqEmit_tot e1 e2 e3) (fun y18 h18 => Tot.pos h18 (Tot.pos rfl (Tot.neg (by simp) ?_)))
  refine Tot.bind (heldClient_tot r.length hr t w) (fun y19 h19 => ?_)
  rw [h19]
  exact Tot.neg (by omega) (Tot.pos rfl (Tot.some_ rfl))
end Go.Proofs.Ytodhogegjkfemaa.Pure
