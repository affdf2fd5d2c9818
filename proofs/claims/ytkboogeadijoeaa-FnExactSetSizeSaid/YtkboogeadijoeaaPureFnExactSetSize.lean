/- Proved: SetSize of the program and of the reference answer alike at all arguments. Conditions: those of the given statement alone. -/
import Derived.Test.YtkboogeadijoeaaPFnExactSetSizex2
import Derived.Test.YtkboogeadijoeaaBase
set_option linter.unusedVariables false
set_option linter.unusedSimpArgs false
namespace Go.Proofs.Ytkboogeadijoeaa.Pure
open Go.RowKit Go.Proofs.Ytkboogeadijoeaa.PFnExactSetSize Go.Proofs.Ytkboogeadijoeaa.Base Go.Proofs.YtkboogeadijoeaaW.PrintWords Go.Proofs.YtkboogeadijoeaaW.PrintLast Go.Proofs.YtkboogeadijoeaaW.PrintMore

theorem rdStr (l : List ByteArray) (i : Nat) (h : i < l.length) : rdOf ByteArray.empty l (i : Int) = l[i] := by
  unfold rdOf
  rw [Int.toNat_natCast]
  exact getD_in l _ i h

theorem toStringS_tot (l : List ByteArray) (hl : l.length ≤ 1048576) : Tot (fun k => laws_toStringS.f k l) (fun y => y = l) := by
  have hz : (List.replicate l.length (⟨#[]⟩ : ByteArray)).length = l.length := by simp
  have h := fun k hk => loop_up (fun k (x : List ByteArray × Int) => laws_toStringS.l0 k l x.1 x.2) l.length 0 (fun i => (mixed l (List.replicate l.length (⟨#[]⟩ : ByteArray)) i, (i : Int))) l (fun i k hi _ => by
    have e2 := mixed_length l (List.replicate l.length (⟨#[]⟩ : ByteArray)) i hz.symm
    have e3 := mixed_set l (List.replicate l.length (⟨#[]⟩ : ByteArray)) i l[i] hz.symm (by omega) (getD_in l _ i hi)
    simp only [laws_toStringS.l0, Int.toNat_natCast]
    rw [if_pos (by omega), if_pos (by omega), if_pos (by rw [e2, hz]; omega), w64 (by omega) (by omega), rdStr l i hi, e3]
    rfl) (fun k _ => by
    simp only [laws_toStringS.l0]
    rw [if_neg (by omega), mixed_end _ _ _ (by omega) (by rw [hz]; omega)]) k hk
  rw [mixed_zero] at h
  simp only [laws_toStringS.f]
  refine Tot.pos (by omega) (Tot.pos (by omega) (Tot.at_ (l.length + 1) rfl (fun k hk => h k (by omega))))

theorem eqStringS_tot (l : List ByteArray) (hl : l.length ≤ 1048576) : Tot (fun k => laws_eqStringS.f k l l) (fun y => y = true) := by
  have h := fun k hk => loop_up (fun k (x : Int) => laws_eqStringS.l0 k l l x) l.length 0 (fun i => (i : Int)) true (fun i k hi _ => by
    simp only [laws_eqStringS.l0]
    rw [if_pos (by omega), if_pos (by omega), if_pos (by omega), if_pos trivial, w64 (by omega) (by omega)]
    rfl) (fun k _ => by
    simp only [laws_eqStringS.l0]
    rw [if_neg (by omega)]) k hk
  simp only [laws_eqStringS.f]
  exact Tot.pos trivial (Tot.at_ (l.length + 1) rfl (fun k hk => h k (by omega)))



/-- What the texts weigh together. -/
def weight (l : List ByteArray) : Nat := (l.map fun x => x.size).sum
theorem szStringS_tot (l : List ByteArray) (hl : l.length ≤ maxLen) (hs : ∀ x ∈ l, x.size ≤ maxLen) (a : Int) (ha : 0 ≤ a ∧ a ≤ 1048576) : Tot (fun k => laws_szStringS.f k l a) (fun y => y ≤ a ∧ (0 ≤ y → y = a - (l.length : Int) - (weight l : Int)) ∧ -1 ≤ y) := by
  have hmx : maxLen = 9223372036854775807 := rfl
  have key : ∀ (d i : Nat) (b : Int), l.length - i = d → i ≤ l.length → 0 ≤ b ∧ b ≤ 1048576 → l.length ≤ 1048576 → Tot (fun k => laws_szStringS.l0 k l b (i : Int)) (fun y => y ≤ b ∧ (0 ≤ y → y = b - (weight (l.drop i) : Int)) ∧ -1 ≤ y) := by
    intro d
    induction d with
    | zero =>
      intro i b hd hi hb hll
      refine Tot.up ?_
      simp only [laws_szStringS.l0]
      refine Tot.neg (by omega) (Tot.some_ ?_)
      rw [List.drop_of_length_le (by omega)]
      simp [weight]
      omega
    | succ d ih =>
      intro i b hd hi hb hll
      have hlt : i < l.length := by omega
      have hx := hs _ (List.getElem_mem hlt)
      refine Tot.up ?_
      simp only [laws_szStringS.l0]
      refine Tot.pos (by omega) (Tot.pos (by omega) ?_)
      rw [rdStr l i hlt, w64 (n := b - (l[i].size : Int)) (by omega) (by omega), w64 (n := (i : Int) + 1) (by omega) (by omega)]
      refine Tot.ite (fun h => Tot.some_ ⟨by omega, fun h => by omega, by omega⟩) (fun h => ?_)
      refine (ih (i + 1) _ (by omega) (by omega) (by omega) hll).imp (fun y hy => ⟨by omega, fun h0 => ?_, hy.2.2⟩)
      rw [hy.2.1 h0, List.drop_eq_getElem_cons hlt]
      simp only [weight, List.map_cons, List.sum_cons]
      omega
  simp only [laws_szStringS.f]
  rw [w64 (n := a - (l.length : Int)) (by omega) (by omega)]
  refine Tot.ite (fun h => Tot.some_ ⟨by omega, fun h => by omega, by omega⟩) (fun h => ?_)
  refine (key l.length 0 _ (by omega) (by omega) (by omega) (by omega)).imp (fun y hy => ⟨by omega, fun h0 => ?_, hy.2.2⟩)
  rw [hy.2.1 h0, List.drop_zero]
theorem weight_le (l : List ByteArray) (x : ByteArray) (h : x ∈ l) : x.size ≤ weight l := by
  induction l with
  | nil => simp at h
  | cons a t ih =>
    simp only [weight, List.map_cons, List.sum_cons]
    rcases List.mem_cons.1 h with rfl | h
    · omega
    · have := ih h
      unfold weight at this
      omega

theorem rdL1 (l : List (List ByteArray)) (i : Nat) (h : i < l.length) : rd_L1 l (i : Int) = l[i] := by
  unfold rd_L1
  rw [Int.toNat_natCast]
  exact getD_in l _ i h
theorem szStringSS_tot (l : List (List ByteArray)) (hl : l.length ≤ maxLen) (hs : ∀ x ∈ l, x.length ≤ maxLen ∧ ∀ z ∈ x, z.size ≤ maxLen) : Tot (fun k => laws_szStringSS.f k l 1048576) (fun y => 0 ≤ y → l.length ≤ 1048576 ∧ ∀ x ∈ l, x.length ≤ 1048576) := by
  have hmx : maxLen = 9223372036854775807 := rfl
  have key : ∀ (d i : Nat) (b : Int), l.length - i = d → i ≤ l.length → 0 ≤ b ∧ b ≤ 1048576 → l.length ≤ 1048576 → Tot (fun k => laws_szStringSS.l0 k l b (i : Int)) (fun y => 0 ≤ y → ∀ x ∈ l.drop i, x.length ≤ 1048576) := by
    intro d
    induction d with
    | zero =>
      intro i b hd hi hb hll
      refine Tot.up ?_
      simp only [laws_szStringSS.l0]
      refine Tot.neg (by omega) (Tot.some_ ?_)
      rw [List.drop_of_length_le (by omega)]
      simp
    | succ d ih =>
      intro i b hd hi hb hll
      have hlt : i < l.length := by omega
      have hx := hs _ (List.getElem_mem hlt)
      refine Tot.up ?_
      simp only [laws_szStringSS.l0]
      refine Tot.pos (by omega) (Tot.pos (by omega) ?_)
      rw [rdL1 l i hlt, w64 (n := (i : Int) + 1) (by omega) (by omega)]
      refine Tot.bind (szStringS_tot l[i] hx.1 hx.2 b hb) (fun y hy => Tot.ite (fun h => Tot.some_ (fun h => by omega)) (fun h => ?_))
      refine (ih (i + 1) _ (by omega) (by omega) (by omega) hll).imp (fun z hz h0 => ?_)
      rw [List.drop_eq_getElem_cons hlt]
      simp only [List.mem_cons, forall_eq_or_imp]
      have := hy.2.1 (by omega)
      exact ⟨by omega, hz h0⟩
  simp only [laws_szStringSS.f]
  rw [w64 (n := 1048576 - (l.length : Int)) (by omega) (by omega)]
  refine Tot.ite (fun h => Tot.some_ (fun h => by omega)) (fun h => ?_)
  refine (key l.length 0 _ (by omega) (by omega) (by omega) (by omega)).imp (fun y hy h0 => ⟨by omega, ?_⟩)
  have := hy h0
  rw [List.drop_zero] at this
  exact this
theorem toStringSS_tot (l : List (List ByteArray)) (hl : l.length ≤ 1048576) (hs : ∀ x ∈ l, x.length ≤ 1048576) : Tot (fun k => laws_toStringSS.f k l) (fun y => y = l) := by
  have hz : l.length = (List.replicate l.length ([] : List ByteArray)).length := by simp
  have key : ∀ (d i : Nat), l.length - i = d → i ≤ l.length → Tot (fun k => laws_toStringSS.l0 k l (mixed l (List.replicate l.length ([] : List ByteArray)) i) (i : Int)) (fun y => y = l) := by
    intro d
    induction d with
    | zero =>
      intro i hd hi
      refine Tot.up ?_
      simp only [laws_toStringSS.l0]
      refine Tot.neg (by omega) (Tot.some_ ?_)
      rw [mixed_end _ _ _ (by omega) (by omega)]
    | succ d ih =>
      intro i hd hi
      have hlt : i < l.length := by omega
      refine Tot.up ?_
      simp only [laws_toStringSS.l0, Int.toNat_natCast]
      rw [rdL1 l i hlt, w64 (n := (i : Int) + 1) (by omega) (by omega)]
      refine Tot.pos (by omega) (Tot.pos (by omega) (Tot.bind (toStringS_tot _ (hs _ (List.getElem_mem hlt))) (fun y hy => Tot.pos (by rw [mixed_length _ _ _ hz]; omega) ?_)))
      rw [hy, mixed_set _ _ i _ hz (by omega) (getD_in l _ i hlt)]
      exact ih (i + 1) (by omega) (by omega)
  have h := key l.length 0 (by omega) (by omega)
  rw [mixed_zero] at h
  simp only [laws_toStringSS.f]
  exact Tot.pos (by omega) (Tot.pos (by omega) h)
theorem eqStringSS_tot (l : List (List ByteArray)) (hl : l.length ≤ 1048576) (hs : ∀ x ∈ l, x.length ≤ 1048576) : Tot (fun k => laws_eqStringSS.f k l l) (fun y => y = true) := by
  have key : ∀ (d i : Nat), l.length - i = d → i ≤ l.length → Tot (fun k => laws_eqStringSS.l0 k l l (i : Int)) (fun y => y = true) := by
    intro d
    induction d with
    | zero =>
      intro i hd hi
      refine Tot.up ?_
      simp only [laws_eqStringSS.l0]
      exact Tot.neg (by omega) (Tot.some_ rfl)
    | succ d ih =>
      intro i hd hi
      have hlt : i < l.length := by omega
      refine Tot.up ?_
      simp only [laws_eqStringSS.l0]
      rw [rdL1 l i hlt, w64 (n := (i : Int) + 1) (by omega) (by omega)]
      exact Tot.pos (by omega) (Tot.pos (by omega) (Tot.pos (by omega) (Tot.bind (eqStringS_tot _ (hs _ (List.getElem_mem hlt))) (fun y hy => Tot.pos hy (ih (i + 1) (by omega) (by omega))))))
  simp only [laws_eqStringSS.f]
  exact Tot.pos trivial (key l.length 0 (by omega) (by omega))

theorem within_eq (a b c : Int) : impl_within.f a b c = some (decide (b ≤ a ∧ a ≤ c)) := by
  unfold impl_within.f
  by_cases h : a ≥ b
  · rw [if_pos h]
    congr 1
    exact decide_eq_decide.2 ⟨fun h1 => ⟨h, h1⟩, fun h1 => h1.2⟩
  · rw [if_neg h, decide_eq_false (fun h1 => h h1.1)]

theorem FnExactSetSize : laws_FnExactSetSize.Pure := by
  intro l a hw ha
  have hmx : maxLen = 9223372036854775807 := rfl
  refine Tot.ex ?_
  simp only [laws_FnExactSetSize.f]
  refine Tot.bind (szStringSS_tot l hw.1 hw.2) (fun y0 h0 => Tot.ite (fun _ => Tot.some_ rfl) (fun hy0 => ?_))
  obtain ⟨hl, hs⟩ := h0 (by omega)
  have h : ∃ r : Int × Bool, spec_SetSize.f l a = some r ∧ impl_SetSize.f l a = some r := by
    unfold spec_SetSize.f impl_SetSize.f
    rw [within_eq, w64 (n := (l.length : Int) - 1) (by omega) (by omega)]
    simp only [Option.bind_some]
    by_cases h1 : (l.length : Int) > 20
    · rw [if_pos h1, if_pos h1]
      exact ⟨_, rfl, rfl⟩
    · rw [if_neg h1, if_neg h1]
      by_cases h2 : 0 ≤ a ∧ a ≤ (l.length : Int) - 1
      · rw [if_neg (by omega), if_neg (by omega), if_pos (by omega), if_pos (by omega), decide_eq_true h2, if_pos rfl]
        exact ⟨_, rfl, rfl⟩
      · rw [decide_eq_false h2]
        refine ⟨(0, false), ?_, rfl⟩
        by_cases h3 : a < 0
        · rw [if_pos h3]
        · rw [if_neg h3, if_pos (by omega)]
  obtain ⟨r, h1, h2⟩ := h
  refine Tot.bind (toStringSS_tot l hl hs) (fun y1 e1 => ?_)
  rw [e1, h1]
  simp only [Option.bind_some]
  refine Tot.bind (toStringSS_tot l hl hs) (fun y2 e2 => ?_)
  rw [e2, h2]
  simp only [Option.bind_some]
  refine Tot.pos trivial (Tot.up ?_)
  simp only [laws_FnExactSetSize.j0, bne_self_eq_false]
  refine Tot.neg (by simp) (Tot.bind (toStringSS_tot l hl hs) (fun y3 e3 => ?_))
  rw [e3]
  exact Tot.bind (eqStringSS_tot l hl hs) (fun y4 e4 => Tot.pos e4 (Tot.some_ rfl))

end Go.Proofs.Ytkboogeadijoeaa.Pure
