/- Proved: SortTexts of the program and of the reference answer alike at all arguments, what came in stays as it was, and the answer owns its memory. Conditions: those of the given statement alone. -/
import Derived.Test.YtlhcibfliapbpaaPFnExactSortTextsx3
import Derived.Test.YtlhcibfliapbpaaBase
import Derived.Test.YtlhcibfliapbpaaSrt
set_option linter.unusedVariables false
set_option linter.unusedSimpArgs false
namespace Go.Proofs.Ytlhcibfliapbpaa.Pure
open Go.RowKit Go.Proofs.Ytlhcibfliapbpaa.PFnExactSortTexts Go.Proofs.Ytlhcibfliapbpaa.Base Go.Proofs.YtlhcibfliapbpaaW.PrintWords Go.Proofs.YtlhcibfliapbpaaW.PrintLast Go.Proofs.YtlhcibfliapbpaaW.PrintMore Go.Proofs.Ytlhcibfliapbpaa

theorem rdStr (l : List ByteArray) (i : Nat) (h : i < l.length) : rdOf ByteArray.empty l (i : Int) = l[i] := by
  unfold rdOf
  rw [Int.toNat_natCast]
  exact getDin l _ i h

/-- What the texts weigh together. -/
def weight (l : List ByteArray) : Nat := (l.map fun x => x.size).sum
theorem szStringS_tot (l : List ByteArray) (hl : l.length ≤ maxLen) (hs : ∀ x ∈ l, x.size ≤ maxLen) (a : Int) (ha : 0 ≤ a ∧ a ≤ 1048576) : Tot (fun k => laws_szStringS.f k l a) (fun y => y ≤ a ∧ (0 ≤ y → y = a - (l.length : Int) - (weight l : Int)) ∧ -1 ≤ y) := by
  have hmx : maxLen = 9223372036854775807 := rfl
  have key : ∀ (d i : Nat) (b : Int), l.length - i = d → i ≤ l.length → 0 ≤ b ∧ b ≤ 1048576 → l.length ≤ 1048576 → Tot (fun k => laws_szStringS.l0 k l b (i : Int)) (fun y => y ≤ b ∧ (0 ≤ y → y = b - (weight (l.drop i) : Int)) ∧ -1 ≤ y) := by
    intro d
    induction d with
    | zero =>
      intro i b hd hi hb hll
      refine Tot.up ?_
      simp only [laws_szStringS.l0]
      refine Tot.neg (by omega) (Tot.some_ ?_)
      rw [List.drop_of_length_le (by omega)]
      simp [weight]
      omega
    | succ d ih =>
      intro i b hd hi hb hll
      have hlt : i < l.length := by omega
      have hx := hs _ (List.getElem_mem hlt)
      refine Tot.up ?_
      simp only [laws_szStringS.l0]
      refine Tot.pos (by omega) (Tot.pos (by omega) ?_)
      rw [rdStr l i hlt, w64 (n := b - (l[i].size : Int)) (by omega) (by omega), w64 (n := (i : Int) + 1) (by omega) (by omega)]
      refine Tot.ite (fun h => Tot.some_ ⟨by omega, fun h => by omega, by omega⟩) (fun h => ?_)
      refine (ih (i + 1) _ (by omega) (by omega) (by omega) hll).imp (fun y hy => ⟨by omega, fun h0 => ?_, hy.2.2⟩)
      rw [hy.2.1 h0, List.drop_eq_getElem_cons hlt]
      simp only [weight, List.map_cons, List.sum_cons]
      omega
  simp only [laws_szStringS.f]
  rw [w64 (n := a - (l.length : Int)) (by omega) (by omega)]
  refine Tot.ite (fun h => Tot.some_ ⟨by omega, fun h => by omega, by omega⟩) (fun h => ?_)
  refine (key l.length 0 _ (by omega) (by omega) (by omega) (by omega)).imp (fun y hy => ⟨by omega, fun h0 => ?_, hy.2.2⟩)
  rw [hy.2.1 h0, List.drop_zero]
theorem weight_le (l : List ByteArray) (x : ByteArray) (h : x ∈ l) : x.size ≤ weight l := by
  induction l with
  | nil => simp at h
  | cons a t ih =>
    simp only [weight, List.map_cons, List.sum_cons]
    rcases List.mem_cons.1 h with rfl | h
    · omega
    · have := ih h
      unfold weight at this
      omega

theorem toStringS_tot (l : List ByteArray) (hl : l.length ≤ 1048576) : Tot (fun k => laws_toStringS.f k l) (fun y => y = l) := by
  have hz : (List.replicate l.length (⟨#[]⟩ : ByteArray)).length = l.length := by simp
  have h := fun k hk => loop_up (fun k (x : List ByteArray × Int) => laws_toStringS.l0 k l x.1 x.2) l.length 0 (fun i => (mixed l (List.replicate l.length (⟨#[]⟩ : ByteArray)) i, (i : Int))) l (fun i k hi _ => by
    have e2 := mixed_length l (List.replicate l.length (⟨#[]⟩ : ByteArray)) i hz.symm
    have e3 := mixed_set l (List.replicate l.length (⟨#[]⟩ : ByteArray)) i l[i] hz.symm (by omega) (getDin l _ i hi)
    simp only [laws_toStringS.l0, Int.toNat_natCast]
    rw [if_pos (by omega), if_pos (by omega), if_pos (by rw [e2, hz]; omega), w64 (by omega) (by omega), rdStr l i hi, e3]
    rfl) (fun k _ => by
    simp only [laws_toStringS.l0]
    rw [if_neg (by omega), mixed_end _ _ _ (by omega) (by rw [hz]; omega)]) k hk
  rw [mixed_zero] at h
  simp only [laws_toStringS.f]
  refine Tot.pos (by omega) (Tot.pos (by omega) (Tot.at_ (l.length + 1) rfl (fun k hk => h k (by omega))))

theorem eqStringS_tot (l : List ByteArray) (hl : l.length ≤ 1048576) : Tot (fun k => laws_eqStringS.f k l l) (fun y => y = true) := by
  have h := fun k hk => loop_up (fun k (x : Int) => laws_eqStringS.l0 k l l x) l.length 0 (fun i => (i : Int)) true (fun i k hi _ => by
    simp only [laws_eqStringS.l0]
    rw [if_pos (by omega), if_pos (by omega), if_pos (by omega), if_pos trivial, w64 (by omega) (by omega)]
    rfl) (fun k _ => by
    simp only [laws_eqStringS.l0]
    rw [if_neg (by omega)]) k hk
  simp only [laws_eqStringS.f]
  exact Tot.pos trivial (Tot.at_ (l.length + 1) rfl (fun k hk => h k (by omega)))



theorem markText_l0 : ∀ (n : Nat) (m : Nat) (x : ByteArray), m < 10 ^ n → x.size + n + 1 ≤ 1000 → m ≤ 1099511627776 → Tot (fun k => laws_markText.l0 k (m : Int) x) (fun y => y.size ≤ x.size + n + 1) := by
  intro n
  induction n with
  | zero =>
    intro m x hm hx hle
    refine Tot.up ?_
    simp only [laws_markText.l0]
    refine Tot.neg (by omega) (Tot.pos (by omega) (Tot.some_ ?_))
    rw [ByteArray.size_append]
    show 1 + x.size ≤ _
    omega
  | succ n ih =>
    intro m x hm hx hle
    refine Tot.up ?_
    simp only [laws_markText.l0]
    refine Tot.ite (fun h0 => ?_) (fun h0 => Tot.pos (by omega) (Tot.some_ (by
      rw [ByteArray.size_append]
      show 1 + x.size ≤ _
      omega)))
    simp only [Option.bind_some]
    have h1 : (strOfNums [wrap64 (48 + Int.tmod (m : Int) 10) % 256]).size = 1 := rfl
    rw [show (10 : Int) = ((10 : Nat) : Int) from rfl, tdiv_nat, wnat (m / 10) (by omega)]
    refine Tot.pos (by rw [show ((10 : Nat) : Int) = (10 : Int) from rfl, h1]; omega) ?_
    have hp : 10 ^ (n + 1) = 10 * 10 ^ n := by rw [Nat.pow_succ, Nat.mul_comm]
    have h2 : (strOfNums [wrap64 (48 + Int.tmod (m : Int) ((10 : Nat) : Int)) % 256] ++ x).size = 1 + x.size := by rw [ByteArray.size_append]; rfl
    refine (ih (m / 10) _ (by omega) (by rw [h2]; omega) (by omega)).imp (fun y hy => ?_)
    rw [h2] at hy
    omega
theorem markText_tot (m : Int) (h0 : 0 ≤ m) (h1 : m ≤ 1099511627776) : Tot (fun k => laws_markText.f k m) (fun y => y.size ≤ 64) := by
  obtain ⟨m, rfl⟩ := Int.eq_ofNat_of_zero_le h0
  simp only [laws_markText.f]
  refine Tot.ite (fun _ => Tot.some_ (show 2 ≤ 64 by omega)) (fun _ => ?_)
  refine (markText_l0 13 m _ (by omega) (by show 0 + 13 + 1 ≤ 1000; omega) (by omega)).imp (fun y hy => ?_)
  have h2 : (⟨#[]⟩ : ByteArray).size = 0 := rfl
  omega
/-- The mark of a number. -/
noncomputable def mt (m : Int) : ByteArray := Classical.epsilon fun y => Tot (fun k => laws_markText.f k m) (fun z => z = y)
theorem mt_tot (m : Int) (h0 : 0 ≤ m) (h1 : m ≤ 1099511627776) : Tot (fun k => laws_markText.f k m) (fun z => z = mt m) := by
  obtain ⟨y, _, h⟩ := (markText_tot m h0 h1).val
  exact Classical.epsilon_spec (p := fun y => Tot (fun k => laws_markText.f k m) (fun z => z = y)) ⟨y, h⟩

noncomputable def mts (m : Int) (n : Nat) : List ByteArray := (List.range n).map fun (i : Nat) => mt (m + (i : Int))
theorem mts_length (m : Int) (n : Nat) : (mts m n).length = n := by simp [mts]
theorem mts_get (m : Int) (n i : Nat) (h : i < n) : (mts m n)[i]'(by rw [mts_length]; exact h) = mt (m + (i : Int)) := by simp [mts]
theorem markStringS_tot (l : List ByteArray) (hl : l.length ≤ 1048576) (m : Int) (h0 : 0 ≤ m) (h1 : m ≤ 4294967296) : Tot (fun k => laws_markStringS.f k l m) (fun y => y = (m + (l.length : Int), mts m l.length)) := by
  have hz := mts_length m l.length
  have key : ∀ (d i : Nat), l.length - i = d → i ≤ l.length → Tot (fun k => laws_markStringS.l0 k (mixed (mts m l.length) l i) (m + (i : Int)) (i : Int)) (fun y => y = (m + (l.length : Int), mts m l.length)) := by
    intro d
    induction d with
    | zero =>
      intro i hd hi
      refine Tot.up ?_
      have e : i = l.length := by omega
      subst e
      simp only [laws_markStringS.l0]
      refine Tot.neg (by rw [mixed_length _ _ _ hz]; omega) (Tot.some_ ?_)
      rw [mixed_end _ _ _ (by omega) (by omega)]
    | succ d ih =>
      intro i hd hi
      refine Tot.up ?_
      simp only [laws_markStringS.l0]
      refine Tot.pos (by rw [mixed_length _ _ _ hz]; omega) (Tot.bind (mt_tot _ (by omega) (by omega)) (fun y hy => Tot.pos (by omega) ?_))
      rw [hy, Int.toNat_natCast, mixed_set _ _ i _ hz (by omega) (by rw [getDin _ _ i (by omega), mts_get m _ i (by omega)]), w64 (n := m + (i : Int) + 1) (by omega) (by omega), w64 (n := (i : Int) + 1) (by omega) (by omega), show m + (i : Int) + 1 = m + ((i + 1 : Nat) : Int) by omega]
      exact ih (i + 1) (by omega) (by omega)
  have h := key l.length 0 (by omega) (by omega)
  rw [mixed_zero, show m + ((0 : Nat) : Int) = m by omega] at h
  exact h
theorem heldStringS_tot (n : Nat) (hn : n ≤ 1048576) (m : Int) (h0 : 0 ≤ m) (h1 : m ≤ 4294967296) : Tot (fun k => laws_heldStringS.f k (mts m n) m) (fun y => y = m + (n : Int)) := by
  have hz := mts_length m n
  have key : ∀ (d i : Nat), n - i = d → i ≤ n → Tot (fun k => laws_heldStringS.l0 k (mts m n) (m + (i : Int)) (i : Int)) (fun y => y = m + (n : Int)) := by
    intro d
    induction d with
    | zero =>
      intro i hd hi
      refine Tot.up ?_
      simp only [laws_heldStringS.l0]
      refine Tot.neg (by rw [hz]; omega) (Tot.some_ (by omega))
    | succ d ih =>
      intro i hd hi
      refine Tot.up ?_
      simp only [laws_heldStringS.l0]
      refine Tot.pos (by rw [hz]; omega) (Tot.pos (by omega) (Tot.bind (mt_tot _ (by omega) (by omega)) (fun y hy => ?_)))
      rw [hy, rdStr _ i (by omega), mts_get m n i (by omega), w64 (n := m + (i : Int) + 1) (by omega) (by omega), w64 (n := (i : Int) + 1) (by omega) (by omega), show m + (i : Int) + 1 = m + ((i + 1 : Nat) : Int) by omega]
      exact Tot.pos rfl (ih (i + 1) (by omega) (by omega))
  have h := key n 0 (by omega) (by omega)
  rw [show m + ((0 : Nat) : Int) = m by omega] at h
  exact h

def PoolOk (l : List ByteArray) : Prop := l.length ≤ 12 ∧ ∀ x ∈ l, x.size ≤ 24
open Classical in
noncomputable def pb (p : Prop) : Bool := decide p
theorem pb_true {p : Prop} (h : p) : pb p = true := by classical exact decide_eq_true h
theorem pb_false {p : Prop} (h : ¬ p) : pb p = false := by classical exact decide_eq_false h
theorem pb_iff {p q : Prop} (h : p ↔ q) : pb p = pb q := by rw [show p = q from propext h]
theorem pb_dec {p : Prop} [hd_ : Decidable p] : decide p = pb p := by
  by_cases h : p
  · rw [decide_eq_true h, pb_true h]
  · rw [decide_eq_false h, pb_false h]
theorem pb_of {p : Prop} (h : pb p = true) : p := by
  by_cases hp : p
  · exact hp
  · rw [pb_false hp] at h; simp at h
theorem pool_tot (l : List ByteArray) (hl : l.length ≤ 1048576) : Tot (fun k => spec_l8Pool.f k l) (fun y => y = pb (PoolOk l)) := by
  have key : ∀ (d i : Nat), l.length - i = d → i ≤ l.length → (∀ x ∈ l.take i, x.size ≤ 24) → Tot (fun k => spec_l8Pool.l0 k l l (l.length : Int) (i : Int)) (fun y => y = pb (PoolOk l)) := by
    intro d
    induction d with
    | zero =>
      intro i hd hi ht
      rw [List.take_of_length_le (by omega)] at ht
      refine Tot.up ?_
      simp only [spec_l8Pool.l0]
      refine Tot.neg (by omega) (Tot.some_ ?_)
      rw [pb_dec]
      exact pb_iff ⟨fun h => ⟨by omega, ht⟩, fun h => by have := h.1; omega⟩
    | succ d ih =>
      intro i hd hi ht
      have hlt : i < l.length := by omega
      refine Tot.up ?_
      simp only [spec_l8Pool.l0, spec_l8Text.f, Option.bind_some]
      refine Tot.pos (by omega) (Tot.pos (by omega) (Tot.pos (by omega) ?_))
      rw [rdStr l i hlt, w64 (n := (i : Int) + 1) (by omega) (by omega)]
      refine Tot.ite (fun h => ?_) (fun h => Tot.some_ ?_)
      · rw [decide_eq_true_iff] at h
        refine ih (i + 1) (by omega) (by omega) (fun x hx => ?_)
        rw [List.take_succ_eq_append_getElem hlt, List.mem_append, List.mem_singleton] at hx
        rcases hx with hx | rfl
        · exact ht x hx
        · omega
      · rw [decide_eq_true_iff] at h
        exact (pb_false (fun h3 => h (by have := h3.2 _ (List.getElem_mem hlt); omega))).symm
  exact key l.length 0 (by omega) (by omega) (by simp)
theorem letters_tot (l : List ByteArray) (hl : l.length ≤ 1048576) : Tot (fun k => impl_areLetters.f k l) (fun y => y = pb (PoolOk l)) := by
  have key : ∀ (d i : Nat), l.length - i = d → i ≤ l.length → Tot (fun k => slices_IndexFunc_string_string.l0 k l (l.length : Int) (i : Int)) (fun y => y ≥ 0 ↔ ¬ ∀ x ∈ l.drop i, x.size ≤ 24) := by
    intro d
    induction d with
    | zero =>
      intro i hd hi
      refine Tot.up ?_
      simp only [slices_IndexFunc_string_string.l0]
      refine Tot.neg (by omega) (Tot.some_ ?_)
      rw [List.drop_of_length_le (by omega)]
      simp
    | succ d ih =>
      intro i hd hi
      have hlt : i < l.length := by omega
      refine Tot.up ?_
      simp only [slices_IndexFunc_string_string.l0, impl_areLetters_1.f, impl_isLetter.f, Option.bind_some]
      refine Tot.pos (by omega) (Tot.pos (by omega) (Tot.pos (by omega) ?_))
      rw [rdStr l i hlt, w64 (n := (i : Int) + 1) (by omega) (by omega), List.drop_eq_getElem_cons hlt]
      refine Tot.ite (fun h => Tot.some_ ?_) (fun h => (ih (i + 1) (by omega) (by omega)).imp (fun y hy => ?_))
      · rw [Bool.not_eq_true', decide_eq_false_iff_not] at h
        simp only [List.mem_cons, forall_eq_or_imp]
        exact ⟨fun _ h3 => h (by have := h3.1; omega), fun _ => by omega⟩
      · rw [Bool.not_eq_true', decide_eq_false_iff_not] at h
        rw [hy]
        simp only [List.mem_cons, forall_eq_or_imp]
        exact ⟨fun h3 h4 => h3 h4.2, fun h3 h4 => h3 ⟨by omega, h4⟩⟩
  simp only [impl_areLetters.f, slices_ContainsFunc_string_string.f, slices_IndexFunc_string_string.f]
  refine Tot.ite (fun h => ?_) (fun h => Tot.some_ (pb_false (fun h3 => h (by have := h3.1; omega))).symm)
  refine Tot.bind (Tot.bind (key l.length 0 (by omega) (by omega)) (fun y hy => Tot.some_ (Q := fun b => b = pb (¬ ∀ x ∈ l, x.size ≤ 24)) (by rw [pb_dec]; exact pb_iff hy))) (fun b hb => Tot.some_ ?_)
  rw [hb]
  by_cases hp : ∀ x ∈ l, x.size ≤ 24
  · rw [pb_false (fun h3 => h3 hp), pb_true ⟨by omega, hp⟩]; rfl
  · rw [pb_true hp, pb_false (fun h3 => hp h3.2)]; rfl

/-- Not behind. -/
def le8 (x y : ByteArray) : Prop := Op.bytesLess y.toList x.toList = false
theorem le8_iff {x y : ByteArray} : le8 x y ↔ x.data.toList ≤ y.data.toList := by
  unfold le8
  rw [Go.Proofs.bytesLess_eq, Lib.toList_data, Lib.toList_data, decide_eq_false_iff_not]
  exact List.not_lt
theorem le8_trans {x y z : ByteArray} (h1 : le8 x y) (h2 : le8 y z) : le8 x z := by
  rw [le8_iff] at *
  exact List.le_trans h1 h2
theorem le8_of_less {x y : ByteArray} (h : Op.bytesLess x.toList y.toList = true) : le8 x y := by
  rw [le8_iff]
  rw [Go.Proofs.bytesLess_eq, Lib.toList_data, Lib.toList_data, decide_eq_true_iff] at h
  exact List.le_of_lt h
theorem ins_ok (l : List ByteArray) (s : ByteArray) (i : Nat) (hp : l.Pairwise le8) (h1 : ∀ x ∈ l.take i, le8 x s) (h2 : ∀ x ∈ l.drop i, le8 s x) : (l.take i ++ [s] ++ l.drop i).Perm (s :: l) ∧ (l.take i ++ [s] ++ l.drop i).Pairwise le8 := by
  constructor
  · have h : (l.take i ++ s :: l.drop i).Perm (s :: (l.take i ++ l.drop i)) := List.perm_middle
    rw [List.take_append_drop] at h
    rwa [List.append_assoc, List.singleton_append]
  · have h0 := hp
    rw [← List.take_append_drop i l, List.pairwise_append] at h0
    rw [List.append_assoc, List.singleton_append, List.pairwise_append, List.pairwise_cons]
    refine ⟨h0.1, ⟨h2, h0.2.1⟩, fun a ha b hb => ?_⟩
    rcases List.mem_cons.1 hb with rfl | hb
    · exact h1 a ha
    · exact h0.2.2 a ha b hb
theorem place_tot (l : List ByteArray) (s : ByteArray) (hl : l.length ≤ 1048576) (hp : l.Pairwise le8) : Tot (fun k => spec_l8Place.f k l s) (fun y => y.Perm (s :: l) ∧ y.Pairwise le8) := by
  have key : ∀ (d i : Nat), l.length - i = d → i ≤ l.length → (∀ x ∈ l.take i, le8 x s) → Tot (fun k => spec_l8Place.l0 k l s (i : Int)) (fun y => y.Perm (s :: l) ∧ y.Pairwise le8) := by
    intro d
    induction d with
    | zero =>
      intro i hd hi ht
      refine Tot.up ?_
      simp only [spec_l8Place.l0, Option.bind_some, Int.toNat_natCast, List.nil_append]
      refine Tot.neg (by omega) (Tot.pos (by omega) (Tot.pos (by omega) (Tot.pos (by simp; omega) (Tot.pos (by simp; omega) (Tot.pos (by simp; omega) (Tot.some_ ?_))))))
      exact ins_ok l s i hp ht (by rw [List.drop_of_length_le (by omega)]; simp)
    | succ d ih =>
      intro i hd hi ht
      have hlt : i < l.length := by omega
      refine Tot.up ?_
      simp only [spec_l8Place.l0, Option.bind_some, Int.toNat_natCast, List.nil_append]
      rw [rdStr l i hlt, w64 (n := (i : Int) + 1) (by omega) (by omega)]
      refine Tot.pos (by omega) (Tot.pos (by omega) (Tot.ite (fun h => ?_) (fun h => ih (i + 1) (by omega) (by omega) (fun x hx => ?_))))
      · refine Tot.pos (by omega) (Tot.pos (by simp; omega) (Tot.pos (by simp; omega) (Tot.pos (by simp; omega) (Tot.some_ ?_))))
        refine ins_ok l s i hp ht (fun x hx => ?_)
        have hs := le8_of_less h
        rw [List.drop_eq_getElem_cons hlt] at hx
        rcases List.mem_cons.1 hx with rfl | hx
        · exact hs
        · have h0 := hp
          rw [← List.take_append_drop i l, List.pairwise_append, List.drop_eq_getElem_cons hlt, List.pairwise_cons] at h0
          exact le8_trans hs (h0.2.1.1 x hx)
      · rw [List.take_succ_eq_append_getElem hlt, List.mem_append, List.mem_singleton] at hx
        rcases hx with hx | rfl
        · exact ht x hx
        · unfold le8
          simpa using h
  exact key l.length 0 (by omega) (by omega) (by simp)
open Go.Proofs.Ytlhcibfliapbpaa.Srt in
theorem sortB_eq {y l : List ByteArray} (h1 : y.Perm l) (h2 : y.Pairwise le8) : y = sortB l := by
  have e : y.map (·.data.toList) = (l.map (·.data.toList)).mergeSort (fun x y => decide (x ≤ y)) := by
    refine List.Perm.eq_of_pairwise (le := fun a b => a ≤ b) (fun a b _ _ hab hba => List.le_antisymm hab hba) ?_ ?_ ?_
    · rw [List.pairwise_map]
      exact h2.imp (fun h => le8_iff.1 h)
    · have h := List.pairwise_mergeSort (le := fun (x y : List UInt8) => decide (x ≤ y)) (fun a b c h1 h2 => by
        rw [decide_eq_true_iff] at *
        exact List.le_trans h1 h2) (fun a b => by
        rw [Bool.or_eq_true, decide_eq_true_iff, decide_eq_true_iff]
        exact List.le_total a b) (l.map (·.data.toList))
      exact h.imp (fun h => of_decide_eq_true h)
    · exact (h1.map _).trans (List.mergeSort_perm _ _).symm
  unfold sortB
  rw [← e, List.map_map]
  refine (List.map_id'' (fun x => ?_) y).symm
  exact Lib.mk_data x
open Go.Proofs.Ytlhcibfliapbpaa.Srt in
theorem sort_tot (l : List ByteArray) (hl : l.length ≤ 1048576) : Tot (fun k => spec_l8Sort.f k l) (fun y => y = sortB l) := by
  have key : ∀ (d i : Nat) (x : List ByteArray), l.length - i = d → i ≤ l.length → x.Perm (l.take i) → x.Pairwise le8 → Tot (fun k => spec_l8Sort.l0 k x l (l.length : Int) (i : Int)) (fun y => y = sortB l) := by
    intro d
    induction d with
    | zero =>
      intro i x hd hi h1 h2
      rw [List.take_of_length_le (by omega)] at h1
      refine Tot.up ?_
      simp only [spec_l8Sort.l0]
      exact Tot.neg (by omega) (Tot.some_ (sortB_eq h1 h2))
    | succ d ih =>
      intro i x hd hi h1 h2
      have hlt : i < l.length := by omega
      have hx : x.length ≤ 1048576 := by rw [h1.length_eq, List.length_take]; omega
      refine Tot.up ?_
      simp only [spec_l8Sort.l0]
      rw [rdStr l i hlt, w64 (n := (i : Int) + 1) (by omega) (by omega)]
      refine Tot.pos (by omega) (Tot.pos (by omega) (Tot.pos (by omega) (Tot.bind (place_tot x l[i] hx h2) (fun y hy => ih (i + 1) y (by omega) (by omega) ?_ hy.2))))
      rw [List.take_succ_eq_append_getElem hlt]
      exact hy.1.trans ((h1.cons _).trans (List.perm_append_singleton _ _).symm)
  exact key l.length 0 [] (by omega) (by omega) (by simp) List.Pairwise.nil
open Go.Proofs.Ytlhcibfliapbpaa.Srt in
noncomputable def txtV (l : List ByteArray) : List ByteArray × Bool := by classical exact if PoolOk l then (sortB l, true) else ([], false)
open Go.Proofs.Ytlhcibfliapbpaa.Srt in
theorem specSort_tot (l : List ByteArray) (hl : l.length ≤ 1048576) : Tot (fun k => spec_SortTexts.f k l) (fun y => y = txtV l) := by
  simp only [spec_SortTexts.f]
  refine Tot.bind (pool_tot l hl) (fun y e => ?_)
  subst e
  by_cases hp : PoolOk l
  · refine Tot.pos (pb_true hp) (Tot.bind (sort_tot l hl) (fun y e => Tot.some_ ?_))
    subst e
    unfold txtV
    rw [if_pos hp]
  · refine Tot.neg (by rw [pb_false hp]; simp) (Tot.some_ ?_)
    unfold txtV
    rw [if_neg hp]
open Go.Proofs.Ytlhcibfliapbpaa.Srt in
theorem implSort_tot (l : List ByteArray) (hl : l.length ≤ 1048576) : Tot (fun k => impl_SortTexts.f k l) (fun y => y = txtV l) := by
  simp only [impl_SortTexts.f]
  refine Tot.bind (letters_tot l hl) (fun y e => ?_)
  subst e
  by_cases hp : PoolOk l
  · refine Tot.pos (pb_true hp) (Tot.pos hl (Tot.some_ ?_))
    unfold txtV
    rw [if_pos hp]
  · refine Tot.neg (by rw [pb_false hp]; simp) (Tot.some_ ?_)
    unfold txtV
    rw [if_neg hp]
open Go.Proofs.Ytlhcibfliapbpaa.Srt in
theorem txtV_length (l : List ByteArray) : (txtV l).1.length ≤ l.length := by
  unfold txtV
  split
  · simp [sortB]
  · simp
theorem FnExactSortTexts : laws_FnExactSortTexts.Pure := by
  intro l hw
  refine Tot.ex ?_
  simp only [laws_FnExactSortTexts.f]
  refine Tot.bind (szStringS_tot l hw.1 hw.2 1048576 (by omega)) (fun y0 h0 => Tot.ite (fun _ => Tot.some_ rfl) (fun hy0 => ?_))
  have hsz := h0.2.1 (by omega)
  have hl : l.length ≤ 1048576 := by omega
  have hr := txtV_length l
  have hs := specSort_tot l hl
  have hi := implSort_tot l hl
  generalize txtV l = v at hr hs hi
  obtain ⟨r, b⟩ := v
  simp only at hr
  have hr : r.length ≤ 1048576 := by omega
  refine Tot.bind (toStringS_tot l hl) (fun y1 e1 => ?_)
  rw [e1]
  refine Tot.bind hs (fun y2 e2 => ?_)
  rw [e2]
  refine Tot.bind (toStringS_tot l hl) (fun y3 e3 => ?_)
  rw [e3]
  refine Tot.bind hi (fun y4 e4 => ?_)
  rw [e4]
  refine Tot.bind (eqStringS_tot r hr) (fun y5 e5 => Tot.pos e5 (Tot.neg (by simp) ?_))
  refine Tot.bind (toStringS_tot l hl) (fun y6 e6 => ?_)
  rw [e6]
  refine Tot.bind (eqStringS_tot l hl) (fun y7 e7 => Tot.pos e7 ?_)
  refine Tot.bind (markStringS_tot l hl 1 (by omega) (by omega)) (fun y8 e8 => ?_)
  rw [e8]
  refine Tot.neg (by simp only; omega) ?_
  refine Tot.bind (eqStringS_tot r hr) (fun y9 e9 => Tot.pos e9 ?_)
  refine Tot.bind (markStringS_tot r hr 1 (by omega) (by omega)) (fun y10 e10 => ?_)
  rw [e10]
  refine Tot.bind (heldStringS_tot r.length hr 1 (by omega) (by omega)) (fun y11 e11 => ?_)
  rw [e11]
  refine Tot.neg (by omega) (Tot.pos rfl ?_)
  refine Tot.bind (toStringS_tot l hl) (fun y12 e12 => ?_)
  rw [e12]
  refine Tot.bind hi (fun y13 e13 => ?_)
  rw [e13]
  refine Tot.bind (eqStringS_tot r hr) (fun y14 e14 => Tot.pos e14 (Tot.neg (by simp) ?_))
  refine Tot.bind (heldStringS_tot r.length hr 1 (by omega) (by omega)) (fun y15 e15 => ?_)
  rw [e15]
  exact Tot.neg (by omega) (Tot.pos rfl (Tot.some_ rfl))

end Go.Proofs.Ytlhcibfliapbpaa.Pure
