/- Proved: GoodMix of the program and of the reference answer alike at all arguments, and what came in stays as it was. Conditions: those of the given statement alone. -/
import Derived.Test.YtbjoddpaefecmaaPFnExactGoodMixx6
import Derived.Test.YtbjoddpaefecmaaBase
set_option linter.unusedVariables false
set_option linter.unusedSimpArgs false
namespace Go.Proofs.Ytbjoddpaefecmaa.Pure
open Go.RowKit Go.Proofs.Ytbjoddpaefecmaa.PFnExactGoodMix Go.Proofs.Ytbjoddpaefecmaa.Base Go.Proofs.YtbjoddpaefecmaaW.PrintWords Go.Proofs.YtbjoddpaefecmaaW.PrintLast Go.Proofs.YtbjoddpaefecmaaW.PrintMore Go.Proofs.Ytbjoddpaefecmaa

theorem toIntS_l0 (l : List Int) (hl : l.length ≤ 1048576) : ∀ (d k i : Nat) (out : List Int), l.length - i = d → d < k → i ≤ l.length → out.length = l.length → out.take i = l.take i → laws_toIntS.l0 k l out (i : Int) = some l := by
  intro d
  induction d with
  | zero =>
    intro k i out hd hk hi ho ht
    obtain ⟨k, rfl⟩ := rounds hk
    simp only [laws_toIntS.l0]
    rw [if_neg (by omega), take_all out l i ht (by omega) (by omega)]
  | succ d ih =>
    intro k i out hd hk hi ho ht
    obtain ⟨k, rfl⟩ := rounds hk
    simp only [laws_toIntS.l0]
    rw [if_pos (by omega), if_pos (by omega), if_pos (by omega), w64 (by omega) (by omega), Int.toNat_natCast, rd_in l i (by omega)]
    exact ih k (i + 1) _ (by omega) (by omega) (by omega) (by rw [List.length_set]; exact ho) (take_set out l i _ ht (by omega) (by omega) rfl)

theorem toIntS_eq (l : List Int) (hl : l.length ≤ 1048576) (k : Nat) (hk : l.length < k) : laws_toIntS.f k l = some l := by
  unfold laws_toIntS.f
  rw [if_pos (by omega), if_pos (by omega)]
  exact toIntS_l0 l hl l.length k 0 _ (by omega) hk (by omega) (by simp) (by simp)

theorem eqIntS_l0 (l : List Int) (hl : l.length ≤ 1048576) : ∀ (d k i : Nat), l.length - i = d → d < k → laws_eqIntS.l0 k l l (i : Int) = some true := by
  intro d
  induction d with
  | zero =>
    intro k i hd hk
    obtain ⟨k, rfl⟩ := rounds hk
    simp only [laws_eqIntS.l0]
    rw [if_neg (by omega)]
  | succ d ih =>
    intro k i hd hk
    obtain ⟨k, rfl⟩ := rounds hk
    simp only [laws_eqIntS.l0]
    rw [if_pos (by omega), if_pos (by omega), if_pos (by omega), if_pos trivial, w64 (by omega) (by omega)]
    exact ih k (i + 1) (by omega) (by omega)

theorem eqIntS_self (l : List Int) (hl : l.length ≤ 1048576) (k : Nat) (hk : l.length < k) : laws_eqIntS.f k l l = some true := by
  unfold laws_eqIntS.f
  rw [if_pos rfl]
  exact eqIntS_l0 l hl l.length k 0 (by omega) hk

theorem toIntS_tot (l : List Int) (hl : l.length ≤ 1048576) : Tot (fun k => laws_toIntS.f k l) (fun y => y = l) := Tot.at_ (l.length + 1) rfl (fun k hk => toIntS_eq l hl k (by omega))
theorem eqIntS_tot (l : List Int) (hl : l.length ≤ 1048576) : Tot (fun k => laws_eqIntS.f k l l) (fun y => y = true) := Tot.at_ (l.length + 1) rfl (fun k hk => eqIntS_self l hl k (by omega))

theorem rdStr (l : List ByteArray) (i : Nat) (h : i < l.length) : rdOf ByteArray.empty l (i : Int) = l[i] := by
  unfold rdOf
  rw [Int.toNat_natCast]
  exact getDin l _ i h

/-- What the texts weigh together. -/
def weight (l : List ByteArray) : Nat := (l.map fun x => x.size).sum
theorem szStringS_tot (l : List ByteArray) (hl : l.length ≤ maxLen) (hs : ∀ x ∈ l, x.size ≤ maxLen) (a : Int) (ha : 0 ≤ a ∧ a ≤ 1048576) : Tot (fun k => laws_szStringS.f k l a) (fun y => y ≤ a ∧ (0 ≤ y → y = a - (l.length : Int) - (weight l : Int)) ∧ -1 ≤ y) := by
  have hmx : maxLen = 9223372036854775807 := rfl
  have key : ∀ (d i : Nat) (b : Int), l.length - i = d → i ≤ l.length → 0 ≤ b ∧ b ≤ 1048576 → l.length ≤ 1048576 → Tot (fun k => laws_szStringS.l0 k l b (i : Int)) (fun y => y ≤ b ∧ (0 ≤ y → y = b - (weight (l.drop i) : Int)) ∧ -1 ≤ y) := by
    intro d
    induction d with
    | zero =>
      intro i b hd hi hb hll
      refine Tot.up ?_
      simp only [laws_szStringS.l0]
      refine Tot.neg (by omega) (Tot.some_ ?_)
      rw [List.drop_of_length_le (by omega)]
      simp [weight]
      omega
    | succ d ih =>
      intro i b hd hi hb hll
      have hlt : i < l.length := by omega
      have hx := hs _ (List.getElem_mem hlt)
      refine Tot.up ?_
      simp only [laws_szStringS.l0]
      refine Tot.pos (by omega) (Tot.pos (by omega) ?_)
      rw [rdStr l i hlt, w64 (n := b - (l[i].size : Int)) (by omega) (by omega), w64 (n := (i : Int) + 1) (by omega) (by omega)]
      refine Tot.ite (fun h => Tot.some_ ⟨by omega, fun h => by omega, by omega⟩) (fun h => ?_)
      refine (ih (i + 1) _ (by omega) (by omega) (by omega) hll).imp (fun y hy => ⟨by omega, fun h0 => ?_, hy.2.2⟩)
      rw [hy.2.1 h0, List.drop_eq_getElem_cons hlt]
      simp only [weight, List.map_cons, List.sum_cons]
      omega
  simp only [laws_szStringS.f]
  rw [w64 (n := a - (l.length : Int)) (by omega) (by omega)]
  refine Tot.ite (fun h => Tot.some_ ⟨by omega, fun h => by omega, by omega⟩) (fun h => ?_)
  refine (key l.length 0 _ (by omega) (by omega) (by omega) (by omega)).imp (fun y hy => ⟨by omega, fun h0 => ?_, hy.2.2⟩)
  rw [hy.2.1 h0, List.drop_zero]
theorem weight_le (l : List ByteArray) (x : ByteArray) (h : x ∈ l) : x.size ≤ weight l := by
  induction l with
  | nil => simp at h
  | cons a t ih =>
    simp only [weight, List.map_cons, List.sum_cons]
    rcases List.mem_cons.1 h with rfl | h
    · omega
    · have := ih h
      unfold weight at this
      omega

theorem toStringS_tot (l : List ByteArray) (hl : l.length ≤ 1048576) : Tot (fun k => laws_toStringS.f k l) (fun y => y = l) := by
  have hz : (List.replicate l.length (⟨#[]⟩ : ByteArray)).length = l.length := by simp
  have h := fun k hk => loop_up (fun k (x : List ByteArray × Int) => laws_toStringS.l0 k l x.1 x.2) l.length 0 (fun i => (mixed l (List.replicate l.length (⟨#[]⟩ : ByteArray)) i, (i : Int))) l (fun i k hi _ => by
    have e2 := mixed_length l (List.replicate l.length (⟨#[]⟩ : ByteArray)) i hz.symm
    have e3 := mixed_set l (List.replicate l.length (⟨#[]⟩ : ByteArray)) i l[i] hz.symm (by omega) (getDin l _ i hi)
    simp only [laws_toStringS.l0, Int.toNat_natCast]
    rw [if_pos (by omega), if_pos (by omega), if_pos (by rw [e2, hz]; omega), w64 (by omega) (by omega), rdStr l i hi, e3]
    rfl) (fun k _ => by
    simp only [laws_toStringS.l0]
    rw [if_neg (by omega), mixed_end _ _ _ (by omega) (by rw [hz]; omega)]) k hk
  rw [mixed_zero] at h
  simp only [laws_toStringS.f]
  refine Tot.pos (by omega) (Tot.pos (by omega) (Tot.at_ (l.length + 1) rfl (fun k hk => h k (by omega))))

theorem eqStringS_tot (l : List ByteArray) (hl : l.length ≤ 1048576) : Tot (fun k => laws_eqStringS.f k l l) (fun y => y = true) := by
  have h := fun k hk => loop_up (fun k (x : Int) => laws_eqStringS.l0 k l l x) l.length 0 (fun i => (i : Int)) true (fun i k hi _ => by
    simp only [laws_eqStringS.l0]
    rw [if_pos (by omega), if_pos (by omega), if_pos (by omega), if_pos trivial, w64 (by omega) (by omega)]
    rfl) (fun k _ => by
    simp only [laws_eqStringS.l0]
    rw [if_neg (by omega)]) k hk
  simp only [laws_eqStringS.f]
  exact Tot.pos trivial (Tot.at_ (l.length + 1) rfl (fun k hk => h k (by omega)))

theorem l1Has_l0 (l : List Int) (hl : l.length ≤ 1048576) (v : Int) : ∀ (d k i : Nat), l.length - i = d → d < k → i ≤ l.length → spec_l1Has.l0 k v l (l.length : Int) (i : Int) = some (decide (v ∈ l.drop i)) := by
  intro d
  induction d with
  | zero =>
    intro k i hd hk hi
    obtain ⟨k, rfl⟩ := rounds hk
    simp only [spec_l1Has.l0]
    rw [if_neg (by omega), List.drop_of_length_le (by omega)]
    simp
  | succ d ih =>
    intro k i hd hk hi
    obtain ⟨k, rfl⟩ := rounds hk
    simp only [spec_l1Has.l0]
    rw [if_pos (by omega), if_pos (by omega), if_pos (by omega), rd_in l i (by omega), w64 (by omega) (by omega), List.drop_eq_getElem_cons (show i < l.length by omega)]
    by_cases e : l[i] = v
    · rw [if_pos e]
      simp [e]
    · have h := ih k (i + 1) (by omega) (by omega) (by omega)
      rw [if_neg e]
      have h' : spec_l1Has.l0 k v l (l.length : Int) ((i : Int) + 1) = some (decide (v ∈ l.drop (i + 1))) := h
      rw [h']
      congr 1
      refine decide_eq_decide.2 ?_
      rw [List.mem_cons]
      exact ⟨fun h => .inr h, fun h => h.resolve_left (fun h => e h.symm)⟩

theorem l1Has_eq (l : List Int) (hl : l.length ≤ 1048576) (v : Int) (k : Nat) (hk : l.length < k) : spec_l1Has.f k l v = some (decide (v ∈ l)) := by
  have h := l1Has_l0 l hl v l.length k 0 (by omega) hk (by omega)
  rw [List.drop_zero] at h
  exact h

theorem index_l0 (l : List Int) (hl : l.length ≤ 1048576) (v : Int) : ∀ (d k i : Nat), l.length - i = d → d < k → i ≤ l.length → ∃ r, slices_Index_int_int.l0 k l v (l.length : Int) (i : Int) = some r ∧ (r ≥ 0 ↔ v ∈ l.drop i) := by
  intro d
  induction d with
  | zero =>
    intro k i hd hk hi
    obtain ⟨k, rfl⟩ := rounds hk
    refine ⟨-1, ?_, ?_⟩
    · simp only [slices_Index_int_int.l0]
      rw [if_neg (by omega)]
    · rw [List.drop_of_length_le (by omega)]
      simp
  | succ d ih =>
    intro k i hd hk hi
    obtain ⟨k, rfl⟩ := rounds hk
    simp only [slices_Index_int_int.l0]
    rw [if_pos (by omega), if_pos (by omega), if_pos (by omega), rd_in l i (by omega), w64 (by omega) (by omega)]
    have hdrop := List.drop_eq_getElem_cons (show i < l.length by omega)
    by_cases e : v = l[i]
    · exact ⟨i, by rw [if_pos e], by rw [hdrop, ← e]; simp⟩
    · obtain ⟨r, hr, h⟩ := ih k (i + 1) (by omega) (by omega) (by omega)
      refine ⟨r, by rw [if_neg e]; exact hr, ?_⟩
      rw [h, hdrop, List.mem_cons]
      exact ⟨fun h => .inr h, fun h => h.resolve_left e⟩

theorem contains_eq (l : List Int) (hl : l.length ≤ 1048576) (v : Int) (k : Nat) (hk : l.length < k) : slices_Contains_int_int.f k l v = some (decide (v ∈ l)) := by
  obtain ⟨r, hr, h⟩ := index_l0 l hl v l.length k 0 (by omega) hk (by omega)
  unfold slices_Contains_int_int.f slices_Index_int_int.f
  have hr' : slices_Index_int_int.l0 k l v (l.length : Int) 0 = some r := hr
  rw [hr']
  simp only [Option.bind_some]
  rw [List.drop_zero] at h
  congr 1
  exact decide_eq_decide.2 h

theorem l1In_eq (a b c : Int) : spec_l1In.f a b c = some (decide (b ≤ a ∧ a ≤ c)) := by
  unfold spec_l1In.f
  by_cases h : a ≥ b
  · rw [if_pos h]
    congr 1
    exact decide_eq_decide.2 ⟨fun h1 => ⟨h, h1⟩, fun h1 => h1.2⟩
  · rw [if_neg h, decide_eq_false (fun h1 => h h1.1)]

theorem within_eq (a b c : Int) : impl_within.f a b c = some (decide (b ≤ a ∧ a ≤ c)) := by
  unfold impl_within.f
  by_cases h : a ≥ b
  · rw [if_pos h]
    congr 1
    exact decide_eq_decide.2 ⟨fun h1 => ⟨h, h1⟩, fun h1 => h1.2⟩
  · rw [if_neg h, decide_eq_false (fun h1 => h h1.1)]

theorem btN (s : ByteArray) (i : Int) : 0 ≤ bt s i ∧ bt s i < 256 := by
  unfold bt
  split
  · have := (s[i.toNat]).toNat_lt
    omega
  · omega
/-- One letter's step of a tag. -/
def tg (x b : Int) : Int := Int.tmod (x * 257 + b + 1) 4093
theorem tg_in (x b : Int) (hx : 0 ≤ x ∧ x < 4093) (hb : 0 ≤ b ∧ b < 256) : 0 ≤ tg x b ∧ tg x b < 4093 := by
  unfold tg
  rw [Int.tmod_eq_emod_of_nonneg (by omega)]
  omega
theorem tag_tot (s : ByteArray) (hs : s.size ≤ 1048576) : ∀ (d i : Nat) (x : Int), s.size - i = d → i ≤ s.size → 0 ≤ x ∧ x < 4093 →
    ∃ y : Int, Tot (fun k => spec_l8Tag.l0 k s x (i : Int)) (fun z => z = y) ∧ Tot (fun k => impl_tag.l0 k s x (s.size : Int) (i : Int)) (fun z => z = y) := by
  intro d
  induction d with
  | zero =>
    intro i x hd hi hx
    refine ⟨x, Tot.up ?_, Tot.up ?_⟩
    · simp only [spec_l8Tag.l0]
      exact Tot.neg (by omega) (Tot.some_ rfl)
    · simp only [impl_tag.l0]
      exact Tot.neg (by omega) (Tot.some_ rfl)
  | succ d ih =>
    intro i x hd hi hx
    have hb := btN s (i : Int)
    obtain ⟨y, h1, h2⟩ := ih (i + 1) (tg x (bt s (i : Int))) (by omega) (by omega) (tg_in _ _ hx hb)
    unfold tg at h1 h2
    refine ⟨y, Tot.up ?_, Tot.up ?_⟩
    · simp only [spec_l8Tag.l0]
      rw [w64 (n := 257 * x) (by omega) (by omega), w64 (n := bt s (i : Int)) (by omega) (by omega), w64 (n := 257 * x + bt s (i : Int)) (by omega) (by omega), w64 (n := 257 * x + bt s (i : Int) + 1) (by omega) (by omega), w64 (n := (i : Int) + 1) (by omega) (by omega), show 257 * x = x * 257 by omega]
      exact Tot.pos (by omega) (Tot.pos (by omega) h1)
    · simp only [impl_tag.l0]
      rw [w64 (n := x * 257) (by omega) (by omega), w64 (n := bt s (i : Int)) (by omega) (by omega), w64 (n := x * 257 + bt s (i : Int)) (by omega) (by omega), w64 (n := x * 257 + bt s (i : Int) + 1) (by omega) (by omega), w64 (n := (i : Int) + 1) (by omega) (by omega)]
      exact Tot.pos (by omega) (Tot.pos (by omega) (Tot.pos (by omega) h2))
theorem tag_has (s : ByteArray) (hs : s.size ≤ 1048576) : ∃ y : Int, Tot (fun k => spec_l8Tag.f k s) (fun z => z = y) ∧ Tot (fun k => impl_tag.f k s) (fun z => z = y) := by
  simp only [spec_l8Tag.f, impl_tag.f]
  exact tag_tot s hs _ 0 0 rfl (by omega) (by omega)
noncomputable def tagV (s : ByteArray) (hs : s.size ≤ 1048576) : Int := Classical.choose (tag_has s hs)
noncomputable def tagOf (s : ByteArray) : Int := by classical exact if hs : s.size ≤ 1048576 then tagV s hs else 0
theorem specTag_tot (s : ByteArray) (hs : s.size ≤ 1048576) : Tot (fun k => spec_l8Tag.f k s) (fun z => z = tagOf s) := by
  unfold tagOf
  rw [dif_pos hs]
  exact (Classical.choose_spec (tag_has s hs)).1
theorem implTag_tot (s : ByteArray) (hs : s.size ≤ 1048576) : Tot (fun k => impl_tag.f k s) (fun z => z = tagOf s) := by
  unfold tagOf
  rw [dif_pos hs]
  exact (Classical.choose_spec (tag_has s hs)).2
/-- No text in front of a lesser one, from the i-th on. -/
def SortedFrom (l : List ByteArray) (i : Nat) : Prop := ∀ j, i ≤ j → 0 < j → (h : j < l.length) → Op.bytesLess (l[j]).toList (l[j - 1]'(by omega)).toList = false
/-- The tags of the texts from the i-th on: each is one of g, none twice. -/
def TagsFrom (l : List ByteArray) (g : List Int) (i : Nat) : Prop := ∀ j, i ≤ j → (h : j < l.length) → tagOf l[j] ∈ g ∧ tagOf l[j] ∉ (l.take j).map tagOf
def Rise (g : List Int) (i : Nat) : Prop := ∀ j, i ≤ j → 0 < j → (h : j < g.length) → g[j - 1]'(by omega) < g[j]
def RiseIn (g : List Int) : Prop := (∀ x ∈ g, 0 ≤ x ∧ x ≤ 4092) ∧ Rise g 0
def PoolOk (l : List ByteArray) : Prop := l.length ≤ 12 ∧ ∀ x ∈ l, x.size ≤ 24
open Classical in
noncomputable def pb (p : Prop) : Bool := decide p
theorem pb_true {p : Prop} (h : p) : pb p = true := by classical exact decide_eq_true h
theorem pb_false {p : Prop} (h : ¬ p) : pb p = false := by classical exact decide_eq_false h
theorem pb_iff {p q : Prop} (h : p ↔ q) : pb p = pb q := by rw [show p = q from propext h]
theorem pb_dec {p : Prop} [hd_ : Decidable p] : decide p = pb p := by
  by_cases h : p
  · rw [decide_eq_true h, pb_true h]
  · rw [decide_eq_false h, pb_false h]
theorem pb_of {p : Prop} (h : pb p = true) : p := by
  by_cases hp : p
  · exact hp
  · rw [pb_false hp] at h; simp at h
theorem pool_tot (l : List ByteArray) (hl : l.length ≤ 1048576) : Tot (fun k => spec_l8Pool.f k l) (fun y => y = pb (PoolOk l)) := by
  have key : ∀ (d i : Nat), l.length - i = d → i ≤ l.length → (∀ x ∈ l.take i, x.size ≤ 24) → Tot (fun k => spec_l8Pool.l0 k l l (l.length : Int) (i : Int)) (fun y => y = pb (PoolOk l)) := by
    intro d
    induction d with
    | zero =>
      intro i hd hi ht
      rw [List.take_of_length_le (by omega)] at ht
      refine Tot.up ?_
      simp only [spec_l8Pool.l0]
      refine Tot.neg (by omega) (Tot.some_ ?_)
      rw [pb_dec]
      exact pb_iff ⟨fun h => ⟨by omega, ht⟩, fun h => by have := h.1; omega⟩
    | succ d ih =>
      intro i hd hi ht
      have hlt : i < l.length := by omega
      refine Tot.up ?_
      simp only [spec_l8Pool.l0, spec_l8Text.f, Option.bind_some]
      refine Tot.pos (by omega) (Tot.pos (by omega) (Tot.pos (by omega) ?_))
      rw [rdStr l i hlt, w64 (n := (i : Int) + 1) (by omega) (by omega)]
      refine Tot.ite (fun h => ?_) (fun h => Tot.some_ ?_)
      · rw [decide_eq_true_iff] at h
        refine ih (i + 1) (by omega) (by omega) (fun x hx => ?_)
        rw [List.take_succ_eq_append_getElem hlt, List.mem_append, List.mem_singleton] at hx
        rcases hx with hx | rfl
        · exact ht x hx
        · omega
      · rw [decide_eq_true_iff] at h
        exact (pb_false (fun h3 => h (by have := h3.2 _ (List.getElem_mem hlt); omega))).symm
  exact key l.length 0 (by omega) (by omega) (by simp)
theorem letters_tot (l : List ByteArray) (hl : l.length ≤ 1048576) : Tot (fun k => impl_areLetters.f k l) (fun y => y = pb (PoolOk l)) := by
  have key : ∀ (d i : Nat), l.length - i = d → i ≤ l.length → Tot (fun k => slices_IndexFunc_string_string.l0 k l (l.length : Int) (i : Int)) (fun y => y ≥ 0 ↔ ¬ ∀ x ∈ l.drop i, x.size ≤ 24) := by
    intro d
    induction d with
    | zero =>
      intro i hd hi
      refine Tot.up ?_
      simp only [slices_IndexFunc_string_string.l0]
      refine Tot.neg (by omega) (Tot.some_ ?_)
      rw [List.drop_of_length_le (by omega)]
      simp
    | succ d ih =>
      intro i hd hi
      have hlt : i < l.length := by omega
      refine Tot.up ?_
      simp only [slices_IndexFunc_string_string.l0, impl_areLetters_1.f, impl_isLetter.f, Option.bind_some]
      refine Tot.pos (by omega) (Tot.pos (by omega) (Tot.pos (by omega) ?_))
      rw [rdStr l i hlt, w64 (n := (i : Int) + 1) (by omega) (by omega), List.drop_eq_getElem_cons hlt]
      refine Tot.ite (fun h => Tot.some_ ?_) (fun h => (ih (i + 1) (by omega) (by omega)).imp (fun y hy => ?_))
      · rw [Bool.not_eq_true', decide_eq_false_iff_not] at h
        simp only [List.mem_cons, forall_eq_or_imp]
        exact ⟨fun _ h3 => h (by have := h3.1; omega), fun _ => by omega⟩
      · rw [Bool.not_eq_true', decide_eq_false_iff_not] at h
        rw [hy]
        simp only [List.mem_cons, forall_eq_or_imp]
        exact ⟨fun h3 h4 => h3 h4.2, fun h3 h4 => h3 ⟨by omega, h4⟩⟩
  simp only [impl_areLetters.f, slices_ContainsFunc_string_string.f, slices_IndexFunc_string_string.f]
  refine Tot.ite (fun h => ?_) (fun h => Tot.some_ (pb_false (fun h3 => h (by have := h3.1; omega))).symm)
  refine Tot.bind (Tot.bind (key l.length 0 (by omega) (by omega)) (fun y hy => Tot.some_ (Q := fun b => b = pb (¬ ∀ x ∈ l, x.size ≤ 24)) (by rw [pb_dec]; exact pb_iff hy))) (fun b hb => Tot.some_ ?_)
  rw [hb]
  by_cases hp : ∀ x ∈ l, x.size ≤ 24
  · rw [pb_false (fun h3 => h3 hp), pb_true ⟨by omega, hp⟩]; rfl
  · rw [pb_true hp, pb_false (fun h3 => hp h3.2)]; rfl
theorem specRise_tot (g : List Int) (hg : g.length ≤ 1048576) : Tot (fun k => spec_l1Rising.f k g 0 4092) (fun y => y = pb (RiseIn g)) := by
  have key : ∀ (d i : Nat), g.length - i = d → i ≤ g.length → Tot (fun k => spec_l1Rising.l0 k g 0 4092 g (g.length : Int) (i : Int)) (fun y => y = pb ((∀ x ∈ g.drop i, 0 ≤ x ∧ x ≤ 4092) ∧ Rise g i)) := by
    intro d
    induction d with
    | zero =>
      intro i hd hi
      refine Tot.up ?_
      simp only [spec_l1Rising.l0]
      refine Tot.neg (by omega) (Tot.some_ (pb_true ⟨?_, fun j h1 h2 h3 => by omega⟩).symm)
      rw [List.drop_of_length_le (by omega)]
      simp
    | succ d ih =>
      intro i hd hi
      have hlt : i < g.length := by omega
      have hih := ih (i + 1) (by omega) (by omega)
      refine Tot.up ?_
      simp only [spec_l1Rising.l0, l1In_eq, Option.bind_some]
      refine Tot.pos (by omega) (Tot.pos (by omega) (Tot.pos (by omega) ?_))
      rw [rd_in g i hlt, w64 (n := (i : Int) + 1) (by omega) (by omega), List.drop_eq_getElem_cons hlt]
      refine Tot.ite (fun h => ?_) (fun h => Tot.some_ ?_)
      · rw [decide_eq_true_iff] at h
        by_cases h0 : i = 0
        · subst h0
          refine Tot.neg (by omega) (hih.imp (fun y hy => hy.trans (pb_iff ⟨fun h3 => ⟨fun x hx => ?_, fun j h4 h5 h6 => h3.2 j (by omega) h5 h6⟩, fun h3 => ⟨fun x hx => h3.1 x (List.mem_cons_of_mem _ hx), fun j h4 h5 h6 => h3.2 j (by omega) h5 h6⟩⟩)))
          rcases List.mem_cons.1 hx with rfl | hx
          · exact h
          · exact h3.1 x hx
        · have e1 : wrap64 ((i : Int) - 1) = ((i - 1 : Nat) : Int) := by rw [w64 (by omega) (by omega)]; omega
          rw [e1, rd_in g (i - 1) (by omega)]
          refine Tot.pos (by omega) (Tot.pos (by omega) (Tot.pos (by omega) (Tot.ite (fun h2 => Tot.some_ (pb_false (fun h3 => ?_)).symm) (fun h2 => hih.imp (fun y hy => hy.trans (pb_iff ⟨fun h3 => ⟨fun x hx => ?_, fun j h4 h5 h6 => ?_⟩, fun h3 => ⟨fun x hx => h3.1 x (List.mem_cons_of_mem _ hx), fun j h4 h5 h6 => h3.2 j (by omega) h5 h6⟩⟩))))))
          · have := h3.2 i (Nat.le_refl _) (by omega) hlt
            omega
          · rcases List.mem_cons.1 hx with rfl | hx
            · exact h
            · exact h3.1 x hx
          · rcases Nat.eq_or_lt_of_le h4 with rfl | h7
            · omega
            · exact h3.2 j h7 h5 h6
      · rw [decide_eq_true_iff] at h
        exact (pb_false (fun h3 => h (h3.1 _ (List.mem_cons_self ..)))).symm
  simp only [spec_l1Rising.f]
  exact (key g.length 0 (by omega) (by omega)).imp (fun y hy => hy)
theorem all_tot (g : List Int) (hg : g.length ≤ 1048576) : Tot (fun k => impl_allWithin.f k g 0 4092) (fun y => y = pb (∀ x ∈ g, 0 ≤ x ∧ x ≤ 4092)) := by
  have key : ∀ (d i : Nat), g.length - i = d → i ≤ g.length → Tot (fun k => impl_allWithin.l0 k 0 4092 g (g.length : Int) (i : Int)) (fun y => y = pb (∀ x ∈ g.drop i, 0 ≤ x ∧ x ≤ 4092)) := by
    intro d
    induction d with
    | zero =>
      intro i hd hi
      refine Tot.up ?_
      simp only [impl_allWithin.l0]
      refine Tot.neg (by omega) (Tot.some_ (pb_true ?_).symm)
      rw [List.drop_of_length_le (by omega)]
      simp
    | succ d ih =>
      intro i hd hi
      have hlt : i < g.length := by omega
      refine Tot.up ?_
      simp only [impl_allWithin.l0, within_eq, Option.bind_some]
      refine Tot.pos (by omega) (Tot.pos (by omega) (Tot.pos (by omega) ?_))
      rw [rd_in g i hlt, w64 (n := (i : Int) + 1) (by omega) (by omega), List.drop_eq_getElem_cons hlt]
      refine Tot.ite (fun h => (ih (i + 1) (by omega) (by omega)).imp (fun y hy => hy.trans (pb_iff ⟨fun h3 x hx => ?_, fun h3 x hx => h3 x (List.mem_cons_of_mem _ hx)⟩))) (fun h => Tot.some_ (pb_false (fun h3 => h (decide_eq_true (h3 _ (List.mem_cons_self ..))))).symm)
      rcases List.mem_cons.1 hx with rfl | hx
      · exact of_decide_eq_true h
      · exact h3 x hx
  simp only [impl_allWithin.f]
  exact (key g.length 0 (by omega) (by omega)).imp (fun y hy => hy)
theorem implRise_tot (g : List Int) (hg : g.length ≤ 1048576) : Tot (fun k => impl_isRising.f k g 0 4092) (fun y => y = pb (RiseIn g)) := by
  have key : ∀ (d i : Nat), g.length + 1 - i = d → 1 ≤ i → i ≤ g.length + 1 → (∀ j, j < i → 0 < j → (h : j < g.length) → g[j - 1]'(by omega) < g[j]) → Tot (fun k => impl_isRising.l0 k g 0 4092 (i : Int)) (fun y => y = pb (RiseIn g)) := by
    intro d
    induction d with
    | zero =>
      intro i hd h1 hi hr
      refine Tot.up ?_
      simp only [impl_isRising.l0]
      refine Tot.neg (by omega) (Tot.bind (all_tot g hg) (fun y hy => Tot.some_ (hy.trans (pb_iff ⟨fun h3 => ⟨h3, fun j _ h4 h5 => hr j (by omega) h4 h5⟩, fun h3 => h3.1⟩))))
    | succ d ih =>
      intro i hd h1 hi hr
      refine Tot.up ?_
      simp only [impl_isRising.l0]
      by_cases hlt : i < g.length
      · have e1 : wrap64 ((i : Int) - 1) = ((i - 1 : Nat) : Int) := by rw [w64 (by omega) (by omega)]; omega
        rw [e1, rd_in g (i - 1) (by omega), rd_in g i hlt, w64 (n := (i : Int) + 1) (by omega) (by omega)]
        refine Tot.pos (by omega) (Tot.pos (by omega) (Tot.pos (by omega) (Tot.pos (by omega) (Tot.ite (fun h2 => Tot.some_ (pb_false (fun h3 => ?_)).symm) (fun h2 => ih (i + 1) (by omega) (by omega) (by omega) (fun j h4 h5 h6 => ?_))))))
        · have := h3.2 i (by omega) (by omega) hlt
          omega
        · rcases Nat.eq_or_lt_of_le (Nat.le_of_lt_succ h4) with rfl | h7
          · omega
          · exact hr j h7 h5 h6
      · refine Tot.neg (by omega) (Tot.bind (all_tot g hg) (fun y hy => Tot.some_ (hy.trans (pb_iff ⟨fun h3 => ⟨h3, fun j _ h4 h5 => hr j (by omega) h4 h5⟩, fun h3 => h3.1⟩))))
  simp only [impl_isRising.f]
  exact key g.length 1 (by omega) (by omega) (by omega) (fun j h1 h2 _ => by omega)
theorem implSort_tot (l : List ByteArray) (hl : l.length ≤ 1048576) : Tot (fun k => slices_IsSorted_string_string.f k l) (fun y => y = pb (SortedFrom l 0)) := by
  have key : ∀ (i : Nat), i < l.length ∨ i = 0 → SortedFrom l (i + 1) → Tot (fun k => slices_IsSorted_string_string.l0 k l (i : Int)) (fun y => y = pb (SortedFrom l 0)) := by
    intro i
    induction i with
    | zero =>
      intro _ hs
      refine Tot.up ?_
      simp only [slices_IsSorted_string_string.l0]
      exact Tot.neg (by omega) (Tot.some_ (pb_true (fun j _ h2 h3 => hs j (by omega) h2 h3)).symm)
    | succ i ih =>
      intro hi hs
      have hlt : i + 1 < l.length := by omega
      refine Tot.up ?_
      simp only [slices_IsSorted_string_string.l0, cmp_Less_string.f, cmp_isNaN_string.f, bne_self_eq_false, Option.bind_some]
      rw [show wrap64 (((i + 1 : Nat) : Int) - 1) = (i : Int) by rw [w64 (by omega) (by omega)]; omega, rdStr l (i + 1) hlt, rdStr l i (by omega)]
      refine Tot.pos (by omega) (Tot.pos (by omega) (Tot.pos (by omega) (Tot.pos (by omega) (Tot.pos (by omega) ?_))))
      refine Tot.bind (Q := fun b => b = Op.bytesLess (l[i + 1]).toList (l[i]).toList) (Tot.neg (by simp) (Tot.some_ rfl)) (fun b hb => ?_)
      refine Tot.ite (fun h => Tot.some_ (pb_false (fun h3 => ?_)).symm) (fun h => ih (by omega) (fun j h1 h2 h3 => ?_))
      · have h4 := h3 (i + 1) (by omega) (by omega) hlt
        rw [hb] at h
        simp only [Nat.add_sub_cancel] at h4
        rw [h4] at h
        simp at h
      · rcases Nat.eq_or_lt_of_le h1 with rfl | h7
        · rw [hb] at h
          simp only [Nat.add_sub_cancel]
          exact Bool.eq_false_iff.2 h
        · exact hs j h7 h2 h3
  simp only [slices_IsSorted_string_string.f]
  by_cases h0 : l.length = 0
  · refine Tot.up ?_
    simp only [slices_IsSorted_string_string.l0]
    rw [w64 (by omega) (by omega)]
    exact Tot.neg (by omega) (Tot.some_ (pb_true (fun j _ _ h3 => by omega)).symm)
  · rw [show wrap64 ((l.length : Int) - 1) = ((l.length - 1 : Nat) : Int) by rw [w64 (by omega) (by omega)]; omega]
    exact key (l.length - 1) (by omega) (fun j h1 _ h3 => by omega)
/-- A good mix: its texts, three numbers and its tags. -/
def GoodM (l : List ByteArray) (a b c : Int) (g : List Int) : Prop := PoolOk l ∧ (1 ≤ a ∧ a ≤ 12) ∧ (1 ≤ b ∧ b ≤ 10) ∧ (0 ≤ c ∧ c ≤ 10) ∧ (l.length = 0 → c = 0) ∧ RiseIn g ∧ g.length ≤ 100
theorem has_tot (g : List Int) (hg : g.length ≤ 1048576) (v : Int) : Tot (fun k => spec_l1Has.f k g v) (fun y => y = decide (v ∈ g)) := Tot.at_ (g.length + 1) rfl (fun k hk => l1Has_eq g hg v k (by omega))
theorem con_tot (g : List Int) (hg : g.length ≤ 1048576) (v : Int) : Tot (fun k => slices_Contains_int_int.f k g v) (fun y => y = decide (v ∈ g)) := Tot.at_ (g.length + 1) rfl (fun k hk => contains_eq g hg v k (by omega))
theorem take_tags (l : List ByteArray) (i : Nat) (h : i < l.length) : (l.take (i + 1)).map tagOf = (l.take i).map tagOf ++ [tagOf l[i]] := by
  rw [List.take_succ_eq_append_getElem h, List.map_append]
  rfl
theorem specMix_tot (l : List ByteArray) (a b c : Int) (g : List Int) (hl : l.length ≤ 1048576) (hs : ∀ x ∈ l, x.size ≤ 1048576) (hg : g.length ≤ 1048576) : Tot (fun k => spec_GoodMix.f k l a b c g) (fun y => y = pb (SortedFrom l 0 ∧ TagsFrom l g 0 ∧ GoodM l a b c g)) := by
  have key : ∀ (d i : Nat), l.length - i = d → i ≤ l.length → Tot (fun k => spec_GoodMix.l0 k ((l.take i).map tagOf) l (l.length : Int) (i : Int) l a b c g) (fun y => y = pb (SortedFrom l i ∧ TagsFrom l g i ∧ GoodM l a b c g)) := by
    intro d
    induction d with
    | zero =>
      intro i hd hi
      have hS : SortedFrom l i := fun j h1 _ h3 => by omega
      have hT : TagsFrom l g i := fun j h1 h3 => by omega
      have e : pb (SortedFrom l i ∧ TagsFrom l g i ∧ GoodM l a b c g) = pb (GoodM l a b c g) := pb_iff ⟨fun h => h.2.2, fun h => ⟨hS, hT, h⟩⟩
      rw [e]
      refine Tot.up ?_
      simp only [spec_GoodMix.l0, l1In_eq]
      refine Tot.neg (by omega) (Tot.bind (pool_tot l hl) (fun y hy => Tot.ite (fun h1 => ?_) (fun h1 => Tot.some_ (pb_false (fun h => h1 (hy.trans (pb_true h.1)))).symm)))
      refine Tot.bind (Tot.some_ rfl) (fun z1 e1 => Tot.ite (fun h2 => ?_) (fun h2 => Tot.some_ (pb_false (fun h => h2 (e1 ▸ decide_eq_true h.2.1))).symm))
      refine Tot.bind (Tot.some_ rfl) (fun z2 e2 => Tot.ite (fun h3 => ?_) (fun h3 => Tot.some_ (pb_false (fun h => h3 (e2 ▸ decide_eq_true h.2.2.1))).symm))
      refine Tot.bind (Tot.some_ rfl) (fun z3 e3 => Tot.ite (fun h4 => ?_) (fun h4 => Tot.some_ (pb_false (fun h => h4 (e3 ▸ decide_eq_true h.2.2.2.1))).symm))
      have g1 := pb_of (hy.symm.trans h1)
      have g2 := of_decide_eq_true (e1.trans h2)
      have g3 := of_decide_eq_true (e2.trans h3)
      have g4 := of_decide_eq_true (e3.trans h4)
      have last : (l.length = 0 → c = 0) → Tot (fun k => (spec_l1Rising.f k g 0 4092).bind fun t => if t = true then some (decide ((g.length : Int) ≤ 100)) else some false) (fun y => y = pb (GoodM l a b c g)) := by
        intro h5
        refine Tot.bind (specRise_tot g hg) (fun y5 e5 => Tot.ite (fun h6 => Tot.some_ ?_) (fun h6 => Tot.some_ (pb_false (fun h => h6 (e5.trans (pb_true h.2.2.2.2.2.1)))).symm))
        rw [pb_dec]
        exact pb_iff ⟨fun h7 => ⟨g1, g2, g3, g4, h5, pb_of (e5.symm.trans h6), by omega⟩, fun h7 => by have := h7.2.2.2.2.2.2; omega⟩
      refine Tot.ite (fun h5 => last (fun h => by omega)) (fun h5 => Tot.ite (fun h6 => last (fun _ => h6)) (fun h6 => Tot.some_ (pb_false (fun h => h6 (h.2.2.2.2.1 (by omega)))).symm))
    | succ d ih =>
      intro i hd hi
      have hlt : i < l.length := by omega
      have hih := ih (i + 1) (by omega) (by omega)
      have hml : ((l.take i).map tagOf).length = i := by rw [List.length_map, List.length_take]; omega
      refine Tot.up ?_
      simp only [spec_GoodMix.l0]
      refine Tot.pos (by omega) (Tot.pos (by omega) (Tot.pos (by omega) ?_))
      rw [rdStr l i hlt, w64 (n := (i : Int) + 1) (by omega) (by omega)]
      refine Tot.bind (specTag_tot _ (hs _ (List.getElem_mem hlt))) (fun t et => ?_)
      rw [et]
      have step : (0 < i → Op.bytesLess (l[i]).toList (l[i - 1]'(by omega)).toList = false) → Tot (fun k => (spec_l1Has.f k g (tagOf l[i])).bind fun t115 => if t115 = true then (spec_l1Has.f k ((l.take i).map tagOf) (tagOf l[i])).bind fun t116 => (if t116 = true then some false else if ((l.take i).map tagOf).length < 17592186044416 then spec_GoodMix.l0 k ((l.take i).map tagOf ++ [tagOf l[i]]) l (l.length : Int) ((i : Int) + 1) l a b c g else none) else some false) (fun y => y = pb (SortedFrom l i ∧ TagsFrom l g i ∧ GoodM l a b c g)) := by
        intro hso
        refine Tot.bind (has_tot g hg _) (fun y1 e1 => Tot.ite (fun h1 => ?_) (fun h1 => Tot.some_ (pb_false (fun h => h1 (e1.trans (decide_eq_true (h.2.1 i (Nat.le_refl _) hlt).1)))).symm))
        refine Tot.bind (has_tot _ (by omega) _) (fun y2 e2 => Tot.ite (fun h2 => Tot.some_ (pb_false (fun h => (h.2.1 i (Nat.le_refl _) hlt).2 (of_decide_eq_true (e2.symm.trans h2)))).symm) (fun h2 => Tot.pos (by omega) ?_))
        rw [← take_tags l i hlt]
        refine hih.imp (fun y hy => hy.trans (pb_iff ⟨fun h => ⟨fun j h4 h5 h6 => ?_, fun j h4 h6 => ?_, h.2.2⟩, fun h => ⟨fun j h4 h5 h6 => h.1 j (by omega) h5 h6, fun j h4 h6 => h.2.1 j (by omega) h6, h.2.2⟩⟩))
        · rcases Nat.eq_or_lt_of_le h4 with rfl | h7
          · exact hso h5
          · exact h.1 j h7 h5 h6
        · rcases Nat.eq_or_lt_of_le h4 with rfl | h7
          · exact ⟨of_decide_eq_true (e1.symm.trans h1), fun h8 => h2 (e2.trans (decide_eq_true h8))⟩
          · exact h.2.1 j h7 h6
      refine Tot.ite (fun h0 => ?_) (fun h0 => step (fun h => by omega))
      rw [show wrap64 ((i : Int) - 1) = ((i - 1 : Nat) : Int) by rw [w64 (by omega) (by omega)]; omega, rdStr l (i - 1) (by omega)]
      refine Tot.pos (by omega) (Tot.pos (by omega) (Tot.ite (fun h1 => Tot.some_ (pb_false (fun h => ?_)).symm) (fun h1 => step (fun _ => Bool.eq_false_iff.2 h1))))
      have := h.1 i (Nat.le_refl _) (by omega) hlt
      rw [this] at h1
      simp at h1
  have h := key l.length 0 (by omega) (by omega)
  simp only [spec_GoodMix.f]
  exact h
theorem implMix_tot (l : List ByteArray) (a b c : Int) (g : List Int) (hl : l.length ≤ 1048576) (hs : ∀ x ∈ l, x.size ≤ 1048576) (hg : g.length ≤ 1048576) : Tot (fun k => impl_GoodMix.f k l a b c g) (fun y => y = pb (SortedFrom l 0 ∧ TagsFrom l g 0 ∧ GoodM l a b c g)) := by
  have key : ∀ (d i : Nat), l.length - i = d → i ≤ l.length → Tot (fun k => impl_GoodMix.l0 k ((l.take i).map tagOf) l (l.length : Int) (i : Int) l a b c g) (fun y => y = pb (TagsFrom l g i)) := by
    intro d
    induction d with
    | zero =>
      intro i hd hi
      refine Tot.up ?_
      simp only [impl_GoodMix.l0]
      exact Tot.neg (by omega) (Tot.some_ (pb_true (fun j h1 h3 => by omega)).symm)
    | succ d ih =>
      intro i hd hi
      have hlt : i < l.length := by omega
      have hih := ih (i + 1) (by omega) (by omega)
      have hml : ((l.take i).map tagOf).length = i := by rw [List.length_map, List.length_take]; omega
      refine Tot.up ?_
      simp only [impl_GoodMix.l0]
      refine Tot.pos (by omega) (Tot.pos (by omega) (Tot.pos (by omega) ?_))
      rw [rdStr l i hlt, w64 (n := (i : Int) + 1) (by omega) (by omega)]
      refine Tot.bind (implTag_tot _ (hs _ (List.getElem_mem hlt))) (fun t et => ?_)
      rw [et]
      refine Tot.bind (con_tot g hg _) (fun y1 e1 => Tot.ite (fun h1 => ?_) (fun h1 => Tot.some_ (pb_false (fun h => h1 (e1.trans (decide_eq_true (h i (Nat.le_refl _) hlt).1)))).symm))
      refine Tot.bind (con_tot _ (by omega) _) (fun y2 e2 => Tot.ite (fun h2 => Tot.some_ (pb_false (fun h => (h i (Nat.le_refl _) hlt).2 (of_decide_eq_true (e2.symm.trans h2)))).symm) (fun h2 => Tot.pos (by omega) ?_))
      rw [← take_tags l i hlt]
      refine hih.imp (fun y hy => hy.trans (pb_iff ⟨fun h j h4 h6 => ?_, fun h j h4 h6 => h j (by omega) h6⟩))
      rcases Nat.eq_or_lt_of_le h4 with rfl | h7
      · exact ⟨of_decide_eq_true (e1.symm.trans h1), fun h8 => h2 (e2.trans (decide_eq_true h8))⟩
      · exact h j h7 h6
  have bad : ¬ (SortedFrom l 0 ∧ TagsFrom l g 0 ∧ GoodM l a b c g) → Tot (fun k => impl_GoodMix.j0 k true l a b c g) (fun y => y = pb (SortedFrom l 0 ∧ TagsFrom l g 0 ∧ GoodM l a b c g)) := fun h => by
    refine Tot.up ?_
    simp only [impl_GoodMix.j0]
    exact Tot.pos trivial (Tot.some_ (pb_false h).symm)
  simp only [impl_GoodMix.f, within_eq]
  refine Tot.bind (letters_tot l hl) (fun y1 e1 => Tot.ite (fun h1 => ?_) (fun h1 => bad (fun h => h1 (e1.trans (pb_true h.2.2.1)))))
  refine Tot.bind (implSort_tot l hl) (fun y2 e2 => Tot.ite (fun h2 => ?_) (fun h2 => bad (fun h => h2 (e2.trans (pb_true h.1)))))
  refine Tot.bind (Tot.some_ rfl) (fun z1 e3 => Tot.ite (fun h3 => ?_) (fun h3 => bad (fun h => h3 (e3 ▸ decide_eq_true h.2.2.2.1))))
  refine Tot.bind (Tot.some_ rfl) (fun z2 e4 => Tot.ite (fun h4 => ?_) (fun h4 => bad (fun h => h4 (e4 ▸ decide_eq_true h.2.2.2.2.1))))
  refine Tot.bind (Tot.some_ rfl) (fun z3 e5 => Tot.ite (fun h5 => ?_) (fun h5 => bad (fun h => h5 (e5 ▸ decide_eq_true h.2.2.2.2.2.1))))
  have g1 := pb_of (e1.symm.trans h1)
  have g2 := pb_of (e2.symm.trans h2)
  have g3 := of_decide_eq_true (e3.trans h3)
  have g4 := of_decide_eq_true (e4.trans h4)
  have g5 := of_decide_eq_true (e5.trans h5)
  have good : (l.length = 0 → c = 0) → Tot (fun k => impl_GoodMix.j0 k false l a b c g) (fun y => y = pb (SortedFrom l 0 ∧ TagsFrom l g 0 ∧ GoodM l a b c g)) := by
    intro h6
    refine Tot.up ?_
    simp only [impl_GoodMix.j0]
    refine Tot.neg (by simp) (Tot.ite (fun h7 => ?_) (fun h7 => Tot.bind (implRise_tot g hg) (fun y8 e8 => ?_)))
    · refine Tot.up ?_
      simp only [impl_GoodMix.j1]
      exact Tot.pos trivial (Tot.some_ (pb_false (fun h => by have := h.2.2.2.2.2.2.2.2; omega)).symm)
    · refine Tot.up ?_
      simp only [impl_GoodMix.j1]
      refine Tot.ite (fun h9 => Tot.some_ (pb_false (fun h => ?_)).symm) (fun h9 => (key l.length 0 (by omega) (by omega)).imp (fun y hy => hy.trans (pb_iff ⟨fun h => ⟨g2, h, g1, g3, g4, g5, h6, ?_, by omega⟩, fun h => h.2.1⟩)))
      · rw [e8, pb_true h.2.2.2.2.2.2.2.1] at h9
        simp at h9
      · refine pb_of (e8.symm.trans ?_)
        cases hy8 : y8
        · rw [hy8] at h9
          simp at h9
        · rfl
  refine Tot.ite (fun h6 => ?_) (fun h6 => good (fun h => by omega))
  by_cases h7 : c = 0
  · rw [show (c != 0) = false by rw [h7]; rfl]
    exact good (fun _ => h7)
  · rw [show (c != 0) = true by exact bne_iff_ne.2 h7]
    exact bad (fun h => h7 (h.2.2.2.2.2.2.1 (by omega)))
theorem FnExactGoodMix : laws_FnExactGoodMix.Pure := by
  intro l a b c g hl ha hb hc hg
  have hmx : maxLen = 9223372036854775807 := rfl
  refine Tot.ex ?_
  simp only [laws_FnExactGoodMix.f, laws_szMix.f, laws_szIntS.f]
  have hsz : Tot (fun k => (laws_szStringS.f k l 1048576).bind fun t103 => if t103 < 0 then some (-1) else (if wrap64 (t103 - (g.length : Int)) < 0 then some (-1) else some (wrap64 (t103 - (g.length : Int)))).bind fun t104 => if t104 < 0 then some (-1) else some t104) (fun y => 0 ≤ y → l.length ≤ 1048576 ∧ (∀ x ∈ l, x.size ≤ 1048576) ∧ g.length ≤ 1048576) := by
    refine Tot.bind (szStringS_tot l hl.1 hl.2 1048576 (by omega)) (fun y hy => Tot.ite (fun _ => Tot.some_ (fun h => by omega)) (fun h1 => ?_))
    have hw := hy.2.1 (by omega)
    have hgl := hg.1
    rw [w64 (n := y - (g.length : Int)) (by omega) (by omega)]
    refine Tot.bind (Q := fun z => 0 ≤ z → g.length ≤ 1048576) (Tot.ite (fun _ => Tot.some_ (fun h => by omega)) (fun h2 => Tot.some_ (fun h => by omega))) (fun z hz => Tot.ite (fun _ => Tot.some_ (fun h => by omega)) (fun h3 => Tot.some_ (fun h => ⟨by omega, fun x hx => by have := weight_le l x hx; omega, hz h⟩)))
  refine Tot.bind hsz (fun y0 h0 => Tot.ite (fun _ => Tot.some_ rfl) (fun hy0 => ?_))
  obtain ⟨hl1, hl2, hl3⟩ := h0 (by omega)
  have hto : Tot (fun k => laws_toMix.f k l a b c g) (fun y => y = (l, a, b, c, g)) := by
    simp only [laws_toMix.f]
    refine Tot.bind (toStringS_tot l hl1) (fun y1 e1 => Tot.bind (toIntS_tot g hl3) (fun y2 e2 => Tot.some_ ?_))
    rw [e1, e2]
  refine Tot.bind hto (fun y1 e1 => ?_)
  rw [e1]
  refine Tot.bind (specMix_tot l a b c g hl1 hl2 hl3) (fun y2 e2 => ?_)
  refine Tot.bind hto (fun y3 e3 => ?_)
  rw [e3]
  refine Tot.bind (implMix_tot l a b c g hl1 hl2 hl3) (fun y4 e4 => ?_)
  rw [e2, e4]
  simp only [bne_self_eq_false]
  refine Tot.neg (by simp) (Tot.bind hto (fun y5 e5 => ?_))
  rw [e5]
  refine Tot.bind ?_ (fun y6 e6 => Tot.pos e6 (Tot.some_ rfl))
  simp only [laws_eqMix.f]
  exact Tot.bind (eqStringS_tot l hl1) (fun y7 e7 => Tot.pos e7 (Tot.pos trivial (Tot.pos trivial (Tot.pos trivial (Tot.bind (eqIntS_tot g hl3) (fun y8 e8 => Tot.pos e8 (Tot.some_ rfl)))))))

end Go.Proofs.Ytbjoddpaefecmaa.Pure
