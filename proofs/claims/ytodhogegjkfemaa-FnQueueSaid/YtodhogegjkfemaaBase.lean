/- Lemmas over whole numbers, lists and bounded rounds, without a program: the base of this seat's pure proofs. Conditions: as each lemma says. -/
import Derived.Test.YtodhogegjkfemaaWMore
set_option linter.unusedVariables false
set_option linter.unusedSimpArgs false
set_option exponentiation.threshold 3000
namespace Go.Proofs.Ytodhogegjkfemaa.Base
open Go.RowKit Go.Proofs.YtodhogegjkfemaaW.PrintWords
theorem w64 {n : Int} (h0 : -9223372036854775808 ≤ n) (h1 : n ≤ 9223372036854775807) : wrap64 n = n := by
  unfold wrap64
  omega
theorem rounds {d k : Nat} (h : d < k) : ∃ m, k = m + 1 := ⟨k - 1, by omega⟩
theorem rd_in (xs : List Int) (i : Nat) (h : i < xs.length) : rd xs (i : Int) = xs[i] := by
  unfold rd
  rw [List.getD_eq_getElem?_getD, Int.toNat_natCast, List.getElem?_eq_getElem h]
  rfl
theorem rd_mem (xs : List Int) (i : Nat) (h : i < xs.length) : rd xs (i : Int) ∈ xs := by
  rw [rd_in xs i h]
  exact List.getElem_mem h
theorem take_set {α : Type} (out t : List α) (i : Nat) (x : α) (ho : out.take i = t.take i) (h1 : i < out.length) (h2 : i < t.length) (hx : x = t[i]) :
    (out.set i x).take (i + 1) = t.take (i + 1) := by
  subst hx
  apply List.ext_getElem?
  intro j
  rw [List.getElem?_take, List.getElem?_take]
  by_cases hj : j < i + 1
  · rw [if_pos hj, if_pos hj]
    by_cases e : i = j
    · subst e
      rw [List.getElem?_set_self h1, List.getElem?_eq_getElem h2]
    · rw [List.getElem?_set_ne e]
      have h3 : (out.take i)[j]? = (t.take i)[j]? := by rw [ho]
      rw [List.getElem?_take, List.getElem?_take, if_pos (by omega), if_pos (by omega)] at h3
      exact h3
  · rw [if_neg hj, if_neg hj]
theorem stay {α : Type} {g f : Nat → Option α} (hg : ∀ k, LeO (g k) (g (k + 1))) (hf : ∀ k, LeO (f k) (f (k + 1))) {k0 : Nat} {r : α} (h1 : g k0 = some r) (h2 : f k0 = some r) :
    (∀ k, k0 ≤ k → g k = some r) ∧ (∀ k, k0 ≤ k → f k = some r) :=
  ⟨fun _ hk => at_rounds hg hk h1, fun _ hk => at_rounds hf hk h2⟩
theorem stay1 {α : Type} {g : Nat → Option α} (hg : ∀ k, LeO (g k) (g (k + 1))) {k0 : Nat} {r : α} (h1 : g k0 = some r) : ∀ k, k0 ≤ k → g k = some r := fun _ hk => at_rounds hg hk h1
theorem loop_up {σ ρ : Type} (L : Nat → σ → Option ρ) (n B : Nat) (s : Nat → σ) (r : ρ) (step : ∀ i k, i < n → B ≤ k → L (k + 1) (s i) = L k (s (i + 1))) (fin : ∀ k, B ≤ k → L (k + 1) (s n) = some r) :
    ∀ k, n + B < k → L k (s 0) = some r := by
  have key : ∀ d i k, i + d = n → d + B < k → L k (s i) = some r := by
    intro d
    induction d with
    | zero =>
      intro i k hi hk
      obtain ⟨k, rfl⟩ := rounds hk
      rw [show i = n by omega]
      exact fin k (by omega)
    | succ d ih =>
      intro i k hi hk
      obtain ⟨k, rfl⟩ := rounds hk
      rw [step i k (by omega) (by omega)]
      exact ih (i + 1) k (by omega) (by omega)
  intro k hk
  exact key n 0 k (by omega) (by omega)
theorem getDin {α : Type} (xs : List α) (d : α) (i : Nat) (h : i < xs.length) : xs.getD i d = xs[i] := by
  rw [List.getD_eq_getElem?_getD, List.getElem?_eq_getElem h]
  rfl
def mixed {α : Type} (M l : List α) (i : Nat) : List α := M.take i ++ l.drop i
def ups (m : Int) (n : Nat) : List Int := (List.range n).map fun (i : Nat) => m + (i : Int)
theorem nodup_length {α : Type} [DecidableEq α] : ∀ (l m : List α), l.Nodup → (∀ x ∈ l, x ∈ m) → l.length ≤ m.length := by
  intro l
  induction l with
  | nil => intro m _ _; simp
  | cons a t ih =>
    intro m hn hs
    have ha : a ∈ m := hs a (by simp)
    have h1 := List.nodup_cons.1 hn
    have h2 := ih (m.erase a) h1.2 (fun x hx => (List.mem_erase_of_ne (fun e => h1.1 (by rw [← e]; exact hx))).2 (hs x (by simp [hx])))
    rw [List.length_erase_of_mem ha] at h2
    have h3 := List.length_pos_of_mem ha
    simp only [List.length_cons]
    omega
def firsts (n : Nat) : List Int := (List.range n).map fun (i : Nat) => (i : Int)
theorem firsts_length (n : Nat) : (firsts n).length = n := by simp [firsts]
theorem mem_firsts (n : Nat) (x : Int) : x ∈ firsts n ↔ 0 ≤ x ∧ x < n := by
  simp only [firsts, List.mem_map, List.mem_range]
  constructor
  · rintro ⟨i, hi, rfl⟩
    omega
  · rintro ⟨h0, h1⟩
    exact ⟨x.toNat, by omega, by omega⟩
def Ord (l : List Int) : Prop := l.Nodup ∧ ∀ x ∈ l, 0 ≤ x ∧ x < l.length
theorem Ord.has {l : List Int} (h : Ord l) (v : Int) (h0 : 0 ≤ v) (h1 : v < l.length) : v ∈ l := by
  rcases Classical.em (v ∈ l) with hv | hv
  · exact hv
  · have h2 := nodup_length (v :: l) (firsts l.length) (List.nodup_cons.2 ⟨hv, h.1⟩) (fun x hx => by
      rw [mem_firsts]
      rcases List.mem_cons.1 hx with rfl | hx
      · exact ⟨h0, h1⟩
      · exact h.2 x hx)
    rw [firsts_length, List.length_cons] at h2
    omega
def pwm (a e : Nat) : Nat := a ^ e % 2999
def fv {α β : Type} (f : β → α → β) (y : β) (l : List α) (i : Nat) : β := (l.take i).foldl f y
def Mem (n : Nat) : Prop := n < 2999 ∧ pwm n 1499 = 1
theorem Mem.lt {n : Nat} (h : Mem n) : n < 2999 := h.1
theorem Mem.one : Mem 1 := ⟨by omega, by unfold pwm; rw [Nat.one_pow]⟩
theorem Mem.pos {a : Nat} (ha : Mem a) : 1 ≤ a := by
  rcases Nat.eq_zero_or_pos a with rfl | h
  · have := ha.2
    unfold pwm at this
    rw [Nat.zero_pow (by omega)] at this
    simp at this
  · exact h
def Tot {α : Type} (f : Nat → Option α) (Q : α → Prop) : Prop := ∃ y, Q y ∧ ∃ B, ∀ k, B ≤ k → f k = some y
theorem Tot.at_ {α : Type} {f : Nat → Option α} {Q : α → Prop} {y : α} (B : Nat) (hQ : Q y) (h : ∀ k, B ≤ k → f k = some y) : Tot f Q := ⟨y, hQ, B, h⟩
theorem Tot.some_ {α : Type} {Q : α → Prop} {y : α} (hQ : Q y) : Tot (fun _ => some y) Q := ⟨y, hQ, 0, fun _ _ => rfl⟩
theorem Tot.fix {α : Type} {f : Option α} {Q : α → Prop} (h : ∃ y, f = some y ∧ Q y) : Tot (fun _ => f) Q := by
  obtain ⟨y, h1, h2⟩ := h
  exact ⟨y, h2, 0, fun _ _ => h1⟩
theorem Tot.bind {α β : Type} {f : Nat → Option α} {F : α → Nat → Option β} {Q : α → Prop} {R : β → Prop} (h : Tot f Q) (hF : ∀ y, Q y → Tot (F y) R) : Tot (fun k => (f k).bind fun y => F y k) R := by
  obtain ⟨y, hy, B, h1⟩ := h
  obtain ⟨z, hz, C, h2⟩ := hF y hy
  refine ⟨z, hz, B + C, fun k hk => ?_⟩
  show (f k).bind _ = some z
  rw [h1 k (by omega)]
  exact h2 k (by omega)
theorem Tot.pos {α : Type} {c : Prop} [Decidable c] {f g : Nat → Option α} {Q : α → Prop} (hc : c) (h : Tot f Q) : Tot (fun k => if c then f k else g k) Q := by
  simp only [if_pos hc]
  exact h
theorem Tot.neg {α : Type} {c : Prop} [Decidable c] {f g : Nat → Option α} {Q : α → Prop} (hc : ¬ c) (h : Tot g Q) : Tot (fun k => if c then f k else g k) Q := by
  simp only [if_neg hc]
  exact h
theorem Tot.ite {α : Type} {c : Prop} [Decidable c] {f g : Nat → Option α} {Q : α → Prop} (h1 : c → Tot f Q) (h2 : ¬ c → Tot g Q) : Tot (fun k => if c then f k else g k) Q := by
  by_cases hc : c
  · exact .pos hc (h1 hc)
  · exact .neg hc (h2 hc)
theorem Tot.up {α : Type} {f : Nat → Option α} {Q : α → Prop} (h : Tot (fun k => f (k + 1)) Q) : Tot f Q := by
  obtain ⟨y, hy, B, h1⟩ := h
  refine ⟨y, hy, B + 1, fun k hk => ?_⟩
  obtain ⟨k, rfl⟩ := rounds hk
  exact h1 k (by omega)
theorem Tot.imp {α : Type} {f : Nat → Option α} {Q R : α → Prop} (h : Tot f Q) (hQ : ∀ y, Q y → R y) : Tot f R := by
  obtain ⟨y, hy, h1⟩ := h
  exact ⟨y, hQ y hy, h1⟩
theorem Tot.and {α : Type} {f : Nat → Option α} {Q R : α → Prop} (h : Tot f Q) (h2 : Tot f R) : Tot f (fun y => Q y ∧ R y) := by
  obtain ⟨y, hy, B, h1⟩ := h
  obtain ⟨z, hz, C, h2⟩ := h2
  have e : y = z := Option.some.inj ((h1 (B + C) (by omega)).symm.trans (h2 (B + C) (by omega)))
  subst e
  exact ⟨y, ⟨hy, hz⟩, B, h1⟩
theorem Tot.ex {α : Type} {f : Nat → Option α} {r : α} (h : Tot f (fun y => y = r)) : ∃ k, f k = some r := by
  obtain ⟨y, rfl, B, h1⟩ := h
  exact ⟨B, h1 B (Nat.le_refl _)⟩
theorem Tot.stay {α : Type} {f : Nat → Option α} {Q : α → Prop} (hm : ∀ k, LeO (f k) (f (k + 1))) {k0 : Nat} {r : α} (h : f k0 = some r) (hQ : Q r) : Tot f Q := ⟨r, hQ, k0, stay1 hm h⟩
end Go.Proofs.Ytodhogegjkfemaa.Base
