/- Proved: each text of a queue goes out after as many ticks as is told, and a client's step and a new client are told alike, for all bytes that the clients are drawn from. Conditions: those of the given statement alone. -/
import Derived.Test.YtodhogegjkfemaaPFnQueuex11
import Derived.Test.YtodhogegjkfemaaBase
set_option linter.unusedVariables false
set_option linter.unusedSimpArgs false
namespace Go.Proofs.Ytodhogegjkfemaa.Pure
open Go.RowKit Go.Proofs.Ytodhogegjkfemaa.PFnQueue Go.Proofs.Ytodhogegjkfemaa.Base Go.Proofs.YtodhogegjkfemaaW.PrintWords Go.Proofs.YtodhogegjkfemaaW.PrintLast Go.Proofs.YtodhogegjkfemaaW.PrintMore Go.Proofs.Ytodhogegjkfemaa
def Bytes (l : List Int) : Prop := l.length ≤ 1048576 ∧ ∀ x ∈ l, 0 ≤ x ∧ x ≤ 255
theorem and255 (E : Int) : 0 ≤ Go.bits .and .u64 E 255 ∧ Go.bits .and .u64 E 255 ≤ 255 := by
  have h : Go.bits .and .u64 E 255 = IntKind.u64.wrap (((BitVec.ofInt 64 E) &&& (BitVec.ofInt 64 255)).toNat : Int) := rfl
  have h2 : ((BitVec.ofInt 64 E) &&& (BitVec.ofInt 64 255)).toNat ≤ 255 := by
    rw [BitVec.toNat_and]
    exact Nat.and_le_right
  have h3 : IntKind.u64.wrap (((BitVec.ofInt 64 E) &&& (BitVec.ofInt 64 255)).toNat : Int) = (((BitVec.ofInt 64 E) &&& (BitVec.ofInt 64 255)).toNat : Int) := by
    show (_ : Int) % 2 ^ 64 = _
    omega
  rw [h, h3]
  omega
def CurOk (p' p : Int) : Prop := p ≤ p' ∧ p' ≤ p + 2
theorem next_tot (l : List Int) (hl : Bytes l) (p h : Int) (hp : 0 ≤ p ∧ p ≤ 1099511627776) : ∃ y, spec_l1Cur_next.f l p h = some y ∧ (0 ≤ y.1 ∧ y.1 ≤ 255 ∧ y.2.1 = p + 1) := by
  have hl1 := hl.1
  unfold spec_l1Cur_next.f
  rw [w64 (n := p + 1) (by omega) (by omega)]
  by_cases h1 : p < (l.length : Int)
  · obtain ⟨i, rfl⟩ := Int.eq_ofNat_of_zero_le hp.1
    have h2 := hl.2 _ (rd_mem l i (by omega))
    rw [if_pos h1, if_pos hp.1, if_pos (by omega)]
    refine ⟨_, rfl, ?_⟩
    simp only
    rw [w64 (by omega) (by omega)]
    exact ⟨h2.1, h2.2, trivial⟩
  · rw [if_neg h1, if_neg (by omega)]
    refine ⟨_, rfl, ?_⟩
    have h3 := and255 ((IntKind.u64.wrap ((IntKind.u64.wrap ((IntKind.u64.wrap (h * 6364136223846793005)) + 0)) + 1442695040888963407)) / 1099511627776)
    simp only
    rw [w64 (by omega) (by omega)]
    exact ⟨h3.1, h3.2, trivial⟩
theorem pick_tot (l : List Int) (hl : Bytes l) (p h a : Int) (hp : 0 ≤ p ∧ p ≤ 549755813888) (ha : a ≤ 1048576) : ∃ y, spec_l1Cur_pick.f l p h a = some y ∧ (0 ≤ y.1 ∧ (y.1 < a ∨ y.1 = 0) ∧ p ≤ y.2.1 ∧ y.2.1 ≤ p + 2) := by
  unfold spec_l1Cur_pick.f
  by_cases h1 : a ≤ 1
  · rw [if_pos h1]
    exact ⟨_, rfl, by simp only; omega, .inr rfl, by simp only; omega, by simp only; omega⟩
  · rw [if_neg h1]
    obtain ⟨⟨b, p1, h'⟩, e1, hb0, hb1, hp1⟩ := next_tot l hl p h (by omega)
    simp only at hb0 hb1 hp1
    rw [e1]
    simp only [Option.bind_some]
    by_cases h2 : a > 200
    · obtain ⟨⟨c, p2, h''⟩, e2, hc0, hc1, hp2⟩ := next_tot l hl p1 h' (by omega)
      simp only at hc0 hc1 hp2
      rw [if_pos h2, e2]
      simp only [Option.bind_some]
      rw [if_neg (by omega), w64 (n := b * 256) (by omega) (by omega), w64 (by omega) (by omega), Int.tmod_eq_emod_of_nonneg (by omega)]
      have h3 := Int.emod_nonneg (b * 256 + c) (show a ≠ 0 by omega)
      have h4 := Int.emod_lt_of_pos (b * 256 + c) (show 0 < a by omega)
      exact ⟨_, rfl, h3, .inl h4, by simp only; omega, by simp only; omega⟩
    · rw [if_neg h2, if_neg (by omega), Int.tmod_eq_emod_of_nonneg (by omega)]
      have h3 := Int.emod_nonneg b (show a ≠ 0 by omega)
      have h4 := Int.emod_lt_of_pos b (show 0 < a by omega)
      exact ⟨_, rfl, h3, .inl h4, by simp only; omega, by simp only; omega⟩
theorem bytes_of {l : List Int} (h : l.length ≤ 1048576) (hw : ∀ x ∈ l, (Lit.int .u8 x).wf = true) : Bytes l := by
  refine ⟨h, fun x hx => ?_⟩
  have h2 := hw x hx
  simp only [Lit.wf, Bool.and_eq_true, decide_eq_true_iff] at h2
  exact h2
theorem one_tot (l : List Int) (hl : Bytes l) (p h a : Int) (hp : 0 ≤ p ∧ p ≤ 549755813888) (ha : a ≤ 1048576) : ∃ y, spec_l1Cur_one.f l p h a = some y ∧ (p ≤ y.2.1 ∧ y.2.1 ≤ p + 2) := by
  unfold spec_l1Cur_one.f
  obtain ⟨⟨b, p1, h'⟩, e1, hb0, hb1, hp0, hp1⟩ := pick_tot l hl p h a hp ha
  simp only at hp0 hp1
  rw [e1]
  exact ⟨_, rfl, hp0, hp1⟩
theorem of_tot (l : List Int) (hl : Bytes l) (p h : Int) (m : List ByteArray) (hp : 0 ≤ p ∧ p ≤ 549755813888) (hm : 0 < m.length) (hm2 : m.length ≤ 1048576) : ∃ y, spec_l1Cur_of.f l p h m = some y ∧ (y.1 ∈ m ∧ p ≤ y.2.1 ∧ y.2.1 ≤ p + 2) := by
  unfold spec_l1Cur_of.f
  obtain ⟨⟨b, p1, h'⟩, e1, hb0, hb1, hp0, hp1⟩ := pick_tot l hl p h (m.length : Int) hp (by omega)
  simp only at hb0 hb1 hp0 hp1
  rw [e1]
  simp only [Option.bind_some]
  obtain ⟨i, rfl⟩ := Int.eq_ofNat_of_zero_le hb0
  rw [if_pos hb0, if_pos (by omega)]
  have hi : i < m.length := by omega
  refine ⟨_, rfl, ?_, by simp only; omega, by simp only; omega⟩
  show rdOf ByteArray.empty m (i : Int) ∈ m
  unfold rdOf
  rw [Int.toNat_natCast, List.getD_eq_getElem?_getD, List.getElem?_eq_getElem hi]
  exact List.getElem_mem hi
theorem among_tot (l : List Int) (hl : Bytes l) (p h : Int) (m : List Int) (hp : 0 ≤ p ∧ p ≤ 549755813888) (hm : 0 < m.length) (hm2 : m.length ≤ 1048576) : ∃ y, spec_l1Cur_among.f l p h m = some y ∧ (y.1 ∈ m ∧ p ≤ y.2.1 ∧ y.2.1 ≤ p + 2) := by
  unfold spec_l1Cur_among.f
  obtain ⟨⟨b, p1, h'⟩, e1, hb0, hb1, hp0, hp1⟩ := pick_tot l hl p h (m.length : Int) hp (by omega)
  simp only at hb0 hb1 hp0 hp1
  rw [e1]
  simp only [Option.bind_some]
  obtain ⟨i, rfl⟩ := Int.eq_ofNat_of_zero_le hb0
  rw [if_pos hb0, if_pos (by omega)]
  exact ⟨_, rfl, rd_mem m i (by omega), by simp only; omega, by simp only; omega⟩
theorem l1In_eq (a b c : Int) : spec_l1In.f a b c = some (decide (b ≤ a ∧ a ≤ c)) := by
  unfold spec_l1In.f
  by_cases h : a ≥ b
  · rw [if_pos h]
    congr 1
    exact decide_eq_decide.2 ⟨fun h1 => ⟨h, h1⟩, fun h1 => h1.2⟩
  · rw [if_neg h, decide_eq_false (fun h1 => h h1.1)]
theorem within_eq (a b c : Int) : impl_within.f a b c = some (decide (b ≤ a ∧ a ≤ c)) := by
  unfold impl_within.f
  by_cases h : a ≥ b
  · rw [if_pos h]
    congr 1
    exact decide_eq_decide.2 ⟨fun h1 => ⟨h, h1⟩, fun h1 => h1.2⟩
  · rw [if_neg h, decide_eq_false (fun h1 => h h1.1)]
theorem rdStr (l : List ByteArray) (i : Nat) (h : i < l.length) : rdOf ByteArray.empty l (i : Int) = l[i] := by
  unfold rdOf
  rw [Int.toNat_natCast]
  exact getDin l _ i h
def goodC (l : List ByteArray) (a b : Int) : Bool := decide ((l.length ≤ 5 ∧ ∀ x ∈ l, x.size ≤ 15) ∧ (0 ≤ a ∧ a ≤ 1000) ∧ (1 ≤ b ∧ b ≤ 4))
theorem implGood_tot (l : List ByteArray) (hl : l.length ≤ 1048576) (a b : Int) : Tot (fun k => impl_GoodClient.f k l a b) (fun y => y = goodC l a b) := by
  have key : ∀ (d i : Nat), l.length - i = d → i ≤ l.length → Tot (fun k => slices_IndexFunc_string_string.l0 k l (l.length : Int) (i : Int)) (fun y => y ≥ 0 ↔ ¬ ∀ x ∈ l.drop i, x.size ≤ 15) := by
    intro d
    induction d with
    | zero =>
      intro i hd hi
      refine Tot.up ?_
      simp only [slices_IndexFunc_string_string.l0]
      refine Tot.neg (by omega) (Tot.some_ ?_)
      rw [List.drop_of_length_le (by omega)]
      simp
    | succ d ih =>
      intro i hd hi
      have hlt : i < l.length := by omega
      refine Tot.up ?_
      simp only [slices_IndexFunc_string_string.l0, impl_GoodClient_1.f, impl_isSaid.f, Option.bind_some]
      refine Tot.pos (by omega) (Tot.pos (by omega) (Tot.pos (by omega) ?_))
      rw [rdStr l i hlt, w64 (n := (i : Int) + 1) (by omega) (by omega), List.drop_eq_getElem_cons hlt]
      refine Tot.ite (fun h => Tot.some_ ?_) (fun h => (ih (i + 1) (by omega) (by omega)).imp (fun y hy => ?_))
      · rw [Bool.not_eq_true', decide_eq_false_iff_not] at h
        simp only [List.mem_cons, forall_eq_or_imp]
        exact ⟨fun _ h3 => h (by have := h3.1; omega), fun _ => by omega⟩
      · rw [Bool.not_eq_true', decide_eq_false_iff_not] at h
        rw [hy]
        simp only [List.mem_cons, forall_eq_or_imp]
        exact not_congr ⟨fun h3 => ⟨by omega, h3⟩, fun h3 => h3.2⟩
  have h0 := key l.length 0 (by omega) (by omega)
  simp only [impl_GoodClient.f, slices_ContainsFunc_string_string.f, slices_IndexFunc_string_string.f, impl_areWays.f, within_eq, Option.bind_some]
  refine Tot.ite (fun h => ?_) (fun h => Tot.some_ ((decide_eq_false (fun h3 => h (by have := h3.1.1; omega))).symm))
  refine Tot.bind (Tot.bind (R := fun y => y = true ↔ ¬ ∀ x ∈ l, x.size ≤ 15) h0 (fun y hy => Tot.some_ ?_)) (fun y hy => ?_)
  · rw [decide_eq_true_iff, hy, List.drop_zero]
  · refine Tot.ite (fun h2 => Tot.some_ ?_) (fun h2 => ?_)
    · exact (decide_eq_false (fun h3 => (hy.1 h2) h3.1.2)).symm
    · have hall : ∀ x ∈ l, x.size ≤ 15 := Classical.byContradiction fun h3 => h2 (hy.2 h3)
      refine Tot.ite (fun h4 => Tot.some_ ?_) (fun h4 => Tot.some_ ?_)
      · rw [decide_eq_true_iff] at h4
        exact decide_eq_decide.2 ⟨fun h3 => ⟨⟨by omega, hall⟩, h4, h3⟩, fun h3 => h3.2.2⟩
      · rw [decide_eq_true_iff] at h4
        exact (decide_eq_false (fun h3 => h4 h3.2.1)).symm
theorem specGood_tot (l : List ByteArray) (hl : l.length ≤ 1048576) (a b : Int) : Tot (fun k => spec_GoodClient.f k l a b) (fun y => y = goodC l a b) := by
  have key : ∀ (d i : Nat), l.length - i = d → i ≤ l.length → (∀ x ∈ l.take i, x.size ≤ 15) → Tot (fun k => spec_GoodClient.l0 k l (l.length : Int) (i : Int) l a b) (fun y => y = goodC l a b) := by
    intro d
    induction d with
    | zero =>
      intro i hd hi ht
      rw [List.take_of_length_le (by omega)] at ht
      refine Tot.up ?_
      simp only [spec_GoodClient.l0, l1In_eq, Option.bind_some]
      refine Tot.neg (by omega) (Tot.ite (fun h => Tot.ite (fun h2 => Tot.some_ ?_) (fun h2 => Tot.some_ ?_)) (fun h => Tot.some_ ?_))
      · rw [decide_eq_true_iff] at h2
        unfold goodC
        exact decide_eq_decide.2 ⟨fun h3 => ⟨⟨by omega, ht⟩, h2, h3⟩, fun h3 => h3.2.2⟩
      · rw [decide_eq_true_iff] at h2
        exact (decide_eq_false (fun h3 => h2 h3.2.1)).symm
      · exact (decide_eq_false (fun h3 => h (by have := h3.1.1; omega))).symm
    | succ d ih =>
      intro i hd hi ht
      have hlt : i < l.length := by omega
      refine Tot.up ?_
      simp only [spec_GoodClient.l0, spec_l10Text.f, Option.bind_some]
      refine Tot.pos (by omega) (Tot.pos (by omega) (Tot.pos (by omega) ?_))
      rw [rdStr l i hlt, w64 (n := (i : Int) + 1) (by omega) (by omega)]
      refine Tot.ite (fun h => ?_) (fun h => Tot.some_ ?_)
      · rw [decide_eq_true_iff] at h
        refine ih (i + 1) (by omega) (by omega) (fun x hx => ?_)
        rw [List.take_succ_eq_append_getElem hlt, List.mem_append, List.mem_singleton] at hx
        rcases hx with hx | rfl
        · exact ht x hx
        · omega
      · rw [decide_eq_true_iff] at h
        exact (decide_eq_false (fun h3 => h (by have := h3.1.2 _ (List.getElem_mem hlt); omega))).symm
  exact key l.length 0 (by omega) (by omega) (by simp)
def hd8 : List ByteArray → ByteArray
  | [] => ⟨#[]⟩
  | x :: _ => x
def stepO (q : List ByteArray) (t w k : Int) (x : ByteArray) : Option (List ByteArray × Int × Int × Int × Int × ByteArray) :=
  if k = 1 ∧ x.size ≤ 15 ∧ q.length < 5 then some (q ++ [x], t, 0, 0, 0, ⟨#[]⟩)
  else if k = 2 ∧ x.toList = [] ∧ t < 1000 then some (q.drop 1, t + 1, t, Int.tmod t w, 24, hd8 q)
  else none
def GoodC (q : List ByteArray) (t w : Int) : Prop := (q.length ≤ 5 ∧ ∀ x ∈ q, x.size ≤ 15) ∧ (0 ≤ t ∧ t ≤ 1000) ∧ (1 ≤ w ∧ w ≤ 4)
def outS (q : List ByteArray) (t w : Int) (o : Option (List ByteArray × Int × Int × Int × Int × ByteArray)) : List ByteArray × Int × Int × Int × Int × Int × ByteArray × Bool := match o with
  | some (q', t', a, b, c, x) => (q', t', w, a, b, c, x, true)
  | none => (q, t, w, 0, 0, 0, ⟨#[]⟩, false)
def outI (w : Int) (o : Option (List ByteArray × Int × Int × Int × Int × ByteArray)) : List ByteArray × Int × Int × Int × Int × Int × ByteArray × Bool := match o with
  | some (q', t', a, b, c, x) => (q', t', w, a, b, c, x, true)
  | none => ([], 0, 0, 0, 0, 0, ⟨#[]⟩, false)
theorem rd0 (q : List ByteArray) (h : 0 < q.length) : rdOf ByteArray.empty q 0 = hd8 q := by
  cases q with
  | nil => simp at h
  | cons x q => rfl
theorem specStep_tot (q : List ByteArray) (t w : Int) (hg : GoodC q t w) (k : Int) (x : ByteArray) : Tot (fun n => spec_l10Step.f n q t w k x) (fun y => y = outS q t w (stepO q t w k x)) := by
  obtain ⟨⟨h1, h2⟩, h3, h4⟩ := hg
  have j1f : Tot (fun n => spec_l10Step.j1 n false q t w) (fun y => y = (q, t, w, 0, 0, 0, ⟨#[]⟩, false)) := by
    refine Tot.up ?_
    simp only [spec_l10Step.j1]
    exact Tot.neg (by simp) (Tot.some_ rfl)
  have e1 : wrap64 (t + 1 - 1) = t := by rw [w64 (by omega) (by omega)]; omega
  have e2 : wrap64 (t + 1) = t + 1 := w64 (by omega) (by omega)
  have j1t : Tot (fun n => spec_l10Step.j1 n true q t w) (fun y => y = (q.drop 1, t + 1, w, t, Int.tmod t w, 24, hd8 q, true)) := by
    refine Tot.up ?_
    simp only [spec_l10Step.j1, e2, e1, spec_l10Emit.f]
    refine Tot.pos trivial (Tot.ite (fun hq => ?_) (fun hq => ?_))
    · refine Tot.pos (by omega) (Tot.bind (Tot.some_ rfl) (fun y hy => Tot.pos (by omega) (Tot.bind (Tot.some_ rfl) (fun z hz => ?_))))
      rw [← hy, ← hz]
      refine Tot.pos (by rw [List.length_drop]; simp only [List.length_nil]; omega) ?_
      refine Tot.bind (Q := fun u => u = (t, Int.tmod t w, 24)) (Tot.neg (by omega) (Tot.some_ rfl)) (fun u hu => Tot.some_ ?_)
      rw [hu, rd0 q (by omega), List.nil_append]
    · refine Tot.bind (Q := fun u => u = (t, Int.tmod t w, 24)) (Tot.neg (by omega) (Tot.some_ rfl)) (fun u hu => Tot.some_ ?_)
      have : q = [] := List.eq_nil_of_length_eq_zero (by omega)
      rw [hu, this]
      rfl
  have j0f : Tot (fun n => spec_l10Step.j0 n false q t w k x) (fun y => y = outS q t w (if k = 2 ∧ x.toList = [] ∧ t < 1000 then some (q.drop 1, t + 1, t, Int.tmod t w, 24, hd8 q) else none)) := by
    refine Tot.up ?_
    simp only [spec_l10Step.j0]
    refine Tot.neg (by simp) (Tot.ite (fun c1 => Tot.ite (fun c2 => ?_) (fun c2 => ?_)) (fun c1 => ?_))
    · by_cases c3 : t < 1000
      · rw [decide_eq_true c3, if_pos ⟨c1, c2, c3⟩]
        exact j1t
      · rw [decide_eq_false c3, if_neg (fun h => c3 h.2.2)]
        exact j1f
    · rw [if_neg (fun h => c2 h.2.1)]
      exact j1f
    · rw [if_neg (fun h => c1 h.1)]
      exact j1f
  have j0t : q.length < 5 → Tot (fun n => spec_l10Step.j0 n true q t w k x) (fun y => y = (q ++ [x], t, w, 0, 0, 0, ⟨#[]⟩, true)) := by
    intro hq
    refine Tot.up ?_
    simp only [spec_l10Step.j0]
    refine Tot.pos trivial (Tot.bind (Tot.some_ rfl) (fun y hy => ?_))
    rw [← hy]
    refine Tot.pos (by simp only [List.length_nil]; omega) (Tot.bind (Tot.some_ rfl) (fun z hz => Tot.bind (Tot.some_ rfl) (fun v hv => ?_)))
    rw [← hz, ← hv]
    exact Tot.pos (by simp only [List.nil_append, List.length_singleton]; omega) (Tot.some_ (by rw [List.nil_append]))
  simp only [spec_l10Step.f, spec_l10Text.f, stepO]
  refine Tot.ite (fun c1 => Tot.bind (Tot.some_ rfl) (fun b hb => ?_)) (fun c1 => ?_)
  · refine Tot.ite (fun c2 => ?_) (fun c2 => ?_)
    · have c2' : x.size ≤ 15 := by
        have := of_decide_eq_true (hb.symm ▸ c2 : decide ((x.size : Int) ≤ 15) = true)
        omega
      by_cases c3 : q.length < 5
      · rw [decide_eq_true (show (q.length : Int) < 5 by omega), if_pos ⟨c1, c2', c3⟩]
        exact j0t c3
      · rw [decide_eq_false (show ¬ (q.length : Int) < 5 by omega), if_neg (fun h => c3 h.2.2)]
        exact j0f
    · rw [if_neg (fun h => c2 (by rw [← hb]; exact decide_eq_true (show (x.size : Int) ≤ 15 by omega)))]
      exact j0f
  · rw [if_neg (fun h => c1 h.1)]
    exact j0f
theorem implStep_tot (q : List ByteArray) (t w : Int) (hg : GoodC q t w) (k : Int) (x : ByteArray) : Tot (fun n => impl_StepClient.f n q t w k x) (fun y => y = outI w (stepO q t w k x)) := by
  have hgb : goodC q t w = true := decide_eq_true hg
  obtain ⟨⟨h1, h2⟩, h3, h4⟩ := hg
  have e2 : wrap64 (t + 1) = t + 1 := w64 (by omega) (by omega)
  have j1f : Tot (fun n => impl_StepClient.j1 n false q t w) (fun y => y = ([], 0, 0, 0, 0, 0, ⟨#[]⟩, false)) := by
    refine Tot.up ?_
    simp only [impl_StepClient.j1]
    exact Tot.neg (by simp) (Tot.some_ rfl)
  have j1t : Tot (fun n => impl_StepClient.j1 n true q t w) (fun y => y = (q.drop 1, t + 1, w, t, Int.tmod t w, 24, hd8 q, true)) := by
    refine Tot.up ?_
    simp only [impl_StepClient.j1, e2, impl_emit.f]
    refine Tot.pos trivial (Tot.bind (Q := fun u => u = (t, Int.tmod t w, 24)) (Tot.neg (by omega) (Tot.some_ rfl)) (fun u hu => ?_))
    rw [hu]
    refine Tot.ite (fun hq => ?_) (fun hq => ?_)
    · refine Tot.pos (by omega) (Tot.pos (by omega) (Tot.some_ ?_))
      rw [rd0 q (by omega)]
      rfl
    · have : q = [] := List.eq_nil_of_length_eq_zero (by omega)
      rw [this]
      exact Tot.some_ rfl
  have j0f : Tot (fun n => impl_StepClient.j0 n false q t w k x) (fun y => y = outI w (if k = 2 ∧ x.toList = [] ∧ t < 1000 then some (q.drop 1, t + 1, t, Int.tmod t w, 24, hd8 q) else none)) := by
    refine Tot.up ?_
    simp only [impl_StepClient.j0]
    refine Tot.neg (by simp) (Tot.ite (fun c1 => Tot.ite (fun c2 => ?_) (fun c2 => ?_)) (fun c1 => ?_))
    · by_cases c3 : t < 1000
      · rw [decide_eq_true c3, if_pos ⟨c1, c2, c3⟩]
        exact j1t
      · rw [decide_eq_false c3, if_neg (fun h => c3 h.2.2)]
        exact j1f
    · rw [if_neg (fun h => c2 h.2.1)]
      exact j1f
    · rw [if_neg (fun h => c1 h.1)]
      exact j1f
  have j0t : q.length < 5 → Tot (fun n => impl_StepClient.j0 n true q t w k x) (fun y => y = (q ++ [x], t, w, 0, 0, 0, ⟨#[]⟩, true)) := by
    intro hq
    refine Tot.up ?_
    simp only [impl_StepClient.j0]
    exact Tot.pos trivial (Tot.pos (by omega) (Tot.some_ rfl))
  simp only [impl_StepClient.f, impl_isSaid.f, stepO, slices_Clone_string_string.f]
  refine Tot.bind (implGood_tot q (by omega) t w) (fun g eg => Tot.pos (eg.trans hgb) ?_)
  refine Tot.bind (Q := fun y => y = q) (Tot.pos (by omega) (Tot.some_ rfl)) (fun q' hq' => ?_)
  rw [hq']
  refine Tot.ite (fun c1 => Tot.bind (Tot.some_ rfl) (fun b hb => ?_)) (fun c1 => ?_)
  · refine Tot.ite (fun c2 => ?_) (fun c2 => ?_)
    · have c2' : x.size ≤ 15 := by
        have := of_decide_eq_true (hb.symm ▸ c2 : decide ((x.size : Int) < 16) = true)
        omega
      by_cases c3 : q.length < 5
      · rw [decide_eq_true (show (q.length : Int) < 5 by omega), if_pos ⟨c1, c2', c3⟩]
        exact j0t c3
      · rw [decide_eq_false (show ¬ (q.length : Int) < 5 by omega), if_neg (fun h => c3 h.2.2)]
        exact j0f
    · rw [if_neg (fun h => c2 (by rw [← hb]; exact decide_eq_true (show (x.size : Int) < 16 by omega)))]
      exact j0f
  · rw [if_neg (fun h => c1 h.1)]
    exact j0f
theorem step_good (q : List ByteArray) (t w : Int) (hg : GoodC q t w) (k : Int) (x : ByteArray) (q' : List ByteArray) (t' a b c : Int) (z : ByteArray) (h : stepO q t w k x = some (q', t', a, b, c, z)) : GoodC q' t' w := by
  obtain ⟨⟨h1, h2⟩, h3, h4⟩ := hg
  unfold stepO at h
  split at h
  · rename_i hc
    simp only [Option.some.injEq, Prod.mk.injEq] at h
    obtain ⟨rfl, rfl, _⟩ := h
    refine ⟨⟨by rw [List.length_append, List.length_singleton]; omega, fun y hy => ?_⟩, h3, h4⟩
    rcases List.mem_append.1 hy with hy | hy
    · exact h2 y hy
    · rw [List.mem_singleton.1 hy]
      exact hc.2.1
  · split at h
    · rename_i hc
      simp only [Option.some.injEq, Prod.mk.injEq] at h
      obtain ⟨rfl, rfl, _⟩ := h
      exact ⟨⟨by rw [List.length_drop]; omega, fun y hy => h2 y (List.mem_of_mem_drop hy)⟩, by omega, h4⟩
    · simp at h
theorem own_eq (l : List ByteArray) (hl : l.length ≤ 1048576) (a b : Int) : spec_l10Own.f l a b = some (l, a, b) := by
  simp only [spec_l10Own.f, Option.bind_some, List.nil_append, List.length_nil]
  rw [if_pos (by omega)]
open Classical in
noncomputable def stepV (q : List ByteArray) (t w k : Int) (x : ByteArray) : List ByteArray × Int × Int × Int × Int × Int × ByteArray × Bool := if GoodC q t w then outI w (stepO q t w k x) else outI w none
theorem specClient_tot (q : List ByteArray) (hq : q.length ≤ 1048576) (t w k : Int) (x : ByteArray) : Tot (fun n => spec_StepClient.f n q t w k x) (fun y => y = stepV q t w k x) := by
  simp only [spec_StepClient.f]
  refine Tot.bind (specGood_tot q hq t w) (fun y e => ?_)
  subst e
  by_cases hg : GoodC q t w
  · have hgb : goodC q t w = true := decide_eq_true hg
    refine Tot.pos hgb ?_
    rw [own_eq q hq t w]
    simp only [Option.bind_some]
    refine Tot.bind (specStep_tot q t w hg k x) (fun y e => ?_)
    subst e
    unfold stepV
    rw [if_pos hg]
    cases ho : stepO q t w k x with
    | none => exact Tot.neg (by simp [outS]) (Tot.some_ rfl)
    | some o =>
      obtain ⟨q', t', a, b, c, z⟩ := o
      have hg' := step_good q t w hg k x q' t' a b c z ho
      refine Tot.pos rfl ?_
      simp only [outS]
      rw [own_eq q' (by have := hg'.1.1; omega) t' w]
      exact Tot.some_ rfl
  · have hgb : goodC q t w = false := decide_eq_false hg
    refine Tot.neg (by rw [hgb]; simp) (Tot.some_ ?_)
    unfold stepV
    rw [if_neg hg]
    rfl
theorem implClient_tot (q : List ByteArray) (hq : q.length ≤ 1048576) (t w k : Int) (x : ByteArray) : Tot (fun n => impl_StepClient.f n q t w k x) (fun y => y = stepV q t w k x) := by
  by_cases hg : GoodC q t w
  · refine (implStep_tot q t w hg k x).imp (fun y e => ?_)
    rw [e]
    unfold stepV
    rw [if_pos hg]
  · have hgb : goodC q t w = false := decide_eq_false hg
    simp only [impl_StepClient.f]
    refine Tot.bind (implGood_tot q hq t w) (fun y e => ?_)
    subst e
    refine Tot.neg (by rw [hgb]; simp) (Tot.some_ ?_)
    unfold stepV
    rw [if_neg hg]
    rfl
def firstAt (t : ByteArray) : List ByteArray → Nat → Option Nat
  | [], _ => none
  | x :: l, i => if x.toList = t.toList then some i else firstAt t l (i + 1)
def waitV (l : List ByteArray) (a b : Int) (t : ByteArray) : Int × Bool := if goodC l a b = true then (match firstAt t l 0 with | some i => ((i : Int) + 1, true) | none => (0, false)) else (0, false)
theorem specWait_tot (l : List ByteArray) (hl : l.length ≤ 1048576) (t : ByteArray) : ∀ (d i : Nat), l.length - i = d → i ≤ l.length →
    Tot (fun k => spec_WaitFor.l0 k t l (l.length : Int) (i : Int)) (fun y => y = (match firstAt t (l.drop i) i with | some i => ((i : Int) + 1, true) | none => (0, false))) := by
  intro d
  induction d with
  | zero =>
    intro i hd hi
    refine Tot.up ?_
    simp only [spec_WaitFor.l0]
    refine Tot.neg (by omega) (Tot.some_ ?_)
    rw [List.drop_of_length_le (by omega)]
    rfl
  | succ d ih =>
    intro i hd hi
    have hlt : i < l.length := by omega
    refine Tot.up ?_
    simp only [spec_WaitFor.l0]
    refine Tot.pos (by omega) (Tot.pos (by omega) (Tot.pos (by omega) ?_))
    rw [rdStr l i hlt, w64 (n := (i : Int) + 1) (by omega) (by omega), List.drop_eq_getElem_cons hlt]
    refine Tot.ite (fun h => Tot.some_ ?_) (fun h => ?_)
    · simp only [firstAt, if_pos h]
    · simp only [firstAt, if_neg h]
      exact ih (i + 1) (by omega) (by omega)
theorem index_tot (l : List ByteArray) (hl : l.length ≤ 1048576) (t : ByteArray) : ∀ (d i : Nat), l.length - i = d → i ≤ l.length →
    Tot (fun k => slices_Index_string_string.l0 k l t (l.length : Int) (i : Int)) (fun y => y = (match firstAt t (l.drop i) i with | some i => (i : Int) | none => -1)) := by
  intro d
  induction d with
  | zero =>
    intro i hd hi
    refine Tot.up ?_
    simp only [slices_Index_string_string.l0]
    refine Tot.neg (by omega) (Tot.some_ ?_)
    rw [List.drop_of_length_le (by omega)]
    rfl
  | succ d ih =>
    intro i hd hi
    have hlt : i < l.length := by omega
    refine Tot.up ?_
    simp only [slices_Index_string_string.l0]
    refine Tot.pos (by omega) (Tot.pos (by omega) (Tot.pos (by omega) ?_))
    rw [rdStr l i hlt, w64 (n := (i : Int) + 1) (by omega) (by omega), List.drop_eq_getElem_cons hlt]
    refine Tot.ite (fun h => Tot.some_ ?_) (fun h => ?_)
    · simp only [firstAt, if_pos h.symm]
    · have h' : ¬ l[i].toList = t.toList := fun e => h e.symm
      simp only [firstAt, if_neg h']
      exact ih (i + 1) (by omega) (by omega)
theorem firstAt_lt (t : ByteArray) : ∀ (l : List ByteArray) (i j : Nat), firstAt t l i = some j → j < i + l.length := by
  intro l
  induction l with
  | nil => intro i j h; simp [firstAt] at h
  | cons x l ih =>
    intro i j h
    simp only [firstAt] at h
    simp only [List.length_cons]
    split at h
    · injection h with h
      omega
    · have := ih _ _ h
      omega
set_option maxHeartbeats 1000000
theorem sameTexts_tot (l : List ByteArray) (hl : l.length ≤ 1048576) : Tot (fun k => laws_sameTexts.f k l l) (fun y => y = true) := by
  have h := fun k hk => loop_up (fun k (x : Int) => laws_sameTexts.l0 k l l (l.length : Int) x) l.length 0 (fun i => (i : Int)) true (fun i k hi _ => by
    simp only [laws_sameTexts.l0]
    rw [if_pos (by omega), if_pos (by omega), if_pos (by omega), if_pos (by omega), if_pos trivial, w64 (by omega) (by omega)]
    rfl) (fun k _ => by
    simp only [laws_sameTexts.l0]
    rw [if_neg (by omega)]) k hk
  simp only [laws_sameTexts.f]
  exact Tot.pos trivial (Tot.at_ (l.length + 1) rfl (fun k hk => h k (by omega)))
theorem sameClient_tot (l : List ByteArray) (hl : l.length ≤ 1048576) (a b : Int) : Tot (fun k => laws_sameClient.f k l a b l a b) (fun y => y = true) := by
  simp only [laws_sameClient.f]
  exact Tot.bind (sameTexts_tot l hl) (fun y e => Tot.pos e (Tot.pos trivial (Tot.some_ (by simp))))
theorem coverSteps_l0 (l : List Int) (hl : Bytes l) : ∀ (d : Nat) (n : Int) (x : List _) (p h : Int), n ≤ d → d ≤ 200 → x.length + d ≤ 1000 → 0 ≤ p ∧ p + 8 * (d : Int) ≤ 100000 → Tot (fun k => spec_l1Cur_coverSteps.l0 k x n l p h) (fun y => y.1.length ≤ x.length + d ∧ p ≤ y.2.1 ∧ y.2.1 ≤ p + 8 * (d : Int)) := by
  intro d
  induction d with
  | zero =>
    intro n x p h hn hd hx hp
    refine Tot.up ?_
    simp only [spec_l1Cur_coverSteps.l0]
    exact Tot.neg (by omega) (Tot.some_ ⟨by simp, by simp, by simp⟩)
  | succ d ih =>
    intro n x p h hn hd hx hp
    refine Tot.up ?_
    simp only [spec_l1Cur_coverSteps.l0]
    refine Tot.ite (fun h1 => ?_) (fun h1 => Tot.some_ ⟨by simp only; omega, by simp only; omega, by simp only; omega⟩)
    have w := Aside0.mk (show wrap64 (n - 1) = n - 1 from w64 (by omega) (by omega))
    have hj : ∀ (p1 h2 a : Int) (s : ByteArray), p ≤ p1 ∧ p1 ≤ p + 4 → Tot (fun k => spec_l1Cur_coverSteps.j2 k x n l p1 h2 a s) (fun y => y.1.length ≤ x.length + (d + 1) ∧ p ≤ y.2.1 ∧ y.2.1 ≤ p + 8 * ((d + 1 : Nat) : Int)) := by
      intro p1 h2 a s hp1
      refine Tot.up ?_
      simp only [spec_l1Cur_coverSteps.j2]
      refine Tot.bind (Tot.fix (one_tot l hl p1 h2 40 (by omega) (by omega))) (fun y hy => Tot.ite (fun _ => ?_) (fun _ => ?_))
      · refine Tot.bind (Tot.fix (pick_tot l hl y.2.1 y.2.2 4 (by omega) (by omega))) (fun z hz => Tot.pos (by omega) ?_)
        rw [w.out]
        refine (ih (n - 1) _ _ _ (by omega) (by omega) (by rw [List.length_append, List.length_singleton]; omega) (by omega)).imp (fun r hr => ?_)
        rw [List.length_append, List.length_singleton] at hr
        omega
      · refine Tot.pos (by omega) ?_
        rw [w.out]
        refine (ih (n - 1) _ _ _ (by omega) (by omega) (by rw [List.length_append, List.length_singleton]; omega) (by omega)).imp (fun r hr => ?_)
        rw [List.length_append, List.length_singleton] at hr
        omega
    refine Tot.bind (Tot.fix (pick_tot l hl p h 2 (by omega) (by omega))) (fun y hy => Tot.ite (fun _ => ?_) (fun _ => hj _ _ _ _ (by omega)))
    exact Tot.bind (Tot.fix (of_tot l hl y.2.1 y.2.2 _ (by omega) (by decide) (by decide))) (fun z hz => hj _ _ _ _ (by omega))
theorem coverSteps_tot (l : List Int) (hl : Bytes l) (p h : Int) (hp : 0 ≤ p ∧ p ≤ 90000) : Tot (fun k => spec_l1Cur_coverSteps.f k l p h) (fun y => y.1.length ≤ 90 ∧ p ≤ y.2.1 ∧ y.2.1 ≤ p + 1000) := by
  simp only [spec_l1Cur_coverSteps.f]
  refine Tot.bind (Tot.fix (pick_tot l hl p h 30 (by omega) (by omega))) (fun y hy => ?_)
  refine Tot.bind (Tot.fix (one_tot l hl y.2.1 y.2.2 20 (by omega) (by omega))) (fun z hz => Tot.ite (fun _ => ?_) (fun _ => ?_))
  · refine Tot.bind (Tot.fix (pick_tot l hl z.2.1 z.2.2 3 (by omega) (by omega))) (fun u hu => Tot.up ?_)
    simp only [spec_l1Cur_coverSteps.j0]
    rw [w64 (n := 79 + u.1) (by omega) (by omega)]
    refine (coverSteps_l0 l hl 90 _ [] _ _ (by omega) (by omega) (by simp) (by omega)).imp (fun r hr => ?_)
    simp only [List.length_nil] at hr
    omega
  · refine Tot.up ?_
    simp only [spec_l1Cur_coverSteps.j0]
    refine (coverSteps_l0 l hl 90 _ [] _ _ (by omega) (by omega) (by simp) (by omega)).imp (fun r hr => ?_)
    simp only [List.length_nil] at hr
    omega
theorem stepV5 (q : List ByteArray) (t w k : Int) (x : ByteArray) : (stepV q t w k x).1.length ≤ 5 := by
  unfold stepV
  split
  · rename_i hg
    cases ho : stepO q t w k x with
    | none => simp [outI]
    | some o =>
      obtain ⟨q', t', a, b, c, z⟩ := o
      exact (step_good q t w hg k x q' t' a b c z ho).1.1
  · simp [outI]
theorem stepV_good (q : List ByteArray) (t w k : Int) (x : ByteArray) (h : (stepV q t w k x).2.2.2.2.2.2.2 = true) : goodC (stepV q t w k x).1 (stepV q t w k x).2.1 (stepV q t w k x).2.2.1 = true := by
  unfold stepV at h ⊢
  split at h
  · rename_i hg
    rw [if_pos hg]
    cases ho : stepO q t w k x with
    | none => rw [ho] at h; simp [outI] at h
    | some o =>
      obtain ⟨q', t', a, b, c, z⟩ := o
      exact decide_eq_true (step_good q t w hg k x q' t' a b c z ho)
  · simp [outI] at h
theorem client_l0 (l : List Int) (hl : Bytes l) (x : List _) (hx : x.length ≤ 90) (p h : Int) (hp : 0 ≤ p ∧ p ≤ 80000) : ∀ (d i : Nat) (q : List ByteArray) (t w : Int), x.length - i = d → i ≤ x.length → q.length ≤ 5 →
    Tot (fun k => spec_l1Cur_client.l0 k x (x.length : Int) (i : Int) l p h q t w) (fun y => y.1.length ≤ 5 ∧ 0 ≤ y.2.2.2.1 ∧ y.2.2.2.1 ≤ p + 1000) := by
  intro d
  induction d with
  | zero =>
    intro i q t w hd hi hq
    refine Tot.up ?_
    simp only [spec_l1Cur_client.l0]
    refine Tot.neg (by omega) ?_
    refine Tot.bind (Tot.fix (pick_tot l hl p h 20 (by omega) (by omega))) (fun y hy => Tot.ite (fun _ => ?_) (fun _ => Tot.ite (fun _ => ?_) (fun _ => Tot.some_ ⟨hq, by simp only; omega, by simp only; omega⟩)))
    · exact Tot.bind (Tot.fix (among_tot l hl y.2.1 y.2.2 _ (by omega) (by decide) (by decide))) (fun z hz => Tot.some_ ⟨hq, by simp only; omega, by simp only; omega⟩)
    · exact Tot.bind (Tot.fix (pick_tot l hl y.2.1 y.2.2 6 (by omega) (by omega))) (fun z hz => Tot.some_ ⟨hq, by simp only; omega, by simp only; omega⟩)
  | succ d ih =>
    intro i q t w hd hi hq
    refine Tot.up ?_
    simp only [spec_l1Cur_client.l0]
    refine Tot.pos (by omega) (Tot.pos (by omega) (Tot.pos (by omega) ?_))
    rw [w64 (n := (i : Int) + 1) (by omega) (by omega)]
    refine Tot.bind (specClient_tot q (by omega) t w _ _) (fun y e => Tot.ite (fun _ => ?_) (fun _ => ih (i + 1) q t w (by omega) (by omega) hq))
    subst e
    exact ih (i + 1) _ _ _ (by omega) (by omega) (stepV5 _ _ _ _ _)
theorem newClient (a : Int) : ∃ (b : Int) (o : Bool), spec_NewClient.f a = some ([], 0, b, o) ∧ impl_NewClient.f a = some ([], 0, b, o) := by
  unfold spec_NewClient.f impl_NewClient.f impl_areWays.f
  rw [l1In_eq, within_eq]
  simp only [Option.bind_some]
  by_cases h : 1 ≤ a ∧ a ≤ 4
  · rw [decide_eq_true h]
    exact ⟨a, true, rfl, rfl⟩
  · rw [decide_eq_false h]
    exact ⟨0, false, rfl, rfl⟩
theorem client_tot (l : List Int) (hl : Bytes l) : Tot (fun k => spec_l1Cur_client.f k l 0 0) (fun y => y.1.length ≤ 5 ∧ 0 ≤ y.2.2.2.1 ∧ y.2.2.2.1 ≤ 5000) := by
  simp only [spec_l1Cur_client.f]
  refine Tot.bind (Tot.fix (pick_tot l hl 0 0 4 (by omega) (by omega))) (fun y hy => ?_)
  obtain ⟨b, o, h1, _⟩ := newClient (wrap64 (1 + y.1))
  rw [h1]
  simp only [Option.bind_some]
  refine Tot.bind (coverSteps_tot l hl y.2.1 y.2.2 (by omega)) (fun z hz => ?_)
  exact (client_l0 l hl z.1 hz.1 z.2.1 z.2.2 (by omega) z.1.length 0 [] 0 b (by omega) (by omega) (by simp)).imp (fun r hr => ⟨hr.1, hr.2.1, by omega⟩)
theorem drawStep_tot (l : List Int) (hl : Bytes l) : Tot (fun k => spec_DrawStepClient.f k l) (fun y => y.1.length ≤ 5) := by
  simp only [spec_DrawStepClient.f]
  refine Tot.bind (client_tot l hl) (fun y hy => ?_)
  refine Tot.bind (coverSteps_tot l hl y.2.2.2.1 y.2.2.2.2 (by omega)) (fun z hz => Tot.ite (fun _ => Tot.some_ hy.1) (fun _ => Tot.pos (by omega) (Tot.some_ hy.1)))
theorem drawWait_tot (l : List Int) (hl : Bytes l) : Tot (fun k => spec_DrawWaitFor.f k l) (fun y => y.1.length ≤ 5) := by
  simp only [spec_DrawWaitFor.f]
  refine Tot.bind (client_tot l hl) (fun y hy => ?_)
  exact Tot.bind (Tot.fix (of_tot l hl y.2.2.2.1 y.2.2.2.2 _ (by omega) (by decide) (by decide))) (fun z hz => Tot.some_ hy.1)
theorem j2_tot (l : List Int) (hl : Bytes l) : Tot (fun k => laws_FnQueue.j2 k l) (fun y => y = true) := by
  refine Tot.up ?_
  simp only [laws_FnQueue.j2]
  refine Tot.bind (drawStep_tot l hl) (fun y hy => ?_)
  obtain ⟨q, t, w, s, x⟩ := y
  simp only at hy
  have hr := stepV5 q t w s x
  have hg := stepV_good q t w s x
  have hs := specClient_tot q (by omega) t w s x
  have hi := implClient_tot q (by omega) t w s x
  generalize stepV q t w s x = v at hr hg hs hi
  obtain ⟨r, t', w', e1, e2, e3, z, ok⟩ := v
  simp only at hr hg
  refine Tot.bind hi (fun y1 h1 => ?_)
  rw [h1]
  refine Tot.bind hs (fun y2 h2 => ?_)
  rw [h2]
  have hd : ∃ a, spec_DrawNewClient.f l = some a := by
    obtain ⟨a, ha, _⟩ := pick_tot l hl 0 0 7 (by omega) (by omega)
    exact ⟨wrap64 (a.1 - 1), by simp only [spec_DrawNewClient.f, ha, Option.bind_some]⟩
  obtain ⟨a, ha⟩ := hd
  obtain ⟨b, o, n1, n2⟩ := newClient a
  rw [ha]
  simp only [Option.bind_some, n1, n2]
  refine Tot.pos (by simp) (Tot.bind (sameClient_tot r (by omega) t' w') (fun y3 h3 => Tot.pos h3 (Tot.pos (by simp) (Tot.pos trivial (Tot.pos (by simp) ?_)))))
  refine Tot.bind (sameClient_tot [] (by simp) 0 b) (fun y4 h4 => Tot.pos h4 (Tot.ite (fun h => ?_) (fun _ => Tot.some_ rfl)))
  refine Tot.bind (implGood_tot r (by omega) t' w') (fun y5 h5 => Tot.some_ ?_)
  rw [h5]
  exact hg h
theorem firstAt_spec (s : ByteArray) : ∀ (l : List ByteArray) (i j : Nat), firstAt s l i = some j → ∃ m, j = i + m ∧ m < l.length ∧ (hd8 (l.drop m)).toList = s.toList ∧ ∀ m', m' < m → (hd8 (l.drop m')).toList ≠ s.toList
  | [], _, _, h => by simp [firstAt] at h
  | x :: l, i, j, h => by
    unfold firstAt at h
    split at h
    · rename_i he
      injection h with h
      exact ⟨0, by omega, by simp, he, fun m' hm => by omega⟩
    · rename_i he
      obtain ⟨m, e, hm, h1, h2⟩ := firstAt_spec s l (i + 1) j h
      refine ⟨m + 1, by omega, by simp; omega, h1, fun m' hm' => ?_⟩
      cases m' with
      | zero => exact he
      | succ m' => exact h2 m' (by omega)
theorem loop_tot (l : List Int) (hl : Bytes l) (q : List ByteArray) (t w : Int) (hg : GoodC q t w) (s : ByteArray) (m : Nat) (hm : m < q.length) (h1 : (hd8 (q.drop m)).toList = s.toList) (h2 : ∀ m', m' < m → (hd8 (q.drop m')).toList ≠ s.toList) (ht : t + (m : Int) + 1 ≤ 1000) :
    ∀ (d i : Nat) (z : ByteArray), m + 1 - i = d → i ≤ m + 1 → (i = m + 1 → z.toList = s.toList) → Tot (fun k => laws_FnQueue.l0 k l s ((m : Int) + 1) z (i : Int) (q.drop i) (t + (i : Int)) w) (fun y => y = true) := by
  intro d
  have hq5 := hg.1.1
  induction d with
  | zero =>
    intro i z hd hi hz
    refine Tot.up ?_
    simp only [laws_FnQueue.l0]
    exact Tot.neg (by omega) (Tot.pos (hz (by omega)) (j2_tot l hl))
  | succ d ih =>
    intro i z hd hi hz
    have hgi : GoodC (q.drop i) (t + (i : Int)) w := ⟨⟨by rw [List.length_drop]; omega, fun x hx => hg.1.2 x (List.mem_of_mem_drop hx)⟩, ⟨by have := hg.2.1.1; omega, by omega⟩, hg.2.2⟩
    have ho : stepO (q.drop i) (t + (i : Int)) w 2 ⟨#[]⟩ = some (q.drop (i + 1), t + (i : Int) + 1, t + (i : Int), Int.tmod (t + (i : Int)) w, 24, hd8 (q.drop i)) := by
      unfold stepO
      rw [if_neg (by omega), if_pos ⟨rfl, by first | decide | (unfold ByteArray.toList; unfold ByteArray.toList.loop; rfl) | simp [ByteArray.toList, ByteArray.toList.loop], by omega⟩, List.drop_drop]
    have hs := implStep_tot (q.drop i) (t + (i : Int)) w hgi 2 ⟨#[]⟩
    rw [ho] at hs
    have e0 : t + (i : Int) + 1 = t + ((i + 1 : Nat) : Int) := by omega
    refine Tot.up ?_
    simp only [laws_FnQueue.l0]
    have hw := hg.2.2
    have h0 := hg.2.1
    rw [w64 (n := t + (i : Int) + 1) (by omega) (by omega), w64 (n := (i : Int) + 1) (by omega) (by omega), w64 (n := (m : Int) + 1 - 1) (by omega) (by omega)]
    refine Tot.pos (by omega) (Tot.bind hs (fun y e => ?_))
    rw [e]
    simp only [outI]
    refine Tot.pos trivial (Tot.neg (by omega) (Tot.pos trivial (Tot.pos trivial ?_)))
    rw [e0]
    refine Tot.ite (fun h => Tot.neg (h2 i (by omega)) ?_) (fun h => ?_)
    · exact ih (i + 1) _ (by omega) (by omega) (fun h3 => by omega)
    · refine ih (i + 1) _ (by omega) (by omega) (fun h3 => ?_)
      rw [show i = m by omega]
      exact h1
theorem FnQueue : laws_FnQueue.Pure := by
  intro l0 l1 ha0 hb0 hw0 ha1 hb1 hw1
  refine Tot.ex ?_
  simp only [laws_FnQueue.f]
  have hmx : maxLen = 9223372036854775807 := rfl
  refine Tot.ite (fun _ => Tot.some_ rfl) (fun hs => ?_)
  rw [w64 (by omega) (by omega)] at hs
  have H0 : Bytes l0 := bytes_of (by omega) hw0
  have H1 : Bytes l1 := bytes_of (by omega) hw1
  refine Tot.bind (drawWait_tot l0 H0) (fun y hy => ?_)
  obtain ⟨q, t, w, s⟩ := y
  simp only at hy
  have hl : q.length ≤ 1048576 := by omega
  have hsW : Tot (fun k => spec_WaitFor.f k q t w s) (fun y => y = waitV q t w s) := by
    simp only [spec_WaitFor.f]
    refine Tot.bind (specGood_tot q hl t w) (fun y e => ?_)
    rw [e]
    refine Tot.ite (fun h => ?_) (fun h => Tot.some_ ?_)
    · unfold waitV
      rw [if_pos h]
      exact specWait_tot q hl s q.length 0 (by omega) (by omega)
    · unfold waitV
      rw [if_neg h]
  have hiW : Tot (fun k => impl_WaitFor.f k q t w s) (fun y => y = waitV q t w s) := by
    simp only [impl_WaitFor.f, slices_Index_string_string.f]
    have h3 := index_tot q hl s q.length 0 (by omega) (by omega)
    rw [List.drop_zero] at h3
    refine Tot.bind h3 (fun z ez => ?_)
    refine Tot.bind (implGood_tot q hl t w) (fun y e => ?_)
    rw [e]
    unfold waitV
    refine Tot.ite (fun h => ?_) (fun h => Tot.some_ ?_)
    · rw [if_pos h]
      cases hf : firstAt s q 0 with
      | none =>
        rw [hf] at ez
        exact Tot.pos (by rw [ez]; simp) (Tot.some_ rfl)
      | some i =>
        have hlt := firstAt_lt s q 0 i hf
        rw [hf] at ez
        simp only at ez
        refine Tot.neg (by omega) (Tot.some_ ?_)
        rw [ez, w64 (by omega) (by omega)]
    · rw [if_neg h]
  have hj0 : ∀ n : Int, Tot (fun k => laws_FnQueue.j0 k l1 s n false q t w) (fun y => y = true) := fun n => by
    refine Tot.up ?_
    simp only [laws_FnQueue.j0]
    exact Tot.neg (by simp) (j2_tot l1 H1)
  refine Tot.bind hiW (fun y1 e1 => ?_)
  rw [e1]
  refine Tot.bind hsW (fun y2 e2 => ?_)
  rw [e2]
  refine Tot.neg (by simp) (Tot.pos rfl ?_)
  refine Tot.bind (implGood_tot q hl t w) (fun y3 e3 => ?_)
  refine Tot.bind (specGood_tot q hl t w) (fun y4 e4 => ?_)
  rw [e3, e4]
  refine Tot.neg (by simp) (Tot.ite (fun hok => ?_) (fun _ => hj0 _))
  by_cases hg : goodC q t w = true
  · have hG : GoodC q t w := by
      unfold GoodC
      unfold goodC at hg
      exact of_decide_eq_true hg
    unfold waitV at hok ⊢
    rw [if_pos hg] at hok ⊢
    cases hf : firstAt s q 0 with
    | none => rw [hf] at hok; simp at hok
    | some j =>
      simp only
      obtain ⟨m, e, hm, h1, h2⟩ := firstAt_spec s q 0 j hf
      obtain rfl : j = m := by omega
      have hq5 := hG.1.1
      have ht := hG.2.1
      rw [w64 (by omega) (by omega)]
      by_cases hc : t + ((j : Int) + 1) ≤ 1000
      · rw [decide_eq_true hc]
        refine Tot.up ?_
        simp only [laws_FnQueue.j0]
        refine Tot.pos trivial ?_
        have h := loop_tot l1 H1 q t w hG s j hm h1 h2 (by omega) (j + 1) 0 ⟨#[]⟩ (by omega) (by omega) (fun h => by omega)
        rw [List.drop_zero, show t + ((0 : Nat) : Int) = t by omega] at h
        exact h
      · rw [decide_eq_false hc]
        exact hj0 _
  · exfalso
    unfold waitV at hok
    rw [if_neg hg] at hok
    simp at hok
end Go.Proofs.Ytodhogegjkfemaa.Pure
