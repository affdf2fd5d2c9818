/- Proved: what goes out, when and where, is the same whatever is said, for all bytes that the steps are drawn from. Conditions: those of the given statement alone. -/
import Derived.Test.YtdiehchbbhlfgaaPFnCoverx10
import Derived.Test.YtdiehchbbhlfgaaBase
set_option linter.unusedVariables false
set_option linter.unusedSimpArgs false
namespace Go.Proofs.Ytdiehchbbhlfgaa.Pure
open Go.RowKit Go.Proofs.Ytdiehchbbhlfgaa.PFnCover Go.Proofs.Ytdiehchbbhlfgaa.Base Go.Proofs.YtdiehchbbhlfgaaW.PrintWords Go.Proofs.YtdiehchbbhlfgaaW.PrintLast Go.Proofs.YtdiehchbbhlfgaaW.PrintMore Go.Proofs.Ytdiehchbbhlfgaa
def Bytes (l : List Int) : Prop := l.length ≤ 1048576 ∧ ∀ x ∈ l, 0 ≤ x ∧ x ≤ 255
theorem and255 (E : Int) : 0 ≤ Go.bits .and .u64 E 255 ∧ Go.bits .and .u64 E 255 ≤ 255 := by
  have h : Go.bits .and .u64 E 255 = IntKind.u64.wrap (((BitVec.ofInt 64 E) &&& (BitVec.ofInt 64 255)).toNat : Int) := rfl
  have h2 : ((BitVec.ofInt 64 E) &&& (BitVec.ofInt 64 255)).toNat ≤ 255 := by
    rw [BitVec.toNat_and]
    exact Nat.and_le_right
  have h3 : IntKind.u64.wrap (((BitVec.ofInt 64 E) &&& (BitVec.ofInt 64 255)).toNat : Int) = (((BitVec.ofInt 64 E) &&& (BitVec.ofInt 64 255)).toNat : Int) := by
    show (_ : Int) % 2 ^ 64 = _
    omega
  rw [h, h3]
  omega
def CurOk (p' p : Int) : Prop := p ≤ p' ∧ p' ≤ p + 2
theorem next_tot (l : List Int) (hl : Bytes l) (p h : Int) (hp : 0 ≤ p ∧ p ≤ 1099511627776) : ∃ y, spec_l1Cur_next.f l p h = some y ∧ (0 ≤ y.1 ∧ y.1 ≤ 255 ∧ y.2.1 = p + 1) := by
  have hl1 := hl.1
  unfold spec_l1Cur_next.f
  rw [w64 (n := p + 1) (by omega) (by omega)]
  by_cases h1 : p < (l.length : Int)
  · obtain ⟨i, rfl⟩ := Int.eq_ofNat_of_zero_le hp.1
    have h2 := hl.2 _ (rd_mem l i (by omega))
    rw [if_pos h1, if_pos hp.1, if_pos (by omega)]
    refine ⟨_, rfl, ?_⟩
    simp only
    rw [w64 (by omega) (by omega)]
    exact ⟨h2.1, h2.2, trivial⟩
  · rw [if_neg h1, if_neg (by omega)]
    refine ⟨_, rfl, ?_⟩
    have h3 := and255 ((IntKind.u64.wrap ((IntKind.u64.wrap ((IntKind.u64.wrap (h * 6364136223846793005)) + 0)) + 1442695040888963407)) / 1099511627776)
    simp only
    rw [w64 (by omega) (by omega)]
    exact ⟨h3.1, h3.2, trivial⟩
theorem pick_tot (l : List Int) (hl : Bytes l) (p h a : Int) (hp : 0 ≤ p ∧ p ≤ 549755813888) (ha : a ≤ 1048576) : ∃ y, spec_l1Cur_pick.f l p h a = some y ∧ (0 ≤ y.1 ∧ (y.1 < a ∨ y.1 = 0) ∧ p ≤ y.2.1 ∧ y.2.1 ≤ p + 2) := by
  unfold spec_l1Cur_pick.f
  by_cases h1 : a ≤ 1
  · rw [if_pos h1]
    exact ⟨_, rfl, by simp only; omega, .inr rfl, by simp only; omega, by simp only; omega⟩
  · rw [if_neg h1]
    obtain ⟨⟨b, p1, h'⟩, e1, hb0, hb1, hp1⟩ := next_tot l hl p h (by omega)
    simp only at hb0 hb1 hp1
    rw [e1]
    simp only [Option.bind_some]
    by_cases h2 : a > 200
    · obtain ⟨⟨c, p2, h''⟩, e2, hc0, hc1, hp2⟩ := next_tot l hl p1 h' (by omega)
      simp only at hc0 hc1 hp2
      rw [if_pos h2, e2]
      simp only [Option.bind_some]
      rw [if_neg (by omega), w64 (n := b * 256) (by omega) (by omega), w64 (by omega) (by omega), Int.tmod_eq_emod_of_nonneg (by omega)]
      have h3 := Int.emod_nonneg (b * 256 + c) (show a ≠ 0 by omega)
      have h4 := Int.emod_lt_of_pos (b * 256 + c) (show 0 < a by omega)
      exact ⟨_, rfl, h3, .inl h4, by simp only; omega, by simp only; omega⟩
    · rw [if_neg h2, if_neg (by omega), Int.tmod_eq_emod_of_nonneg (by omega)]
      have h3 := Int.emod_nonneg b (show a ≠ 0 by omega)
      have h4 := Int.emod_lt_of_pos b (show 0 < a by omega)
      exact ⟨_, rfl, h3, .inl h4, by simp only; omega, by simp only; omega⟩
theorem bytes_of {l : List Int} (h : l.length ≤ 1048576) (hw : ∀ x ∈ l, (Lit.int .u8 x).wf = true) : Bytes l := by
  refine ⟨h, fun x hx => ?_⟩
  have h2 := hw x hx
  simp only [Lit.wf, Bool.and_eq_true, decide_eq_true_iff] at h2
  exact h2
theorem one_tot (l : List Int) (hl : Bytes l) (p h a : Int) (hp : 0 ≤ p ∧ p ≤ 549755813888) (ha : a ≤ 1048576) : ∃ y, spec_l1Cur_one.f l p h a = some y ∧ (p ≤ y.2.1 ∧ y.2.1 ≤ p + 2) := by
  unfold spec_l1Cur_one.f
  obtain ⟨⟨b, p1, h'⟩, e1, hb0, hb1, hp0, hp1⟩ := pick_tot l hl p h a hp ha
  simp only at hp0 hp1
  rw [e1]
  exact ⟨_, rfl, hp0, hp1⟩
theorem of_tot (l : List Int) (hl : Bytes l) (p h : Int) (m : List ByteArray) (hp : 0 ≤ p ∧ p ≤ 549755813888) (hm : 0 < m.length) (hm2 : m.length ≤ 1048576) : ∃ y, spec_l1Cur_of.f l p h m = some y ∧ (y.1 ∈ m ∧ p ≤ y.2.1 ∧ y.2.1 ≤ p + 2) := by
  unfold spec_l1Cur_of.f
  obtain ⟨⟨b, p1, h'⟩, e1, hb0, hb1, hp0, hp1⟩ := pick_tot l hl p h (m.length : Int) hp (by omega)
  simp only at hb0 hb1 hp0 hp1
  rw [e1]
  simp only [Option.bind_some]
  obtain ⟨i, rfl⟩ := Int.eq_ofNat_of_zero_le hb0
  rw [if_pos hb0, if_pos (by omega)]
  have hi : i < m.length := by omega
  refine ⟨_, rfl, ?_, by simp only; omega, by simp only; omega⟩
  show rdOf ByteArray.empty m (i : Int) ∈ m
  unfold rdOf
  rw [Int.toNat_natCast, List.getD_eq_getElem?_getD, List.getElem?_eq_getElem hi]
  exact List.getElem_mem hi
theorem among_tot (l : List Int) (hl : Bytes l) (p h : Int) (m : List Int) (hp : 0 ≤ p ∧ p ≤ 549755813888) (hm : 0 < m.length) (hm2 : m.length ≤ 1048576) : ∃ y, spec_l1Cur_among.f l p h m = some y ∧ (y.1 ∈ m ∧ p ≤ y.2.1 ∧ y.2.1 ≤ p + 2) := by
  unfold spec_l1Cur_among.f
  obtain ⟨⟨b, p1, h'⟩, e1, hb0, hb1, hp0, hp1⟩ := pick_tot l hl p h (m.length : Int) hp (by omega)
  simp only at hb0 hb1 hp0 hp1
  rw [e1]
  simp only [Option.bind_some]
  obtain ⟨i, rfl⟩ := Int.eq_ofNat_of_zero_le hb0
  rw [if_pos hb0, if_pos (by omega)]
  exact ⟨_, rfl, rd_mem m i (by omega), by simp only; omega, by simp only; omega⟩
theorem l1In_eq (a b c : Int) : spec_l1In.f a b c = some (decide (b ≤ a ∧ a ≤ c)) := by
  unfold spec_l1In.f
  by_cases h : a ≥ b
  · rw [if_pos h]
    congr 1
    exact decide_eq_decide.2 ⟨fun h1 => ⟨h, h1⟩, fun h1 => h1.2⟩
  · rw [if_neg h, decide_eq_false (fun h1 => h h1.1)]
theorem within_eq (a b c : Int) : impl_within.f a b c = some (decide (b ≤ a ∧ a ≤ c)) := by
  unfold impl_within.f
  by_cases h : a ≥ b
  · rw [if_pos h]
    congr 1
    exact decide_eq_decide.2 ⟨fun h1 => ⟨h, h1⟩, fun h1 => h1.2⟩
  · rw [if_neg h, decide_eq_false (fun h1 => h h1.1)]
theorem trace_l0 (a : Int) (ha : 1 ≤ a ∧ a ≤ 4) (n : Nat) (hn : n ≤ 80) : ∀ (d k i : Nat) (out : List S57), n - i = d → d < k → i ≤ n → out.length = i →
    ∃ r : List S57, r.length = n ∧ spec_TraceOf.l0 k a (n : Int) out (i : Int) = some (r, true) ∧ impl_TraceOf.l0 k a out (n : Int) (i : Int) = some (r, true) := by
  intro d
  induction d with
  | zero =>
    intro k i out hd hk hi ho
    obtain ⟨k, rfl⟩ := rounds hk
    refine ⟨out, by omega, ?_, ?_⟩
    · simp only [spec_TraceOf.l0]
      rw [if_neg (by omega)]
    · simp only [impl_TraceOf.l0]
      rw [if_neg (by omega)]
  | succ d ih =>
    intro k i out hd hk hi ho
    obtain ⟨k, rfl⟩ := rounds hk
    obtain ⟨r, h0, h1, h2⟩ := ih k (i + 1) (out ++ [⟨(i : Int), Int.tmod (i : Int) a, 24⟩]) (by omega) (by omega) (by omega) (by simp; omega)
    refine ⟨r, h0, ?_, ?_⟩
    · simp only [spec_TraceOf.l0, spec_l10Emit.f]
      rw [if_pos (by omega), if_neg (by omega)]
      simp only [Option.bind_some]
      rw [if_pos (by omega), w64 (by omega) (by omega)]
      exact h1
    · simp only [impl_TraceOf.l0, impl_emit.f]
      rw [if_pos (by omega), if_neg (by omega)]
      simp only [Option.bind_some]
      rw [if_pos (by omega), w64 (by omega) (by omega)]
      exact h2
theorem trace_same (a n : Int) (k : Nat) (hk : 90 < k) : ∃ (r : List S57) (b : Bool), r.length ≤ 80 ∧ spec_TraceOf.f k a n = some (r, b) ∧ impl_TraceOf.f k a n = some (r, b) := by
  obtain ⟨k, rfl⟩ := rounds hk
  unfold spec_TraceOf.f impl_TraceOf.f impl_areWays.f
  simp only [l1In_eq, within_eq, Option.bind_some, spec_TraceOf.j0, impl_TraceOf.j0]
  by_cases ha : 1 ≤ a ∧ a ≤ 4
  · rw [decide_eq_true ha, if_pos rfl, if_pos rfl]
    by_cases hn : 0 ≤ n ∧ n ≤ 80
    · rw [decide_eq_true hn]
      obtain ⟨m, rfl⟩ := Int.eq_ofNat_of_zero_le hn.1
      obtain ⟨r, h0, h1, h2⟩ := trace_l0 a ha m (by omega) m k 0 [] (by omega) (by omega) (by omega) rfl
      exact ⟨r, true, by omega, h1, h2⟩
    · rw [decide_eq_false hn]
      exact ⟨[], false, by simp, rfl, rfl⟩
  · rw [decide_eq_false ha]
    exact ⟨[], false, by simp, rfl, rfl⟩
theorem rd60 (l : List S60) (i : Nat) (h : i < l.length) : rd_T60 l (i : Int) = l[i] := by
  unfold rd_T60
  rw [Int.toNat_natCast]
  exact getDin l _ i h
theorem rdStr (l : List ByteArray) (i : Nat) (h : i < l.length) : rdOf ByteArray.empty l (i : Int) = l[i] := by
  unfold rdOf
  rw [Int.toNat_natCast]
  exact getDin l _ i h
def goodC (l : List ByteArray) (a b : Int) : Bool := decide ((l.length ≤ 5 ∧ ∀ x ∈ l, x.size ≤ 15) ∧ (0 ≤ a ∧ a ≤ 1000) ∧ (1 ≤ b ∧ b ≤ 4))
theorem implGood_tot (l : List ByteArray) (hl : l.length ≤ 1048576) (a b : Int) : Tot (fun k => impl_GoodClient.f k l a b) (fun y => y = goodC l a b) := by
  have key : ∀ (d i : Nat), l.length - i = d → i ≤ l.length → Tot (fun k => slices_IndexFunc_string_string.l0 k l (l.length : Int) (i : Int)) (fun y => y ≥ 0 ↔ ¬ ∀ x ∈ l.drop i, x.size ≤ 15) := by
    intro d
    induction d with
    | zero =>
      intro i hd hi
      refine Tot.up ?_
      simp only [slices_IndexFunc_string_string.l0]
      refine Tot.neg (by omega) (Tot.some_ ?_)
      rw [List.drop_of_length_le (by omega)]
      simp
    | succ d ih =>
      intro i hd hi
      have hlt : i < l.length := by omega
      refine Tot.up ?_
      simp only [slices_IndexFunc_string_string.l0, impl_GoodClient_1.f, impl_isSaid.f, Option.bind_some]
      refine Tot.pos (by omega) (Tot.pos (by omega) (Tot.pos (by omega) ?_))
      rw [rdStr l i hlt, w64 (n := (i : Int) + 1) (by omega) (by omega), List.drop_eq_getElem_cons hlt]
      refine Tot.ite (fun h => Tot.some_ ?_) (fun h => (ih (i + 1) (by omega) (by omega)).imp (fun y hy => ?_))
      · rw [Bool.not_eq_true', decide_eq_false_iff_not] at h
        simp only [List.mem_cons, forall_eq_or_imp]
        exact ⟨fun _ h3 => h (by have := h3.1; omega), fun _ => by omega⟩
      · rw [Bool.not_eq_true', decide_eq_false_iff_not] at h
        rw [hy]
        simp only [List.mem_cons, forall_eq_or_imp]
        exact not_congr ⟨fun h3 => ⟨by omega, h3⟩, fun h3 => h3.2⟩
  have h0 := key l.length 0 (by omega) (by omega)
  simp only [impl_GoodClient.f, slices_ContainsFunc_string_string.f, slices_IndexFunc_string_string.f, impl_areWays.f, within_eq, Option.bind_some]
  refine Tot.ite (fun h => ?_) (fun h => Tot.some_ ((decide_eq_false (fun h3 => h (by have := h3.1.1; omega))).symm))
  refine Tot.bind (Tot.bind (R := fun y => y = true ↔ ¬ ∀ x ∈ l, x.size ≤ 15) h0 (fun y hy => Tot.some_ ?_)) (fun y hy => ?_)
  · rw [decide_eq_true_iff, hy, List.drop_zero]
  · refine Tot.ite (fun h2 => Tot.some_ ?_) (fun h2 => ?_)
    · exact (decide_eq_false (fun h3 => (hy.1 h2) h3.1.2)).symm
    · have hall : ∀ x ∈ l, x.size ≤ 15 := Classical.byContradiction fun h3 => h2 (hy.2 h3)
      refine Tot.ite (fun h4 => Tot.some_ ?_) (fun h4 => Tot.some_ ?_)
      · rw [decide_eq_true_iff] at h4
        exact decide_eq_decide.2 ⟨fun h3 => ⟨⟨by omega, hall⟩, h4, h3⟩, fun h3 => h3.2.2⟩
      · rw [decide_eq_true_iff] at h4
        exact (decide_eq_false (fun h3 => h4 h3.2.1)).symm
def hd8 : List ByteArray → ByteArray
  | [] => ⟨#[]⟩
  | x :: _ => x
def stepO (q : List ByteArray) (t w k : Int) (x : ByteArray) : Option (List ByteArray × Int × Int × Int × Int × ByteArray) :=
  if k = 1 ∧ x.size ≤ 15 ∧ q.length < 5 then some (q ++ [x], t, 0, 0, 0, ⟨#[]⟩)
  else if k = 2 ∧ x.toList = [] ∧ t < 1000 then some (q.drop 1, t + 1, t, Int.tmod t w, 24, hd8 q)
  else none
def GoodC (q : List ByteArray) (t w : Int) : Prop := (q.length ≤ 5 ∧ ∀ x ∈ q, x.size ≤ 15) ∧ (0 ≤ t ∧ t ≤ 1000) ∧ (1 ≤ w ∧ w ≤ 4)
def outS (q : List ByteArray) (t w : Int) (o : Option (List ByteArray × Int × Int × Int × Int × ByteArray)) : List ByteArray × Int × Int × Int × Int × Int × ByteArray × Bool := match o with
  | some (q', t', a, b, c, x) => (q', t', w, a, b, c, x, true)
  | none => (q, t, w, 0, 0, 0, ⟨#[]⟩, false)
def outI (w : Int) (o : Option (List ByteArray × Int × Int × Int × Int × ByteArray)) : List ByteArray × Int × Int × Int × Int × Int × ByteArray × Bool := match o with
  | some (q', t', a, b, c, x) => (q', t', w, a, b, c, x, true)
  | none => ([], 0, 0, 0, 0, 0, ⟨#[]⟩, false)
theorem rd0 (q : List ByteArray) (h : 0 < q.length) : rdOf ByteArray.empty q 0 = hd8 q := by
  cases q with
  | nil => simp at h
  | cons x q => rfl
theorem specStep_tot (q : List ByteArray) (t w : Int) (hg : GoodC q t w) (k : Int) (x : ByteArray) : Tot (fun n => spec_l10Step.f n q t w k x) (fun y => y = outS q t w (stepO q t w k x)) := by
  obtain ⟨⟨h1, h2⟩, h3, h4⟩ := hg
  have j1f : Tot (fun n => spec_l10Step.j1 n false q t w) (fun y => y = (q, t, w, 0, 0, 0, ⟨#[]⟩, false)) := by
    refine Tot.up ?_
    simp only [spec_l10Step.j1]
    exact Tot.neg (by simp) (Tot.some_ rfl)
  have e1 : wrap64 (t + 1 - 1) = t := by rw [w64 (by omega) (by omega)]; omega
  have e2 : wrap64 (t + 1) = t + 1 := w64 (by omega) (by omega)
  have j1t : Tot (fun n => spec_l10Step.j1 n true q t w) (fun y => y = (q.drop 1, t + 1, w, t, Int.tmod t w, 24, hd8 q, true)) := by
    refine Tot.up ?_
    simp only [spec_l10Step.j1, e2, e1, spec_l10Emit.f]
    refine Tot.pos trivial (Tot.ite (fun hq => ?_) (fun hq => ?_))
    · refine Tot.pos (by omega) (Tot.bind (Tot.some_ rfl) (fun y hy => Tot.pos (by omega) (Tot.bind (Tot.some_ rfl) (fun z hz => ?_))))
      rw [← hy, ← hz]
      refine Tot.pos (by rw [List.length_drop]; simp only [List.length_nil]; omega) ?_
      refine Tot.bind (Q := fun u => u = (t, Int.tmod t w, 24)) (Tot.neg (by omega) (Tot.some_ rfl)) (fun u hu => Tot.some_ ?_)
      rw [hu, rd0 q (by omega), List.nil_append]
    · refine Tot.bind (Q := fun u => u = (t, Int.tmod t w, 24)) (Tot.neg (by omega) (Tot.some_ rfl)) (fun u hu => Tot.some_ ?_)
      have : q = [] := List.eq_nil_of_length_eq_zero (by omega)
      rw [hu, this]
      rfl
  have j0f : Tot (fun n => spec_l10Step.j0 n false q t w k x) (fun y => y = outS q t w (if k = 2 ∧ x.toList = [] ∧ t < 1000 then some (q.drop 1, t + 1, t, Int.tmod t w, 24, hd8 q) else none)) := by
    refine Tot.up ?_
    simp only [spec_l10Step.j0]
    refine Tot.neg (by simp) (Tot.ite (fun c1 => Tot.ite (fun c2 => ?_) (fun c2 => ?_)) (fun c1 => ?_))
    · by_cases c3 : t < 1000
      · rw [decide_eq_true c3, if_pos ⟨c1, c2, c3⟩]
        exact j1t
      · rw [decide_eq_false c3, if_neg (fun h => c3 h.2.2)]
        exact j1f
    · rw [if_neg (fun h => c2 h.2.1)]
      exact j1f
    · rw [if_neg (fun h => c1 h.1)]
      exact j1f
  have j0t : q.length < 5 → Tot (fun n => spec_l10Step.j0 n true q t w k x) (fun y => y = (q ++ [x], t, w, 0, 0, 0, ⟨#[]⟩, true)) := by
    intro hq
    refine Tot.up ?_
    simp only [spec_l10Step.j0]
    refine Tot.pos trivial (Tot.bind (Tot.some_ rfl) (fun y hy => ?_))
    rw [← hy]
    refine Tot.pos (by simp only [List.length_nil]; omega) (Tot.bind (Tot.some_ rfl) (fun z hz => Tot.bind (Tot.some_ rfl) (fun v hv => ?_)))
    rw [← hz, ← hv]
    exact Tot.pos (by simp only [List.nil_append, List.length_singleton]; omega) (Tot.some_ (by rw [List.nil_append]))
  simp only [spec_l10Step.f, spec_l10Text.f, stepO]
  refine Tot.ite (fun c1 => Tot.bind (Tot.some_ rfl) (fun b hb => ?_)) (fun c1 => ?_)
  · refine Tot.ite (fun c2 => ?_) (fun c2 => ?_)
    · have c2' : x.size ≤ 15 := by
        have := of_decide_eq_true (hb.symm ▸ c2 : decide ((x.size : Int) ≤ 15) = true)
        omega
      by_cases c3 : q.length < 5
      · rw [decide_eq_true (show (q.length : Int) < 5 by omega), if_pos ⟨c1, c2', c3⟩]
        exact j0t c3
      · rw [decide_eq_false (show ¬ (q.length : Int) < 5 by omega), if_neg (fun h => c3 h.2.2)]
        exact j0f
    · rw [if_neg (fun h => c2 (by rw [← hb]; exact decide_eq_true (show (x.size : Int) ≤ 15 by omega)))]
      exact j0f
  · rw [if_neg (fun h => c1 h.1)]
    exact j0f
theorem implStep_tot (q : List ByteArray) (t w : Int) (hg : GoodC q t w) (k : Int) (x : ByteArray) : Tot (fun n => impl_StepClient.f n q t w k x) (fun y => y = outI w (stepO q t w k x)) := by
  have hgb : goodC q t w = true := decide_eq_true hg
  obtain ⟨⟨h1, h2⟩, h3, h4⟩ := hg
  have e2 : wrap64 (t + 1) = t + 1 := w64 (by omega) (by omega)
  have j1f : Tot (fun n => impl_StepClient.j1 n false q t w) (fun y => y = ([], 0, 0, 0, 0, 0, ⟨#[]⟩, false)) := by
    refine Tot.up ?_
    simp only [impl_StepClient.j1]
    exact Tot.neg (by simp) (Tot.some_ rfl)
  have j1t : Tot (fun n => impl_StepClient.j1 n true q t w) (fun y => y = (q.drop 1, t + 1, w, t, Int.tmod t w, 24, hd8 q, true)) := by
    refine Tot.up ?_
    simp only [impl_StepClient.j1, e2, impl_emit.f]
    refine Tot.pos trivial (Tot.bind (Q := fun u => u = (t, Int.tmod t w, 24)) (Tot.neg (by omega) (Tot.some_ rfl)) (fun u hu => ?_))
    rw [hu]
    refine Tot.ite (fun hq => ?_) (fun hq => ?_)
    · refine Tot.pos (by omega) (Tot.pos (by omega) (Tot.some_ ?_))
      rw [rd0 q (by omega)]
      rfl
    · have : q = [] := List.eq_nil_of_length_eq_zero (by omega)
      rw [this]
      exact Tot.some_ rfl
  have j0f : Tot (fun n => impl_StepClient.j0 n false q t w k x) (fun y => y = outI w (if k = 2 ∧ x.toList = [] ∧ t < 1000 then some (q.drop 1, t + 1, t, Int.tmod t w, 24, hd8 q) else none)) := by
    refine Tot.up ?_
    simp only [impl_StepClient.j0]
    refine Tot.neg (by simp) (Tot.ite (fun c1 => Tot.ite (fun c2 => ?_) (fun c2 => ?_)) (fun c1 => ?_))
    · by_cases c3 : t < 1000
      · rw [decide_eq_true c3, if_pos ⟨c1, c2, c3⟩]
        exact j1t
      · rw [decide_eq_false c3, if_neg (fun h => c3 h.2.2)]
        exact j1f
    · rw [if_neg (fun h => c2 h.2.1)]
      exact j1f
    · rw [if_neg (fun h => c1 h.1)]
      exact j1f
  have j0t : q.length < 5 → Tot (fun n => impl_StepClient.j0 n true q t w k x) (fun y => y = (q ++ [x], t, w, 0, 0, 0, ⟨#[]⟩, true)) := by
    intro hq
    refine Tot.up ?_
    simp only [impl_StepClient.j0]
    exact Tot.pos trivial (Tot.pos (by omega) (Tot.some_ rfl))
  simp only [impl_StepClient.f, impl_isSaid.f, stepO, slices_Clone_string_string.f]
  refine Tot.bind (implGood_tot q (by omega) t w) (fun g eg => Tot.pos (eg.trans hgb) ?_)
  refine Tot.bind (Q := fun y => y = q) (Tot.pos (by omega) (Tot.some_ rfl)) (fun q' hq' => ?_)
  rw [hq']
  refine Tot.ite (fun c1 => Tot.bind (Tot.some_ rfl) (fun b hb => ?_)) (fun c1 => ?_)
  · refine Tot.ite (fun c2 => ?_) (fun c2 => ?_)
    · have c2' : x.size ≤ 15 := by
        have := of_decide_eq_true (hb.symm ▸ c2 : decide ((x.size : Int) < 16) = true)
        omega
      by_cases c3 : q.length < 5
      · rw [decide_eq_true (show (q.length : Int) < 5 by omega), if_pos ⟨c1, c2', c3⟩]
        exact j0t c3
      · rw [decide_eq_false (show ¬ (q.length : Int) < 5 by omega), if_neg (fun h => c3 h.2.2)]
        exact j0f
    · rw [if_neg (fun h => c2 (by rw [← hb]; exact decide_eq_true (show (x.size : Int) < 16 by omega)))]
      exact j0f
  · rw [if_neg (fun h => c1 h.1)]
    exact j0f
theorem step_good (q : List ByteArray) (t w : Int) (hg : GoodC q t w) (k : Int) (x : ByteArray) (q' : List ByteArray) (t' a b c : Int) (z : ByteArray) (h : stepO q t w k x = some (q', t', a, b, c, z)) : GoodC q' t' w := by
  obtain ⟨⟨h1, h2⟩, h3, h4⟩ := hg
  unfold stepO at h
  split at h
  · rename_i hc
    simp only [Option.some.injEq, Prod.mk.injEq] at h
    obtain ⟨rfl, rfl, _⟩ := h
    refine ⟨⟨by rw [List.length_append, List.length_singleton]; omega, fun y hy => ?_⟩, h3, h4⟩
    rcases List.mem_append.1 hy with hy | hy
    · exact h2 y hy
    · rw [List.mem_singleton.1 hy]
      exact hc.2.1
  · split at h
    · rename_i hc
      simp only [Option.some.injEq, Prod.mk.injEq] at h
      obtain ⟨rfl, rfl, _⟩ := h
      exact ⟨⟨by rw [List.length_drop]; omega, fun y hy => h2 y (List.mem_of_mem_drop hy)⟩, by omega, h4⟩
    · simp at h
def isTick (x : S60) : Bool := decide (x.f0 = 2) && decide (x.f1.toList = [])
def eraV (l : List S60) : List S60 × Bool := if l.length > 80 then ([], false) else (l.filter isTick, true)
theorem filter_snoc (l : List S60) (i : Nat) (h : i < l.length) : (l.take (i + 1)).filter isTick = (l.take i).filter isTick ++ (if isTick l[i] = true then [l[i]] else []) := by
  rw [List.take_succ_eq_append_getElem h, List.filter_append]
  by_cases e : isTick l[i] = true
  · simp [e]
  · simp [e]
theorem filter_short (l : List S60) (i : Nat) (h : i ≤ l.length) : ((l.take i).filter isTick).length ≤ i := by
  have h1 := List.length_filter_le isTick (l.take i)
  rw [List.length_take] at h1
  omega
theorem specErase_tot (l : List S60) : Tot (fun k => spec_EraseSays.f k l) (fun y => y = eraV l) := by
  simp only [spec_EraseSays.f]
  unfold eraV
  refine Tot.ite (fun h => Tot.some_ (by rw [if_pos (by omega)])) (fun h => ?_)
  rw [if_neg (by omega)]
  have key := fun k hk => loop_up (fun k (x : List S60 × Int) => spec_EraseSays.l0 k x.1 l (l.length : Int) x.2) l.length 0 (fun i => ((l.take i).filter isTick, (i : Int))) (l.filter isTick, true) (fun i k hi _ => by
    have hs := filter_short l i (by omega)
    simp only [spec_EraseSays.l0]
    rw [if_pos (by omega), if_pos (by omega), if_pos (by omega), rd60 l i hi, w64 (n := (i : Int) + 1) (by omega) (by omega), filter_snoc l i hi]
    by_cases h1 : l[i].f0 = 2
    · rw [if_pos h1]
      by_cases h2 : l[i].f1.toList = []
      · rw [if_pos h2, if_pos (by omega), if_pos (by simp [isTick, h1, h2])]
        rfl
      · rw [if_neg h2, if_neg (by simp [isTick, h2]), List.append_nil]
        rfl
    · rw [if_neg h1, if_neg (by simp [isTick, h1]), List.append_nil]
      rfl) (fun k _ => by
    simp only [spec_EraseSays.l0]
    rw [if_neg (by omega), List.take_length]) k hk
  exact Tot.at_ (l.length + 1) rfl (fun k hk => key k (by omega))
theorem implErase_tot (l : List S60) : Tot (fun k => impl_EraseSays.f k l) (fun y => y = eraV l) := by
  simp only [impl_EraseSays.f]
  unfold eraV
  refine Tot.ite (fun h => Tot.some_ (by rw [if_pos (by omega)])) (fun h => ?_)
  rw [if_neg (by omega)]
  have key := fun k hk => loop_up (fun k (x : List S60 × Int) => impl_EraseSays.l0 k x.1 l (l.length : Int) x.2) l.length 0 (fun i => ((l.take i).filter isTick, (i : Int))) (l.filter isTick, true) (fun i k hi _ => by
    have hs := filter_short l i (by omega)
    simp only [impl_EraseSays.l0]
    rw [if_pos (by omega), if_pos (by omega), if_pos (by omega), rd60 l i hi, w64 (n := (i : Int) + 1) (by omega) (by omega), filter_snoc l i hi]
    by_cases h1 : isTick l[i] = true
    · have h2 := h1
      simp only [isTick, Bool.and_eq_true, decide_eq_true_iff] at h2
      rw [if_pos (by rw [Bool.and_eq_true, beq_iff_eq, beq_iff_eq]; exact h2), if_pos (by omega), if_pos h1]
      rfl
    · have h2 := h1
      simp only [isTick, Bool.and_eq_true, decide_eq_true_iff] at h2
      rw [if_neg (by rw [Bool.and_eq_true, beq_iff_eq, beq_iff_eq]; exact h2), if_neg h1, List.append_nil]
      rfl) (fun k _ => by
    simp only [impl_EraseSays.l0]
    rw [if_neg (by omega), List.take_length]) k hk
  exact Tot.at_ (l.length + 1) rfl (fun k hk => key k (by omega))
def runM (w : Int) : List S60 → List ByteArray → Int → List S57 × List ByteArray × List Bool
  | [], _, _ => ([], [], [])
  | x :: l, q, t => match stepO q t w x.f0 x.f1 with
    | none => ((runM w l q t).1, (runM w l q t).2.1, false :: (runM w l q t).2.2)
    | some r => if x.f0 = 2 then (⟨r.2.2.1, r.2.2.2.1, r.2.2.2.2.1⟩ :: (runM w l r.1 r.2.1).1, r.2.2.2.2.2 :: (runM w l r.1 r.2.1).2.1, true :: (runM w l r.1 r.2.1).2.2) else ((runM w l r.1 r.2.1).1, (runM w l r.1 r.2.1).2.1, true :: (runM w l r.1 r.2.1).2.2)
theorem runM_none (w : Int) (x : S60) (l : List S60) (q : List ByteArray) (t : Int) (h : stepO q t w x.f0 x.f1 = none) : runM w (x :: l) q t = ((runM w l q t).1, (runM w l q t).2.1, false :: (runM w l q t).2.2) := by
  rw [runM, h]
theorem runM_tick (w : Int) (x : S60) (l : List S60) (q : List ByteArray) (t : Int) (q' : List ByteArray) (t' a b c : Int) (z : ByteArray) (h : stepO q t w x.f0 x.f1 = some (q', t', a, b, c, z)) (h2 : x.f0 = 2) : runM w (x :: l) q t = (⟨a, b, c⟩ :: (runM w l q' t').1, z :: (runM w l q' t').2.1, true :: (runM w l q' t').2.2) := by
  rw [runM, h]
  simp only
  rw [if_pos h2]
theorem runM_say (w : Int) (x : S60) (l : List S60) (q : List ByteArray) (t : Int) (q' : List ByteArray) (t' a b c : Int) (z : ByteArray) (h : stepO q t w x.f0 x.f1 = some (q', t', a, b, c, z)) (h2 : ¬ x.f0 = 2) : runM w (x :: l) q t = ((runM w l q' t').1, (runM w l q' t').2.1, true :: (runM w l q' t').2.2) := by
  rw [runM, h]
  simp only
  rw [if_neg h2]
theorem playM_l0 (l : List S60) (hl : l.length ≤ 80) : ∀ (d i : Nat) (em : List S57) (tx : List ByteArray) (did : List Bool) (q : List ByteArray) (t w : Int), l.length - i = d → i ≤ l.length → em.length ≤ i → tx.length ≤ i → did.length ≤ i → GoodC q t w →
    Tot (fun k => spec_PlayCover.l0 k em tx did l (l.length : Int) (i : Int) q t w) (fun z => z = (em ++ (runM w (l.drop i) q t).1, tx ++ (runM w (l.drop i) q t).2.1, did ++ (runM w (l.drop i) q t).2.2, true)) ∧ Tot (fun k => impl_PlayCover.l0 k em tx did l (l.length : Int) (i : Int) q t w) (fun z => z = (em ++ (runM w (l.drop i) q t).1, tx ++ (runM w (l.drop i) q t).2.1, did ++ (runM w (l.drop i) q t).2.2, true)) := by
  intro d
  induction d with
  | zero =>
    intro i em tx did q t w hd hi h1 h2 h3 hg
    have e : l.drop i = [] := List.drop_of_length_le (by omega)
    rw [e]
    refine ⟨?_, ?_⟩
    · refine Tot.up ?_
      simp only [spec_PlayCover.l0]
      exact Tot.neg (by omega) (Tot.some_ (by simp [runM]))
    · refine Tot.up ?_
      simp only [impl_PlayCover.l0]
      exact Tot.neg (by omega) (Tot.some_ (by simp [runM]))
  | succ d ih =>
    intro i em tx did q t w hd hi h1 h2 h3 hg
    have hlt : i < l.length := by omega
    have hs := specStep_tot q t w hg l[i].f0 l[i].f1
    have hi' := implStep_tot q t w hg l[i].f0 l[i].f1
    have ew := Aside0.mk (show wrap64 ((i : Int) + 1) = ((i + 1 : Nat) : Int) from by rw [w64 (by omega) (by omega)]; rfl)
    have ed : l.drop i = l[i] :: l.drop (i + 1) := List.drop_eq_getElem_cons hlt
    cases ho : stepO q t w l[i].f0 l[i].f1 with
    | none =>
      obtain ⟨ha, hb⟩ := ih (i + 1) em tx (did ++ [false]) q t w (by omega) (by omega) (by omega) (by omega) (by rw [List.length_append, List.length_singleton]; omega) hg
      rw [ho] at hs hi'
      rw [ed, runM_none w _ _ q t ho]
      rw [List.append_assoc, List.singleton_append] at ha hb
      refine ⟨?_, ?_⟩
      · refine Tot.up ?_
        simp only [spec_PlayCover.l0]
        refine Tot.pos (by omega) (Tot.pos (by omega) (Tot.pos (by omega) ?_))
        rw [rd60 l i hlt, ew.out]
        refine Tot.bind hs (fun u hu => ?_)
        rw [hu]
        exact Tot.neg (by simp [outS]) (Tot.pos (by omega) ha)
      · refine Tot.up ?_
        simp only [impl_PlayCover.l0]
        refine Tot.pos (by omega) (Tot.pos (by omega) (Tot.pos (by omega) ?_))
        rw [rd60 l i hlt, ew.out]
        refine Tot.bind hi' (fun u hu => ?_)
        rw [hu]
        refine Tot.pos (by omega) (Tot.bind (Tot.some_ rfl) (fun v hv => ?_))
        rw [← hv]
        exact Tot.neg (by simp [outI]) hb
    | some r =>
      obtain ⟨q', t', a, b, c, z⟩ := r
      have hg' := step_good q t w hg _ _ q' t' a b c z ho
      rw [ho] at hs hi'
      by_cases hk : l[i].f0 = 2
      · obtain ⟨ha, hb⟩ := ih (i + 1) (em ++ [⟨a, b, c⟩]) (tx ++ [z]) (did ++ [true]) q' t' w (by omega) (by omega) (by rw [List.length_append, List.length_singleton]; omega) (by rw [List.length_append, List.length_singleton]; omega) (by rw [List.length_append, List.length_singleton]; omega) hg'
        rw [ed, runM_tick w _ _ q t _ _ _ _ _ _ ho hk]
        rw [List.append_assoc, List.append_assoc, List.append_assoc, List.singleton_append, List.singleton_append, List.singleton_append] at ha hb
        refine ⟨?_, ?_⟩
        · refine Tot.up ?_
          simp only [spec_PlayCover.l0]
          refine Tot.pos (by omega) (Tot.pos (by omega) (Tot.pos (by omega) ?_))
          rw [rd60 l i hlt, ew.out]
          refine Tot.bind hs (fun u hu => ?_)
          rw [hu]
          exact Tot.pos (by simp [outS]) (Tot.pos hk (Tot.pos (by omega) (Tot.pos (by omega) (Tot.pos (by omega) ha))))
        · refine Tot.up ?_
          simp only [impl_PlayCover.l0]
          refine Tot.pos (by omega) (Tot.pos (by omega) (Tot.pos (by omega) ?_))
          rw [rd60 l i hlt, ew.out]
          refine Tot.bind hi' (fun u hu => ?_)
          rw [hu]
          refine Tot.pos (by omega) (Tot.bind (Tot.some_ rfl) (fun v hv => ?_))
          rw [← hv]
          exact Tot.pos (by simp [outI]) (Tot.pos hk (Tot.pos (by omega) (Tot.pos (by omega) hb)))
      · obtain ⟨ha, hb⟩ := ih (i + 1) em tx (did ++ [true]) q' t' w (by omega) (by omega) (by omega) (by omega) (by rw [List.length_append, List.length_singleton]; omega) hg'
        rw [ed, runM_say w _ _ q t _ _ _ _ _ _ ho hk]
        rw [List.append_assoc, List.singleton_append] at ha hb
        refine ⟨?_, ?_⟩
        · refine Tot.up ?_
          simp only [spec_PlayCover.l0]
          refine Tot.pos (by omega) (Tot.pos (by omega) (Tot.pos (by omega) ?_))
          rw [rd60 l i hlt, ew.out]
          refine Tot.bind hs (fun u hu => ?_)
          rw [hu]
          exact Tot.pos (by simp [outS]) (Tot.neg hk (Tot.pos (by omega) ha))
        · refine Tot.up ?_
          simp only [impl_PlayCover.l0]
          refine Tot.pos (by omega) (Tot.pos (by omega) (Tot.pos (by omega) ?_))
          rw [rd60 l i hlt, ew.out]
          refine Tot.bind hi' (fun u hu => ?_)
          rw [hu]
          refine Tot.pos (by omega) (Tot.bind (Tot.some_ rfl) (fun v hv => ?_))
          rw [← hv]
          exact Tot.pos (by simp [outI]) (Tot.neg hk hb)
def PlayOk (w : Int) (l : List S60) : Prop := (1 ≤ w ∧ w ≤ 4) ∧ l.length ≤ 80
theorem playM_ok (w : Int) (l : List S60) (h : PlayOk w l) : Tot (fun k => spec_PlayCover.f k w l) (fun z => z = ((runM w l [] 0).1, (runM w l [] 0).2.1, (runM w l [] 0).2.2, true)) ∧ Tot (fun k => impl_PlayCover.f k w l) (fun z => z = ((runM w l [] 0).1, (runM w l [] 0).2.1, (runM w l [] 0).2.2, true)) := by
  obtain ⟨hw, hl⟩ := h
  obtain ⟨ha, hb⟩ := playM_l0 l hl l.length 0 [] [] [] [] 0 w rfl (by omega) (by simp) (by simp) (by simp) ⟨⟨by simp, by simp⟩, by omega, hw⟩
  rw [List.drop_zero, List.nil_append, List.nil_append, List.nil_append] at ha hb
  refine ⟨?_, ?_⟩
  · simp only [spec_PlayCover.f, spec_NewClient.f, l1In_eq]
    refine Tot.bind (Q := fun u => u = ([], 0, w, true)) (Tot.bind (Tot.some_ rfl) (fun b hb' => Tot.pos (by rw [← hb']; exact decide_eq_true hw) (Tot.some_ rfl))) (fun u hu => ?_)
    rw [hu]
    refine Tot.pos rfl ?_
    rw [decide_eq_false (show ¬ (l.length : Int) > 80 by omega)]
    refine Tot.up ?_
    simp only [spec_PlayCover.j0]
    exact Tot.neg (by simp) ha
  · simp only [impl_PlayCover.f, impl_NewClient.f, impl_areWays.f, within_eq]
    refine Tot.bind (Q := fun u => u = ([], 0, w, true)) (Tot.bind (Tot.bind (Tot.some_ rfl) (fun b hb' => Tot.some_ hb')) (fun b hb' => Tot.pos (by rw [← hb']; exact decide_eq_true hw) (Tot.some_ rfl))) (fun u hu => ?_)
    rw [hu]
    refine Tot.pos rfl ?_
    rw [decide_eq_false (show ¬ (l.length : Int) > 80 by omega)]
    refine Tot.up ?_
    simp only [impl_PlayCover.j0]
    exact Tot.neg (by simp) hb
theorem playM_bad (w : Int) (l : List S60) (h : ¬ PlayOk w l) : Tot (fun k => spec_PlayCover.f k w l) (fun z => z = (([] : List S57), ([] : List ByteArray), ([] : List Bool), false)) ∧ Tot (fun k => impl_PlayCover.f k w l) (fun z => z = (([] : List S57), ([] : List ByteArray), ([] : List Bool), false)) := by
  by_cases hw : 1 ≤ w ∧ w ≤ 4
  · have hl : ¬ l.length ≤ 80 := fun h2 => h ⟨hw, h2⟩
    refine ⟨?_, ?_⟩
    · simp only [spec_PlayCover.f, spec_NewClient.f, l1In_eq]
      refine Tot.bind (Q := fun u => u = ([], 0, w, true)) (Tot.bind (Tot.some_ rfl) (fun b hb' => Tot.pos (by rw [← hb']; exact decide_eq_true hw) (Tot.some_ rfl))) (fun u hu => ?_)
      rw [hu]
      refine Tot.pos rfl ?_
      rw [decide_eq_true (show (l.length : Int) > 80 by omega)]
      refine Tot.up ?_
      simp only [spec_PlayCover.j0]
      exact Tot.pos trivial (Tot.some_ rfl)
    · simp only [impl_PlayCover.f, impl_NewClient.f, impl_areWays.f, within_eq]
      refine Tot.bind (Q := fun u => u = ([], 0, w, true)) (Tot.bind (Tot.bind (Tot.some_ rfl) (fun b hb' => Tot.some_ hb')) (fun b hb' => Tot.pos (by rw [← hb']; exact decide_eq_true hw) (Tot.some_ rfl))) (fun u hu => ?_)
      rw [hu]
      refine Tot.pos rfl ?_
      rw [decide_eq_true (show (l.length : Int) > 80 by omega)]
      refine Tot.up ?_
      simp only [impl_PlayCover.j0]
      exact Tot.pos trivial (Tot.some_ rfl)
  · refine ⟨?_, ?_⟩
    · simp only [spec_PlayCover.f, spec_NewClient.f, l1In_eq]
      refine Tot.bind (Q := fun u => u = ([], 0, 0, false)) (Tot.bind (Tot.some_ rfl) (fun b hb' => Tot.neg (by rw [← hb', decide_eq_false hw]; simp) (Tot.some_ rfl))) (fun u hu => ?_)
      rw [hu]
      refine Tot.neg (by simp) (Tot.up ?_)
      simp only [spec_PlayCover.j0]
      exact Tot.pos trivial (Tot.some_ rfl)
    · simp only [impl_PlayCover.f, impl_NewClient.f, impl_areWays.f, within_eq]
      refine Tot.bind (Q := fun u => u = ([], 0, 0, false)) (Tot.bind (Tot.bind (Tot.some_ rfl) (fun b hb' => Tot.some_ hb')) (fun b hb' => Tot.neg (by rw [← hb', decide_eq_false hw]; simp) (Tot.some_ rfl))) (fun u hu => ?_)
      rw [hu]
      refine Tot.neg (by simp) (Tot.up ?_)
      simp only [impl_PlayCover.j0]
      exact Tot.pos trivial (Tot.some_ rfl)
def emsR (w : Int) : Int → Nat → List S57
  | _, 0 => []
  | t, n + 1 => ⟨t, Int.tmod t w, 24⟩ :: emsR w (t + 1) n
theorem emsR_length (w : Int) : ∀ (n : Nat) (t : Int), (emsR w t n).length = n
  | 0, _ => rfl
  | n + 1, t => by simp [emsR, emsR_length w n (t + 1)]
theorem runM_ems (w : Int) : ∀ (l : List S60) (q : List ByteArray) (t : Int), t + (l.length : Int) ≤ 1000 → (runM w l q t).1 = emsR w t (l.filter isTick).length
  | [], _, _, _ => rfl
  | x :: l, q, t, h => by
    rw [List.length_cons] at h
    cases ho : stepO q t w x.f0 x.f1 with
    | none =>
      rw [runM_none w x l q t ho, runM_ems w l q t (by omega)]
      have : isTick x = false := by
        unfold stepO at ho
        split at ho
        · simp at ho
        · split at ho
          · simp at ho
          · rename_i h2
            by_cases h3 : x.f0 = 2
            · by_cases h4 : x.f1.toList = []
              · exact absurd ⟨h3, h4, by omega⟩ h2
              · simp [isTick, h4]
            · simp [isTick, h3]
      rw [List.filter_cons, this]
      rfl
    | some r =>
      obtain ⟨q', t', a, b, c, z⟩ := r
      have ho' := ho
      unfold stepO at ho'
      split at ho'
      · rename_i h2
        simp only [Option.some.injEq, Prod.mk.injEq] at ho'
        obtain ⟨rfl, rfl, _⟩ := ho'
        have h3 : ¬ x.f0 = 2 := by rw [h2.1]; omega
        rw [runM_say w x l q t _ _ _ _ _ _ ho h3, runM_ems w l _ t (by omega), List.filter_cons, show isTick x = false by simp [isTick, h3]]
        rfl
      · split at ho'
        · rename_i h2
          simp only [Option.some.injEq, Prod.mk.injEq] at ho'
          obtain ⟨rfl, rfl, rfl, rfl, rfl, rfl⟩ := ho'
          rw [runM_tick w x l q t _ _ _ _ _ _ ho h2.1, runM_ems w l _ (t + 1) (by omega), List.filter_cons, show isTick x = true by simp [isTick, h2.1, h2.2.1]]
          rfl
        · simp at ho'
theorem runM_texts (w : Int) : ∀ (l : List S60) (q : List ByteArray) (t : Int), (runM w l q t).2.1.length = (runM w l q t).1.length ∧ (runM w l q t).2.2.length = l.length
  | [], _, _ => ⟨rfl, rfl⟩
  | x :: l, q, t => by
    cases ho : stepO q t w x.f0 x.f1 with
    | none =>
      rw [runM_none w x l q t ho]
      exact ⟨(runM_texts w l q t).1, by simp [(runM_texts w l q t).2]⟩
    | some r =>
      obtain ⟨q', t', a, b, c, z⟩ := r
      by_cases h2 : x.f0 = 2
      · rw [runM_tick w x l q t _ _ _ _ _ _ ho h2]
        exact ⟨by simp [(runM_texts w l q' t').1], by simp [(runM_texts w l q' t').2]⟩
      · rw [runM_say w x l q t _ _ _ _ _ _ ho h2]
        exact ⟨(runM_texts w l q' t').1, by simp [(runM_texts w l q' t').2]⟩
def saidM : List S60 → List Bool → List ByteArray
  | x :: l, d :: ds => if d = true then (if x.f0 = 1 then x.f1 :: saidM l ds else saidM l ds) else saidM l ds
  | _, _ => []
theorem saidM_short : ∀ (l : List S60) (ds : List Bool), (saidM l ds).length ≤ l.length
  | [], ds => by simp [saidM]
  | x :: l, [] => by simp [saidM]
  | x :: l, d :: ds => by
    have := saidM_short l ds
    rw [saidM]
    split
    · split
      · simp only [List.length_cons]; omega
      · simp only [List.length_cons]; omega
    · simp only [List.length_cons]; omega
def fits : List ByteArray → List ByteArray → Prop
  | _, [] => True
  | [], s :: T => s.toList = [] ∧ fits [] T
  | y :: S, s :: T => (y.toList = s.toList ∧ fits S T) ∨ (¬ y.toList = s.toList ∧ s.toList = [] ∧ fits (y :: S) T)
def Mute (E : List ByteArray) : Prop := ∀ x ∈ E, x.toList = []
theorem fits_mute (G T : List ByteArray) (z : ByteArray) (hz : z.toList = []) (h : ∀ E' G', G = E' ++ G' → Mute E' → fits G' T) : fits G (z :: T) := by
  cases G with
  | nil => exact ⟨hz, h [] [] rfl (fun x hx => by simp at hx)⟩
  | cons g G =>
    by_cases e : g.toList = z.toList
    · exact .inl ⟨e, h [g] G rfl (fun x hx => by rw [List.mem_singleton.1 hx, e, hz])⟩
    · exact .inr ⟨e, hz, h [] (g :: G) rfl (fun x hx => by simp at hx)⟩
theorem mute_app {A B : List ByteArray} (ha : Mute A) (hb : Mute B) : Mute (A ++ B) := fun x hx => (List.mem_append.1 hx).elim (ha x) (hb x)
theorem runM_fits (w : Int) : ∀ (l : List S60) (q : List ByteArray) (t : Int) (E G : List ByteArray), t + (l.length : Int) ≤ 1000 → Mute E → q ++ saidM l (runM w l q t).2.2 = E ++ G → fits G (runM w l q t).2.1
  | [], _, _, _, G, _, _, _ => by cases G <;> trivial
  | x :: l, q, t, E, G, h, hE, hp => by
    rw [List.length_cons] at h
    cases ho : stepO q t w x.f0 x.f1 with
    | none =>
      rw [runM_none w x l q t ho] at hp ⊢
      exact runM_fits w l q t E G (by omega) hE (by simpa [saidM] using hp)
    | some r =>
      obtain ⟨q', t', a, b, c, z⟩ := r
      have ho' := ho
      unfold stepO at ho'
      split at ho'
      · rename_i h2
        simp only [Option.some.injEq, Prod.mk.injEq] at ho'
        obtain ⟨rfl, rfl, _⟩ := ho'
        have h3 : ¬ x.f0 = 2 := by rw [h2.1]; omega
        rw [runM_say w x l q t _ _ _ _ _ _ ho h3] at hp ⊢
        refine runM_fits w l _ t E G (by omega) hE ?_
        simp only [saidM, if_true, if_pos h2.1] at hp
        rw [List.append_assoc, List.singleton_append]
        exact hp
      · split at ho'
        · rename_i h2
          simp only [Option.some.injEq, Prod.mk.injEq] at ho'
          obtain ⟨rfl, rfl, rfl, rfl, rfl, rfl⟩ := ho'
          have h3 : ¬ x.f0 = 1 := by rw [h2.1]; omega
          rw [runM_tick w x l q t _ _ _ _ _ _ ho h2.1] at hp ⊢
          simp only [saidM, if_true, if_neg h3] at hp
          have hi := fun E' G' h4 h5 => runM_fits w l (q.drop 1) (t + 1) E' G' (by omega) h4 h5
          cases q with
          | nil =>
            refine fits_mute G _ _ (by first | rfl | decide | (rw [Lib.toList_data]; rfl) | (rw [Go.Proofs.Lib.toList_data]; rfl)) (fun E' G' e hm => hi (E ++ E') G' (mute_app hE hm) ?_)
            rw [List.append_assoc, ← e]
            exact hp
          | cons y q =>
            cases E with
            | nil =>
              simp only [List.nil_append, List.cons_append] at hp
              rw [← hp]
              exact .inl ⟨rfl, hi [] _ (fun x hx => by simp at hx) rfl⟩
            | cons e E =>
              simp only [List.cons_append, List.cons.injEq] at hp
              refine fits_mute G _ _ (by rw [show hd8 (y :: q) = y from rfl, hp.1]; exact hE e (List.mem_cons_self ..)) (fun E' G' e2 hm => hi (E ++ E') G' (mute_app (fun x hx => hE x (List.mem_cons_of_mem _ hx)) hm) ?_)
              rw [List.append_assoc, ← e2]
              exact hp.2
        · simp at ho'
set_option maxHeartbeats 1000000
theorem traceR_l0 (a : Int) (ha : 1 ≤ a ∧ a ≤ 4) (n : Nat) (hn : n ≤ 80) : ∀ (d k i : Nat) (out : List S57), n - i = d → d < k → i ≤ n → out.length = i → impl_TraceOf.l0 k a out (n : Int) (i : Int) = some (out ++ emsR a (i : Int) d, true) := by
  intro d
  induction d with
  | zero =>
    intro k i out hd hk hi ho
    obtain ⟨k, rfl⟩ := rounds hk
    simp only [impl_TraceOf.l0]
    rw [if_neg (by omega)]
    simp [emsR]
  | succ d ih =>
    intro k i out hd hk hi ho
    obtain ⟨k, rfl⟩ := rounds hk
    have h1 := ih k (i + 1) (out ++ [⟨(i : Int), Int.tmod (i : Int) a, 24⟩]) (by omega) (by omega) (by omega) (by simp; omega)
    simp only [impl_TraceOf.l0, impl_emit.f]
    rw [if_pos (by omega), if_neg (by omega)]
    simp only [Option.bind_some]
    rw [if_pos (by omega), w64 (by omega) (by omega)]
    rw [List.append_assoc, List.singleton_append] at h1
    exact h1
theorem traceR_tot (a : Int) (ha : 1 ≤ a ∧ a ≤ 4) (n : Nat) (hn : n ≤ 80) : Tot (fun k => impl_TraceOf.f k a (n : Int)) (fun y => y = (emsR a 0 n, true)) := by
  simp only [impl_TraceOf.f, impl_areWays.f, within_eq]
  refine Tot.bind (Tot.bind (Tot.some_ rfl) (fun b hb => Tot.some_ hb)) (fun b hb => Tot.pos (by rw [← hb]; exact decide_eq_true ha) (Tot.bind (Tot.some_ rfl) (fun c hc => ?_)))
  have hd : c = true := by rw [← hc]; exact decide_eq_true ⟨by omega, by omega⟩
  rw [hd]
  refine Tot.up ?_
  simp only [impl_TraceOf.j0]
  refine Tot.neg (by simp) (Tot.at_ (n + 1) rfl (fun k hk => ?_))
  have h := traceR_l0 a ha n hn n k 0 [] (by omega) (by omega) (by omega) rfl
  rw [List.nil_append] at h
  exact h
theorem trace_alike (a n : Int) : ∃ (r : List S57) (b : Bool), r.length ≤ 80 ∧ Tot (fun k => spec_TraceOf.f k a n) (fun y => y = (r, b)) ∧ Tot (fun k => impl_TraceOf.f k a n) (fun y => y = (r, b)) := by
  obtain ⟨r, b, hr, h1, h2⟩ := trace_same a n 91 (by omega)
  exact ⟨r, b, hr, Tot.stay (spec_TraceOf.mono a n) h1 rfl, Tot.stay (impl_TraceOf.mono a n) h2 rfl⟩
theorem sameTrace_tot (l : List S57) (hl : l.length ≤ 1048576) : Tot (fun k => laws_sameTrace.f k l l) (fun y => y = true) := by
  have h := fun k hk => loop_up (fun k (x : Int) => laws_sameTrace.l0 k l l (l.length : Int) x) l.length 0 (fun i => (i : Int)) true (fun i k hi _ => by
    simp only [laws_sameTrace.l0, beq_self_eq_true, Bool.not_true, Bool.or_false]
    rw [if_pos (by omega), if_pos (by omega), if_pos (by omega), if_pos (by omega), if_neg (by simp), w64 (by omega) (by omega)]
    rfl) (fun k _ => by
    simp only [laws_sameTrace.l0]
    rw [if_neg (by omega)]) k hk
  simp only [laws_sameTrace.f]
  exact Tot.pos trivial (Tot.at_ (l.length + 1) rfl (fun k hk => h k (by omega)))
theorem sameTexts_tot (l : List ByteArray) (hl : l.length ≤ 1048576) : Tot (fun k => laws_sameTexts.f k l l) (fun y => y = true) := by
  have h := fun k hk => loop_up (fun k (x : Int) => laws_sameTexts.l0 k l l (l.length : Int) x) l.length 0 (fun i => (i : Int)) true (fun i k hi _ => by
    simp only [laws_sameTexts.l0]
    rw [if_pos (by omega), if_pos (by omega), if_pos (by omega), if_pos (by omega), if_pos trivial, w64 (by omega) (by omega)]
    rfl) (fun k _ => by
    simp only [laws_sameTexts.l0]
    rw [if_neg (by omega)]) k hk
  simp only [laws_sameTexts.f]
  exact Tot.pos trivial (Tot.at_ (l.length + 1) rfl (fun k hk => h k (by omega)))
theorem sameBools_tot (l : List Bool) (hl : l.length ≤ 1048576) : Tot (fun k => laws_sameBools.f k l l) (fun y => y = true) := by
  have h := fun k hk => loop_up (fun k (x : Int) => laws_sameBools.l0 k l l (l.length : Int) x) l.length 0 (fun i => (i : Int)) true (fun i k hi _ => by
    simp only [laws_sameBools.l0, bne_self_eq_false]
    rw [if_pos (by omega), if_pos (by omega), if_pos (by omega), if_pos (by omega), if_neg (by simp), w64 (by omega) (by omega)]
    rfl) (fun k _ => by
    simp only [laws_sameBools.l0]
    rw [if_neg (by omega)]) k hk
  simp only [laws_sameBools.f]
  exact Tot.pos trivial (Tot.at_ (l.length + 1) rfl (fun k hk => h k (by omega)))
theorem coverSteps_l0 (l : List Int) (hl : Bytes l) : ∀ (d : Nat) (n : Int) (x : List S60) (p h : Int), n ≤ d → d ≤ 200 → x.length + d ≤ 1000 → 0 ≤ p ∧ p + 8 * (d : Int) ≤ 100000 → Tot (fun k => spec_l1Cur_coverSteps.l0 k x n l p h) (fun _ => True) := by
  intro d
  induction d with
  | zero =>
    intro n x p h hn hd hx hp
    refine Tot.up ?_
    simp only [spec_l1Cur_coverSteps.l0]
    exact Tot.neg (by omega) (Tot.some_ trivial)
  | succ d ih =>
    intro n x p h hn hd hx hp
    refine Tot.up ?_
    simp only [spec_l1Cur_coverSteps.l0]
    refine Tot.ite (fun h1 => ?_) (fun h1 => Tot.some_ trivial)
    have w := Aside0.mk (show wrap64 (n - 1) = n - 1 from w64 (by omega) (by omega))
    have hj : ∀ (p1 h2 a : Int) (s : ByteArray), p ≤ p1 ∧ p1 ≤ p + 4 → Tot (fun k => spec_l1Cur_coverSteps.j2 k x n l p1 h2 a s) (fun _ => True) := by
      intro p1 h2 a s hp1
      refine Tot.up ?_
      simp only [spec_l1Cur_coverSteps.j2]
      refine Tot.bind (Tot.fix (one_tot l hl p1 h2 40 (by omega) (by omega))) (fun y hy => Tot.ite (fun _ => ?_) (fun _ => ?_))
      · refine Tot.bind (Tot.fix (pick_tot l hl y.2.1 y.2.2 4 (by omega) (by omega))) (fun z hz => Tot.pos (by omega) ?_)
        rw [w.out]
        exact ih (n - 1) _ _ _ (by omega) (by omega) (by rw [List.length_append, List.length_singleton]; omega) (by omega)
      · refine Tot.pos (by omega) ?_
        rw [w.out]
        exact ih (n - 1) _ _ _ (by omega) (by omega) (by rw [List.length_append, List.length_singleton]; omega) (by omega)
    refine Tot.bind (Tot.fix (pick_tot l hl p h 2 (by omega) (by omega))) (fun y hy => Tot.ite (fun _ => ?_) (fun _ => hj _ _ _ _ (by omega)))
    exact Tot.bind (Tot.fix (of_tot l hl y.2.1 y.2.2 _ (by omega) (by decide) (by decide))) (fun z hz => hj _ _ _ _ (by omega))
theorem coverSteps_tot (l : List Int) (hl : Bytes l) (p h : Int) (hp : 0 ≤ p ∧ p ≤ 1000) : Tot (fun k => spec_l1Cur_coverSteps.f k l p h) (fun _ => True) := by
  simp only [spec_l1Cur_coverSteps.f]
  refine Tot.bind (Tot.fix (pick_tot l hl p h 30 (by omega) (by omega))) (fun y hy => ?_)
  refine Tot.bind (Tot.fix (one_tot l hl y.2.1 y.2.2 20 (by omega) (by omega))) (fun z hz => Tot.ite (fun _ => ?_) (fun _ => ?_))
  · refine Tot.bind (Tot.fix (pick_tot l hl z.2.1 z.2.2 3 (by omega) (by omega))) (fun u hu => Tot.up ?_)
    simp only [spec_l1Cur_coverSteps.j0]
    rw [w64 (n := 79 + u.1) (by omega) (by omega)]
    exact coverSteps_l0 l hl 90 _ [] _ _ (by omega) (by omega) (by simp) (by omega)
  · refine Tot.up ?_
    simp only [spec_l1Cur_coverSteps.j0]
    exact coverSteps_l0 l hl 90 _ [] _ _ (by omega) (by omega) (by simp) (by omega)
theorem j5_tot (l : List Int) (hl : Bytes l) : Tot (fun k => laws_FnCover.j5 k l) (fun y => y = true) := by
  refine Tot.up ?_
  simp only [laws_FnCover.j5, spec_DrawEraseSays.f, spec_DrawTraceOf.f]
  refine Tot.bind (Q := fun _ => True) (Tot.bind (coverSteps_tot l hl 0 0 (by omega)) (fun y _ => Tot.some_ trivial)) (fun c _ => ?_)
  refine Tot.bind (implErase_tot c) (fun y1 e1 => Tot.bind (specErase_tot c) (fun y2 e2 => ?_))
  rw [e1, e2]
  refine Tot.bind (Q := fun _ => True) (Tot.bind (Tot.fix (pick_tot l hl 0 0 6 (by omega) (by omega))) (fun y hy => Tot.bind (Tot.fix (among_tot l hl y.2.1 y.2.2 _ (by omega) (by decide) (by decide))) (fun z hz => Tot.some_ trivial))) (fun c2 _ => ?_)
  obtain ⟨r, b, hr, h1, h2⟩ := trace_alike c2.1 c2.2
  refine Tot.bind h2 (fun y3 e3 => Tot.bind h1 (fun y4 e4 => ?_))
  rw [e3, e4]
  have he : (eraV c).1.length ≤ 80 := by
    unfold eraV
    split
    · simp
    · have := List.length_filter_le isTick c
      simp only
      omega
  generalize (eraV c) = e at he ⊢
  refine Tot.neg (by simp) (Tot.pos rfl (Tot.neg (by simp) (Tot.bind (sameTrace_tot r (by omega)) (fun y5 e5 => ?_))))
  rw [e5]
  refine Tot.up ?_
  simp only [laws_FnCover.j6]
  refine Tot.neg (by simp) ?_
  have h := fun k hk => loop_up (fun k (x : Int) => laws_FnCover.l2 k e.1 e.1 (e.1.length : Int) x) e.1.length 0 (fun i => (i : Int)) true (fun i k hi _ => by
    simp only [laws_FnCover.l2, beq_self_eq_true, Bool.not_true, Bool.or_false]
    rw [if_pos (by omega), if_pos (by omega), if_pos (by omega), if_pos (by omega), if_neg (by simp), w64 (by omega) (by omega)]
    rfl) (fun k _ => by
    simp only [laws_FnCover.l2]
    rw [if_neg (by omega)]) k hk
  exact Tot.at_ (e.1.length + 1) rfl (fun k hk => h k (by omega))
theorem fits_tot (x1 : List Int) (h1 : Bytes x1) (S T : List ByteArray) (hS : S.length ≤ 1000) (hT : T.length ≤ 1000) : ∀ (d i k0 : Nat), T.length - i = d → i ≤ T.length → k0 ≤ S.length → fits (S.drop k0) (T.drop i) → Tot (fun k => laws_FnCover.l1 k x1 S (k0 : Int) T (T.length : Int) (i : Int)) (fun y => y = true) := by
  intro d
  induction d with
  | zero =>
    intro i k0 hd hi hk hf
    refine Tot.up ?_
    simp only [laws_FnCover.l1]
    exact Tot.neg (by omega) (j5_tot x1 h1)
  | succ d ih =>
    intro i k0 hd hi hk hf
    have hlt : i < T.length := by omega
    have ew := Aside0.mk (show wrap64 ((i : Int) + 1) = ((i + 1 : Nat) : Int) from by rw [w64 (by omega) (by omega)]; omega)
    have ek := Aside0.mk (show wrap64 ((k0 : Int) + 1) = ((k0 + 1 : Nat) : Int) from by rw [w64 (by omega) (by omega)]; omega)
    rw [List.drop_eq_getElem_cons hlt] at hf
    refine Tot.up ?_
    simp only [laws_FnCover.l1]
    refine Tot.pos (by omega) (Tot.pos (by omega) (Tot.pos (by omega) ?_))
    rw [rdStr T i hlt]
    by_cases hs : k0 < S.length
    · rw [List.drop_eq_getElem_cons hs] at hf
      refine Tot.pos (by omega) (Tot.pos (by omega) (Tot.up ?_))
      simp only [laws_FnCover.j4]
      rw [rdStr S k0 hs, ew.out, ek.out]
      rcases hf with ⟨e, hf⟩ | ⟨e, e2, hf⟩
      · exact Tot.pos (beq_iff_eq.2 e) (ih (i + 1) (k0 + 1) (by omega) (by omega) (by omega) hf)
      · refine Tot.neg (fun h => e (beq_iff_eq.1 h)) (Tot.pos e2 (ih (i + 1) k0 (by omega) (by omega) (by omega) ?_))
        rw [List.drop_eq_getElem_cons hs]
        exact hf
    · rw [List.drop_of_length_le (by omega)] at hf
      refine Tot.neg (by omega) (Tot.up ?_)
      simp only [laws_FnCover.j4]
      rw [ew.out]
      refine Tot.neg (by simp) (Tot.pos hf.1 (ih (i + 1) k0 (by omega) (by omega) (by omega) ?_))
      rw [List.drop_of_length_le (by omega)]
      exact hf.2
theorem said_tot (x1 : List Int) (h1 : Bytes x1) (l : List S60) (hl : l.length ≤ 80) (ds : List Bool) (hd : ds.length = l.length) (T S : List ByteArray) (hS : S = saidM l ds) (hT : T.length ≤ 1000) (hf : fits S T) : ∀ (d i : Nat) (o : List ByteArray), l.length - i = d → i ≤ l.length → o.length ≤ i → S = o ++ saidM (l.drop i) (ds.drop i) → Tot (fun k => laws_FnCover.l0 k x1 T ds o l (l.length : Int) (i : Int)) (fun y => y = true) := by
  intro d
  induction d with
  | zero =>
    intro i o hd' hi ho he
    rw [List.drop_of_length_le (show l.length ≤ i by omega)] at he
    have he2 : S = o := by rw [he]; simp [saidM]
    subst he2
    refine Tot.up ?_
    simp only [laws_FnCover.l0]
    refine Tot.neg (by omega) ?_
    have hlS := saidM_short l ds
    rw [← hS] at hlS
    exact fits_tot x1 h1 _ T (by omega) hT T.length 0 0 (by omega) (by omega) (by omega) (by rw [List.drop_zero, List.drop_zero]; exact hf)
  | succ d ih =>
    intro i o hd' hi ho he
    have hlt : i < l.length := by omega
    have ew := Aside0.mk (show wrap64 ((i : Int) + 1) = ((i + 1 : Nat) : Int) from by rw [w64 (by omega) (by omega)]; omega)
    rw [List.drop_eq_getElem_cons hlt, List.drop_eq_getElem_cons (show i < ds.length by omega), saidM] at he
    refine Tot.up ?_
    simp only [laws_FnCover.l0]
    rw [rd60 l i hlt, ew.out, show rdOf false ds (i : Int) = ds[i]'(by omega) by unfold rdOf; rw [Int.toNat_natCast]; exact getDin _ _ _ (by omega)]
    refine Tot.pos (by omega) (Tot.pos (by omega) (Tot.pos (by omega) (Tot.pos (by omega) ?_)))
    by_cases c1 : ds[i]'(by omega) = true
    · rw [if_pos c1] at he
      by_cases c2 : l[i].f0 = 1
      · rw [if_pos c2] at he
        refine Tot.pos c1 (Tot.pos c2 (Tot.pos (by omega) (ih (i + 1) _ (by omega) (by omega) (by rw [List.length_append, List.length_singleton]; omega) ?_)))
        rw [List.append_assoc, List.singleton_append]
        exact he
      · rw [if_neg c2] at he
        exact Tot.pos c1 (Tot.neg c2 (ih (i + 1) _ (by omega) (by omega) (by omega) he))
    · rw [if_neg c1] at he
      exact Tot.neg c1 (ih (i + 1) _ (by omega) (by omega) (by omega) he)
theorem j0_ok (x1 : List Int) (h1 : Bytes x1) (w : Int) (l : List S60) (h : PlayOk w l) : Tot (fun k => laws_FnCover.j0 k x1 w l (runM w l [] 0).1 (runM w l [] 0).2.1 (runM w l [] 0).2.2 true false) (fun y => y = true) := by
  obtain ⟨hw, hl⟩ := h
  have hfl := List.length_filter_le isTick l
  have e0 : eraV l = (l.filter isTick, true) := by unfold eraV; rw [if_neg (by omega)]
  have hems := runM_ems w l [] 0 (by omega)
  have htx := runM_texts w l [] 0
  have hel : (runM w l [] 0).1.length = (l.filter isTick).length := by rw [hems, emsR_length]
  have hems2 := runM_ems w (l.filter isTick) [] 0 (by omega)
  rw [List.filter_filter] at hems2
  simp only [Bool.and_self] at hems2
  refine Tot.up ?_
  simp only [laws_FnCover.j0]
  refine Tot.neg (by simp) (Tot.pos trivial (Tot.bind (implErase_tot l) (fun y1 e1 => ?_)))
  rw [e1, e0]
  refine Tot.bind (playM_ok w (l.filter isTick) ⟨hw, by omega⟩).2 (fun y2 e2 => ?_)
  rw [e2]
  refine Tot.bind (traceR_tot w hw (l.filter isTick).length (by omega)) (fun y3 e3 => ?_)
  rw [e3]
  simp only
  rw [hems2, hems]
  have hs := sameTrace_tot (emsR w 0 (l.filter isTick).length) (by rw [emsR_length]; omega)
  refine Tot.pos trivial (Tot.pos trivial (Tot.bind hs (fun y4 e4 => Tot.pos e4 (Tot.pos trivial (Tot.bind hs (fun y5 e5 => Tot.pos e5 (Tot.up ?_)))))))
  simp only [laws_FnCover.j1]
  refine Tot.neg ?_ ?_
  · rw [htx.1, hems]
    simp
  · exact said_tot x1 h1 l hl _ htx.2 _ _ rfl (by omega) (runM_fits w l [] 0 [] _ (by omega) (fun x hx => by simp at hx) rfl) l.length 0 [] (by omega) (by omega) (by simp) (by simp)
theorem FnCover : laws_FnCover.Pure := by
  intro l0 l1 hm0 hx0 hw0 hm1 hx1 hw1
  have hmx : maxLen = 9223372036854775807 := rfl
  refine Tot.ex ?_
  simp only [laws_FnCover.f]
  rw [w64 (n := (l0.length : Int) + (l1.length : Int)) (by omega) (by omega)]
  refine Tot.ite (fun _ => Tot.some_ rfl) (fun hlen => ?_)
  have hb0 : Bytes l0 := bytes_of (by omega) hw0
  have hb1 : Bytes l1 := bytes_of (by omega) hw1
  have hdr : Tot (fun k => spec_DrawPlayCover.f k l0) (fun _ => True) := by
    simp only [spec_DrawPlayCover.f]
    exact Tot.bind (Tot.fix (pick_tot l0 hb0 0 0 4 (by omega) (by omega))) (fun y hy => Tot.bind (coverSteps_tot l0 hb0 _ _ (by omega)) (fun z _ => Tot.some_ trivial))
  refine Tot.bind hdr (fun y _ => ?_)
  obtain ⟨w, l⟩ := y
  simp only
  by_cases h : PlayOk w l
  · obtain ⟨hs, hi⟩ := playM_ok w l h
    have hfl := List.length_filter_le isTick l
    have hl := h.2
    have hems := runM_ems w l [] 0 (by omega)
    have htx := runM_texts w l [] 0
    have hel : (runM w l [] 0).1.length = (l.filter isTick).length := by rw [hems, emsR_length]
    refine Tot.bind hi (fun y1 e1 => Tot.bind hs (fun y2 e2 => ?_))
    rw [e1, e2]
    refine Tot.neg (by simp) (Tot.bind (sameTrace_tot _ (by simp only; omega)) (fun y3 e3 => Tot.pos e3 (Tot.bind (sameTexts_tot _ (by simp only; omega)) (fun y4 e4 => Tot.pos e4 (Tot.bind (sameBools_tot _ (by simp only; omega)) (fun y5 e5 => ?_))))))
    rw [e5]
    exact j0_ok l1 hb1 w l h
  · obtain ⟨hs, hi⟩ := playM_bad w l h
    refine Tot.bind hi (fun y1 e1 => Tot.bind hs (fun y2 e2 => ?_))
    rw [e1, e2]
    refine Tot.neg (by simp) (Tot.bind (sameTrace_tot _ (by simp)) (fun y3 e3 => Tot.pos e3 (Tot.bind (sameTexts_tot _ (by simp)) (fun y4 e4 => Tot.pos e4 (Tot.bind (sameBools_tot _ (by simp)) (fun y5 e5 => ?_))))))
    rw [e5]
    refine Tot.up ?_
    simp only [laws_FnCover.j0]
    exact Tot.neg (by simp) (Tot.neg (by simp) (j5_tot l1 hb1))
end Go.Proofs.Ytdiehchbbhlfgaa.Pure
