/- Proved: orders make a group, their signs multiply, and each comes back to the rising one at its length and not before, for all bytes that they are drawn from. Conditions: those of the given statement alone. -/
import Derived.Test.YtebpikejljgfgaaPFnCyclesx8
import Derived.Test.YtebpikejljgfgaaBase
set_option linter.unusedVariables false
set_option linter.unusedSimpArgs false
namespace Go.Proofs.Ytebpikejljgfgaa.Pure
open Go.RowKit Go.Proofs.Ytebpikejljgfgaa.PFnCycles Go.Proofs.Ytebpikejljgfgaa.Base Go.Proofs.YtebpikejljgfgaaW.PrintWords Go.Proofs.YtebpikejljgfgaaW.PrintLast Go.Proofs.YtebpikejljgfgaaW.PrintMore Go.Proofs.Ytebpikejljgfgaa

/-- The bits of a letter: where it stands is small, its bytes are bytes. -/
def Bytes (l : List Int) : Prop := l.length ≤ 1048576 ∧ ∀ x ∈ l, 0 ≤ x ∧ x ≤ 255
theorem and255 (E : Int) : 0 ≤ Go.bits .and .u64 E 255 ∧ Go.bits .and .u64 E 255 ≤ 255 := by
  have h : Go.bits .and .u64 E 255 = IntKind.u64.wrap (((BitVec.ofInt 64 E) &&& (BitVec.ofInt 64 255)).toNat : Int) := rfl
  have h2 : ((BitVec.ofInt 64 E) &&& (BitVec.ofInt 64 255)).toNat ≤ 255 := by
    rw [BitVec.toNat_and]
    exact Nat.and_le_right
  have h3 : IntKind.u64.wrap (((BitVec.ofInt 64 E) &&& (BitVec.ofInt 64 255)).toNat : Int) = (((BitVec.ofInt 64 E) &&& (BitVec.ofInt 64 255)).toNat : Int) := by
    show (_ : Int) % 2 ^ 64 = _
    omega
  rw [h, h3]
  omega
def CurOk (p' p : Int) : Prop := p ≤ p' ∧ p' ≤ p + 2
theorem next_tot (l : List Int) (hl : Bytes l) (p h : Int) (hp : 0 ≤ p ∧ p ≤ 1099511627776) : ∃ y, spec_l1Cur_next.f l p h = some y ∧ (0 ≤ y.1 ∧ y.1 ≤ 255 ∧ y.2.1 = p + 1) := by
  have hl1 := hl.1
  unfold spec_l1Cur_next.f
  rw [w64 (n := p + 1) (by omega) (by omega)]
  by_cases h1 : p < (l.length : Int)
  · obtain ⟨i, rfl⟩ := Int.eq_ofNat_of_zero_le hp.1
    have h2 := hl.2 _ (rd_mem l i (by omega))
    rw [if_pos h1, if_pos hp.1, if_pos (by omega)]
    refine ⟨_, rfl, ?_⟩
    simp only
    rw [w64 (by omega) (by omega)]
    exact ⟨h2.1, h2.2, trivial⟩
  · rw [if_neg h1, if_neg (by omega)]
    refine ⟨_, rfl, ?_⟩
    have h3 := and255 ((IntKind.u64.wrap ((IntKind.u64.wrap ((IntKind.u64.wrap (h * 6364136223846793005)) + 0)) + 1442695040888963407)) / 1099511627776)
    simp only
    rw [w64 (by omega) (by omega)]
    exact ⟨h3.1, h3.2, trivial⟩
theorem pick_tot (l : List Int) (hl : Bytes l) (p h a : Int) (hp : 0 ≤ p ∧ p ≤ 549755813888) (ha : a ≤ 1048576) : ∃ y, spec_l1Cur_pick.f l p h a = some y ∧ (0 ≤ y.1 ∧ (y.1 < a ∨ y.1 = 0) ∧ p ≤ y.2.1 ∧ y.2.1 ≤ p + 2) := by
  unfold spec_l1Cur_pick.f
  by_cases h1 : a ≤ 1
  · rw [if_pos h1]
    exact ⟨_, rfl, by simp only; omega, .inr rfl, by simp only; omega, by simp only; omega⟩
  · rw [if_neg h1]
    obtain ⟨⟨b, p1, h'⟩, e1, hb0, hb1, hp1⟩ := next_tot l hl p h (by omega)
    simp only at hb0 hb1 hp1
    rw [e1]
    simp only [Option.bind_some]
    by_cases h2 : a > 200
    · obtain ⟨⟨c, p2, h''⟩, e2, hc0, hc1, hp2⟩ := next_tot l hl p1 h' (by omega)
      simp only at hc0 hc1 hp2
      rw [if_pos h2, e2]
      simp only [Option.bind_some]
      rw [if_neg (by omega), w64 (n := b * 256) (by omega) (by omega), w64 (by omega) (by omega), Int.tmod_eq_emod_of_nonneg (by omega)]
      have h3 := Int.emod_nonneg (b * 256 + c) (show a ≠ 0 by omega)
      have h4 := Int.emod_lt_of_pos (b * 256 + c) (show 0 < a by omega)
      exact ⟨_, rfl, h3, .inl h4, by simp only; omega, by simp only; omega⟩
    · rw [if_neg h2, if_neg (by omega), Int.tmod_eq_emod_of_nonneg (by omega)]
      have h3 := Int.emod_nonneg b (show a ≠ 0 by omega)
      have h4 := Int.emod_lt_of_pos b (show 0 < a by omega)
      exact ⟨_, rfl, h3, .inl h4, by simp only; omega, by simp only; omega⟩

theorem bytes_of {l : List Int} (h : l.length ≤ 1048576) (hw : ∀ x ∈ l, (Lit.int .u8 x).wf = true) : Bytes l := by
  refine ⟨h, fun x hx => ?_⟩
  have h2 := hw x hx
  simp only [Lit.wf, Bool.and_eq_true, decide_eq_true_iff] at h2
  exact h2

theorem l1In_eq (a b c : Int) : spec_l1In.f a b c = some (decide (b ≤ a ∧ a ≤ c)) := by
  unfold spec_l1In.f
  by_cases h : a ≥ b
  · rw [if_pos h]
    congr 1
    exact decide_eq_decide.2 ⟨fun h1 => ⟨h, h1⟩, fun h1 => h1.2⟩
  · rw [if_neg h, decide_eq_false (fun h1 => h h1.1)]

/-- 1 times 2 times .. n. -/
def fac : Nat → Nat
  | 0 => 1
  | n + 1 => (n + 1) * fac n
theorem fac_pos : ∀ n, 1 ≤ fac n
  | 0 => Nat.le_refl _
  | n + 1 => Nat.mul_pos (by omega) (fac_pos n)
theorem fac_le : ∀ n, n ≤ 12 → fac n ≤ 479001600 := by
  have h : ∀ n, n < 13 → fac n ≤ 479001600 := by decide
  exact fun n hn => h n (by omega)
theorem specOrders_l0 (m : Nat) (hm : m ≤ 12) : ∀ (d i k : Nat), m - i = d → i ≤ m → 1 ≤ i → d + 1 < k → spec_l4Orders.l0 k (m : Int) ((fac i : Nat) : Int) (((i + 1 : Nat)) : Int) = some ((fac m : Nat) : Int) := by
  intro d
  induction d with
  | zero =>
    intro i k hd hi h1 hk
    obtain ⟨k, rfl⟩ := rounds hk
    have e : i = m := by omega
    subst e
    simp only [spec_l4Orders.l0]
    rw [if_neg (by omega)]
  | succ d ih =>
    intro i k hd hi h1 hk
    obtain ⟨k, rfl⟩ := rounds hk
    have hf := fac_le (i + 1) (by omega)
    have e : ((fac i : Nat) : Int) * ((i + 1 : Nat) : Int) = ((fac (i + 1) : Nat) : Int) := by
      show _ = (((i + 1) * fac i : Nat) : Int)
      rw [← Int.natCast_mul, Nat.mul_comm]
    simp only [spec_l4Orders.l0]
    rw [if_pos (by omega), e, wnat _ (by omega), w64 (n := ((i + 1 : Nat) : Int) + 1) (by omega) (by omega)]
    exact ih (i + 1) k (by omega) (by omega) (by omega) (by omega)
theorem specOrders_eq (m : Int) (hm : m ≤ 12) (k : Nat) (hk : 14 < k) : spec_l4Orders.f k m = some ((fac m.toNat : Nat) : Int) := by
  simp only [spec_l4Orders.f]
  by_cases h : 1 ≤ m
  · obtain ⟨m, rfl⟩ := Int.eq_ofNat_of_zero_le (show 0 ≤ m by omega)
    rw [Int.toNat_natCast]
    exact specOrders_l0 m (by omega) (m - 1) 1 k rfl (by omega) (by omega) (by omega)
  · obtain ⟨k, rfl⟩ := rounds hk
    simp only [spec_l4Orders.l0]
    rw [if_neg (by omega), show m.toNat = 0 by omega]
    rfl

/-- An order by its number: of those left the one that the number says, and on. -/
def lehm : Nat → List Int → Nat → List Int
  | 0, _, _ => []
  | d + 1, left, n => left.getD (n / fac d) 0 :: lehm d (left.eraseIdx (n / fac d)) (n % fac d)
theorem lehm_length : ∀ (d : Nat) (left : List Int) (n : Nat), (lehm d left n).length = d
  | 0, _, _ => rfl
  | d + 1, left, n => by simp only [lehm, List.length_cons, lehm_length d]
theorem lehm_lt (d n : Nat) (h : n < fac (d + 1)) : n / fac d < d + 1 := by
  rw [Nat.div_lt_iff_lt_mul (fac_pos d)]
  exact h
theorem atOrder_l1 : ∀ (d : Nat) (left out : List Int) (n : Nat), left.length = d → d ≤ 9 → n < fac d → out.length + d ≤ 100 →
    Tot (fun k => spec_OrderAt.l1 k (n : Int) left out) (fun y => y = (out ++ lehm d left n, true)) := by
  intro d
  induction d with
  | zero =>
    intro left out n hl hd hn ho
    refine Tot.up ?_
    simp only [spec_OrderAt.l1]
    exact Tot.neg (by omega) (Tot.some_ (by simp [lehm]))
  | succ d ih =>
    intro left out n hl hd hn ho
    have hf1 := fac_pos d
    have hf2 := fac_le d (by omega)
    have hf3 := fac_le (d + 1) (by omega)
    have hq := lehm_lt d n hn
    have hr : n % fac d < fac d := Nat.mod_lt _ (by omega)
    refine Tot.up ?_
    simp only [spec_OrderAt.l1]
    refine Tot.pos (by omega) ?_
    rw [w64 (n := (left.length : Int) - 1) (by omega) (by omega)]
    refine Tot.bind (Q := fun y => y = ((fac d : Nat) : Int)) (Tot.at_ 15 rfl (fun k hk => by rw [specOrders_eq _ (by omega) k (by omega), show ((left.length : Int) - 1).toNat = d by omega])) (fun y e => ?_)
    rw [e, tdiv_nat, tmod_nat]
    generalize hqq : n / fac d = q at *
    generalize hrr : n % fac d = r at *
    rw [wnat q (by omega), w64 (n := (q : Int) + 1) (by omega) (by omega), show (q : Int) + 1 = ((q + 1 : Nat) : Int) by omega, Int.toNat_natCast, Int.toNat_natCast]
    refine Tot.neg (by omega) (Tot.pos (by omega) (Tot.pos (by omega) (Tot.pos (by omega) (Tot.bind (Tot.some_ rfl) (fun y1 e1 => Tot.pos (by omega) (Tot.bind (Tot.some_ rfl) (fun y2 e2 => ?_)))))))
    subst e1 e2
    refine Tot.pos (by rw [List.length_take]; simp; omega) (Tot.bind (Tot.some_ rfl) (fun y3 e3 => Tot.pos (by omega) (Tot.pos (by omega) (Tot.bind (Tot.some_ rfl) (fun y4 e4 => ?_)))))
    subst e3 e4
    refine Tot.pos (by rw [List.length_append, List.length_take, List.length_drop]; simp; omega) ?_
    have h := ih (left.eraseIdx q) (out ++ [rd left (q : Int)]) r (by rw [List.length_eraseIdx_of_lt (by omega)]; omega) (by omega) hr (by rw [List.length_append, List.length_singleton]; omega)
    rw [List.eraseIdx_eq_take_drop_succ] at h
    rw [List.nil_append]
    refine h.imp (fun y hy => ?_)
    rw [hy]
    simp only [lehm, hqq, hrr, List.eraseIdx_eq_take_drop_succ, List.append_assoc, List.singleton_append]
    rfl
theorem firsts_snoc2 (m : Nat) : firsts (m + 1) = firsts m ++ [(m : Int)] := by
  unfold firsts
  rw [List.range_succ, List.map_append, List.map_singleton]
def atV (m n : Int) : List Int × Bool := if (0 ≤ m ∧ m ≤ 9) ∧ (0 ≤ n ∧ n ≤ (fac m.toNat : Int) - 1) then (lehm m.toNat (firsts m.toNat) n.toNat, true) else ([], false)
theorem atOrder_l0 (m : Nat) (hm : m ≤ 9) (n : Nat) (hn : n < fac m) : ∀ (d i : Nat), m - i = d → i ≤ m →
    Tot (fun k => spec_OrderAt.l0 k (m : Int) (n : Int) (firsts i) (i : Int)) (fun y => y = (lehm m (firsts m) n, true)) := by
  intro d
  induction d with
  | zero =>
    intro i hd hi
    have e : i = m := by omega
    subst e
    refine Tot.up ?_
    simp only [spec_OrderAt.l0]
    exact Tot.neg (by omega) (atOrder_l1 i (firsts i) [] n (firsts_length i) hm hn (by simp; omega))
  | succ d ih =>
    intro i hd hi
    refine Tot.up ?_
    simp only [spec_OrderAt.l0]
    refine Tot.pos (by omega) (Tot.pos (by rw [firsts_length]; omega) ?_)
    rw [← firsts_snoc2, w64 (n := (i : Int) + 1) (by omega) (by omega)]
    exact ih (i + 1) (by omega) (by omega)
theorem specOrderAt_tot (m n : Int) : Tot (fun k => spec_OrderAt.f k m n) (fun y => y = atV m n) := by
  have bad : (¬ ((0 ≤ m ∧ m ≤ 9) ∧ (0 ≤ n ∧ n ≤ (fac m.toNat : Int) - 1))) → Tot (fun k => spec_OrderAt.j0 k m n true) (fun y => y = atV m n) := fun h => by
    refine Tot.up ?_
    simp only [spec_OrderAt.j0]
    exact Tot.pos trivial (Tot.some_ (by unfold atV; rw [if_neg h]))
  simp only [spec_OrderAt.f, l1In_eq, Option.bind_some]
  refine Tot.ite (fun h => ?_) (fun h => bad (fun h2 => h (decide_eq_true h2.1)))
  have h := of_decide_eq_true h
  have hf := fac_le m.toNat (by omega)
  have hf1 := fac_pos m.toNat
  refine Tot.bind (Q := fun y => y = ((fac m.toNat : Nat) : Int)) (Tot.at_ 15 rfl (fun k hk => specOrders_eq _ (by omega) k (by omega))) (fun y e => ?_)
  rw [e, w64 (n := ((fac m.toNat : Nat) : Int) - 1) (by omega) (by omega)]
  by_cases h2 : 0 ≤ n ∧ n ≤ (fac m.toNat : Int) - 1
  · rw [decide_eq_true h2]
    refine Tot.up ?_
    simp only [spec_OrderAt.j0]
    refine Tot.neg (by simp) ?_
    have h3 := atOrder_l0 m.toNat (by omega) n.toNat (by omega) m.toNat 0 (by omega) (by omega)
    rw [show ((m.toNat : Nat) : Int) = m by omega, show ((n.toNat : Nat) : Int) = n by omega] at h3
    unfold atV
    rw [if_pos ⟨h, h2⟩]
    exact h3
  · rw [decide_eq_false h2]
    exact bad (fun h3 => h2 h3.2)
theorem atV_length (m n : Int) : (atV m n).1.length ≤ 9 := by
  unfold atV
  split
  · rename_i h
    rw [lehm_length]
    omega
  · simp

theorem one_tot (l : List Int) (hl : Bytes l) (p h a : Int) (hp : 0 ≤ p ∧ p ≤ 549755813888) (ha : a ≤ 1048576) : ∃ y, spec_l1Cur_one.f l p h a = some y ∧ (p ≤ y.2.1 ∧ y.2.1 ≤ p + 2) := by
  unfold spec_l1Cur_one.f
  obtain ⟨⟨b, p1, h'⟩, e1, hb0, hb1, hp0, hp1⟩ := pick_tot l hl p h a hp ha
  simp only at hp0 hp1
  rw [e1]
  exact ⟨_, rfl, hp0, hp1⟩

theorem among_tot (l : List Int) (hl : Bytes l) (p h : Int) (m : List Int) (hp : 0 ≤ p ∧ p ≤ 549755813888) (hm : 0 < m.length) (hm2 : m.length ≤ 1048576) : ∃ y, spec_l1Cur_among.f l p h m = some y ∧ (y.1 ∈ m ∧ p ≤ y.2.1 ∧ y.2.1 ≤ p + 2) := by
  unfold spec_l1Cur_among.f
  obtain ⟨⟨b, p1, h'⟩, e1, hb0, hb1, hp0, hp1⟩ := pick_tot l hl p h (m.length : Int) hp (by omega)
  simp only at hb0 hb1 hp0 hp1
  rw [e1]
  simp only [Option.bind_some]
  obtain ⟨i, rfl⟩ := Int.eq_ofNat_of_zero_le hb0
  rw [if_pos hb0, if_pos (by omega)]
  exact ⟨_, rfl, rd_mem m i (by omega), by simp only; omega, by simp only; omega⟩

theorem order_tot (l : List Int) (hl : Bytes l) (p h : Int) (hp : 0 ≤ p ∧ p ≤ 1073741824) : Tot (fun k => spec_l1Cur_order.f k l p h) (fun y => y.1.length ≤ 9 ∧ p ≤ y.2.1 ∧ y.2.1 ≤ p + 20) := by
  simp only [spec_l1Cur_order.f]
  refine Tot.bind (Tot.fix (among_tot l hl p h [0, 1, 2, 4, 4, 8, 8, 8, 3, 9] (by omega) (by simp) (by simp))) (fun y1 h1 => ?_)
  have hm : 0 ≤ y1.1 ∧ y1.1 ≤ 9 := by
    have h2 := h1.1
    simp only [List.mem_cons, List.not_mem_nil, or_false] at h2
    omega
  refine Tot.bind (Tot.fix (pick_tot l hl y1.2.1 y1.2.2 256 (by omega) (by omega))) (fun y2 h2 => ?_)
  refine Tot.bind (Tot.fix (pick_tot l hl y2.2.1 y2.2.2 256 (by omega) (by omega))) (fun y3 h3 => ?_)
  have hf := fac_pos y1.1.toNat
  refine Tot.bind (Q := fun y => y = ((fac y1.1.toNat : Nat) : Int)) (Tot.at_ 15 rfl (fun k hk => specOrders_eq _ (by omega) k (by omega))) (fun y4 e4 => Tot.neg (by omega) ?_)
  refine Tot.bind (specOrderAt_tot _ _) (fun y5 e5 => ?_)
  have h5 := atV_length y1.1 (Int.tmod (wrap64 (wrap64 (y2.1 * 256) + y3.1)) y4)
  rw [e5]
  refine Tot.ite (fun h6 => ?_) (fun _ => Tot.some_ ⟨h5, by simp only; omega, by simp only; omega⟩)
  refine Tot.bind (Tot.fix (one_tot l hl y3.2.1 y3.2.2 20 (by omega) (by omega))) (fun y6 h7 => Tot.ite (fun _ => ?_) (fun _ => Tot.some_ ⟨h5, by simp only; omega, by simp only; omega⟩))
  refine Tot.bind (Tot.fix (pick_tot l hl y6.2.1 y6.2.2 10 (by omega) (by omega))) (fun y7 h8 => Tot.pos (by omega) (Tot.some_ ⟨by rw [List.length_set]; exact h5, by simp only; omega, by simp only; omega⟩))

theorem sameInts_tot (a b : List Int) (ha : a.length ≤ 1048576) : Tot (fun k => laws_sameInts.f k a b) (fun y => y = decide (a = b)) := by
  simp only [laws_sameInts.f]
  by_cases hl : a.length = b.length
  · refine Tot.pos (by omega) ?_
    have key : ∀ (d i : Nat), a.length - i = d → i ≤ a.length → Tot (fun k => laws_sameInts.l0 k a b (a.length : Int) (i : Int)) (fun y => y = decide (a.drop i = b.drop i)) := by
      intro d
      induction d with
      | zero =>
        intro i hd hi
        refine Tot.up ?_
        simp only [laws_sameInts.l0]
        refine Tot.neg (by omega) (Tot.some_ ?_)
        rw [List.drop_of_length_le (by omega), List.drop_of_length_le (by omega)]
        rfl
      | succ d ih =>
        intro i hd hi
        refine Tot.up ?_
        simp only [laws_sameInts.l0]
        rw [rd_in a i (by omega), rd_in b i (by omega), w64 (n := (i : Int) + 1) (by omega) (by omega), List.drop_eq_getElem_cons (show i < a.length by omega), List.drop_eq_getElem_cons (show i < b.length by omega)]
        refine Tot.pos (by omega) (Tot.pos (by omega) (Tot.pos (by omega) (Tot.pos (by omega) (Tot.ite (fun e => ?_) (fun e => Tot.some_ ?_)))))
        · refine (ih (i + 1) (by omega) (by omega)).imp (fun y hy => ?_)
          rw [hy, Bool.eq_iff_iff, decide_eq_true_iff, decide_eq_true_iff]
          constructor
          · intro h
            rw [e, h]
          · intro h
            exact (List.cons.inj h).2
        · exact (decide_eq_false (fun h => e (List.cons.inj h).1)).symm
    have h := key a.length 0 (by omega) (by omega)
    rw [List.drop_zero, List.drop_zero] at h
    exact h
  · refine Tot.neg (by omega) (Tot.some_ ?_)
    exact (decide_eq_false (fun h => hl (by rw [h]))).symm
theorem sameInts_self (a : List Int) (ha : a.length ≤ 1048576) : Tot (fun k => laws_sameInts.f k a a) (fun y => y = true) := (sameInts_tot a a ha).imp (fun y hy => by rw [hy]; exact decide_eq_true rfl)

theorem sameTexts_self (a : List ByteArray) (ha : a.length ≤ 1048576) : Tot (fun k => laws_sameTexts.f k a a) (fun y => y = true) := by
  have key : ∀ (d i : Nat), a.length - i = d → i ≤ a.length → Tot (fun k => laws_sameTexts.l0 k a a (a.length : Int) (i : Int)) (fun y => y = true) := by
    intro d
    induction d with
    | zero =>
      intro i hd hi
      refine Tot.up ?_
      simp only [laws_sameTexts.l0]
      exact Tot.neg (by omega) (Tot.some_ rfl)
    | succ d ih =>
      intro i hd hi
      refine Tot.up ?_
      simp only [laws_sameTexts.l0]
      rw [w64 (n := (i : Int) + 1) (by omega) (by omega)]
      exact Tot.pos (by omega) (Tot.pos (by omega) (Tot.pos (by omega) (Tot.pos (by omega) (Tot.pos trivial (ih (i + 1) (by omega) (by omega))))))
  simp only [laws_sameTexts.f]
  exact Tot.pos trivial (key a.length 0 (by omega) (by omega))

theorem index_l0 (l : List Int) (hl : l.length ≤ 1048576) (v : Int) : ∀ (d k i : Nat), l.length - i = d → d < k → i ≤ l.length → ∃ r, slices_Index_int_int.l0 k l v (l.length : Int) (i : Int) = some r ∧ (r ≥ 0 ↔ v ∈ l.drop i) := by
  intro d
  induction d with
  | zero =>
    intro k i hd hk hi
    obtain ⟨k, rfl⟩ := rounds hk
    refine ⟨-1, ?_, ?_⟩
    · simp only [slices_Index_int_int.l0]
      rw [if_neg (by omega)]
    · rw [List.drop_of_length_le (by omega)]
      simp
  | succ d ih =>
    intro k i hd hk hi
    obtain ⟨k, rfl⟩ := rounds hk
    simp only [slices_Index_int_int.l0]
    rw [if_pos (by omega), if_pos (by omega), if_pos (by omega), rd_in l i (by omega), w64 (by omega) (by omega)]
    have hdrop := List.drop_eq_getElem_cons (show i < l.length by omega)
    by_cases e : v = l[i]
    · exact ⟨i, by rw [if_pos e], by rw [hdrop, ← e]; simp⟩
    · obtain ⟨r, hr, h⟩ := ih k (i + 1) (by omega) (by omega) (by omega)
      refine ⟨r, by rw [if_neg e]; exact hr, ?_⟩
      rw [h, hdrop, List.mem_cons]
      exact ⟨fun h => .inr h, fun h => h.resolve_left e⟩

theorem contains_eq (l : List Int) (hl : l.length ≤ 1048576) (v : Int) (k : Nat) (hk : l.length < k) : slices_Contains_int_int.f k l v = some (decide (v ∈ l)) := by
  obtain ⟨r, hr, h⟩ := index_l0 l hl v l.length k 0 (by omega) hk (by omega)
  unfold slices_Contains_int_int.f slices_Index_int_int.f
  have hr' : slices_Index_int_int.l0 k l v (l.length : Int) 0 = some r := hr
  rw [hr']
  simp only [Option.bind_some]
  rw [List.drop_zero] at h
  congr 1
  exact decide_eq_decide.2 h

theorem l1Has_l0 (l : List Int) (hl : l.length ≤ 1048576) (v : Int) : ∀ (d k i : Nat), l.length - i = d → d < k → i ≤ l.length → spec_l1Has.l0 k v l (l.length : Int) (i : Int) = some (decide (v ∈ l.drop i)) := by
  intro d
  induction d with
  | zero =>
    intro k i hd hk hi
    obtain ⟨k, rfl⟩ := rounds hk
    simp only [spec_l1Has.l0]
    rw [if_neg (by omega), List.drop_of_length_le (by omega)]
    simp
  | succ d ih =>
    intro k i hd hk hi
    obtain ⟨k, rfl⟩ := rounds hk
    simp only [spec_l1Has.l0]
    rw [if_pos (by omega), if_pos (by omega), if_pos (by omega), rd_in l i (by omega), w64 (by omega) (by omega), List.drop_eq_getElem_cons (show i < l.length by omega)]
    by_cases e : l[i] = v
    · rw [if_pos e]
      simp [e]
    · have h := ih k (i + 1) (by omega) (by omega) (by omega)
      rw [if_neg e]
      have h' : spec_l1Has.l0 k v l (l.length : Int) ((i : Int) + 1) = some (decide (v ∈ l.drop (i + 1))) := h
      rw [h']
      congr 1
      refine decide_eq_decide.2 ?_
      rw [List.mem_cons]
      exact ⟨fun h => .inr h, fun h => h.resolve_left (fun h => e h.symm)⟩

theorem l1Has_eq (l : List Int) (hl : l.length ≤ 1048576) (v : Int) (k : Nat) (hk : l.length < k) : spec_l1Has.f k l v = some (decide (v ∈ l)) := by
  have h := l1Has_l0 l hl v l.length k 0 (by omega) hk (by omega)
  rw [List.drop_zero] at h
  exact h

theorem implIsOrder_l0 (l : List Int) (hl : l.length ≤ 1048576) : ∀ (d k i : Nat), l.length - i = d → d + l.length < k → i ≤ l.length → ∃ b, impl_IsOrder.l0 k l (l.length : Int) (i : Int) = some b ∧ (b = true ↔ l.length ≤ 9 ∧ ∀ v : Int, (i : Int) ≤ v → v < l.length → v ∈ l) := by
  intro d
  induction d with
  | zero =>
    intro k i hd hk hi
    obtain ⟨k, rfl⟩ := rounds hk
    refine ⟨decide ((l.length : Int) ≤ 9), ?_, ?_⟩
    · simp only [impl_IsOrder.l0]
      rw [if_neg (by omega)]
    · rw [decide_eq_true_iff]
      exact ⟨fun h => ⟨by omega, fun v _ _ => by omega⟩, fun h => by omega⟩
  | succ d ih =>
    intro k i hd hk hi
    obtain ⟨k, rfl⟩ := rounds hk
    simp only [impl_IsOrder.l0]
    rw [if_pos (by omega), w64 (by omega) (by omega)]
    obtain ⟨b, hb, h⟩ := ih k (i + 1) (by omega) (by omega) (by omega)
    have hb' : impl_IsOrder.l0 k l (l.length : Int) ((i : Int) + 1) = some b := hb
    rw [hb', contains_eq l hl _ k (by omega)]
    by_cases h9 : (i : Int) < 9
    · rw [if_pos h9]
      simp only [Option.bind_some]
      by_cases hm : (i : Int) ∈ l
      · refine ⟨b, by rw [decide_eq_true hm, if_pos rfl], ?_⟩
        rw [h]
        refine ⟨fun ⟨h1, h2⟩ => ⟨h1, fun v h3 h4 => ?_⟩, fun ⟨h1, h2⟩ => ⟨h1, fun v h3 h4 => h2 v (by omega) h4⟩⟩
        by_cases e : v = (i : Int)
        · rw [e]; exact hm
        · exact h2 v (by omega) h4
      · refine ⟨false, by rw [decide_eq_false hm, if_neg (by simp)], ?_⟩
        refine ⟨(fun hf => by cases hf), fun ⟨h1, h2⟩ => absurd (h2 i (by omega) (by omega)) hm⟩
    · refine ⟨b, by rw [if_neg h9], ?_⟩
      rw [h]
      exact ⟨fun ⟨h1, h2⟩ => by omega, fun ⟨h1, h2⟩ => by omega⟩

theorem implIsOrder_eq (l : List Int) (hl : l.length ≤ 1048576) (k : Nat) (hk : l.length + l.length < k) : ∃ b, impl_IsOrder.f k l = some b ∧ (b = true ↔ l.length ≤ 9 ∧ Ord l) := by
  obtain ⟨b, hb, h⟩ := implIsOrder_l0 l hl l.length k 0 (by omega) hk (by omega)
  refine ⟨b, hb, ?_⟩
  rw [h]
  refine and_congr_right fun _ => ⟨fun h => ord_of_has (fun v h0 h1 => h v (by omega) h1), fun h v h0 h1 => h.has v (by omega) h1⟩

theorem specOrder_l0 (l : List Int) (hl : l.length ≤ 1048576) : ∀ (d k i : Nat), l.length - i = d → d + l.length < k → i ≤ l.length → (l.take i).Nodup → (∀ x ∈ l.take i, 0 ≤ x ∧ x < l.length) →
    ∃ b, spec_l4Order.l0 k l l (l.length : Int) (i : Int) = some b ∧ (b = true ↔ l.length ≤ 9 ∧ Ord l) := by
  intro d
  induction d with
  | zero =>
    intro k i hd hk hi hn hr
    obtain ⟨k, rfl⟩ := rounds hk
    refine ⟨decide ((l.length : Int) ≤ 9), ?_, ?_⟩
    · simp only [spec_l4Order.l0]
      rw [if_neg (by omega)]
    · rw [decide_eq_true_iff]
      rw [List.take_of_length_le (by omega)] at hn hr
      exact ⟨fun h => ⟨by omega, hn, hr⟩, fun h => by omega⟩
  | succ d ih =>
    intro k i hd hk hi hn hr
    obtain ⟨k, rfl⟩ := rounds hk
    have hlt : i < l.length := by omega
    simp only [spec_l4Order.l0]
    rw [if_pos (by omega), if_pos (by omega), if_pos (by omega), w64 (n := (i : Int) + 1) (by omega) (by omega), w64 (n := (l.length : Int) - 1) (by omega) (by omega), rd_in l i hlt, l1In_eq]
    simp only [Option.bind_some]
    have htk : l.take (i + 1) = l.take i ++ [l[i]] := by rw [List.take_succ_eq_append_getElem hlt]
    by_cases h1 : 0 ≤ l[i] ∧ l[i] ≤ (l.length : Int) - 1
    · rw [decide_eq_true h1, if_pos rfl, if_pos (by omega), Int.toNat_natCast, l1Has_eq (l.take i) (by rw [List.length_take]; omega) _ k (by rw [List.length_take]; omega)]
      simp only [Option.bind_some]
      by_cases hm : l[i] ∈ l.take i
      · refine ⟨false, by rw [decide_eq_true hm, if_pos rfl], (fun hf => by cases hf), fun ⟨_, ho⟩ => ?_⟩
        exfalso
        have h2 := List.take_append_drop (i + 1) l
        have h3 : ((l.take i ++ [l[i]]) ++ l.drop (i + 1)).Nodup := by rw [← htk, h2]; exact ho.1
        have h4 := (List.nodup_append.1 (List.nodup_append.1 h3).1).2.2 _ hm l[i] (by simp)
        exact h4 rfl
      · rw [decide_eq_false hm, if_neg (by simp)]
        refine ih k (i + 1) (by omega) (by omega) (by omega) ?_ ?_
        · rw [htk]
          refine List.nodup_append.2 ⟨hn, by simp, fun a ha b hb e => ?_⟩
          rw [List.mem_singleton] at hb
          exact hm (by rw [← hb, ← e]; exact ha)
        · intro x hx
          rw [htk] at hx
          rcases List.mem_append.1 hx with hx | hx
          · exact hr x hx
          · rw [List.mem_singleton.1 hx]
            omega
    · refine ⟨false, by rw [decide_eq_false h1, if_neg (by simp)], (fun hf => by cases hf), fun ⟨_, ho⟩ => ?_⟩
      exact absurd (by have := ho.2 l[i] (List.getElem_mem hlt); omega) h1

theorem specOrder_eq (l : List Int) (hl : l.length ≤ 1048576) (k : Nat) (hk : l.length + l.length < k) : ∃ b, spec_l4Order.f k l = some b ∧ (b = true ↔ l.length ≤ 9 ∧ Ord l) :=
  specOrder_l0 l hl l.length k 0 (by omega) hk (by omega) (by simp) (by simp)

/-- Both say the same of an order, with rounds enough. -/
theorem orders_same (l : List Int) (hl : l.length ≤ 1048576) (k : Nat) (hk : l.length + l.length < k) :
    ∃ b, spec_l4Order.f k l = some b ∧ impl_IsOrder.f k l = some b ∧ (b = true ↔ l.length ≤ 9 ∧ Ord l) := by
  obtain ⟨b, h1, h2⟩ := specOrder_eq l hl k hk
  obtain ⟨c, h3, h4⟩ := implIsOrder_eq l hl k hk
  have e : b = c := by
    rw [Bool.eq_iff_iff, h2, h4]
  exact ⟨b, h1, e ▸ h3, h2⟩

/-- Is it an order? -/
instance (l : List Int) : Decidable (Ord l) := inferInstanceAs (Decidable (l.Nodup ∧ _))
def isOrd (l : List Int) : Bool := decide (l.length ≤ 9 ∧ Ord l)
theorem isOrd_iff {l : List Int} : isOrd l = true ↔ l.length ≤ 9 ∧ Ord l := by
  unfold isOrd
  rw [decide_eq_true_iff]
theorem specOrd_tot (l : List Int) (hl : l.length ≤ 1048576) : Tot (fun k => spec_l4Order.f k l) (fun y => y = isOrd l) := Tot.at_ (l.length + l.length + 1) rfl (fun k hk => by
  obtain ⟨b, h1, h2⟩ := specOrder_eq l hl k (by omega)
  rw [h1, show b = isOrd l by rw [Bool.eq_iff_iff, h2, isOrd_iff]])
theorem implOrd_tot (l : List Int) (hl : l.length ≤ 1048576) : Tot (fun k => impl_IsOrder.f k l) (fun y => y = isOrd l) := Tot.at_ (l.length + l.length + 1) rfl (fun k hk => by
  obtain ⟨b, h1, h2⟩ := implIsOrder_eq l hl k (by omega)
  rw [h1, show b = isOrd l by rw [Bool.eq_iff_iff, h2, isOrd_iff]])

/-- One order, then another. -/
def thenV (a b : List Int) : List Int := b.map fun x => rd a x
theorem specThen_eq (a b : List Int) (hb : b.length ≤ 1048576) (hr : ∀ x ∈ b, 0 ≤ x ∧ x < a.length) (k : Nat) (hk : b.length < k) : spec_l9Then.f k a b = some (thenV a b) := by
  have hlen : (thenV a b).length = b.length := by simp [thenV]
  have h := loop_up (fun k (x : List Int × Int) => spec_l9Then.l0 k a x.1 b (b.length : Int) x.2) b.length 0
    (fun i => ((thenV a b).take i, (i : Int))) (thenV a b) (fun i k hi hB => by
    have hx := hr _ (List.getElem_mem hi)
    simp only [spec_l9Then.l0]
    rw [if_pos (by omega), if_pos (by omega), if_pos (by omega), rd_in b i hi, if_pos hx.1, if_pos hx.2, if_pos (by rw [List.length_take]; omega), w64 (n := (i : Int) + 1) (by omega) (by omega), List.take_succ_eq_append_getElem (by omega)]
    simp only [thenV, List.getElem_map]
    rfl) (fun k _ => by
    simp only [spec_l9Then.l0]
    rw [if_neg (by omega), List.take_of_length_le (by omega)]) k hk
  exact h
theorem implThen_eq (a b : List Int) (hb : b.length ≤ 1048576) (hr : ∀ x ∈ b, 0 ≤ x ∧ x < a.length) (k : Nat) (hk : b.length < k) : impl_then.f k a b = some (thenV a b) := by
  have hlen : (thenV a b).length = b.length := by simp [thenV]
  have h := loop_up (fun k (x : List Int × Int) => impl_then.l0 k a x.1 b (b.length : Int) x.2) b.length 0
    (fun i => ((thenV a b).take i, (i : Int))) (thenV a b) (fun i k hi hB => by
    have hx := hr _ (List.getElem_mem hi)
    simp only [impl_then.l0]
    rw [if_pos (by omega), if_pos (by omega), if_pos (by omega), rd_in b i hi, if_pos hx.1, if_pos hx.2, if_pos (by rw [List.length_take]; omega), w64 (n := (i : Int) + 1) (by omega) (by omega), List.take_succ_eq_append_getElem (by omega)]
    simp only [thenV, List.getElem_map]
    rfl) (fun k _ => by
    simp only [impl_then.l0]
    rw [if_neg (by omega), List.take_of_length_le (by omega)]) k hk
  exact h

def thenOV (a b : List Int) : List Int × Bool := if isOrd a = true ∧ isOrd b = true ∧ a.length = b.length then (thenV a b, true) else ([], false)
theorem specThenOrder_tot (a b : List Int) (ha : a.length ≤ 1048576) (hb : b.length ≤ 1048576) : Tot (fun k => spec_ThenOrder.f k a b) (fun y => y = thenOV a b) := by
  simp only [spec_ThenOrder.f]
  refine Tot.bind (specOrd_tot a ha) (fun y1 e1 => ?_)
  rw [e1]
  refine Tot.ite (fun h1 => ?_) (fun h1 => Tot.some_ (by unfold thenOV; rw [if_neg (fun h => h1 h.1)]))
  refine Tot.bind (specOrd_tot b hb) (fun y2 e2 => ?_)
  rw [e2]
  refine Tot.ite (fun h2 => ?_) (fun h2 => Tot.some_ (by unfold thenOV; rw [if_neg (fun h => h2 h.2.1)]))
  refine Tot.ite (fun h3 => ?_) (fun h3 => Tot.some_ (by unfold thenOV; rw [if_neg (fun h => h3 (by rw [h.2.2]))]))
  have ho := (isOrd_iff.1 h2).2.2
  refine Tot.bind (Q := fun y => y = thenV a b) (Tot.at_ (b.length + 1) rfl (fun k hk => specThen_eq a b hb (fun x hx => by have := ho x hx; omega) k (by omega))) (fun y3 e3 => Tot.some_ ?_)
  unfold thenOV
  rw [e3, if_pos ⟨h1, h2, by omega⟩]
theorem implThenOrder_tot (a b : List Int) (ha : a.length ≤ 1048576) (hb : b.length ≤ 1048576) : Tot (fun k => impl_ThenOrder.f k a b) (fun y => y = thenOV a b) := by
  simp only [impl_ThenOrder.f]
  refine Tot.bind (implOrd_tot a ha) (fun y1 e1 => ?_)
  rw [e1]
  refine Tot.ite (fun h1 => ?_) (fun h1 => Tot.some_ (by unfold thenOV; rw [if_neg (fun h => h1 h.1)]))
  refine Tot.bind (implOrd_tot b hb) (fun y2 e2 => ?_)
  rw [e2]
  refine Tot.ite (fun h2 => ?_) (fun h2 => Tot.some_ (by unfold thenOV; rw [if_neg (fun h => h2 h.2.1)]))
  refine Tot.ite (fun h3 => ?_) (fun h3 => Tot.some_ (by unfold thenOV; rw [if_neg (fun h => h3 (by rw [h.2.2]))]))
  have ho := (isOrd_iff.1 h2).2.2
  refine Tot.bind (Q := fun y => y = thenV a b) (Tot.at_ (b.length + 1) rfl (fun k hk => implThen_eq a b hb (fun x hx => by have := ho x hx; omega) k (by omega))) (fun y3 e3 => Tot.some_ ?_)
  unfold thenOV
  rw [e3, if_pos ⟨h1, h2, by omega⟩]
theorem thenOV_length (a b : List Int) : (thenOV a b).1.length ≤ b.length := by
  unfold thenOV
  split
  · simp [thenV]
  · simp

/-- Cycles of one text are those of the other. -/
theorem cycles_twin (l : List Int) : ∀ k, (∀ (s : List Bool) (out : List (List Int)) (n i : Int), spec_l9Cycles.l0 k l s out n i = impl_cycles.l0 k l out s n i) ∧
    (∀ (s : List Bool) (out : List (List Int)) (c : List Int) (j n i : Int), spec_l9Cycles.l1 k l s out c j n i = impl_cycles.l1 k l out s c j n i) := by
  intro k
  induction k with
  | zero => exact ⟨fun _ _ _ _ => rfl, fun _ _ _ _ _ _ => rfl⟩
  | succ k ih =>
    refine ⟨fun s out n i => ?_, fun s out c j n i => ?_⟩
    · simp only [spec_l9Cycles.l0, impl_cycles.l0, ih.1, ih.2]
    · simp only [spec_l9Cycles.l1, impl_cycles.l1, ih.1, ih.2]
theorem cycles_same (l : List Int) (k : Nat) : spec_l9Cycles.f k l = impl_cycles.f k l := by
  simp only [spec_l9Cycles.f, impl_cycles.f, (cycles_twin l k).1]

theorem count_mark (s : List Bool) (j : Nat) (hj : j < s.length) (h : s[j] = false) : (s.set j true).count false + 1 = s.count false := by
  rw [List.count_set hj, h]
  have : 0 < s.count false := List.count_pos_iff.2 (by rw [← h]; exact List.getElem_mem hj)
  simp
  omega
/-- The cycles of an order of at most nine: none is empty, none is longer than nine. -/
def CycOk (y : List (List Int)) : Prop := ∀ c ∈ y, 1 ≤ c.length ∧ c.length ≤ 9
theorem cycles_l (l : List Int) (h9 : l.length ≤ 9) (hr : ∀ x ∈ l, 0 ≤ x ∧ x < l.length) : ∀ (m : Nat),
    (∀ (s : List Bool) (out : List (List Int)) (c : List Int) (j : Int) (i : Nat), (l.length - i) + s.count false ≤ m → i < l.length → s.length = l.length → 0 ≤ j ∧ j < l.length → CycOk out → out.length ≤ i → c.length + s.count false ≤ 9 → (c ≠ [] ∨ rdOf false s j = false) →
      Tot (fun k => impl_cycles.l1 k l out s c j (l.length : Int) (i : Int)) (fun y => CycOk y ∧ y.length ≤ l.length)) ∧
    (∀ (s : List Bool) (out : List (List Int)) (i : Nat), (l.length - i) + s.count false ≤ m → i ≤ l.length → s.length = l.length → CycOk out → out.length ≤ i →
      Tot (fun k => impl_cycles.l0 k l out s (l.length : Int) (i : Int)) (fun y => CycOk y ∧ y.length ≤ l.length)) := by
  intro m
  induction m with
  | zero =>
    refine ⟨fun s out c j i hm hi _ _ _ _ _ _ => by omega, fun s out i hm hi hs ho hl => ?_⟩
    refine Tot.up ?_
    simp only [impl_cycles.l0]
    exact Tot.neg (by omega) (Tot.some_ ⟨ho, by omega⟩)
  | succ m ih =>
    have H1 : ∀ (s : List Bool) (out : List (List Int)) (c : List Int) (j : Int) (i : Nat), (l.length - i) + s.count false ≤ m + 1 → i < l.length → s.length = l.length → 0 ≤ j ∧ j < l.length → CycOk out → out.length ≤ i → c.length + s.count false ≤ 9 → (c ≠ [] ∨ rdOf false s j = false) →
        Tot (fun k => impl_cycles.l1 k l out s c j (l.length : Int) (i : Int)) (fun y => CycOk y ∧ y.length ≤ l.length) := by
      intro s out c j i hm hi hs hj ho hl hc hne
      obtain ⟨j, rfl⟩ := Int.eq_ofNat_of_zero_le hj.1
      refine Tot.up ?_
      simp only [impl_cycles.l1]
      refine Tot.pos (by omega) (Tot.pos (by omega) (Tot.ite (fun hd => ?_) (fun hd => ?_)))
      · have hc0 : c ≠ [] := by
          rcases hne with h | h
          · exact h
          · rw [h] at hd
            exact absurd hd (by simp)
        have hc1 := List.length_pos_iff.2 hc0
        refine Tot.pos (by omega) ?_
        rw [w64 (n := (i : Int) + 1) (by omega) (by omega)]
        refine ih.2 s (out ++ [c]) (i + 1) (by omega) (by omega) hs (fun x hx => ?_) (by rw [List.length_append, List.length_singleton]; omega)
        rcases List.mem_append.1 hx with hx | hx
        · exact ho x hx
        · rw [List.mem_singleton.1 hx]
          omega
      · refine Tot.pos (by omega) (Tot.pos (by omega) ?_)
        rw [Bool.not_eq_true] at hd
        unfold rdOf at hd
        rw [Int.toNat_natCast, getDin s false j (by omega)] at hd
        have h1 := count_mark s j (by omega) hd
        rw [Int.toNat_natCast]
        have h2 := hr _ (rd_mem l j (by omega))
        exact ih.1 (s.set j true) out (c ++ [(j : Int)]) (rd l (j : Int)) i (by omega) hi (by rw [List.length_set]; exact hs) h2 ho hl (by rw [List.length_append, List.length_singleton]; omega) (.inl (by simp))
    refine ⟨H1, fun s out i hm hi hs ho hl => ?_⟩
    refine Tot.up ?_
    simp only [impl_cycles.l0]
    by_cases hlt : i < l.length
    · refine Tot.pos (by omega) (Tot.pos (by omega) (Tot.pos (by omega) (Tot.ite (fun hd => ?_) (fun hd => ?_))))
      · rw [w64 (n := (i : Int) + 1) (by omega) (by omega)]
        exact ih.2 s out (i + 1) (by omega) (by omega) hs ho (by omega)
      · rw [Bool.not_eq_true] at hd
        have h3 := List.count_le_length (a := false) (l := s)
        exact H1 s out [] i i hm hlt hs (by omega) ho hl (by simp; omega) (.inr hd)
    · exact Tot.neg (by omega) (Tot.some_ ⟨ho, by omega⟩)
theorem cycles_tot (l : List Int) (h9 : l.length ≤ 9) (ho : Ord l) : ∃ y : List (List Int), (CycOk y ∧ y.length ≤ 9) ∧ Tot (fun k => spec_l9Cycles.f k l) (fun z => z = y) ∧ Tot (fun k => impl_cycles.f k l) (fun z => z = y) := by
  have h : Tot (fun k => impl_cycles.f k l) (fun y => CycOk y ∧ y.length ≤ 9) := by
    simp only [impl_cycles.f]
    refine Tot.pos (by omega) (Tot.pos (by omega) ?_)
    rw [Int.toNat_natCast]
    refine ((cycles_l l h9 ho.2 (l.length + l.length)).2 (List.replicate l.length false) [] 0 (by simp) (by omega) (by simp) (fun x hx => by simp at hx) (by simp)).imp (fun y hy => ⟨hy.1, by omega⟩)
  obtain ⟨y, hy, ht⟩ := h.val
  refine ⟨y, hy, ?_, ht⟩
  simp only [cycles_same]
  exact ht

/-- An order of the first n numbers, as a function. -/
def PermN (n : Nat) (f : Nat → Nat) : Prop := (∀ i, i < n → f i < n) ∧ (∀ i j, i < n → j < n → f i = f j → i = j) ∧ (∀ j, j < n → ∃ i, i < n ∧ f i = j)
def cutN (n : Nat) (f : Nat → Nat) : Nat → Nat := fun i => if f i = n then f n else f i
def parN : Nat → (Nat → Nat) → Bool
  | 0, _ => false
  | n + 1, f => Bool.xor (parN n (cutN n f)) (f n != n)
theorem parN_congr : ∀ (n : Nat) (f g : Nat → Nat), (∀ i, i < n → f i = g i) → parN n f = parN n g
  | 0, _, _, _ => rfl
  | n + 1, f, g, h => by
    simp only [parN]
    rw [h n (by omega), parN_congr n (cutN n f) (cutN n g) (fun i hi => by simp only [cutN]; rw [h i (by omega), h n (by omega)])]
theorem PermN.cut {n : Nat} {f : Nat → Nat} (h : PermN (n + 1) f) : PermN n (cutN n f) := by
  obtain ⟨h1, h2, h3⟩ := h
  refine ⟨fun i hi => ?_, fun i j hi hj e => ?_, fun j hj => ?_⟩
  · have h4 := h1 i (by omega)
    have h5 := h1 n (by omega)
    simp only [cutN]
    split
    · rename_i h6
      have : f n ≠ n := fun h7 => by
        have := h2 i n (by omega) (by omega) (by rw [h6, h7])
        omega
      omega
    · omega
  · simp only [cutN] at e
    split at e <;> split at e
    · rename_i h4 h5
      exact h2 i j (by omega) (by omega) (by rw [h4, h5])
    · have := h2 n j (by omega) (by omega) e
      omega
    · have := h2 i n (by omega) (by omega) e
      omega
    · exact h2 i j (by omega) (by omega) e
  · obtain ⟨i, hi, e⟩ := h3 j (by omega)
    by_cases hn : i = n
    · subst hn
      obtain ⟨z, hz, e2⟩ := h3 i (by omega)
      have hzi : z ≠ i := fun h => by
        subst h
        omega
      refine ⟨z, by omega, ?_⟩
      simp only [cutN]
      rw [if_pos e2]
      exact e
    · refine ⟨i, by omega, ?_⟩
      simp only [cutN]
      rw [if_neg (by omega)]
      exact e
theorem PermN.comp {n : Nat} {f g : Nat → Nat} (hf : PermN n f) (hg : PermN n g) : PermN n (fun i => f (g i)) := by
  refine ⟨fun i hi => hf.1 _ (hg.1 i hi), fun i j hi hj e => hg.2.1 i j hi hj (hf.2.1 _ _ (hg.1 i hi) (hg.1 j hj) e), fun j hj => ?_⟩
  obtain ⟨k, hk, e⟩ := hf.2.2 j hj
  obtain ⟨i, hi, e2⟩ := hg.2.2 k hk
  exact ⟨i, hi, by simp only; rw [e2, e]⟩
def swN (x y : Nat) : Nat → Nat := fun i => if i = x then y else if i = y then x else i
theorem swN_l (x y : Nat) : swN x y x = y := if_pos rfl
theorem swN_r {x y : Nat} (h : x ≠ y) : swN x y y = x := (if_neg h.symm).trans (if_pos rfl)
theorem swN_o {x y i : Nat} (h : i ≠ x) (h2 : i ≠ y) : swN x y i = i := (if_neg h).trans (if_neg h2)
theorem swN_swN (x y i : Nat) : swN x y (swN x y i) = i := by
  by_cases h : i = x
  · subst h
    rw [swN_l]
    by_cases h2 : i = y
    · subst h2
      exact swN_l _ _
    · exact swN_r h2
  · by_cases h2 : i = y
    · subst h2
      rw [swN_r (fun e => h e.symm), swN_l]
    · rw [swN_o h h2, swN_o h h2]
theorem bneT {a b : Nat} (h : a ≠ b) : (a != b) = true := bne_iff_ne.2 h
theorem bneF {a b : Nat} (h : a = b) : (a != b) = false := by rw [h]; exact bne_self_eq_false b
theorem swN_comm (x y i : Nat) : swN x y i = swN y x i := by
  simp only [swN]
  split <;> split <;> omega
theorem swN_lt {n x y : Nat} (hx : x < n) (hy : y < n) (i : Nat) (hi : i < n) : swN x y i < n := by
  simp only [swN]
  split
  · exact hy
  · split <;> omega
theorem swN_perm {n x y : Nat} (hx : x < n) (hy : y < n) : PermN n (swN x y) := by
  refine ⟨fun i hi => swN_lt hx hy i hi, fun i j _ _ e => ?_, fun j hj => ⟨swN x y j, swN_lt hx hy j hj, swN_swN x y j⟩⟩
  rw [← swN_swN x y i, e, swN_swN]
theorem parN_sw : ∀ (n : Nat) (f : Nat → Nat) (x y : Nat), PermN n f → x < y → y < n → parN n (fun i => f (swN x y i)) = !parN n f := by
  intro n
  induction n with
  | zero =>
    intro f x y _ _ hy
    omega
  | succ n ih =>
    intro f x y hf hxy hy
    have hc := hf.cut
    simp only [parN]
    by_cases hyn : y < n
    · have e1 : swN x y n = n := swN_o (by omega) (by omega)
      rw [e1, parN_congr n (cutN n fun i => f (swN x y i)) (fun i => cutN n f (swN x y i)) (fun i hi => by simp only [cutN]; rw [e1]), ih (cutN n f) x y hc hxy hyn]
      cases parN n (cutN n f) <;> cases (f n != n) <;> rfl
    · have hyn : y = n := by omega
      subst hyn
      have e1 : swN x y y = x := swN_r (by omega)
      have e2 : swN x y x = y := swN_l x y
      have e3 : ∀ i, i ≠ x → i ≠ y → swN x y i = i := fun i h1 h2 => swN_o h1 h2
      by_cases hA : f y = y
      · have hfx : f x ≠ y := fun h => by
          have := hf.2.1 x y (by omega) (by omega) (by rw [h, hA])
          omega
        rw [parN_congr y (cutN y fun i => f (swN x y i)) (cutN y f) (fun i hi => by
          simp only [cutN]
          by_cases hi2 : i = x
          · subst hi2
            rw [e2, e1, if_pos hA, if_neg hfx]
          · have : f i ≠ y := fun h => by
              have := hf.2.1 i y (by omega) (by omega) (by rw [h, hA])
              omega
            rw [e3 i hi2 (by omega), if_neg this, if_neg this])]
        simp only [e1]
        rw [bneT hfx, bneF hA]
        cases parN y (cutN y f) <;> rfl
      · by_cases hB : f x = y
        · rw [parN_congr y (cutN y fun i => f (swN x y i)) (cutN y f) (fun i hi => by
            simp only [cutN]
            by_cases hi2 : i = x
            · subst hi2
              rw [e2, if_neg hA, if_pos hB]
            · have : f i ≠ y := fun h => hi2 (hf.2.1 i x (by omega) (by omega) (by rw [h, hB]))
              rw [e3 i hi2 (by omega), if_neg this, if_neg this])]
          simp only [e1]
          rw [bneF hB, bneT hA]
          cases parN y (cutN y f) <;> rfl
        · obtain ⟨z, hz, e4⟩ := hf.2.2 y (by omega)
          have hzx : z ≠ x := fun h => hB (by rw [← h, e4])
          have hzy : z ≠ y := fun h => hA (by rw [h] at e4; exact e4)
          have hIH : parN y (fun i => cutN y f (swN x z i)) = !parN y (cutN y f) := by
            by_cases hlt : x < z
            · exact ih (cutN y f) x z hc hlt (by omega)
            · have := ih (cutN y f) z x hc (by omega) (by omega)
              rw [← this]
              exact parN_congr _ _ _ (fun i _ => by rw [swN_comm])
          rw [parN_congr y (cutN y fun i => f (swN x y i)) (fun i => cutN y f (swN x z i)) (fun i hi => by
            simp only [cutN]
            by_cases hi2 : i = x
            · subst hi2
              have e5 : swN i z i = z := swN_l i z
              rw [e2, if_neg hA, e5, if_pos e4]
            · by_cases hi3 : i = z
              · subst hi3
                have e5 : swN x i i = x := swN_r (fun e => hi2 e.symm)
                rw [e3 i hi2 hzy, if_pos e4, e1, e5, if_neg hB]
              · have e5 : swN x z i = i := swN_o hi2 hi3
                have : f i ≠ y := fun h => hi3 (hf.2.1 i z (by omega) (by omega) (by rw [h, e4]))
                rw [e3 i hi2 (by omega), e5, if_neg this, if_neg this]), hIH]
          simp only [e1]
          rw [bneT hB, bneT hA]
          cases parN y (cutN y f) <;> rfl
theorem cutN_id (n : Nat) : ∀ i, i < n → cutN n (fun i => i) i = i := fun i hi => by
  simp only [cutN]
  rw [if_neg (by omega)]
theorem parN_id : ∀ n, parN n (fun i => i) = false
  | 0 => rfl
  | n + 1 => by
    simp only [parN]
    rw [parN_congr n _ (fun i => i) (cutN_id n), parN_id n]
    simp
theorem idN_perm (n : Nat) : PermN n (fun i => i) := ⟨fun _ h => h, fun _ _ _ _ h => h, fun j hj => ⟨j, hj, rfl⟩⟩
theorem parN_comp : ∀ (n : Nat) (f g : Nat → Nat), PermN n f → PermN n g → parN n (fun i => f (g i)) = Bool.xor (parN n f) (parN n g) := by
  intro n
  induction n with
  | zero => intro f g _ _; rfl
  | succ n ih =>
    have key : ∀ (f g : Nat → Nat), PermN (n + 1) f → PermN (n + 1) g → g n = n → parN (n + 1) (fun i => f (g i)) = Bool.xor (parN (n + 1) f) (parN (n + 1) g) := by
      intro f g hf hg e
      have hgn : ∀ i, i < n → g i ≠ n := fun i hi h => by
        have := hg.2.1 i n (by omega) (by omega) (by rw [h, e])
        omega
      simp only [parN]
      rw [e, parN_congr n (cutN n fun i => f (g i)) (fun i => cutN n f (cutN n g i)) (fun i hi => by
        have e2 : cutN n g i = g i := if_neg (hgn i hi)
        rw [e2]
        simp only [cutN]
        rw [e]), ih _ _ hf.cut hg.cut, bneF (rfl : n = n)]
      cases parN n (cutN n f) <;> cases parN n (cutN n g) <;> cases (f n != n) <;> rfl
    intro f g hf hg
    by_cases e : g n = n
    · exact key f g hf hg e
    · have hm := hg.1 n (by omega)
      have hs : PermN (n + 1) (swN (g n) n) := swN_perm hm (by omega)
      have hg' := hs.comp hg
      have e1 : swN (g n) n (g n) = n := swN_l _ _
      have k1 := key _ _ (hf.comp hs) hg' e1
      have k2 := key _ _ ((idN_perm (n + 1)).comp hs) hg' e1
      simp only [swN_swN] at k1 k2
      rw [parN_sw (n + 1) f (g n) n hf (by omega) (by omega)] at k1
      have k3 : parN (n + 1) (fun i => swN (g n) n i) = !parN (n + 1) (fun i => i) := parN_sw (n + 1) (fun i => i) (g n) n (idN_perm _) (by omega) (by omega)
      rw [k3, parN_id] at k2
      rw [k1, k2]
      cases parN (n + 1) f <;> cases parN (n + 1) (fun i => swN (g n) n (g i)) <;> rfl

/-- A cycle: each goes to the one behind it, the last one to the first. -/
def CycN (f : Nat → Nat) : List Nat → Prop
  | [] => False
  | a :: t => (a :: t).map f = t ++ [a]
theorem CycN.mem {f : Nat → Nat} : ∀ {c : List Nat}, CycN f c → ∀ x ∈ c, f x ∈ c
  | a :: t, h, x, hx => by
    have h1 : f x ∈ (a :: t).map f := List.mem_map.2 ⟨x, hx, rfl⟩
    have h2 : (a :: t).map f = t ++ [a] := h
    rw [h2] at h1
    rcases List.mem_append.1 h1 with h1 | h1
    · exact List.mem_cons_of_mem _ h1
    · rw [List.mem_singleton.1 h1]
      exact List.mem_cons_self
theorem CycN.congr {f g : Nat → Nat} : ∀ {c : List Nat}, CycN f c → (∀ x ∈ c, g x = f x) → CycN g c
  | a :: t, h, e => by
    have h2 : (a :: t).map f = t ++ [a] := h
    show (a :: t).map g = t ++ [a]
    rw [← h2]
    exact List.map_congr_left e
theorem CycN.cut {n : Nat} {f : Nat → Nat} (u v : List Nat) (h : CycN f (u ++ n :: v)) (hn : n ∉ u ++ v) (hne : u ++ v ≠ []) : CycN (cutN n f) (u ++ v) ∧ f n ≠ n := by
  have key : ∀ l : List Nat, l.map (cutN n f) = (l.map f).map (fun y => if y = n then f n else y) := fun l => by
    rw [List.map_map]
    rfl
  have key2 : ∀ l : List Nat, n ∉ l → l.map (fun y => if y = n then f n else y) = l := fun l hl => by
    have : l.map (fun y => if y = n then f n else y) = l.map id := List.map_congr_left (fun x hx => by
      have : x ≠ n := fun e => hl (by rw [← e]; exact hx)
      simp [this])
    rw [this, List.map_id]
  cases u with
  | nil =>
    cases v with
    | nil => exact absurd rfl hne
    | cons b v =>
      have h1 : f n :: f b :: v.map f = b :: v ++ [n] := h
      simp only [List.cons_append, List.cons.injEq] at h1
      obtain ⟨h1, h2⟩ := h1
      have hb : f n ≠ n := fun e => hn (by simp; exact .inl (by omega))
      have hv : n ∉ v := fun e => hn (by simp [e])
      refine ⟨?_, hb⟩
      show (b :: v).map (cutN n f) = v ++ [b]
      rw [key, List.map_cons, h2, List.map_append, key2 v hv]
      simp [h1]
  | cons a u =>
    have h1 : (a :: u).map f ++ f n :: v.map f = u ++ n :: v ++ [a] := by
      have h0 : (a :: (u ++ n :: v)).map f = (u ++ n :: v) ++ [a] := h
      rw [← h0]
      simp
    have h2 : ((a :: u).map f) ++ (f n :: v.map f) = (u ++ [n]) ++ (v ++ [a]) := by rw [h1]; simp
    obtain ⟨h3, h4⟩ := List.append_inj h2 (by simp)
    have hu : n ∉ u := fun e => hn (by simp [e])
    have hv : n ∉ v := fun e => hn (by simp [e])
    have ha : a ≠ n := fun e => hn (by simp [e])
    have hfn : f n ≠ n := fun e => by
      cases v with
      | nil =>
        simp only [List.map_nil, List.nil_append, List.cons.injEq, and_true] at h4
        omega
      | cons b v =>
        simp only [List.cons_append, List.cons.injEq] at h4
        exact hv (by rw [← e, h4.1]; simp)
    refine ⟨?_, hfn⟩
    show (a :: (u ++ v)).map (cutN n f) = u ++ v ++ [a]
    rw [← List.cons_append, List.map_append, key (a :: u), h3, List.map_append, key2 u hu]
    have h5 : v.map (cutN n f) = v.map f := by
      rw [key, key2]
      intro e
      have : n ∈ f n :: v.map f := List.mem_cons_of_mem _ e
      rw [h4] at this
      rcases List.mem_append.1 this with h6 | h6
      · exact hv h6
      · exact ha (List.mem_singleton.1 h6).symm
    rw [h5]
    simp only [List.map_cons, List.map_nil, if_true, List.append_assoc, List.singleton_append]
    rw [h4]
theorem cyc_par : ∀ (n : Nat) (f : Nat → Nat) (L : List (List Nat)), L.flatten.Nodup → (∀ x, x ∈ L.flatten ↔ x < n) → (∀ c ∈ L, CycN f c) → L.length ≤ n ∧ parN n f = decide ((n - L.length) % 2 = 1) := by
  intro n
  induction n with
  | zero =>
    intro f L hd hm hc
    cases L with
    | nil => exact ⟨Nat.le_refl _, rfl⟩
    | cons c L =>
      have h1 := hc c (by simp)
      cases c with
      | nil => exact h1.elim
      | cons a t => exact absurd ((hm a).1 (by simp)) (by omega)
  | succ n ih =>
    intro f L hd hm hc
    obtain ⟨c, hcL, hnc⟩ := List.mem_flatten.1 ((hm n).2 (by omega))
    obtain ⟨L1, L2, rfl⟩ := List.append_of_mem hcL
    obtain ⟨u, v, rfl⟩ := List.append_of_mem hnc
    have hp : (L1 ++ (u ++ n :: v) :: L2).flatten.Perm (n :: (L1.flatten ++ ((u ++ v) ++ L2.flatten))) := by
      rw [List.flatten_append, List.flatten_cons]
      have h1 : ((u ++ n :: v) ++ L2.flatten).Perm (n :: ((u ++ v) ++ L2.flatten)) := List.Perm.append_right L2.flatten (List.perm_middle)
      exact (List.Perm.append_left L1.flatten h1).trans List.perm_middle
    have hd2 := List.nodup_cons.1 (hp.nodup_iff.1 hd)
    have hm2 : ∀ x, x ∈ L1.flatten ++ ((u ++ v) ++ L2.flatten) ↔ x < n := by
      intro x
      have h1 := hm x
      rw [hp.mem_iff, List.mem_cons] at h1
      constructor
      · intro h2
        have h3 := h1.1 (.inr h2)
        have : x ≠ n := fun e => hd2.1 (by rw [← e]; exact h2)
        omega
      · intro h2
        rcases h1.2 (by omega) with h3 | h3
        · omega
        · exact h3
    have hothers : ∀ d, d ∈ L1 ∨ d ∈ L2 → CycN (cutN n f) d := by
      intro d hdd
      have h1 : CycN f d := hc d (by simp only [List.mem_append, List.mem_cons]; rcases hdd with h | h <;> simp [h])
      have hnd : n ∉ d := fun h => hd2.1 (by
        simp only [List.mem_append, List.mem_flatten]
        rcases hdd with h2 | h2
        · exact .inl ⟨d, h2, h⟩
        · exact .inr (.inr ⟨d, h2, h⟩))
      refine h1.congr (fun x hx => ?_)
      simp only [cutN]
      rw [if_neg (fun e => hnd (by rw [← e]; exact h1.mem x hx))]
    have hnuv : n ∉ u ++ v := fun h => hd2.1 (by simp only [List.mem_append] at h ⊢; exact .inr (.inl h))
    have hcc := hc (u ++ n :: v) (by simp)
    simp only [parN, List.length_append, List.length_cons]
    by_cases huv : u ++ v = []
    · have h1 := ih (cutN n f) (L1 ++ L2) (by
        have := hd2.2
        rw [huv] at this
        rw [List.flatten_append]
        exact this) (fun x => by
        have := hm2 x
        rw [huv] at this
        rw [List.flatten_append]
        exact this) (fun d hdd => hothers d (List.mem_append.1 hdd))
      have hu : u = [] := (List.append_eq_nil_iff.1 huv).1
      have hv : v = [] := (List.append_eq_nil_iff.1 huv).2
      subst hu hv
      have h2 : [f n] = [] ++ [n] := hcc
      have h3 : f n = n := by simpa using h2
      rw [List.length_append] at h1
      refine ⟨by omega, ?_⟩
      rw [h1.2, bneF h3, Bool.xor_false, show n + 1 - (L1.length + (L2.length + 1)) = n - (L1.length + L2.length) by omega]
    · obtain ⟨h3, h4⟩ := hcc.cut u v hnuv huv
      have h1 := ih (cutN n f) (L1 ++ (u ++ v) :: L2) (by
        rw [List.flatten_append, List.flatten_cons]
        exact hd2.2) (fun x => by
        rw [List.flatten_append, List.flatten_cons]
        exact hm2 x) (fun d hdd => by
        simp only [List.mem_append, List.mem_cons] at hdd
        rcases hdd with h | h | h
        · exact hothers d (.inl h)
        · rw [h]
          exact h3
        · exact hothers d (.inr h))
      rw [List.length_append, List.length_cons] at h1
      refine ⟨by omega, ?_⟩
      rw [h1.2, bneT h4, Bool.xor_true, show n + 1 - (L1.length + (L2.length + 1)) = n - (L1.length + (L2.length + 1)) + 1 by omega]
      generalize n - (L1.length + (L2.length + 1)) = q
      by_cases hq : q % 2 = 1
      · rw [decide_eq_true hq, decide_eq_false (by omega)]
        rfl
      · rw [decide_eq_false hq, decide_eq_true (by omega)]
        rfl

/-- What an order does, on numbers from 0 on. -/
def fnO (l : List Int) (i : Nat) : Nat := (rd l (i : Int)).toNat
theorem fnO_cast (l : List Int) (hr : ∀ x ∈ l, 0 ≤ x ∧ x < l.length) (i : Nat) (hi : i < l.length) : rd l (i : Int) = ((fnO l i : Nat) : Int) ∧ fnO l i < l.length := by
  have h := hr _ (rd_mem l i hi)
  unfold fnO
  omega
theorem fnO_get (l : List Int) (i : Nat) (hi : i < l.length) : fnO l i = l[i].toNat := by
  unfold fnO
  rw [rd_in l i hi]
theorem nodup_at {α : Type} {l : List α} (h : l.Nodup) {i j : Nat} {hi : i < l.length} {hj : j < l.length} (e : l[i] = l[j]) : i = j := by
  rw [List.nodup_iff_pairwise_ne, List.pairwise_iff_getElem] at h
  rcases Nat.lt_trichotomy i j with h1 | h1 | h1
  · exact absurd e (h i j hi hj h1)
  · exact h1
  · exact absurd e.symm (h j i hj hi h1)
theorem fnO_perm (l : List Int) (ho : Ord l) : PermN l.length (fnO l) := by
  refine ⟨fun i hi => (fnO_cast l ho.2 i hi).2, fun i j hi hj e => ?_, fun j hj => ?_⟩
  · have h1 := (fnO_cast l ho.2 i hi).1
    have h2 := (fnO_cast l ho.2 j hj).1
    rw [rd_in l i hi] at h1
    rw [rd_in l j hj] at h2
    exact nodup_at ho.1 (by rw [h1, h2, e])
  · obtain ⟨i, hi, e⟩ := List.mem_iff_getElem.1 (ho.has (j : Int) (by omega) (by omega))
    refine ⟨i, hi, ?_⟩
    rw [fnO_get l i hi, e]
    omega
def castL (c : List Nat) : List Int := c.map fun (x : Nat) => (x : Int)
def castLL (O : List (List Nat)) : List (List Int) := O.map castL
theorem castLL_snoc (O : List (List Nat)) (C : List Nat) : castLL O ++ [castL C] = castLL (O ++ [C]) := by simp [castLL]
theorem castL_snoc (C : List Nat) (j : Nat) : castL C ++ [(j : Int)] = castL (C ++ [j]) := by simp [castL]
/-- What a row of bools marks. -/
def MarkN (n : Nat) (s : List Bool) (M : List Nat) : Prop := s.length = n ∧ M.Nodup ∧ (∀ x, x ∈ M → x < n) ∧ ∀ x, x < n → (s.getD x false = true ↔ x ∈ M)
theorem MarkN.set {n : Nat} {s : List Bool} {M : List Nat} (h : MarkN n s M) (j : Nat) (hj : j < n) (hs : s.getD j false = false) : MarkN n (s.set j true) (M ++ [j]) := by
  obtain ⟨h1, h2, h3, h4⟩ := h
  have hjM : j ∉ M := fun e => by
    rw [(h4 j hj).2 e] at hs
    cases hs
  have hp : (M ++ [j]).Perm (j :: M) := List.perm_append_comm
  refine ⟨by rw [List.length_set]; exact h1, hp.nodup_iff.2 (List.nodup_cons.2 ⟨hjM, h2⟩), fun x hx => ?_, fun x hx => ?_⟩
  · rcases List.mem_cons.1 (hp.mem_iff.1 hx) with e | e
    · omega
    · exact h3 x e
  · rw [hp.mem_iff, List.mem_cons]
    by_cases e : x = j
    · subst e
      rw [getD_set _ _ _ _ (by omega)]
      simp
    · have h5 : (s.set j true).getD x false = s.getD x false := by
        rw [List.getD_eq_getElem?_getD, List.getElem?_set_ne (fun h => e h.symm), ← List.getD_eq_getElem?_getD]
      rw [h5, h4 x hx]
      constructor
      · exact .inr
      · rintro (h | h)
        · exact absurd h e
        · exact h
/-- All of an order, cycle by cycle. -/
def DecN (n : Nat) (f : Nat → Nat) (O : List (List Nat)) : Prop := O.flatten.Nodup ∧ (∀ x, x ∈ O.flatten ↔ x < n) ∧ ∀ c ∈ O, CycN f c
theorem CycN.pre {f : Nat → Nat} : ∀ {c : List Nat}, CycN f c → ∀ x ∈ c, ∃ p ∈ c, f p = x
  | a :: t, h, x, hx => by
    have h2 : (a :: t).map f = t ++ [a] := h
    have h3 : x ∈ (a :: t).map f := by
      rw [h2]
      rcases List.mem_cons.1 hx with e | e
      · simp [e]
      · simp [e]
    obtain ⟨p, hp, e⟩ := List.mem_map.1 h3
    exact ⟨p, hp, e⟩
theorem cyc_close (n : Nat) (f : Nat → Nat) (hf : PermN n f) (O : List (List Nat)) (hO : ∀ d ∈ O, CycN f d) (a : Nat) (t : List Nat) (j : Nat) (hnd : (O.flatten ++ a :: t).Nodup) (hlt : ∀ x, x ∈ O.flatten ++ a :: t → x < n)
    (hp : (a :: t).map f = t ++ [j]) (hj : j ∈ O.flatten ++ a :: t) : j = a := by
  have hlast : ∃ z, z ∈ a :: t ∧ f z = j := by
    have : j ∈ (a :: t).map f := by rw [hp]; simp
    obtain ⟨z, hz, e⟩ := List.mem_map.1 this
    exact ⟨z, hz, e⟩
  obtain ⟨z, hz, ez⟩ := hlast
  have hzn := hlt z (List.mem_append.2 (.inr hz))
  have hdis : ∀ x, x ∈ O.flatten → x ∈ a :: t → False := fun x h1 h2 => by
    have := List.nodup_append.1 hnd
    exact this.2.2 x h1 x h2 rfl
  rcases List.mem_append.1 hj with h | h
  · obtain ⟨d, hd, hjd⟩ := List.mem_flatten.1 h
    obtain ⟨p, hpd, e⟩ := (hO d hd).pre j hjd
    have hpO : p ∈ O.flatten := List.mem_flatten.2 ⟨d, hd, hpd⟩
    have : p = z := hf.2.1 p z (hlt p (List.mem_append.2 (.inl hpO))) hzn (by rw [e, ez])
    exact (hdis p hpO (by rw [this]; exact hz)).elim
  · rcases List.mem_cons.1 h with h | h
    · exact h
    · have hnd2 : (a :: t).Nodup := (List.nodup_append.1 hnd).2.1
      have hmap : ((a :: t).map f).Nodup := by
        rw [List.nodup_iff_pairwise_ne, List.pairwise_map]
        refine (List.nodup_iff_pairwise_ne.1 hnd2).imp_of_mem (fun {x y} hx hy hxy e => hxy ?_)
        exact hf.2.1 x y (hlt x (List.mem_append.2 (.inr hx))) (hlt y (List.mem_append.2 (.inr hy))) e
      rw [hp] at hmap
      exact ((List.nodup_append.1 hmap).2.2 j h j (by simp) rfl).elim
theorem cycles_dec_l (l : List Int) (h9 : l.length ≤ 9) (ho : Ord l) : ∀ (m : Nat),
    (∀ (s : List Bool) (O : List (List Nat)) (C : List Nat) (j i : Nat), (l.length - i) + s.count false ≤ m → i < l.length → MarkN l.length s (O.flatten ++ C) → (∀ d ∈ O, CycN (fnO l) d) → (∀ x, x < i → x ∈ O.flatten) → j < l.length → O.length ≤ i → C.length + s.count false ≤ 9 →
      ((C = [] ∧ j = i ∧ s.getD j false = false) ∨ (∃ a t, C = a :: t ∧ (a :: t).map (fnO l) = t ++ [j] ∧ i ∈ C)) →
      Tot (fun k => impl_cycles.l1 k l (castLL O) s (castL C) (j : Int) (l.length : Int) (i : Int)) (fun y => ∃ O, y = castLL O ∧ DecN l.length (fnO l) O)) ∧
    (∀ (s : List Bool) (O : List (List Nat)) (i : Nat), (l.length - i) + s.count false ≤ m → i ≤ l.length → MarkN l.length s O.flatten → (∀ d ∈ O, CycN (fnO l) d) → (∀ x, x < i → x ∈ O.flatten) → O.length ≤ i →
      Tot (fun k => impl_cycles.l0 k l (castLL O) s (l.length : Int) (i : Int)) (fun y => ∃ O, y = castLL O ∧ DecN l.length (fnO l) O)) := by
  have hLL : ∀ O : List (List Nat), (castLL O).length = O.length := fun O => by simp [castLL]
  have hL : ∀ C : List Nat, (castL C).length = C.length := fun C => by simp [castL]
  have hend : ∀ (s : List Bool) (O : List (List Nat)), MarkN l.length s O.flatten → (∀ d ∈ O, CycN (fnO l) d) → (∀ x, x < l.length → x ∈ O.flatten) → ∃ O', castLL O = castLL O' ∧ DecN l.length (fnO l) O' := fun s O hM hO hx => ⟨O, rfl, hM.2.1, fun x => ⟨fun h => hM.2.2.1 x h, fun h => hx x h⟩, hO⟩
  intro m
  induction m with
  | zero =>
    refine ⟨fun s O C j i hm hi _ _ _ _ _ _ _ => by omega, fun s O i hm hi hM hO hx hl => ?_⟩
    refine Tot.up ?_
    simp only [impl_cycles.l0]
    exact Tot.neg (by omega) (Tot.some_ (hend s O hM hO (fun x h => hx x (by omega))))
  | succ m ih =>
    have H1 : ∀ (s : List Bool) (O : List (List Nat)) (C : List Nat) (j i : Nat), (l.length - i) + s.count false ≤ m + 1 → i < l.length → MarkN l.length s (O.flatten ++ C) → (∀ d ∈ O, CycN (fnO l) d) → (∀ x, x < i → x ∈ O.flatten) → j < l.length → O.length ≤ i → C.length + s.count false ≤ 9 →
        ((C = [] ∧ j = i ∧ s.getD j false = false) ∨ (∃ a t, C = a :: t ∧ (a :: t).map (fnO l) = t ++ [j] ∧ i ∈ C)) →
        Tot (fun k => impl_cycles.l1 k l (castLL O) s (castL C) (j : Int) (l.length : Int) (i : Int)) (fun y => ∃ O, y = castLL O ∧ DecN l.length (fnO l) O) := by
      intro s O C j i hm hi hM hO hx hj hl hc hC
      have hs := hM.1
      have h1 := hLL O
      have h2 := hL C
      refine Tot.up ?_
      simp only [impl_cycles.l1]
      refine Tot.pos (by omega) (Tot.pos (by omega) (Tot.ite (fun hd => ?_) (fun hd => ?_)))
      · unfold rdOf at hd
        rw [Int.toNat_natCast] at hd
        rcases hC with ⟨_, _, h⟩ | ⟨a, t, rfl, hp, hiC⟩
        · rw [h] at hd
          cases hd
        · have hja := cyc_close _ _ (fnO_perm l ho) O hO a t j hM.2.1 hM.2.2.1 hp ((hM.2.2.2 j hj).1 hd)
          subst hja
          refine Tot.pos (by omega) ?_
          rw [w64 (n := (i : Int) + 1) (by omega) (by omega), castLL_snoc]
          have hfl : (O ++ [j :: t]).flatten = O.flatten ++ j :: t := by simp
          refine ih.2 s (O ++ [j :: t]) (i + 1) (by omega) (by omega) (by rw [hfl]; exact hM) (fun d hd => ?_) (fun x hx2 => ?_) (by rw [List.length_append, List.length_singleton]; omega)
          · rcases List.mem_append.1 hd with hd | hd
            · exact hO d hd
            · rw [List.mem_singleton.1 hd]
              exact hp
          · rw [hfl, List.mem_append]
            by_cases e : x = i
            · rw [e]
              exact .inr hiC
            · exact .inl (hx x (by omega))
      · refine Tot.pos (by omega) (Tot.pos (by omega) ?_)
        rw [Bool.not_eq_true] at hd
        unfold rdOf at hd
        rw [Int.toNat_natCast] at hd
        have h3 := count_mark s j (by omega) (by rw [← getDin s false j (by omega)]; exact hd)
        have h4 := fnO_cast l ho.2 j hj
        rw [Int.toNat_natCast, castL_snoc, h4.1]
        have hM2 := hM.set j hj hd
        rw [List.append_assoc] at hM2
        refine ih.1 (s.set j true) O (C ++ [j]) (fnO l j) i (by omega) hi hM2 hO hx h4.2 hl (by rw [List.length_append, List.length_singleton]; omega) (.inr ?_)
        rcases hC with ⟨rfl, rfl, _⟩ | ⟨a, t, rfl, hp, hiC⟩
        · exact ⟨j, [], rfl, rfl, by simp⟩
        · refine ⟨a, t ++ [j], rfl, ?_, by rw [List.mem_append]; exact .inl hiC⟩
          rw [← List.cons_append, List.map_append, hp]
          rfl
    refine ⟨H1, fun s O i hm hi hM hO hx hl => ?_⟩
    have hs := hM.1
    have h1 := hLL O
    refine Tot.up ?_
    simp only [impl_cycles.l0]
    by_cases hlt : i < l.length
    · refine Tot.pos (by omega) (Tot.pos (by omega) (Tot.pos (by omega) (Tot.ite (fun hd => ?_) (fun hd => ?_))))
      · unfold rdOf at hd
        rw [Int.toNat_natCast] at hd
        rw [w64 (n := (i : Int) + 1) (by omega) (by omega)]
        refine ih.2 s O (i + 1) (by omega) (by omega) hM hO (fun x hx2 => ?_) (by omega)
        by_cases e : x = i
        · rw [e]
          exact (hM.2.2.2 i hlt).1 hd
        · exact hx x (by omega)
      · rw [Bool.not_eq_true] at hd
        unfold rdOf at hd
        rw [Int.toNat_natCast] at hd
        have h3 := List.count_le_length (a := false) (l := s)
        exact H1 s O [] i i hm hlt (by rw [List.append_nil]; exact hM) hO hx hlt hl (by simp; omega) (.inl ⟨rfl, rfl, hd⟩)
    · exact Tot.neg (by omega) (Tot.some_ (hend s O hM hO (fun x h => hx x (by omega))))
theorem cycles_dec (l : List Int) (h9 : l.length ≤ 9) (ho : Ord l) : ∃ O : List (List Nat), DecN l.length (fnO l) O ∧ Tot (fun k => spec_l9Cycles.f k l) (fun z => z = castLL O) ∧ Tot (fun k => impl_cycles.f k l) (fun z => z = castLL O) := by
  have h : Tot (fun k => impl_cycles.f k l) (fun y => ∃ O, y = castLL O ∧ DecN l.length (fnO l) O) := by
    simp only [impl_cycles.f]
    refine Tot.pos (by omega) (Tot.pos (by omega) ?_)
    rw [Int.toNat_natCast]
    exact (cycles_dec_l l h9 ho (l.length + l.length)).2 (List.replicate l.length false) [] 0 (by simp) (by omega) ⟨by simp, by simp, by simp, fun x hx => by simp [List.getD_eq_getElem?_getD, hx]⟩ (fun d hd => by simp at hd) (fun x hx => by omega) (by simp)
  obtain ⟨y, ⟨O, rfl, hO⟩, ht⟩ := h.val
  refine ⟨O, hO, ?_, ht⟩
  simp only [cycles_same]
  exact ht

theorem toNat_getD (xs : List Int) (i : Nat) : rd xs (i : Int) = xs.getD i 0 := rfl
/-- r is the order that undoes l. -/
def BackOk (l r : List Int) : Prop := r.length = l.length ∧ ∀ j, j < l.length → rd r ((fnO l j : Nat) : Int) = (j : Int)
theorem back_val (l : List Int) (hl : l.length ≤ 1048576) (ho : Ord l) : ∀ (d i : Nat) (out : List Int), l.length - i = d → i ≤ l.length → out.length = l.length → (∀ j, j < i → rd out ((fnO l j : Nat) : Int) = (j : Int)) →
    ∃ r : List Int, BackOk l r ∧ ∀ k, d < k → spec_l9Back.l0 k out l (l.length : Int) (i : Int) = some r ∧ impl_back.l0 k out l (l.length : Int) (i : Int) = some r := by
  intro d
  induction d with
  | zero =>
    intro i out hd hi hout hj
    refine ⟨out, ⟨hout, fun j h => hj j (by omega)⟩, fun k hk => ?_⟩
    obtain ⟨k, rfl⟩ := rounds hk
    refine ⟨?_, ?_⟩
    · simp only [spec_l9Back.l0]
      rw [if_neg (by omega)]
    · simp only [impl_back.l0]
      rw [if_neg (by omega)]
  | succ d ih =>
    intro i out hd hi hout hj
    have hlt : i < l.length := by omega
    have hx := ho.2 _ (rd_mem l i hlt)
    have hp := fnO_perm l ho
    obtain ⟨r, h0, h1⟩ := ih (i + 1) (out.set (fnO l i) (i : Int)) (by omega) (by omega) (by rw [List.length_set]; exact hout) (fun j hj2 => by
      rw [toNat_getD]
      by_cases e : j = i
      · subst e
        exact getD_set _ _ _ _ (by have := hp.1 j hlt; omega)
      · have hne : fnO l i ≠ fnO l j := fun h => e (hp.2.1 j i (by omega) hlt h.symm)
        rw [List.getD_eq_getElem?_getD, List.getElem?_set_ne hne, ← List.getD_eq_getElem?_getD]
        exact hj j (by omega))
    refine ⟨r, h0, fun k hk => ?_⟩
    obtain ⟨k, rfl⟩ := rounds hk
    obtain ⟨h2, h3⟩ := h1 k (by omega)
    refine ⟨?_, ?_⟩
    · simp only [spec_l9Back.l0]
      rw [if_pos (by omega), if_pos (by omega), if_pos (by omega), if_pos hx.1, if_pos (by omega), w64 (by omega) (by omega)]
      exact h2
    · simp only [impl_back.l0]
      rw [if_pos (by omega), if_pos (by omega), if_pos (by omega), if_pos hx.1, if_pos (by omega), w64 (by omega) (by omega)]
      exact h3
theorem back_tot (l : List Int) (hl : l.length ≤ 1048576) : ∃ r : List Int × Bool, r.1.length ≤ l.length ∧ r.2 = isOrd l ∧ (isOrd l = true → BackOk l r.1) ∧ Tot (fun k => spec_BackOrder.f k l) (fun y => y = r) ∧ Tot (fun k => impl_BackOrder.f k l) (fun y => y = r) := by
  simp only [spec_BackOrder.f, impl_BackOrder.f]
  by_cases h : isOrd l = true
  · obtain ⟨h9, ho⟩ := isOrd_iff.1 h
    obtain ⟨r, h0, h1⟩ := back_val l hl ho l.length 0 (List.replicate l.length 0) (by omega) (by omega) (by simp) (fun j hj => by omega)
    refine ⟨(r, true), by have := h0.1; simp only; omega, h.symm, fun _ => h0, ?_, ?_⟩
    · refine Tot.bind (specOrd_tot l hl) (fun y e => Tot.pos (e.trans h) (Tot.bind (Q := fun y => y = r) (Tot.at_ (l.length + 1) rfl (fun k hk => ?_)) (fun y e => Tot.some_ (by rw [e]))))
      unfold spec_l9Back.f
      rw [if_pos (by omega), if_pos (by omega)]
      exact (h1 k (by omega)).1
    · refine Tot.bind (implOrd_tot l hl) (fun y e => Tot.pos (e.trans h) (Tot.bind (Q := fun y => y = r) (Tot.at_ (l.length + 1) rfl (fun k hk => ?_)) (fun y e => Tot.some_ (by rw [e]))))
      unfold impl_back.f
      rw [if_pos (by omega), if_pos (by omega)]
      exact (h1 k (by omega)).2
  · refine ⟨([], false), by simp, by simpa using h, fun h2 => absurd h2 h, ?_, ?_⟩
    · exact Tot.bind (specOrd_tot l hl) (fun y e => Tot.neg (by rw [e]; exact h) (Tot.some_ rfl))
    · exact Tot.bind (implOrd_tot l hl) (fun y e => Tot.neg (by rw [e]; exact h) (Tot.some_ rfl))
theorem BackOk.ord {l r : List Int} (ho : Ord l) (h : BackOk l r) : Ord r := by
  refine ord_of_has (fun v h0 h1 => ?_)
  have hj : v.toNat < l.length := by have := h.1; omega
  have h2 := h.2 v.toNat hj
  have h3 := (fnO_perm l ho).1 v.toNat hj
  rw [show ((v.toNat : Nat) : Int) = v by omega] at h2
  rw [← h2]
  exact rd_mem r _ (by have := h.1; omega)
theorem BackOk.isOrd {l r : List Int} (ho : isOrd l = true) (h : BackOk l r) : isOrd r = true := isOrd_iff.2 ⟨by have := h.1; have := (isOrd_iff.1 ho).1; omega, h.ord (isOrd_iff.1 ho).2⟩
theorem fnO_then (a b : List Int) (hab : a.length = b.length) (hb : ∀ x ∈ b, 0 ≤ x ∧ x < b.length) (i : Nat) (hi : i < b.length) : fnO (thenV a b) i = fnO a (fnO b i) := by
  have hlen : (thenV a b).length = b.length := by simp [thenV]
  have h1 := (fnO_cast b hb i hi).1
  rw [fnO_get _ i (by omega)]
  unfold fnO
  rw [show (((rd b (i : Int)).toNat : Nat) : Int) = rd b (i : Int) by rw [h1]; omega, rd_in b i hi]
  simp [thenV]
theorem then_length (a b : List Int) : (thenV a b).length = b.length := by simp [thenV]
theorem then_ord (a b : List Int) (hab : a.length = b.length) (ha : Ord a) (hb : Ord b) : Ord (thenV a b) := by
  have hl := then_length a b
  have hbp := fnO_perm b hb
  have hap := fnO_perm a ha
  rw [hab] at hap
  refine ord_of_has (fun v h0 h1 => ?_)
  obtain ⟨j, hj, e1⟩ := hap.2.2 v.toNat (by omega)
  obtain ⟨i, hi, e2⟩ := hbp.2.2 j hj
  have h3 := fnO_then a b hab hb.2 i hi
  rw [e2, e1] at h3
  have h4 : ∀ x ∈ thenV a b, 0 ≤ x := fun x hx => by
    simp only [thenV, List.mem_map] at hx
    obtain ⟨y, hy, rfl⟩ := hx
    have h5 := hb.2 y hy
    rw [show y = ((y.toNat : Nat) : Int) by omega]
    exact (ha.2 _ (rd_mem a y.toNat (by omega))).1
  have h5 := rd_mem (thenV a b) i (by omega)
  have h6 := h4 _ h5
  have h7 : rd (thenV a b) (i : Int) = v := by
    unfold fnO at h3
    omega
  rw [← h7]
  exact h5
theorem then_isOrd (a b : List Int) (hab : a.length = b.length) (ha : isOrd a = true) (hb : isOrd b = true) : isOrd (thenV a b) = true := isOrd_iff.2 ⟨by have := then_length a b; have := (isOrd_iff.1 hb).1; omega, then_ord a b hab (isOrd_iff.1 ha).2 (isOrd_iff.1 hb).2⟩
/-- Lists of one length that read alike. -/
theorem rd_ext (a b : List Int) (hl : a.length = b.length) (h : ∀ i, i < a.length → rd a (i : Int) = rd b (i : Int)) : a = b := by
  refine List.ext_getElem hl (fun i h1 h2 => ?_)
  rw [← rd_in a i h1, ← rd_in b i h2]
  exact h i h1
theorem firsts_rd (n i : Nat) (h : i < n) : rd (firsts n) (i : Int) = (i : Int) := by
  rw [rd_in _ i (by rw [firsts_length]; exact h)]
  simp [firsts]
theorem then_back (l r : List Int) (ho : Ord l) (h : BackOk l r) : thenV l r = firsts l.length := by
  have h1 := h.1
  have hp := fnO_perm l ho
  refine rd_ext _ _ (by rw [then_length, firsts_length]; exact h1) (fun i hi => ?_)
  rw [then_length, h1] at hi
  obtain ⟨j, hj, e⟩ := hp.2.2 i hi
  have h2 := h.2 j hj
  rw [e] at h2
  rw [firsts_rd _ i hi, rd_in _ i (by rw [then_length]; omega)]
  have h3 : r[i]'(by omega) = (j : Int) := by rw [← rd_in r i (by omega)]; exact h2
  simp only [thenV, List.getElem_map, h3]
  rw [(fnO_cast l ho.2 j hj).1, e]

theorem gcd_eq : ∀ (b k a : Nat), b < k → a ≤ 9223372036854775807 → b ≤ 9223372036854775807 → spec_l9Gcd.l0 k (a : Int) (b : Int) = some ((Nat.gcd a b : Nat) : Int) := by
  intro b
  induction b using Nat.strongRecOn with
  | _ b ih =>
    intro k a hk ha hb
    obtain ⟨k, rfl⟩ := rounds hk
    simp only [spec_l9Gcd.l0]
    by_cases h0 : b = 0
    · subst h0
      rw [if_neg (by omega), Nat.gcd_zero_right]
    · have hlt := Nat.mod_lt a (show 0 < b by omega)
      rw [if_pos (by omega), if_neg (by omega), tmod_nat, ih (a % b) hlt k b (by omega) hb (by omega), Nat.gcd_comm a b, Nat.gcd_rec b a, Nat.gcd_comm]
theorem dvd2520 : ∀ n : Nat, n < 10 → 0 < n → n ∣ 2520 := by decide
def lcf (m : Nat) (c : List Int) : Nat := Nat.lcm m c.length
def lenV (y : List (List Int)) : Nat := y.foldl lcf 1
def LcOk (m : Nat) : Prop := 0 < m ∧ m ∣ 2520
theorem LcOk.le {m : Nat} (h : LcOk m) : m ≤ 2520 := Nat.le_of_dvd (by omega) h.2
theorem lcf_ok (y : List (List Int)) (hy : CycOk y) (m : Nat) (h : LcOk m) (c : List Int) (hc : c ∈ y) : LcOk (lcf m c) := by
  have h1 := hy c hc
  exact ⟨Nat.lcm_pos h.1 (by omega), Nat.lcm_dvd h.2 (dvd2520 _ (by omega) (by omega))⟩
theorem specLen_l0 (y : List (List Int)) (hy : CycOk y) (h9 : y.length ≤ 9) : ∀ (d i m : Nat), y.length - i = d → i ≤ y.length → LcOk m →
    Tot (fun k => spec_LengthOf.l0 k (m : Int) y (y.length : Int) (i : Int)) (fun z => z = ((((y.drop i).foldl lcf m : Nat) : Int), true)) := by
  intro d
  induction d with
  | zero =>
    intro i m hd hi hm
    refine Tot.up ?_
    simp only [spec_LengthOf.l0]
    refine Tot.neg (by omega) (Tot.some_ ?_)
    rw [List.drop_of_length_le (by omega)]
    rfl
  | succ d ih =>
    intro i m hd hi hm
    have hlt : i < y.length := by omega
    have hc := hy _ (List.getElem_mem hlt)
    have hml := hm.le
    have hrd : rd_L3 y (i : Int) = y[i] := by
      unfold rd_L3
      rw [Int.toNat_natCast]
      exact getDin y _ i hlt
    have hg : 0 < Nat.gcd m y[i].length := Nat.gcd_pos_of_pos_left _ hm.1
    have hq : m / Nat.gcd m y[i].length * y[i].length = Nat.lcm m y[i].length := by
      rw [Nat.lcm, Nat.mul_comm m, Nat.mul_div_assoc _ (Nat.gcd_dvd_left _ _), Nat.mul_comm]
    have hl := lcf_ok y hy m hm _ (List.getElem_mem hlt)
    have hll := hl.le
    have hmg : m / Nat.gcd m y[i].length ≤ m := Nat.div_le_self _ _
    refine Tot.up ?_
    simp only [spec_LengthOf.l0]
    refine Tot.pos (by omega) (Tot.pos (by omega) (Tot.pos (by omega) ?_))
    rw [hrd]
    refine Tot.bind (Q := fun z => z = ((Nat.gcd m y[i].length : Nat) : Int)) (Tot.at_ (y[i].length + 1) rfl (fun k hk => gcd_eq _ k m (by omega) (by omega) (by omega))) (fun z hz => ?_)
    rw [hz]
    refine Tot.neg (by omega) ?_
    rw [tdiv_nat, wnat _ (by omega), ← Int.natCast_mul, hq, wnat _ (by unfold lcf at hll; omega), w64 (n := (i : Int) + 1) (by omega) (by omega), List.drop_eq_getElem_cons hlt]
    exact ih (i + 1) _ (by omega) (by omega) hl
theorem implLen_l1 (y : List (List Int)) (m : Nat) (hm : LcOk m) (c : List Int) (hc : 1 ≤ c.length ∧ c.length ≤ 9) (i : Nat) (hi : i < 10) (Q : Int × Bool → Prop)
    (hQ : Tot (fun k => impl_LengthOf.l0 k ((Nat.lcm m c.length : Nat) : Int) y (y.length : Int) ((i + 1 : Nat) : Int)) Q) : ∀ (d t : Nat), Nat.lcm m c.length / m - t = d → 1 ≤ t → t ≤ Nat.lcm m c.length / m →
    Tot (fun k => impl_LengthOf.l1 k (m : Int) c ((m * t : Nat) : Int) y (y.length : Int) (i : Int)) Q := by
  have hL := Nat.mul_div_cancel' (Nat.dvd_lcm_left m c.length)
  have hLc := Nat.dvd_lcm_right m c.length
  have hLle : Nat.lcm m c.length ≤ 2520 := Nat.le_of_dvd (by omega) (Nat.lcm_dvd hm.2 (dvd2520 _ (by omega) (by omega)))
  have hmp := hm.1
  have hml := hm.le
  generalize hLL : Nat.lcm m c.length = L at *
  intro d
  induction d with
  | zero =>
    intro t hd h1 h2
    have e : t = L / m := by omega
    subst e
    refine Tot.up ?_
    simp only [impl_LengthOf.l1]
    refine Tot.neg (by omega) ?_
    rw [hL]
    refine Tot.pos ?_ ?_
    · rw [tmod_nat, Nat.mod_eq_zero_of_dvd hLc]
      rfl
    · rw [w64 (n := (i : Int) + 1) (by omega) (by omega)]
      exact hQ
  | succ d ih =>
    intro t hd h1 h2
    have hmt : m * (t + 1) ≤ m * (L / m) := Nat.mul_le_mul_left m (by omega)
    have hlt : m * t < L := by
      have : m * t < m * (L / m) := Nat.mul_lt_mul_of_pos_left (by omega) hmp
      omega
    refine Tot.up ?_
    simp only [impl_LengthOf.l1]
    refine Tot.neg (by omega) (Tot.neg ?_ ?_)
    · rw [tmod_nat]
      intro h
      have h3 : c.length ∣ m * t := Nat.dvd_of_mod_eq_zero (by omega)
      have h4 : L ∣ m * t := by
        rw [← hLL]
        exact Nat.lcm_dvd (Nat.dvd_mul_right m t) h3
      have h5 := Nat.le_of_dvd (Nat.mul_pos hmp (by omega)) h4
      omega
    · have e : wrap64 (((m * t : Nat) : Int) + (m : Int)) = ((m * (t + 1) : Nat) : Int) := by
        rw [show ((m * t : Nat) : Int) + (m : Int) = ((m * t + m : Nat) : Int) by omega, Nat.mul_succ, wnat _ (by rw [Nat.mul_succ] at hmt; omega)]
      rw [e]
      exact ih (t + 1) (by omega) (by omega) (by omega)
theorem implLen_l0 (y : List (List Int)) (hy : CycOk y) (h9 : y.length ≤ 9) : ∀ (d i m : Nat), y.length - i = d → i ≤ y.length → LcOk m →
    Tot (fun k => impl_LengthOf.l0 k (m : Int) y (y.length : Int) (i : Int)) (fun z => z = ((((y.drop i).foldl lcf m : Nat) : Int), true)) := by
  intro d
  induction d with
  | zero =>
    intro i m hd hi hm
    refine Tot.up ?_
    simp only [impl_LengthOf.l0]
    refine Tot.neg (by omega) (Tot.some_ ?_)
    rw [List.drop_of_length_le (by omega)]
    rfl
  | succ d ih =>
    intro i m hd hi hm
    have hlt : i < y.length := by omega
    have hc := hy _ (List.getElem_mem hlt)
    have hrd : rd_L3 y (i : Int) = y[i] := by
      unfold rd_L3
      rw [Int.toNat_natCast]
      exact getDin y _ i hlt
    have hl := lcf_ok y hy m hm _ (List.getElem_mem hlt)
    refine Tot.up ?_
    simp only [impl_LengthOf.l0]
    refine Tot.pos (by omega) (Tot.pos (by omega) (Tot.pos (by omega) ?_))
    rw [hrd, List.drop_eq_getElem_cons hlt]
    have h := implLen_l1 y m hm y[i] hc i (by omega) _ (ih (i + 1) _ (by omega) (by omega) hl) (Nat.lcm m y[i].length / m - 1) 1 rfl (by omega) (by
      have h1 := Nat.le_of_dvd (show 0 < Nat.lcm m y[i].length from hl.1) (Nat.dvd_lcm_left m y[i].length)
      exact (Nat.le_div_iff_mul_le hm.1).2 (by omega))
    rw [Nat.mul_one] at h
    exact h
theorem length_same (l : List Int) (hl : l.length ≤ 1048576) : ∃ r : Int × Bool, Tot (fun k => spec_LengthOf.f k l) (fun z => z = r) ∧ Tot (fun k => impl_LengthOf.f k l) (fun z => z = r) := by
  simp only [spec_LengthOf.f, impl_LengthOf.f]
  by_cases h : isOrd l = true
  · obtain ⟨h9, ho⟩ := isOrd_iff.1 h
    obtain ⟨y, hy, h1, h2⟩ := cycles_tot l h9 ho
    have hone : LcOk 1 := ⟨by omega, Nat.one_dvd _⟩
    refine ⟨(((y.foldl lcf 1 : Nat) : Int), true), ?_, ?_⟩
    · refine Tot.bind (specOrd_tot l hl) (fun y1 e1 => Tot.pos (e1.trans h) (Tot.bind h1 (fun y2 e2 => ?_)))
      rw [e2]
      exact specLen_l0 y hy.1 hy.2 y.length 0 1 (by omega) (by omega) hone
    · refine Tot.bind (implOrd_tot l hl) (fun y1 e1 => Tot.pos (e1.trans h) (Tot.bind h2 (fun y2 e2 => ?_)))
      rw [e2]
      exact implLen_l0 y hy.1 hy.2 y.length 0 1 (by omega) (by omega) hone
  · refine ⟨(0, false), ?_, ?_⟩
    · exact Tot.bind (specOrd_tot l hl) (fun y1 e1 => Tot.neg (by rw [e1]; exact h) (Tot.some_ rfl))
    · exact Tot.bind (implOrd_tot l hl) (fun y1 e1 => Tot.neg (by rw [e1]; exact h) (Tot.some_ rfl))

/-- Done so many times. -/
def itN (f : Nat → Nat) : Nat → Nat → Nat
  | 0, x => x
  | k + 1, x => itN f k (f x)
theorem itN_out (f : Nat → Nat) : ∀ (k x : Nat), itN f (k + 1) x = f (itN f k x)
  | 0, _ => rfl
  | k + 1, x => itN_out f k (f x)
theorem CycN.get {f : Nat → Nat} {c : List Nat} (h : CycN f c) (p : Nat) (hp : p < c.length) : f c[p] = c[(p + 1) % c.length]'(Nat.mod_lt _ (by omega)) := by
  cases c with
  | nil => simp at hp
  | cons a t =>
    have h2 : (a :: t).map f = t ++ [a] := h
    have h3 : ((a :: t).map f)[p]'(by simpa using hp) = (t ++ [a])[p]'(by simpa using hp) := by simp only [h2]
    rw [List.getElem_map] at h3
    rw [h3]
    simp only [List.length_cons] at hp ⊢
    by_cases e : p = t.length
    · subst e
      simp
    · simp only [Nat.mod_eq_of_lt (show p + 1 < t.length + 1 by omega), List.getElem_cons_succ]
      rw [List.getElem_append_left (by omega)]
theorem CycN.it {f : Nat → Nat} {c : List Nat} (h : CycN f c) : ∀ (k p : Nat) (hp : p < c.length), itN f k c[p] = c[(p + k) % c.length]'(Nat.mod_lt _ (by omega)) := by
  intro k
  induction k with
  | zero =>
    intro p hp
    simp only [itN, Nat.add_zero, Nat.mod_eq_of_lt hp]
  | succ k ih =>
    intro p hp
    simp only [itN]
    rw [h.get p hp, ih _ (Nat.mod_lt _ (by omega))]
    simp only [Nat.mod_add_mod]
    congr 2
    omega
theorem dec_it (n : Nat) (f : Nat → Nat) (O : List (List Nat)) (hO : DecN n f O) (k : Nat) : (∀ x, x < n → itN f k x = x) ↔ ∀ c ∈ O, c.length ∣ k := by
  constructor
  · intro h c hc
    have hcy := hO.2.2 c hc
    have hne : 0 < c.length := by
      cases c with
      | nil => exact hcy.elim
      | cons a t => simp
    have h1 := hcy.it k 0 hne
    rw [h _ ((hO.2.1 _).1 (List.mem_flatten.2 ⟨c, hc, List.getElem_mem hne⟩))] at h1
    have hnd : c.Nodup := by
      obtain ⟨L1, L2, e⟩ := List.append_of_mem hc
      have h3 := hO.1
      rw [e, List.flatten_append, List.flatten_cons] at h3
      exact (List.nodup_append.1 (List.nodup_append.1 h3).2.1).1
    have h2 := nodup_at hnd h1
    rw [Nat.zero_add] at h2
    exact Nat.dvd_of_mod_eq_zero h2.symm
  · intro h x hx
    obtain ⟨c, hc, hxc⟩ := List.mem_flatten.1 ((hO.2.1 x).2 hx)
    obtain ⟨p, hp, rfl⟩ := List.mem_iff_getElem.1 hxc
    rw [(hO.2.2 c hc).it k p hp]
    obtain ⟨q, hq⟩ := h c hc
    simp only [hq, Nat.add_mul_mod_self_left, Nat.mod_eq_of_lt hp]
theorem lenV_dvd (O : List (List Nat)) : ∀ (m k : Nat), (castLL O).foldl lcf m ∣ k ↔ m ∣ k ∧ ∀ c ∈ O, c.length ∣ k := by
  induction O with
  | nil => intro m k; simp [castLL]
  | cons c O ih =>
    intro m k
    have h := ih (lcf m (castL c)) k
    have e : (castLL (c :: O)).foldl lcf m = (castLL O).foldl lcf (lcf m (castL c)) := rfl
    rw [e, h]
    unfold lcf
    rw [Nat.lcm_dvd_iff, show (castL c).length = c.length by simp [castL]]
    constructor
    · rintro ⟨⟨h1, h2⟩, h3⟩
      refine ⟨h1, fun d hd => ?_⟩
      rcases List.mem_cons.1 hd with rfl | hd
      · exact h2
      · exact h3 d hd
    · rintro ⟨h1, h2⟩
      exact ⟨⟨h1, h2 c (by simp)⟩, fun d hd => h2 d (by simp [hd])⟩

theorem sign_same (l : List Int) (hl : l.length ≤ 1048576) : ∃ r : Int × Bool, Tot (fun k => spec_SignOf.f k l) (fun z => z = r) ∧ Tot (fun k => impl_SignOf.f k l) (fun z => z = r) := by
  simp only [spec_SignOf.f, impl_SignOf.f]
  by_cases h : isOrd l = true
  · obtain ⟨h9, ho⟩ := isOrd_iff.1 h
    obtain ⟨y, hy, h1, h2⟩ := cycles_tot l h9 ho
    refine ⟨if (Int.tmod (wrap64 ((l.length : Int) - (y.length : Int))) 2) = 0 then (1, true) else (-1, true), ?_, ?_⟩
    · refine Tot.bind (specOrd_tot l hl) (fun y1 e1 => Tot.pos (e1.trans h) (Tot.bind h1 (fun y2 e2 => ?_)))
      rw [e2]
      exact Tot.ite (fun h3 => Tot.some_ (by rw [if_pos h3])) (fun h3 => Tot.some_ (by rw [if_neg h3]))
    · refine Tot.bind (implOrd_tot l hl) (fun y1 e1 => Tot.pos (e1.trans h) (Tot.bind h2 (fun y2 e2 => ?_)))
      rw [e2]
      exact Tot.ite (fun h3 => Tot.some_ (by rw [if_pos h3])) (fun h3 => Tot.some_ (by rw [if_neg h3]))
  · refine ⟨(0, false), ?_, ?_⟩
    · exact Tot.bind (specOrd_tot l hl) (fun y1 e1 => Tot.neg (by rw [e1]; exact h) (Tot.some_ rfl))
    · exact Tot.bind (implOrd_tot l hl) (fun y1 e1 => Tot.neg (by rw [e1]; exact h) (Tot.some_ rfl))

def Cyc9 (l : List (List Int)) : Prop := l.length ≤ 9 ∧ ∀ c ∈ l, c.length ≤ 9
theorem cyc_same (l : List Int) (hl : l.length ≤ 1048576) : ∃ r : List (List Int) × Bool, Cyc9 r.1 ∧ Tot (fun k => spec_CyclesOf.f k l) (fun z => z = r) ∧ Tot (fun k => impl_CyclesOf.f k l) (fun z => z = r) := by
  simp only [spec_CyclesOf.f, impl_CyclesOf.f]
  by_cases h : isOrd l = true
  · obtain ⟨h9, ho⟩ := isOrd_iff.1 h
    obtain ⟨y, hy, h1, h2⟩ := cycles_tot l h9 ho
    refine ⟨(y, true), ⟨hy.2, fun c hc => (hy.1 c hc).2⟩, ?_, ?_⟩
    · exact Tot.bind (specOrd_tot l hl) (fun y1 e1 => Tot.pos (e1.trans h) (Tot.bind h1 (fun y2 e2 => Tot.some_ (by rw [e2]))))
    · exact Tot.bind (implOrd_tot l hl) (fun y1 e1 => Tot.pos (e1.trans h) (Tot.bind h2 (fun y2 e2 => Tot.some_ (by rw [e2]))))
  · refine ⟨([], false), ⟨by simp, by simp⟩, ?_, ?_⟩
    · exact Tot.bind (specOrd_tot l hl) (fun y1 e1 => Tot.neg (by rw [e1]; exact h) (Tot.some_ rfl))
    · exact Tot.bind (implOrd_tot l hl) (fun y1 e1 => Tot.neg (by rw [e1]; exact h) (Tot.some_ rfl))

def appV (o : List Int) (t : List ByteArray) : List ByteArray × Bool := if isOrd o = true ∧ t.length = o.length then (o.map fun x => rdOf ByteArray.empty t x, true) else ([], false)
theorem specApp_l0 (o : List Int) (t : List ByteArray) (ho : o.length ≤ 9) (hr : ∀ x ∈ o, 0 ≤ x ∧ x < t.length) (k : Nat) (hk : o.length < k) : spec_ApplyOrder.l0 k t [] o (o.length : Int) 0 = some (o.map fun x => rdOf ByteArray.empty t x, true) := by
  have h := loop_up (fun k (x : List ByteArray × Int) => spec_ApplyOrder.l0 k t x.1 o (o.length : Int) x.2) o.length 0
    (fun i => ((o.map fun x => rdOf ByteArray.empty t x).take i, (i : Int))) (o.map fun x => rdOf ByteArray.empty t x, true) (fun i k hi _ => by
    have hx := hr _ (List.getElem_mem hi)
    simp only [spec_ApplyOrder.l0]
    rw [if_pos (by omega), if_pos (by omega), if_pos (by omega), rd_in o i hi, if_pos hx.1, if_pos hx.2, if_pos (by rw [List.length_take]; omega), w64 (n := (i : Int) + 1) (by omega) (by omega), List.take_succ_eq_append_getElem (by simpa using hi), List.getElem_map]
    rfl) (fun k _ => by
    simp only [spec_ApplyOrder.l0]
    rw [if_neg (by omega), List.take_of_length_le (by simp)]) k hk
  exact h
theorem implApp_l0 (o : List Int) (t : List ByteArray) (ho : o.length ≤ 9) (hr : ∀ x ∈ o, 0 ≤ x ∧ x < t.length) (k : Nat) (hk : o.length < k) : impl_ApplyOrder.l0 k t [] o (o.length : Int) 0 = some (o.map fun x => rdOf ByteArray.empty t x, true) := by
  have h := loop_up (fun k (x : List ByteArray × Int) => impl_ApplyOrder.l0 k t x.1 o (o.length : Int) x.2) o.length 0
    (fun i => ((o.map fun x => rdOf ByteArray.empty t x).take i, (i : Int))) (o.map fun x => rdOf ByteArray.empty t x, true) (fun i k hi _ => by
    have hx := hr _ (List.getElem_mem hi)
    simp only [impl_ApplyOrder.l0]
    rw [if_pos (by omega), if_pos (by omega), if_pos (by omega), rd_in o i hi, if_pos hx.1, if_pos hx.2, if_pos (by rw [List.length_take]; omega), w64 (n := (i : Int) + 1) (by omega) (by omega), List.take_succ_eq_append_getElem (by simpa using hi), List.getElem_map]
    rfl) (fun k _ => by
    simp only [impl_ApplyOrder.l0]
    rw [if_neg (by omega), List.take_of_length_le (by simp)]) k hk
  exact h
theorem specApp_tot (o : List Int) (t : List ByteArray) (ho : o.length ≤ 1048576) : Tot (fun k => spec_ApplyOrder.f k o t) (fun y => y = appV o t) := by
  simp only [spec_ApplyOrder.f]
  refine Tot.bind (specOrd_tot o ho) (fun y e => ?_)
  rw [e]
  refine Tot.ite (fun h => ?_) (fun h => Tot.up ?_)
  · obtain ⟨h9, hr⟩ := isOrd_iff.1 h
    refine Tot.up ?_
    simp only [spec_ApplyOrder.j0]
    by_cases he : t.length = o.length
    · refine Tot.neg (by rw [he]; simp) (Tot.at_ (o.length + 1) ?_ (fun k hk => specApp_l0 o t h9 (fun x hx => by have := hr.2 x hx; omega) k (by omega)))
      unfold appV
      rw [if_pos ⟨h, he⟩]
    · refine Tot.pos (by rw [bne_iff_ne]; omega) (Tot.some_ ?_)
      unfold appV
      rw [if_neg (fun h => he h.2)]
  · simp only [spec_ApplyOrder.j0, if_true]
    refine Tot.some_ ?_
    unfold appV
    rw [if_neg (fun h2 => h h2.1)]
theorem implApp_tot (o : List Int) (t : List ByteArray) (ho : o.length ≤ 1048576) : Tot (fun k => impl_ApplyOrder.f k o t) (fun y => y = appV o t) := by
  simp only [impl_ApplyOrder.f]
  refine Tot.bind (implOrd_tot o ho) (fun y e => ?_)
  rw [e]
  refine Tot.ite (fun h => ?_) (fun h => Tot.up ?_)
  · obtain ⟨h9, hr⟩ := isOrd_iff.1 h
    refine Tot.up ?_
    simp only [impl_ApplyOrder.j0]
    by_cases he : t.length = o.length
    · refine Tot.neg (by rw [he]; simp) (Tot.at_ (o.length + 1) ?_ (fun k hk => implApp_l0 o t h9 (fun x hx => by have := hr.2 x hx; omega) k (by omega)))
      unfold appV
      rw [if_pos ⟨h, he⟩]
    · refine Tot.pos (by rw [bne_iff_ne]; omega) (Tot.some_ ?_)
      unfold appV
      rw [if_neg (fun h => he h.2)]
  · simp only [impl_ApplyOrder.j0, if_true]
    refine Tot.some_ ?_
    unfold appV
    rw [if_neg (fun h2 => h h2.1)]
theorem appV_length (o : List Int) (t : List ByteArray) : (appV o t).1.length ≤ o.length := by
  unfold appV
  split <;> simp

set_option maxHeartbeats 1000000
theorem drawThen_tot (l : List Int) (hl : Bytes l) : Tot (fun k => spec_DrawThenOrder.f k l) (fun y => y.1.length ≤ 9 ∧ y.2.length ≤ 9) := by
  simp only [spec_DrawThenOrder.f]
  refine Tot.bind (order_tot l hl 0 0 (by omega)) (fun y1 h1 => ?_)
  refine Tot.bind (Tot.fix (pick_tot l hl y1.2.1 y1.2.2 256 (by omega) (by omega))) (fun y2 h2 => ?_)
  refine Tot.bind (Tot.fix (pick_tot l hl y2.2.1 y2.2.2 256 (by omega) (by omega))) (fun y3 h3 => ?_)
  refine Tot.bind (Q := fun y => y ≤ 9) (Tot.fix (by unfold spec_l1Least.f; split <;> exact ⟨_, rfl, by omega⟩)) (fun y4 h4 => ?_)
  have hf := fac_pos y4.toNat
  refine Tot.bind (Q := fun y => y = ((fac y4.toNat : Nat) : Int)) (Tot.at_ 15 rfl (fun k hk => specOrders_eq _ (by omega) k (by omega))) (fun y5 e5 => Tot.neg (by omega) ?_)
  refine Tot.bind (specOrderAt_tot _ _) (fun y6 e6 => ?_)
  have h6 := atV_length (y1.1.length : Int) (Int.tmod (wrap64 (wrap64 (y2.1 * 256) + y3.1)) y5)
  rw [← e6] at h6
  refine Tot.ite (fun _ => ?_) (fun _ => ?_)
  · refine Tot.bind (Tot.fix (one_tot l hl y3.2.1 y3.2.2 12 (by omega) (by omega))) (fun y7 h7 => Tot.ite (fun _ => ?_) (fun _ => Tot.some_ ⟨h1.1, h6⟩))
    exact Tot.bind (order_tot l hl y7.2.1 y7.2.2 (by omega)) (fun y8 h8 => Tot.some_ ⟨h1.1, h8.1⟩)
  · exact Tot.bind (order_tot l hl y3.2.1 y3.2.2 (by omega)) (fun y8 h8 => Tot.some_ ⟨h1.1, h8.1⟩)
theorem drawIs_tot (l : List Int) (hl : Bytes l) : Tot (fun k => spec_DrawIsOrder.f k l) (fun y => y.length ≤ 9) := by
  simp only [spec_DrawIsOrder.f]
  exact Tot.bind (order_tot l hl 0 0 (by omega)) (fun y1 h1 => Tot.some_ h1.1)
theorem drawApply_l0 (c : List Int) (hc : Bytes c) (p h : Int) (hp : 0 ≤ p ∧ p ≤ 1073741824) (o : List Int) (ho : o.length ≤ 9) : ∀ (d i : Nat) (t : List ByteArray), o.length - i = d → i ≤ o.length → t.length = i →
    Tot (fun k => spec_DrawApplyOrder.l0 k o t (o.length : Int) (i : Int) c p h) (fun y => y.1.length ≤ 9 ∧ y.2.length ≤ 10) := by
  intro d
  induction d with
  | zero =>
    intro i t hd hi ht
    refine Tot.up ?_
    simp only [spec_DrawApplyOrder.l0]
    refine Tot.neg (by omega) (Tot.bind (Tot.fix (one_tot c hc p h 12 (by omega) (by omega))) (fun y _ => Tot.ite (fun _ => Tot.pos (by omega) (Tot.some_ ⟨ho, by simp only [List.length_append, List.length_singleton]; omega⟩)) (fun _ => Tot.some_ ⟨ho, by simp only; omega⟩)))
  | succ d ih =>
    intro i t hd hi ht
    refine Tot.up ?_
    simp only [spec_DrawApplyOrder.l0]
    refine Tot.pos (by omega) (Tot.pos (by omega) ?_)
    rw [w64 (n := (i : Int) + 1) (by omega) (by omega)]
    exact ih (i + 1) _ (by omega) (by omega) (by rw [List.length_append, List.length_singleton, ht])
theorem drawApply_tot (l : List Int) (hl : Bytes l) : Tot (fun k => spec_DrawApplyOrder.f k l) (fun y => y.1.length ≤ 9 ∧ y.2.length ≤ 10) := by
  simp only [spec_DrawApplyOrder.f]
  exact Tot.bind (order_tot l hl 0 0 (by omega)) (fun y1 h1 => drawApply_l0 l hl y1.2.1 y1.2.2 (by omega) y1.1 h1.1 y1.1.length 0 [] (by omega) (by omega) rfl)
theorem app_back (o f : List Int) (t : List ByteArray) (ho : isOrd o = true) (hf : BackOk o f) (ht : t.length = o.length) : appV f (o.map fun x => rdOf ByteArray.empty t x) = (t, true) := by
  have h1 := hf.1
  unfold appV
  rw [if_pos ⟨hf.isOrd ho, by rw [List.length_map, h1]⟩]
  refine Prod.ext ?_ rfl
  have hoo := (isOrd_iff.1 ho).2
  have hp := fnO_perm o hoo
  simp only
  refine List.ext_getElem (by rw [List.length_map]; omega) (fun i h2 h3 => ?_)
  obtain ⟨j, hj, e⟩ := hp.2.2 i (by omega)
  have h4 := hf.2 j hj
  rw [e] at h4
  have h5 : f[i]'(by omega) = (j : Int) := by rw [← rd_in f i (by omega)]; exact h4
  rw [List.getElem_map, h5]
  unfold rdOf
  rw [Int.toNat_natCast, getDin _ _ j (by rw [List.length_map]; exact hj), List.getElem_map]
  have h6 := fnO_get o j hj
  rw [e] at h6
  rw [← h6, getDin _ _ i h3]
theorem j7_tot (o : List Int) (t : List ByteArray) (ho : o.length ≤ 9) (ht : t.length ≤ 10) : Tot (fun k => laws_FnCycles.j7 k o t (appV o t).1 (appV o t).2 false) (fun y => y = true) := by
  refine Tot.up ?_
  simp only [laws_FnCycles.j7]
  refine Tot.neg (by simp) ?_
  unfold appV
  by_cases h : isOrd o = true ∧ t.length = o.length
  · rw [if_pos h]
    obtain ⟨r, h1, h2, h3, _, h5⟩ := back_tot o (by omega)
    have hb := h3 h.1
    have hbl := hb.1
    refine Tot.pos rfl (Tot.bind h5 (fun y e => ?_))
    rw [e]
    refine Tot.bind (implApp_tot r.1 _ (by omega)) (fun y2 e2 => ?_)
    rw [e2, app_back o r.1 t h.1 hb h.2]
    exact Tot.pos (h2.trans h.1) (Tot.pos rfl (Tot.bind (sameTexts_self t (by omega)) (fun y3 e3 => Tot.some_ e3)))
  · rw [if_neg h]
    exact Tot.neg (by simp) (Tot.some_ rfl)
theorem l2_tot (l : List Int) (hl : Bytes l) (y : List (List Int)) (hy : Cyc9 y) : ∀ (d i : Nat), y.length - i = d → i ≤ y.length → Tot (fun k => laws_FnCycles.l2 k l y y (y.length : Int) (i : Int)) (fun z => z = true) := by
  have h9 := hy.1
  intro d
  induction d with
  | zero =>
    intro i hd hi
    refine Tot.up ?_
    simp only [laws_FnCycles.l2]
    refine Tot.neg (by omega) ?_
    simp only [spec_DrawBackOrder.f]
    refine Tot.bind (Q := fun y => y.length ≤ 9) (Tot.bind (drawIs_tot l hl) (fun y1 h1 => Tot.some_ h1)) (fun b hb => ?_)
    obtain ⟨r, h1, _, _, h4, h5⟩ := back_tot b (by omega)
    refine Tot.bind h5 (fun y1 e1 => Tot.bind h4 (fun y2 e2 => Tot.bind (drawApply_tot l hl) (fun y3 h3 => ?_)))
    rw [e1, e2]
    refine Tot.bind (implApp_tot y3.1 y3.2 (by omega)) (fun y4 e4 => Tot.bind (specApp_tot y3.1 y3.2 (by omega)) (fun y5 e5 => ?_))
    rw [e4, e5]
    have hal := appV_length y3.1 y3.2
    refine Tot.neg (by simp) (Tot.bind (sameInts_self r.1 (by omega)) (fun y6 e6 => Tot.pos e6 (Tot.neg (by simp) (Tot.bind (sameTexts_self _ (by omega)) (fun y7 e7 => ?_)))))
    rw [e7]
    exact j7_tot y3.1 y3.2 h3.1 h3.2
  | succ d ih =>
    intro i hd hi
    have hc := hy.2 _ (List.getElem_mem (show i < y.length by omega))
    have hrd : rd_L3 y (i : Int) = y[i] := by
      unfold rd_L3
      rw [Int.toNat_natCast]
      exact getDin y _ i (by omega)
    refine Tot.up ?_
    simp only [laws_FnCycles.l2]
    rw [hrd, w64 (n := (i : Int) + 1) (by omega) (by omega)]
    exact Tot.pos (by omega) (Tot.pos (by omega) (Tot.pos (by omega) (Tot.pos (by omega) (Tot.bind (sameInts_self _ (by omega)) (fun y1 e1 => Tot.pos e1 (ih (i + 1) (by omega) (by omega)))))))
theorem cyc_ok (c : List Int) (hc : c.length ≤ 1048576) (r : List (List Int) × Bool) (h : Tot (fun k => impl_CyclesOf.f k c) (fun z => z = r)) : r.2 = isOrd c := by
  simp only [impl_CyclesOf.f] at h
  by_cases ho : isOrd c = true
  · obtain ⟨h9, ho2⟩ := isOrd_iff.1 ho
    obtain ⟨y, hy, h1, h2⟩ := cycles_tot c h9 ho2
    have h3 : Tot (fun k => (impl_IsOrder.f k c).bind fun t => if t = true then (impl_cycles.f k c).bind fun t => some (t, true) else some ([], false)) (fun z => z.2 = true) :=
      Tot.bind (implOrd_tot c hc) (fun y1 e1 => Tot.pos (e1.trans ho) (Tot.bind h2 (fun y2 e2 => Tot.some_ rfl)))
    obtain ⟨z, ⟨h4, h5⟩, _⟩ := h.and h3
    rw [ho, ← h5, h4]
  · have h3 : Tot (fun k => (impl_IsOrder.f k c).bind fun t => if t = true then (impl_cycles.f k c).bind fun t => some (t, true) else some ([], false)) (fun z => z.2 = false) :=
      Tot.bind (implOrd_tot c hc) (fun y1 e1 => Tot.neg (by rw [e1]; exact ho) (Tot.some_ rfl))
    obtain ⟨z, ⟨h4, h5⟩, _⟩ := h.and h3
    rw [Bool.not_eq_true] at ho
    rw [ho, ← h5, h4]
theorem j4_tot (l : List Int) (hl : Bytes l) : Tot (fun k => laws_FnCycles.j4 k l) (fun y => y = true) := by
  refine Tot.up ?_
  simp only [laws_FnCycles.j4, spec_DrawCyclesOf.f]
  refine Tot.bind (Q := fun y => y.length ≤ 9) (Tot.bind (drawIs_tot l hl) (fun y1 h1 => Tot.some_ h1)) (fun c hc => ?_)
  have hc' : c.length ≤ 1048576 := by omega
  obtain ⟨r, hr, h1, h2⟩ := cyc_same c hc'
  obtain ⟨s, h3, h4⟩ := sign_same c hc'
  obtain ⟨n, h5, h6⟩ := length_same c hc'
  have hok := cyc_ok c hc' r h2
  refine Tot.bind h2 (fun y1 e1 => Tot.bind h1 (fun y2 e2 => Tot.bind h4 (fun y3 e3 => Tot.bind h3 (fun y4 e4 => Tot.bind h6 (fun y5 e5 => Tot.bind h5 (fun y6 e6 => ?_))))))
  rw [e1, e2, e3, e4, e5, e6]
  refine Tot.neg (by simp) (Tot.pos rfl (Tot.neg (by simp) (Tot.pos rfl (Tot.neg (by simp) (Tot.pos rfl (Tot.bind (implOrd_tot c hc') (fun y7 e7 => ?_)))))))
  rw [e7, hok, bne_self_eq_false]
  refine Tot.up ?_
  simp only [laws_FnCycles.j5]
  exact Tot.neg (by simp) (l2_tot l hl r.1 hr r.1.length 0 (by omega) (by omega))
theorem l1_tot (l : List Int) (hl : Bytes l) (n : Nat) (hn : n ≤ 9) : ∀ (d i : Nat), n - i = d → i ≤ n → Tot (fun k => laws_FnCycles.l1 k l (firsts n) (n : Int) (i : Int)) (fun y => y = true) := by
  intro d
  induction d with
  | zero =>
    intro i hd hi
    refine Tot.up ?_
    simp only [laws_FnCycles.l1]
    exact Tot.neg (by omega) (j4_tot l hl)
  | succ d ih =>
    intro i hd hi
    refine Tot.up ?_
    simp only [laws_FnCycles.l1]
    rw [firsts_rd n i (by omega), w64 (n := (i : Int) + 1) (by omega) (by omega)]
    exact Tot.pos (by omega) (Tot.pos (by omega) (Tot.pos (by rw [firsts_length]; omega) (Tot.pos rfl (ih (i + 1) (by omega) (by omega)))))
/-- The power of an order, as a list. -/
def powV (a : List Int) : Nat → List Int
  | 0 => firsts a.length
  | k + 1 => thenV (powV a k) a
theorem powV_ok (a : List Int) (ho : isOrd a = true) : ∀ k, (powV a k).length = a.length ∧ isOrd (powV a k) = true ∧ ∀ i, i < a.length → fnO (powV a k) i = itN (fnO a) k i := by
  have ho2 := (isOrd_iff.1 ho).2
  intro k
  induction k with
  | zero =>
    have hl : (firsts a.length).length = a.length := firsts_length _
    refine ⟨hl, isOrd_iff.2 ⟨by have := (isOrd_iff.1 ho).1; rw [powV, hl]; exact this, firsts_nodup _, fun x hx => by rw [powV, hl]; exact (mem_firsts _ _).1 hx⟩, fun i hi => ?_⟩
    unfold fnO
    rw [powV, firsts_rd _ i hi]
    rfl
  | succ k ih =>
    obtain ⟨h1, h2, h3⟩ := ih
    refine ⟨then_length _ _, then_isOrd _ _ h1 h2 ho, fun i hi => ?_⟩
    rw [powV, fnO_then _ _ h1 ho2.2 i hi, h3 _ ((fnO_perm a ho2).1 i hi)]
    rfl
theorem powV_id (a : List Int) (ho : isOrd a = true) (k : Nat) : powV a k = firsts a.length ↔ ∀ i, i < a.length → itN (fnO a) k i = i := by
  obtain ⟨h1, h2, h3⟩ := powV_ok a ho k
  constructor
  · intro e i hi
    rw [← h3 i hi, e]
    unfold fnO
    rw [firsts_rd _ i hi]
    rfl
  · intro h
    refine rd_ext _ _ (by rw [h1, firsts_length]) (fun i hi => ?_)
    have h4 := (fnO_cast _ (isOrd_iff.1 h2).2.2 i hi).1
    rw [h1] at hi
    rw [h4, h3 i hi, h i hi, firsts_rd _ i hi]
theorem implLength_val (a : List Int) (ho : isOrd a = true) : ∃ n : Nat, 0 < n ∧ n ≤ 2520 ∧ (∀ k, (∀ i, i < a.length → itN (fnO a) k i = i) ↔ n ∣ k) ∧ Tot (fun k => impl_LengthOf.f k a) (fun y => y = ((n : Int), true)) := by
  obtain ⟨h9, ho2⟩ := isOrd_iff.1 ho
  obtain ⟨O, hO, _, h2⟩ := cycles_dec a h9 ho2
  obtain ⟨y, hy, _, h4⟩ := cycles_tot a h9 ho2
  obtain ⟨z, ⟨e1, e2⟩, _⟩ := h2.and h4
  rw [e1] at e2
  subst e2
  have hone : LcOk 1 := ⟨by omega, Nat.one_dvd _⟩
  have hok : ∀ (L : List (List Int)), CycOk L → ∀ m, LcOk m → LcOk (L.foldl lcf m) := by
    intro L
    induction L with
    | nil => intro _ m hm; exact hm
    | cons c L ih => intro hL m hm; exact ih (fun d hd => hL d (by simp [hd])) _ (lcf_ok _ hL m hm c (by simp))
  have hn := hok _ hy.1 1 hone
  refine ⟨(castLL O).foldl lcf 1, hn.1, hn.le, fun k => ?_, ?_⟩
  · rw [dec_it _ _ O hO k, lenV_dvd]
    constructor
    · exact fun h => ⟨Nat.one_dvd _, h⟩
    · exact fun h => h.2
  · simp only [impl_LengthOf.f]
    refine Tot.bind (implOrd_tot a (by omega)) (fun y1 e1 => Tot.pos (e1.trans ho) (Tot.bind h2 (fun y2 e2 => ?_)))
    rw [e2]
    exact implLen_l0 _ hy.1 hy.2 (castLL O).length 0 1 (by omega) (by omega) hone
def sgV (a : List Int) : Int := if parN a.length (fnO a) = true then -1 else 1
theorem implSign_val (a : List Int) (ho : isOrd a = true) : Tot (fun k => impl_SignOf.f k a) (fun y => y = (sgV a, true)) := by
  obtain ⟨h9, ho2⟩ := isOrd_iff.1 ho
  obtain ⟨O, hO, _, h2⟩ := cycles_dec a h9 ho2
  obtain ⟨h3, h4⟩ := cyc_par a.length (fnO a) O hO.1 hO.2.1 hO.2.2
  have hlen : (castLL O).length = O.length := by simp [castLL]
  simp only [impl_SignOf.f]
  refine Tot.bind (implOrd_tot a (by omega)) (fun y1 e1 => Tot.pos (e1.trans ho) (Tot.bind h2 (fun y2 e2 => ?_)))
  rw [e2, hlen, show (a.length : Int) - (O.length : Int) = ((a.length - O.length : Nat) : Int) by omega, wnat _ (by omega)]
  have e3 : Int.tmod ((a.length - O.length : Nat) : Int) 2 = (((a.length - O.length) % 2 : Nat) : Int) := tmod_nat _ 2
  rw [e3]
  unfold sgV
  rw [h4]
  by_cases hq : (a.length - O.length) % 2 = 1
  · rw [decide_eq_true hq]
    exact Tot.neg (by omega) (Tot.some_ rfl)
  · rw [decide_eq_false hq]
    exact Tot.pos (by omega) (Tot.some_ rfl)
theorem sgV_then (a b : List Int) (hab : a.length = b.length) (ha : isOrd a = true) (hb : isOrd b = true) : sgV (thenV a b) = wrap64 (sgV a * sgV b) := by
  have ha2 := (isOrd_iff.1 ha).2
  have hb2 := (isOrd_iff.1 hb).2
  have hp1 := fnO_perm a ha2
  have hp2 := fnO_perm b hb2
  rw [hab] at hp1
  have h1 : parN (thenV a b).length (fnO (thenV a b)) = Bool.xor (parN a.length (fnO a)) (parN b.length (fnO b)) := by
    rw [then_length, hab, parN_congr _ _ _ (fun i hi => fnO_then a b hab hb2.2 i hi)]
    exact parN_comp _ _ _ hp1 hp2
  unfold sgV
  rw [h1]
  cases parN a.length (fnO a) <;> cases parN b.length (fnO b) <;> simp <;> exact (w64 (by omega) (by omega)).symm
theorem l0_tot (l : List Int) (hl : Bytes l) (a : List Int) (ho : isOrd a = true) (n : Nat) (hn : 0 < n ∧ n ≤ 2520) (hd : ∀ k, (∀ i, i < a.length → itN (fnO a) k i = i) ↔ n ∣ k) : ∀ (d i : Nat), n - i = d → i ≤ n →
    Tot (fun k => laws_FnCycles.l0 k l a (firsts a.length) (n : Int) (powV a i) ((i + 1 : Nat) : Int)) (fun y => y = true) := by
  have h9 := (isOrd_iff.1 ho).1
  intro d
  induction d with
  | zero =>
    intro i hdi hi
    refine Tot.up ?_
    simp only [laws_FnCycles.l0]
    refine Tot.neg (by omega) ?_
    rw [firsts_length]
    exact l1_tot l hl a.length h9 a.length 0 (by omega) (by omega)
  | succ d ih =>
    intro i hdi hi
    obtain ⟨h1, h2, h3⟩ := powV_ok a ho i
    obtain ⟨h4, h5, h6⟩ := powV_ok a ho (i + 1)
    refine Tot.up ?_
    simp only [laws_FnCycles.l0]
    refine Tot.pos (by omega) (Tot.bind (implThenOrder_tot (powV a i) a (by omega) (by omega)) (fun y1 e1 => ?_))
    have e2 : thenOV (powV a i) a = (powV a (i + 1), true) := by
      unfold thenOV
      rw [if_pos ⟨h2, ho, h1⟩]
      rfl
    rw [e1, e2, w64 (n := ((i + 1 : Nat) : Int) + 1) (by omega) (by omega)]
    refine Tot.pos rfl (Tot.bind (sameInts_tot (powV a (i + 1)) (firsts a.length) (by omega)) (fun y2 e3 => ?_))
    have e4 : y2 = (((i + 1 : Nat) : Int) == (n : Int)) := by
      rw [e3, Bool.eq_iff_iff, decide_eq_true_iff, beq_iff_eq, powV_id a ho, hd]
      constructor
      · intro h
        have := Nat.le_of_dvd (by omega) h
        omega
      · intro h
        have : i + 1 = n := by omega
        rw [this]
        exact Nat.dvd_refl n
    rw [e4]
    exact Tot.neg (by simp) (ih (i + 1) (by omega) (by omega))
theorem j0_tot (l : List Int) (hl : Bytes l) (a b : List Int) (ha : a.length ≤ 9) (hb : b.length ≤ 9) : Tot (fun k => laws_FnCycles.j0 k l a b (thenOV a b).1 (thenOV a b).2 false) (fun y => y = true) := by
  refine Tot.up ?_
  simp only [laws_FnCycles.j0]
  refine Tot.neg (by simp) ?_
  unfold thenOV
  by_cases h : isOrd a = true ∧ isOrd b = true ∧ a.length = b.length
  · rw [if_pos h]
    obtain ⟨hoa, hob, hab⟩ := h
    obtain ⟨r, h1, h2, h3, _, h5⟩ := back_tot a (by omega)
    have hbk := h3 hoa
    obtain ⟨n, hn0, hn1, hd, hn⟩ := implLength_val a hoa
    have e0 : thenOV a r.1 = (firsts a.length, true) := by
      unfold thenOV
      rw [if_pos ⟨hoa, hbk.isOrd hoa, hbk.1.symm⟩, then_back a r.1 (isOrd_iff.1 hoa).2 hbk]
    refine Tot.pos rfl (Tot.bind h5 (fun y1 e1 => ?_))
    rw [e1]
    refine Tot.bind (implThenOrder_tot a r.1 (by omega) (by omega)) (fun y2 e2 => ?_)
    rw [e2, e0]
    refine Tot.bind (implSign_val a hoa) (fun y3 e3 => Tot.bind (implSign_val b hob) (fun y4 e4 => Tot.bind (implSign_val _ (then_isOrd a b hab hoa hob)) (fun y5 e5 => Tot.bind hn (fun y6 e6 => ?_))))
    rw [e3, e4, e5, e6]
    refine Tot.pos (h2.trans hoa) (Tot.pos rfl (Tot.pos rfl (Tot.pos rfl (Tot.pos rfl (Tot.pos (sgV_then a b hab hoa hob) (Tot.pos rfl ?_))))))
    rw [decide_eq_false (show ¬ (n : Int) < 1 by omega)]
    refine Tot.up ?_
    simp only [laws_FnCycles.j1]
    refine Tot.neg (by simp) (Tot.bind (Tot.some_ rfl) (fun y7 e7 => ?_))
    subst e7
    rw [List.nil_append]
    refine Tot.pos (by rw [firsts_length]; simp; omega) ?_
    exact l0_tot l hl a hoa n ⟨hn0, hn1⟩ hd n 0 (by omega) (by omega)
  · rw [if_neg h]
    exact Tot.neg (by simp) (j4_tot l hl)
theorem FnCycles : laws_FnCycles.Pure := by
  intro l0 l1 hm0 hx0 hw0 hm1 hx1 hw1
  have hmx : maxLen = 9223372036854775807 := rfl
  refine Tot.ex ?_
  simp only [laws_FnCycles.f]
  rw [w64 (n := (l0.length : Int) + (l1.length : Int)) (by omega) (by omega)]
  refine Tot.ite (fun _ => Tot.some_ rfl) (fun hlen => ?_)
  have hb0 : Bytes l0 := bytes_of (by omega) hw0
  have hb1 : Bytes l1 := bytes_of (by omega) hw1
  refine Tot.bind (drawThen_tot l0 hb0) (fun y hy => ?_)
  have htl := thenOV_length y.1 y.2
  refine Tot.bind (implThenOrder_tot y.1 y.2 (by omega) (by omega)) (fun y1 e1 => Tot.bind (specThenOrder_tot y.1 y.2 (by omega) (by omega)) (fun y2 e2 => ?_))
  rw [e1, e2]
  refine Tot.neg (by simp) (Tot.bind (sameInts_self _ (by omega)) (fun y3 e3 => ?_))
  rw [e3]
  exact j0_tot l1 hb1 y.1 y.2 hy.1 hy.2

end Go.Proofs.Ytebpikejljgfgaa.Pure
