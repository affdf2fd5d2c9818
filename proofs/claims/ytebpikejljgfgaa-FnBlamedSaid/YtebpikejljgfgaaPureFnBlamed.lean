/- Proved: a letter that was lost is laid to just the hand that lost it, for all bytes that trips are drawn from. Conditions: those of the given statement alone. -/
import Derived.Test.YtebpikejljgfgaaPFnBlamedx13
import Derived.Test.YtebpikejljgfgaaBase
set_option linter.unusedVariables false
set_option linter.unusedSimpArgs false
namespace Go.Proofs.Ytebpikejljgfgaa.Pure
open Go.RowKit Go.Proofs.Ytebpikejljgfgaa.PFnBlamed Go.Proofs.Ytebpikejljgfgaa.Base Go.Proofs.YtebpikejljgfgaaW.PrintWords Go.Proofs.YtebpikejljgfgaaW.PrintLast Go.Proofs.YtebpikejljgfgaaW.PrintMore Go.Proofs.Ytebpikejljgfgaa
def Bytes (l : List Int) : Prop := l.length ≤ 1048576 ∧ ∀ x ∈ l, 0 ≤ x ∧ x ≤ 255
theorem and255 (E : Int) : 0 ≤ Go.bits .and .u64 E 255 ∧ Go.bits .and .u64 E 255 ≤ 255 := by
  have h : Go.bits .and .u64 E 255 = IntKind.u64.wrap (((BitVec.ofInt 64 E) &&& (BitVec.ofInt 64 255)).toNat : Int) := rfl
  have h2 : ((BitVec.ofInt 64 E) &&& (BitVec.ofInt 64 255)).toNat ≤ 255 := by
    rw [BitVec.toNat_and]
    exact Nat.and_le_right
  have h3 : IntKind.u64.wrap (((BitVec.ofInt 64 E) &&& (BitVec.ofInt 64 255)).toNat : Int) = (((BitVec.ofInt 64 E) &&& (BitVec.ofInt 64 255)).toNat : Int) := by
    show (_ : Int) % 2 ^ 64 = _
    omega
  rw [h, h3]
  omega
def CurOk (p' p : Int) : Prop := p ≤ p' ∧ p' ≤ p + 2
theorem next_tot (l : List Int) (hl : Bytes l) (p h : Int) (hp : 0 ≤ p ∧ p ≤ 1099511627776) : ∃ y, spec_l1Cur_next.f l p h = some y ∧ (0 ≤ y.1 ∧ y.1 ≤ 255 ∧ y.2.1 = p + 1) := by
  have hl1 := hl.1
  unfold spec_l1Cur_next.f
  rw [w64 (n := p + 1) (by omega) (by omega)]
  by_cases h1 : p < (l.length : Int)
  · obtain ⟨i, rfl⟩ := Int.eq_ofNat_of_zero_le hp.1
    have h2 := hl.2 _ (rd_mem l i (by omega))
    rw [if_pos h1, if_pos hp.1, if_pos (by omega)]
    refine ⟨_, rfl, ?_⟩
    simp only
    rw [w64 (by omega) (by omega)]
    exact ⟨h2.1, h2.2, trivial⟩
  · rw [if_neg h1, if_neg (by omega)]
    refine ⟨_, rfl, ?_⟩
    have h3 := and255 ((IntKind.u64.wrap ((IntKind.u64.wrap ((IntKind.u64.wrap (h * 6364136223846793005)) + 0)) + 1442695040888963407)) / 1099511627776)
    simp only
    rw [w64 (by omega) (by omega)]
    exact ⟨h3.1, h3.2, trivial⟩
theorem pick_tot (l : List Int) (hl : Bytes l) (p h a : Int) (hp : 0 ≤ p ∧ p ≤ 549755813888) (ha : a ≤ 1048576) : ∃ y, spec_l1Cur_pick.f l p h a = some y ∧ (0 ≤ y.1 ∧ (y.1 < a ∨ y.1 = 0) ∧ p ≤ y.2.1 ∧ y.2.1 ≤ p + 2) := by
  unfold spec_l1Cur_pick.f
  by_cases h1 : a ≤ 1
  · rw [if_pos h1]
    exact ⟨_, rfl, by simp only; omega, .inr rfl, by simp only; omega, by simp only; omega⟩
  · rw [if_neg h1]
    obtain ⟨⟨b, p1, h'⟩, e1, hb0, hb1, hp1⟩ := next_tot l hl p h (by omega)
    simp only at hb0 hb1 hp1
    rw [e1]
    simp only [Option.bind_some]
    by_cases h2 : a > 200
    · obtain ⟨⟨c, p2, h''⟩, e2, hc0, hc1, hp2⟩ := next_tot l hl p1 h' (by omega)
      simp only at hc0 hc1 hp2
      rw [if_pos h2, e2]
      simp only [Option.bind_some]
      rw [if_neg (by omega), w64 (n := b * 256) (by omega) (by omega), w64 (by omega) (by omega), Int.tmod_eq_emod_of_nonneg (by omega)]
      have h3 := Int.emod_nonneg (b * 256 + c) (show a ≠ 0 by omega)
      have h4 := Int.emod_lt_of_pos (b * 256 + c) (show 0 < a by omega)
      exact ⟨_, rfl, h3, .inl h4, by simp only; omega, by simp only; omega⟩
    · rw [if_neg h2, if_neg (by omega), Int.tmod_eq_emod_of_nonneg (by omega)]
      have h3 := Int.emod_nonneg b (show a ≠ 0 by omega)
      have h4 := Int.emod_lt_of_pos b (show 0 < a by omega)
      exact ⟨_, rfl, h3, .inl h4, by simp only; omega, by simp only; omega⟩
theorem bytes_of {l : List Int} (h : l.length ≤ 1048576) (hw : ∀ x ∈ l, (Lit.int .u8 x).wf = true) : Bytes l := by
  refine ⟨h, fun x hx => ?_⟩
  have h2 := hw x hx
  simp only [Lit.wf, Bool.and_eq_true, decide_eq_true_iff] at h2
  exact h2
theorem one_tot (l : List Int) (hl : Bytes l) (p h a : Int) (hp : 0 ≤ p ∧ p ≤ 549755813888) (ha : a ≤ 1048576) : ∃ y, spec_l1Cur_one.f l p h a = some y ∧ (p ≤ y.2.1 ∧ y.2.1 ≤ p + 2) := by
  unfold spec_l1Cur_one.f
  obtain ⟨⟨b, p1, h'⟩, e1, hb0, hb1, hp0, hp1⟩ := pick_tot l hl p h a hp ha
  simp only at hp0 hp1
  rw [e1]
  exact ⟨_, rfl, hp0, hp1⟩
theorem among_tot (l : List Int) (hl : Bytes l) (p h : Int) (m : List Int) (hp : 0 ≤ p ∧ p ≤ 549755813888) (hm : 0 < m.length) (hm2 : m.length ≤ 1048576) : ∃ y, spec_l1Cur_among.f l p h m = some y ∧ (y.1 ∈ m ∧ p ≤ y.2.1 ∧ y.2.1 ≤ p + 2) := by
  unfold spec_l1Cur_among.f
  obtain ⟨⟨b, p1, h'⟩, e1, hb0, hb1, hp0, hp1⟩ := pick_tot l hl p h (m.length : Int) hp (by omega)
  simp only at hb0 hb1 hp0 hp1
  rw [e1]
  simp only [Option.bind_some]
  obtain ⟨i, rfl⟩ := Int.eq_ofNat_of_zero_le hb0
  rw [if_pos hb0, if_pos (by omega)]
  exact ⟨_, rfl, rd_mem m i (by omega), by simp only; omega, by simp only; omega⟩
theorem handSecrets_l0 (l : List Int) (hl : Bytes l) : ∀ (n : Nat) (out : List Int) (m p h : Int), m.toNat = n → n ≤ 100 → 0 < (out.length : Int) + m → 0 ≤ m → out.length + n ≤ 100 → 0 ≤ p ∧ p + 2 * (n : Int) ≤ 17179869184 →
    Tot (fun k => spec_l1Cur_handSecrets.l0 k out m l p h) (fun y => y.1.length = out.length + n ∧ p ≤ y.2.1 ∧ y.2.1 ≤ p + 2 * (n : Int) + 4) := by
  intro n
  induction n with
  | zero =>
    intro out m p h hm hn h0 hm0 ho hp
    refine Tot.up ?_
    simp only [spec_l1Cur_handSecrets.l0]
    refine Tot.neg (by omega) (Tot.bind (Tot.fix (one_tot l hl p h 20 (by omega) (by omega))) (fun y hy => ?_))
    refine Tot.ite (fun _ => ?_) (fun _ => Tot.some_ ⟨by simp, by simp only; omega, by simp only; omega⟩)
    refine Tot.bind (Tot.fix (among_tot l hl _ _ _ (by omega) (by simp) (by simp))) (fun z hz => ?_)
    refine Tot.pos (by omega) (Tot.some_ ⟨by simp, by simp only; omega, by simp only; omega⟩)
  | succ n ih =>
    intro out m p h hm hn h0 hm0 ho hp
    refine Tot.up ?_
    simp only [spec_l1Cur_handSecrets.l0]
    refine Tot.pos (by omega) (Tot.bind (Tot.fix (pick_tot l hl p h 250 (by omega) (by omega))) (fun y hy => ?_))
    refine Tot.pos (by omega) ?_
    rw [w64 (n := m - 1) (by omega) (by omega)]
    refine (ih (out ++ [wrap64 (1 + wrap64 (y.1 * 5))]) (m - 1) y.2.1 y.2.2 (by omega) (by omega) (by rw [List.length_append]; simp only [List.length_singleton]; omega) (by omega) (by rw [List.length_append]; simp only [List.length_singleton]; omega) (by omega)).imp (fun z hz => ?_)
    rw [List.length_append] at hz
    simp only [List.length_singleton] at hz
    omega
theorem handSecrets_tot (l : List Int) (hl : Bytes l) (p h : Int) (hp : 0 ≤ p ∧ p ≤ 1073741824) : Tot (fun k => spec_l1Cur_handSecrets.f k l p h) (fun y => 1 ≤ y.1.length ∧ y.1.length ≤ 5 ∧ p ≤ y.2.1 ∧ y.2.1 ≤ p + 100) := by
  simp only [spec_l1Cur_handSecrets.f]
  refine Tot.bind (Tot.fix (pick_tot l hl p h 5 (by omega) (by omega))) (fun y hy => ?_)
  rw [w64 (n := 1 + y.1) (by omega) (by omega)]
  refine (handSecrets_l0 l hl (1 + y.1).toNat [] (1 + y.1) y.2.1 y.2.2 rfl (by omega) (by simp; omega) (by omega) (by simp; omega) (by omega)).imp (fun z hz => ?_)
  rw [List.length_nil] at hz
  omega
theorem drawRun_tot (l : List Int) (hl : Bytes l) : Tot (fun k => spec_DrawRunTrip.f k l) (fun y => y.1.length ≤ 5) := by
  simp only [spec_DrawRunTrip.f]
  refine Tot.bind (handSecrets_tot l hl 0 0 (by omega)) (fun y1 h1 => ?_)
  refine Tot.bind (Tot.fix (among_tot l hl _ _ _ (by omega) (by simp) (by simp))) (fun y2 h2 => ?_)
  refine Tot.bind (Tot.fix (pick_tot l hl _ _ _ (by omega) (by rw [w64 (by omega) (by omega)]; omega))) (fun y3 h3 => Tot.some_ (by simp only; omega))
theorem sameReceipts_self (l : List S71) (hl : l.length ≤ 1048576) : Tot (fun k => laws_sameReceipts.f k l l) (fun y => y = true) := by
  have h := fun k hk => loop_up (fun k (x : Int) => laws_sameReceipts.l0 k l l (l.length : Int) x) l.length 0 (fun i => (i : Int)) true (fun i k hi _ => by
    simp only [laws_sameReceipts.l0]
    rw [if_pos (by omega), if_pos (by omega), if_pos (by omega), if_pos (by omega), if_neg (by simp), w64 (by omega) (by omega)]
    rfl) (fun k _ => by
    simp only [laws_sameReceipts.l0]
    rw [if_neg (by omega)]) k hk
  simp only [laws_sameReceipts.f]
  exact Tot.pos trivial (Tot.at_ (l.length + 1) rfl (fun k hk => h k (by omega)))
theorem sameInts_tot (a b : List Int) (ha : a.length ≤ 1048576) : Tot (fun k => laws_sameInts.f k a b) (fun y => y = decide (a = b)) := by
  simp only [laws_sameInts.f]
  by_cases hl : a.length = b.length
  · refine Tot.pos (by omega) ?_
    have key : ∀ (d i : Nat), a.length - i = d → i ≤ a.length → Tot (fun k => laws_sameInts.l0 k a b (a.length : Int) (i : Int)) (fun y => y = decide (a.drop i = b.drop i)) := by
      intro d
      induction d with
      | zero =>
        intro i hd hi
        refine Tot.up ?_
        simp only [laws_sameInts.l0]
        refine Tot.neg (by omega) (Tot.some_ ?_)
        rw [List.drop_of_length_le (by omega), List.drop_of_length_le (by omega)]
        rfl
      | succ d ih =>
        intro i hd hi
        refine Tot.up ?_
        simp only [laws_sameInts.l0]
        rw [rd_in a i (by omega), rd_in b i (by omega), w64 (n := (i : Int) + 1) (by omega) (by omega), List.drop_eq_getElem_cons (show i < a.length by omega), List.drop_eq_getElem_cons (show i < b.length by omega)]
        refine Tot.pos (by omega) (Tot.pos (by omega) (Tot.pos (by omega) (Tot.pos (by omega) (Tot.ite (fun e => ?_) (fun e => Tot.some_ ?_)))))
        · refine (ih (i + 1) (by omega) (by omega)).imp (fun y hy => ?_)
          rw [hy, Bool.eq_iff_iff, decide_eq_true_iff, decide_eq_true_iff]
          constructor
          · intro h
            rw [e, h]
          · intro h
            exact (List.cons.inj h).2
        · exact (decide_eq_false (fun h => e (List.cons.inj h).1)).symm
    have h := key a.length 0 (by omega) (by omega)
    rw [List.drop_zero, List.drop_zero] at h
    exact h
  · refine Tot.neg (by omega) (Tot.some_ ?_)
    exact (decide_eq_false (fun h => hl (by rw [h]))).symm
theorem sameInts_self (a : List Int) (ha : a.length ≤ 1048576) : Tot (fun k => laws_sameInts.f k a a) (fun y => y = true) := (sameInts_tot a a ha).imp (fun y hy => by rw [hy]; exact decide_eq_true rfl)
theorem l1In_eq (a b c : Int) : spec_l1In.f a b c = some (decide (b ≤ a ∧ a ≤ c)) := by
  unfold spec_l1In.f
  by_cases h : a ≥ b
  · rw [if_pos h]
    congr 1
    exact decide_eq_decide.2 ⟨fun h1 => ⟨h, h1⟩, fun h1 => h1.2⟩
  · rw [if_neg h, decide_eq_false (fun h1 => h h1.1)]
theorem specAll_l0 (l : List Int) (hl : l.length ≤ 1048576) (a b : Int) : ∀ (d k i : Nat), l.length - i = d → d < k → i ≤ l.length → spec_l1All.l0 k a b l (l.length : Int) (i : Int) = some (decide (∀ x ∈ l.drop i, a ≤ x ∧ x ≤ b)) := by
  intro d
  induction d with
  | zero =>
    intro k i hd hk hi
    obtain ⟨k, rfl⟩ := rounds hk
    simp only [spec_l1All.l0]
    rw [if_neg (by omega), List.drop_of_length_le (by omega)]
    simp
  | succ d ih =>
    intro k i hd hk hi
    obtain ⟨k, rfl⟩ := rounds hk
    have hlt : i < l.length := by omega
    simp only [spec_l1All.l0]
    rw [if_pos (by omega), if_pos (by omega), if_pos (by omega), rd_in l i hlt, w64 (by omega) (by omega), l1In_eq]
    simp only [Option.bind_some]
    have hdrop := List.drop_eq_getElem_cons hlt
    by_cases e : a ≤ l[i] ∧ l[i] ≤ b
    · have h := ih k (i + 1) (by omega) (by omega) (by omega)
      rw [decide_eq_true e, if_pos rfl]
      refine Eq.trans h ?_
      congr 1
      refine decide_eq_decide.2 ?_
      rw [hdrop]
      simp only [List.mem_cons, forall_eq_or_imp]
      exact ⟨fun h => ⟨e, h⟩, fun h => h.2⟩
    · rw [decide_eq_false e, if_neg (by simp)]
      congr 1
      refine (decide_eq_false (fun h => e (h l[i] (by rw [hdrop]; exact List.mem_cons_self)))).symm
theorem specAll_eq (l : List Int) (hl : l.length ≤ 1048576) (a b : Int) (k : Nat) (hk : l.length < k) : spec_l1All.f k l a b = some (decide (∀ x ∈ l, a ≤ x ∧ x ≤ b)) := by
  have h := specAll_l0 l hl a b l.length k 0 (by omega) hk (by omega)
  rw [List.drop_zero] at h
  exact h
def areSec (l : List Int) (n : Int) : Bool := decide (1 ≤ (l.length : Int) ∧ (l.length : Int) ≤ n) && decide (∀ x ∈ l, 1 ≤ x ∧ x ≤ 1498)
theorem specSecrets_eq (l : List Int) (hl : l.length ≤ 1048576) (k : Nat) (hk : l.length < k) : spec_l11Secrets.f k l = some (areSec l 6) := by
  unfold spec_l11Secrets.f areSec
  rw [l1In_eq, specAll_eq l hl 1 1498 k hk]
  simp only [Option.bind_some]
  by_cases h : 1 ≤ (l.length : Int) ∧ (l.length : Int) ≤ 6 <;> simp [h]
theorem areSec_true {l : List Int} {n : Int} (h : areSec l n = true) : 1 ≤ (l.length : Int) ∧ (l.length : Int) ≤ n ∧ ∀ x ∈ l, 1 ≤ x ∧ x ≤ 1498 := by
  unfold areSec at h
  rw [Bool.and_eq_true, decide_eq_true_iff, decide_eq_true_iff] at h
  exact ⟨h.1.1, h.1.2, h.2⟩
theorem within_eq (a b c : Int) : impl_within.f a b c = some (decide (b ≤ a ∧ a ≤ c)) := by
  unfold impl_within.f
  by_cases h : a ≥ b
  · rw [if_pos h]
    congr 1
    exact decide_eq_decide.2 ⟨fun h1 => ⟨h, h1⟩, fun h1 => h1.2⟩
  · rw [if_neg h, decide_eq_false (fun h1 => h h1.1)]
theorem implAll_l0 (l : List Int) (hl : l.length ≤ 1048576) (a b : Int) : ∀ (d k i : Nat), l.length - i = d → d < k → i ≤ l.length → impl_allWithin.l0 k a b l (l.length : Int) (i : Int) = some (decide (∀ x ∈ l.drop i, a ≤ x ∧ x ≤ b)) := by
  intro d
  induction d with
  | zero =>
    intro k i hd hk hi
    obtain ⟨k, rfl⟩ := rounds hk
    simp only [impl_allWithin.l0]
    rw [if_neg (by omega), List.drop_of_length_le (by omega)]
    simp
  | succ d ih =>
    intro k i hd hk hi
    obtain ⟨k, rfl⟩ := rounds hk
    have hlt : i < l.length := by omega
    simp only [impl_allWithin.l0]
    rw [if_pos (by omega), if_pos (by omega), if_pos (by omega), rd_in l i hlt, w64 (by omega) (by omega), within_eq]
    simp only [Option.bind_some]
    have hdrop := List.drop_eq_getElem_cons hlt
    by_cases e : a ≤ l[i] ∧ l[i] ≤ b
    · have h := ih k (i + 1) (by omega) (by omega) (by omega)
      rw [decide_eq_true e, if_pos rfl]
      refine Eq.trans h ?_
      congr 1
      refine decide_eq_decide.2 ?_
      rw [hdrop]
      simp only [List.mem_cons, forall_eq_or_imp]
      exact ⟨fun h => ⟨e, h⟩, fun h => h.2⟩
    · rw [decide_eq_false e, if_neg (by simp)]
      congr 1
      refine (decide_eq_false (fun h => e (h l[i] (by rw [hdrop]; exact List.mem_cons_self)))).symm
theorem implAll_eq (l : List Int) (hl : l.length ≤ 1048576) (a b : Int) (k : Nat) (hk : l.length < k) : impl_allWithin.f k l a b = some (decide (∀ x ∈ l, a ≤ x ∧ x ≤ b)) := by
  have h := implAll_l0 l hl a b l.length k 0 (by omega) hk (by omega)
  rw [List.drop_zero] at h
  exact h
theorem implSecrets_eq (l : List Int) (hl : l.length ≤ 1048576) (n : Int) (k : Nat) (hk : l.length < k) : impl_areSecrets.f k l n = some (areSec l n) := by
  unfold impl_areSecrets.f areSec
  rw [within_eq, implAll_eq l hl 1 1498 k hk]
  simp only [Option.bind_some]
  by_cases h : 1 ≤ (l.length : Int) ∧ (l.length : Int) ≤ n <;> simp [h]
def rcpNum (a c : Int) : Nat := ((c + 1001 * (a + 2) + 7) % 1499).toNat
theorem number_eq (a c : Int) (ha : -1 ≤ a ∧ a ≤ 4) (hc : 0 ≤ c ∧ c ≤ 1000) : Int.tmod (wrap64 ((wrap64 (c + (wrap64 (1001 * (wrap64 (a + 2)))))) + 7)) 1499 = ((rcpNum a c : Nat) : Int) := by
  rw [w64 (n := a + 2) (by omega) (by omega), w64 (n := 1001 * (a + 2)) (by omega) (by omega), w64 (n := c + 1001 * (a + 2)) (by omega) (by omega), w64 (n := c + 1001 * (a + 2) + 7) (by omega) (by omega)]
  unfold rcpNum
  rw [Int.tmod_eq_emod_of_nonneg (by omega)]
  omega
theorem rcpNum_lt (a c : Int) : rcpNum a c < 1499 := by
  unfold rcpNum
  omega
def sgn (s : Int) (h : Nat) (letter : Int) : S71 := ⟨(h : Int) - 1, (h : Int), letter, ((rcpNum ((h : Int) - 1) letter * s.toNat % 1499 : Nat) : Int)⟩
def rcps (l : List Int) (letter : Int) (m : Nat) : List S71 := (List.range m).map fun h => sgn (l.getD h 0) h letter
theorem rcps_length (l : List Int) (letter : Int) (m : Nat) : (rcps l letter m).length = m := by simp [rcps]
theorem rcps_snoc (l : List Int) (letter : Int) (m : Nat) (h : m < l.length) : rcps l letter (m + 1) = rcps l letter m ++ [sgn l[m] m letter] := by
  unfold rcps
  rw [List.range_succ, List.map_append, List.map_singleton, getDin l 0 m h]
theorem firsts_snoc (m : Nat) : firsts (m + 1) = firsts m ++ [(m : Int)] := by
  unfold firsts
  rw [List.range_succ, List.map_append, List.map_singleton]
theorem sign_val (s : Int) (h : Nat) (letter : Int) (hs : 1 ≤ s ∧ s ≤ 1498) : Int.tmod (wrap64 (((rcpNum ((h : Int) - 1) letter : Nat) : Int) * s)) 1499 = ((rcpNum ((h : Int) - 1) letter * s.toNat % 1499 : Nat) : Int) := by
  have hn := rcpNum_lt ((h : Int) - 1) letter
  obtain ⟨q, rfl⟩ := Int.eq_ofNat_of_zero_le (show 0 ≤ s by omega)
  have hb : rcpNum ((h : Int) - 1) letter * q ≤ 1499 * 1499 := Nat.mul_le_mul (by omega) (by omega)
  rw [← Int.natCast_mul, wnat _ (by omega), Int.toNat_natCast]
  exact tmod_nat _ 1499
theorem specSign_eq (s : Int) (h : Nat) (letter : Int) (hh : h ≤ 5) (hs : 1 ≤ s ∧ s ≤ 1498) (hl : 0 ≤ letter ∧ letter ≤ 1000) :
    spec_l11Sign.f s ((h : Int) - 1) letter = some ((sgn s h letter).f0, (sgn s h letter).f1, (sgn s h letter).f2, (sgn s h letter).f3) := by
  unfold spec_l11Sign.f spec_l11Number.f sgn
  rw [number_eq _ letter (by omega) hl]
  simp only [Option.bind_some]
  rw [sign_val s h letter hs, w64 (by omega) (by omega), show (h : Int) - 1 + 1 = (h : Int) by omega]
theorem specTrip_l1 (l : List Int) (hl : l.length ≤ 6) (hs : ∀ x ∈ l, 1 ≤ x ∧ x ≤ 1498) (letter : Int) (hle : 0 ≤ letter ∧ letter ≤ 1000) (at_ : Nat) (ha : at_ < l.length) (loses : Int)
    (hlo : loses = (at_ : Int) ∨ loses = -1 ∧ at_ + 1 = l.length) (hands : List Int) :
    ∀ k, at_ + 1 < k → spec_RunTrip.l1 k letter loses l (l.length : Int) 0 hands letter 0 [] loses = some (hands, letter, (at_ : Int), rcps l letter (at_ + 1), loses, true) := by
  intro k hk
  have h := loop_up (fun k (x : Int × Int × List S71) => spec_RunTrip.l1 k letter loses l (l.length : Int) x.1 hands letter x.2.1 x.2.2 loses) at_ 1
    (fun i => ((i : Int), ((i - 1 : Nat) : Int), rcps l letter i)) (hands, letter, (at_ : Int), rcps l letter (at_ + 1), loses, true) (fun i k hi _ => by
    have hi2 : i < l.length := by omega
    simp only [spec_RunTrip.l1]
    rw [if_pos (by omega), if_pos (by omega), if_pos (by omega), w64 (n := (i : Int) + 1) (by omega) (by omega), w64 (n := (i : Int) - 1) (by omega) (by omega), rd_in l i hi2, specSign_eq _ i letter (by omega) (hs _ (List.getElem_mem hi2)) hle]
    simp only [Option.bind_some]
    rw [if_pos (by rw [rcps_length]; omega), if_neg (by omega), rcps_snoc l letter i hi2]
    rfl) (fun k hB => by
    simp only [spec_RunTrip.l1]
    rw [if_pos (by omega), if_pos (by omega), if_pos (by omega), w64 (n := (at_ : Int) + 1) (by omega) (by omega), w64 (n := (at_ : Int) - 1) (by omega) (by omega), rd_in l at_ ha, specSign_eq _ at_ letter (by omega) (hs _ (List.getElem_mem ha)) hle]
    simp only [Option.bind_some]
    rw [if_pos (by rw [rcps_length]; omega)]
    rcases hlo with h1 | h1
    · rw [if_pos h1.symm, rcps_snoc l letter at_ ha]
    · rw [if_neg (by omega)]
      obtain ⟨k, rfl⟩ := rounds (show 0 < k by omega)
      rw [spec_RunTrip.l1, if_neg (by omega), rcps_snoc l letter at_ ha]) k hk
  exact h
theorem specTrip_l0 (l : List Int) (hl : l.length ≤ 6) (hs : ∀ x ∈ l, 1 ≤ x ∧ x ≤ 1498) (letter : Int) (hle : 0 ≤ letter ∧ letter ≤ 1000) (at_ : Nat) (ha : at_ < l.length) (loses : Int)
    (hlo : loses = (at_ : Int) ∨ loses = -1 ∧ at_ + 1 = l.length) :
    ∀ k, l.length + 10 < k → spec_RunTrip.l0 k l letter loses (l.length : Int) 0 [] letter 0 loses = some (firsts l.length, letter, (at_ : Int), rcps l letter (at_ + 1), loses, true) := by
  intro k hk
  have h := loop_up (fun k (x : Int × List Int) => spec_RunTrip.l0 k l letter loses (l.length : Int) x.1 x.2 letter 0 loses) l.length 10
    (fun i => ((i : Int), firsts i)) (firsts l.length, letter, (at_ : Int), rcps l letter (at_ + 1), loses, true) (fun i k hi _ => by
    simp only [spec_RunTrip.l0]
    rw [if_pos (by omega), if_pos (by rw [firsts_length]; omega), w64 (n := (i : Int) + 1) (by omega) (by omega), ← firsts_snoc]
    rfl) (fun k hB => by
    simp only [spec_RunTrip.l0]
    rw [if_neg (by omega)]
    exact specTrip_l1 l hl hs letter hle at_ ha loses hlo _ k (by omega)) k hk
  exact h
theorem implSign_eq (s : Int) (h : Nat) (letter : Int) (hh : h ≤ 5) (hs : 1 ≤ s ∧ s ≤ 1498) (hl : 0 ≤ letter ∧ letter ≤ 1000) :
    impl_signed.f s ((h : Int) - 1) letter = some ((sgn s h letter).f0, (sgn s h letter).f1, (sgn s h letter).f2, (sgn s h letter).f3) := by
  unfold impl_signed.f impl_numberOf.f sgn
  rw [number_eq _ letter (by omega) hl]
  simp only [Option.bind_some]
  rw [sign_val s h letter hs, w64 (by omega) (by omega), show (h : Int) - 1 + 1 = (h : Int) by omega]
theorem implTrip_l0 (l : List Int) (hl : l.length ≤ 6) (hs : ∀ x ∈ l, 1 ≤ x ∧ x ≤ 1498) (letter : Int) (hle : 0 ≤ letter ∧ letter ≤ 1000) (at_ : Nat) (ha : at_ < l.length) (loses : Int) :
    ∀ k, l.length < k → impl_RunTrip.l0 k letter l (l.length : Int) 0 [] letter (at_ : Int) [] loses = some (firsts l.length, letter, (at_ : Int), rcps l letter (at_ + 1), loses, true) := by
  intro k hk
  have h := loop_up (fun k (x : Int × List Int × List S71) => impl_RunTrip.l0 k letter l (l.length : Int) x.1 x.2.1 letter (at_ : Int) x.2.2 loses) l.length 0
    (fun i => ((i : Int), firsts i, rcps l letter (min i (at_ + 1)))) (firsts l.length, letter, (at_ : Int), rcps l letter (at_ + 1), loses, true) (fun i k hi _ => by
    simp only [impl_RunTrip.l0]
    rw [if_pos (by omega), if_pos (by omega), if_pos (by omega), if_pos (by rw [firsts_length]; omega), w64 (n := (i : Int) + 1) (by omega) (by omega), w64 (n := (i : Int) - 1) (by omega) (by omega), rd_in l i hi, implSign_eq _ i letter (by omega) (hs _ (List.getElem_mem hi)) hle]
    simp only [Option.bind_some]
    rw [← firsts_snoc]
    by_cases hia : i ≤ at_
    · rw [if_pos (by omega), if_pos (by rw [rcps_length]; omega)]
      rw [show min i (at_ + 1) = i by omega, show min (i + 1) (at_ + 1) = i + 1 by omega, rcps_snoc l letter i hi]
      rfl
    · rw [if_neg (by omega), show min i (at_ + 1) = at_ + 1 by omega, show min (i + 1) (at_ + 1) = at_ + 1 by omega]
      rfl) (fun k _ => by
    simp only [impl_RunTrip.l0]
    rw [if_neg (by omega), show min l.length (at_ + 1) = at_ + 1 by omega]) k hk
  exact h
theorem trip_val (l : List Int) (hl : l.length ≤ 1048576) (letter loses : Int) : ∃ (hs : List Int) (a b : Int) (rs : List S71) (c : Int) (o : Bool) (k0 : Nat), hs.length ≤ 6 ∧ rs.length ≤ 6 ∧
    (o = true → areSec l 6 = true ∧ (0 ≤ letter ∧ letter ≤ 1000) ∧ ∃ at_ : Nat, at_ < l.length ∧ (loses = (at_ : Int) ∨ loses = -1 ∧ at_ + 1 = l.length) ∧ hs = firsts l.length ∧ a = letter ∧ b = (at_ : Int) ∧ rs = rcps l letter (at_ + 1) ∧ c = loses) ∧
    spec_RunTrip.f k0 l letter loses = some (hs, a, b, rs, c, o) ∧ impl_RunTrip.f k0 l letter loses = some (hs, a, b, rs, c, o) := by
  obtain ⟨K, hK⟩ := some_nat (l.length + 30)
  unfold spec_RunTrip.f impl_RunTrip.f spec_l11Letter.f impl_isLetterNumber.f
  by_cases h : areSec l 6 = true
  · obtain ⟨h1, h2, h3⟩ := areSec_true h
    by_cases hle : 0 ≤ letter ∧ letter ≤ 1000
    · by_cases hlo : -1 ≤ loses ∧ loses ≤ (l.length : Int) - 1
      · obtain ⟨at_, ha, hat, hat2⟩ : ∃ a : Nat, a < l.length ∧ (loses = (a : Int) ∨ loses = -1 ∧ a + 1 = l.length) ∧ (if loses ≥ 0 then loses else (l.length : Int) - 1) = (a : Int) := by
          by_cases h0 : loses ≥ 0
          · exact ⟨loses.toNat, by omega, .inl (by omega), by rw [if_pos h0]; omega⟩
          · exact ⟨l.length - 1, by omega, .inr (by omega), by rw [if_neg h0]; omega⟩
        refine ⟨firsts l.length, letter, (at_ : Int), rcps l letter (at_ + 1), loses, true, K + 2, by rw [firsts_length]; omega, by rw [rcps_length]; omega, fun _ => ⟨h, hle, at_, ha, hat, rfl, rfl, rfl, rfl, rfl⟩, ?_, ?_⟩
        · rw [specSecrets_eq l hl (K + 2) (by omega), h, w64 (by omega) (by omega)]
          simp only [Option.bind_some, if_true, l1In_eq, decide_eq_true hle, decide_eq_true hlo, spec_RunTrip.j0, Bool.not_true, Bool.false_eq_true, if_false]
          exact specTrip_l0 l (by omega) h3 letter hle at_ ha loses hat (K + 1) (by omega)
        · rw [implSecrets_eq l hl 6 (K + 2) (by omega), h, w64 (by omega) (by omega)]
          simp only [Option.bind_some, if_true, within_eq, decide_eq_true hle, decide_eq_true hlo, impl_RunTrip.j0, impl_RunTrip.j1, Bool.not_true, Bool.false_eq_true, if_false]
          have hi := implTrip_l0 l (by omega) h3 letter hle at_ ha loses K (by omega)
          rw [w64 (by omega) (by omega)]
          by_cases h0 : loses ≥ 0
          · rw [if_pos h0] at hat2 ⊢
            rw [← hat2] at hi ⊢
            exact hi
          · rw [if_neg h0] at hat2 ⊢
            rw [← hat2] at hi ⊢
            exact hi
      · refine ⟨[], 0, 0, [], 0, false, K + 2, by simp, by simp, (fun h => by cases h), ?_, ?_⟩
        · rw [specSecrets_eq l hl (K + 2) (by omega), h, w64 (by omega) (by omega)]
          simp only [Option.bind_some, if_true, l1In_eq, decide_eq_true hle, decide_eq_false hlo, spec_RunTrip.j0, Bool.not_false]
        · rw [implSecrets_eq l hl 6 (K + 2) (by omega), h, w64 (by omega) (by omega)]
          simp only [Option.bind_some, if_true, within_eq, decide_eq_true hle, decide_eq_false hlo, impl_RunTrip.j0, Bool.not_false]
    · refine ⟨[], 0, 0, [], 0, false, K + 2, by simp, by simp, (fun h => by cases h), ?_, ?_⟩
      · rw [specSecrets_eq l hl (K + 2) (by omega), h]
        simp only [Option.bind_some, if_true, l1In_eq, decide_eq_false hle, spec_RunTrip.j0, Bool.false_eq_true, if_false]
      · rw [implSecrets_eq l hl 6 (K + 2) (by omega), h]
        simp only [Option.bind_some, if_true, within_eq, decide_eq_false hle, impl_RunTrip.j0, Bool.false_eq_true, if_false]
  · rw [Bool.not_eq_true] at h
    refine ⟨[], 0, 0, [], 0, false, K + 2, by simp, by simp, (fun h => by cases h), ?_, ?_⟩
    · rw [specSecrets_eq l hl (K + 2) (by omega), h]
      simp only [Option.bind_some, spec_RunTrip.j0, Bool.false_eq_true, if_false, if_true]
    · rw [implSecrets_eq l hl 6 (K + 2) (by omega), h]
      simp only [Option.bind_some, impl_RunTrip.j0, Bool.false_eq_true, if_false, if_true]
theorem pwm_mod {a : Nat} (ha : Mem a) (e : Nat) : pwm a (e % 1499) = pwm a e := by
  have h : pwm a (1499 * (e / 1499) + e % 1499) = pwm a (1499 * (e / 1499)) * pwm a (e % 1499) % 2999 := pwm_add a _ _
  have h2 : pwm 1 (e / 1499) = 1 := by unfold pwm; rw [Nat.one_pow]
  rw [Nat.div_add_mod, ← pwm_mul, ha.2, h2, Nat.one_mul, Nat.mod_eq_of_lt (pwm_lt _ _)] at h
  exact h.symm
def noOne : Nat → Nat → Bool
  | 0, _ => true
  | n + 1, c => Nat.beq c 1 == false && noOne n (c * 4 % 2999)
def signOk (s a b c : Int) : Prop := (1 ≤ s ∧ s ≤ 1498) ∧ (-1 ≤ a ∧ a ≤ 4) ∧ b = a + 1 ∧ (0 ≤ c ∧ c ≤ 1000)
instance (s a b c : Int) : Decidable (signOk s a b c) := inferInstanceAs (Decidable (_ ∧ _ ∧ _ ∧ _))
def sigV (s a c : Int) : Nat := rcpNum a c * s.toNat % 1499
def signV (s a b c : Int) : Int × Int × Int × Int × Bool := if signOk s a b c then (a, a + 1, c, ((sigV s a c : Nat) : Int), true) else (0, 0, 0, 0, false)
theorem specPower_l0 (n : Nat) : ∀ (k a e o : Nat), e < 2 ^ n → n < k → a < 2999 → o < 2999 → e ≤ 4294967296 → spec_l2Power.l0 k (a : Int) (e : Int) (o : Int) = some ((o * a ^ e % 2999 : Nat) : Int) := by
  induction n with
  | zero =>
    intro k a e o he hk ha ho _
    obtain ⟨k, rfl⟩ := rounds hk
    have h0 : e = 0 := by omega
    subst h0
    simp only [spec_l2Power.l0]
    rw [if_neg (by omega), Nat.pow_zero, Nat.mul_one, Nat.mod_eq_of_lt ho]
  | succ n ih =>
    intro k a e o he hk ha ho hm
    obtain ⟨k, rfl⟩ := rounds hk
    simp only [spec_l2Power.l0]
    by_cases h0 : e = 0
    · subst h0
      rw [if_neg (by omega), Nat.pow_zero, Nat.mul_one, Nat.mod_eq_of_lt ho]
    · have ha2 : a * a ≤ 2999 * 2999 := Nat.mul_le_mul (by omega) (by omega)
      have hoa : o * a ≤ 2999 * 2999 := Nat.mul_le_mul (by omega) (by omega)
      have hp : 2 ^ (n + 1) = 2 * 2 ^ n := by rw [Nat.pow_succ, Nat.mul_comm]
      have e1 : wrap64 ((a : Int) * (a : Int)) = ((a * a : Nat) : Int) := by rw [← Int.natCast_mul]; exact wnat _ (by omega)
      have e2 : wrap64 ((o : Int) * (a : Int)) = ((o * a : Nat) : Int) := by rw [← Int.natCast_mul]; exact wnat _ (by omega)
      have e3 : wrap64 (Int.tdiv (e : Int) 2) = ((e / 2 : Nat) : Int) := by rw [show Int.tdiv (e : Int) 2 = ((e / 2 : Nat) : Int) from tdiv_nat e 2]; exact wnat _ (by omega)
      rw [if_pos (by omega), e1, e2, e3]
      rw [show Int.tmod ((a * a : Nat) : Int) 2999 = ((a * a % 2999 : Nat) : Int) from tmod_nat _ 2999, show Int.tmod ((o * a : Nat) : Int) 2999 = ((o * a % 2999 : Nat) : Int) from tmod_nat _ 2999, show Int.tmod (e : Int) 2 = ((e % 2 : Nat) : Int) from tmod_nat e 2]
      by_cases h1 : e % 2 = 1
      · rw [if_pos (by omega), ih k _ _ _ (by omega) (by omega) (Nat.mod_lt _ (by omega)) (Nat.mod_lt _ (by omega)) (by omega), pow_round1]
        rw [show 2 * (e / 2) + 1 = e by omega]
      · rw [if_neg (by omega), ih k _ _ _ (by omega) (by omega) (Nat.mod_lt _ (by omega)) ho (by omega), pow_round0]
        rw [show 2 * (e / 2) = e by omega]
theorem specPower_eq (a e : Nat) (ha : a < 2999) (he : e ≤ 1048576) (k : Nat) (hk : 21 < k) : spec_l2Power.f k (a : Int) (e : Int) = some ((pwm a e : Nat) : Int) := by
  have h := specPower_l0 21 k a e 1 (by omega) hk ha (by omega) (by omega)
  rw [Nat.one_mul] at h
  exact h
theorem implPower_l0 (n : Nat) : ∀ (k a e o : Nat), e < 2 ^ n → n < k → a < 2999 → o < 2999 → e ≤ 4294967296 → impl_power.l0 k (a : Int) (e : Int) (o : Int) = some ((o * a ^ e % 2999 : Nat) : Int) := by
  induction n with
  | zero =>
    intro k a e o he hk ha ho _
    obtain ⟨k, rfl⟩ := rounds hk
    have h0 : e = 0 := by omega
    subst h0
    simp only [impl_power.l0]
    rw [if_neg (by omega), Nat.pow_zero, Nat.mul_one, Nat.mod_eq_of_lt ho]
  | succ n ih =>
    intro k a e o he hk ha ho hm
    obtain ⟨k, rfl⟩ := rounds hk
    simp only [impl_power.l0]
    by_cases h0 : e = 0
    · subst h0
      rw [if_neg (by omega), Nat.pow_zero, Nat.mul_one, Nat.mod_eq_of_lt ho]
    · have ha2 : a * a ≤ 2999 * 2999 := Nat.mul_le_mul (by omega) (by omega)
      have hoa : o * a ≤ 2999 * 2999 := Nat.mul_le_mul (by omega) (by omega)
      have hp : 2 ^ (n + 1) = 2 * 2 ^ n := by rw [Nat.pow_succ, Nat.mul_comm]
      have e1 : wrap64 ((a : Int) * (a : Int)) = ((a * a : Nat) : Int) := by rw [← Int.natCast_mul]; exact wnat _ (by omega)
      have e2 : wrap64 ((o : Int) * (a : Int)) = ((o * a : Nat) : Int) := by rw [← Int.natCast_mul]; exact wnat _ (by omega)
      have e3 : wrap64 (Int.tdiv (e : Int) 2) = ((e / 2 : Nat) : Int) := by rw [show Int.tdiv (e : Int) 2 = ((e / 2 : Nat) : Int) from tdiv_nat e 2]; exact wnat _ (by omega)
      rw [if_pos (by omega), e1, e2, e3]
      rw [show Int.tmod ((a * a : Nat) : Int) 2999 = ((a * a % 2999 : Nat) : Int) from tmod_nat _ 2999, show Int.tmod ((o * a : Nat) : Int) 2999 = ((o * a % 2999 : Nat) : Int) from tmod_nat _ 2999, show Int.tmod (e : Int) 2 = ((e % 2 : Nat) : Int) from tmod_nat e 2]
      by_cases h1 : e % 2 = 1
      · rw [if_pos (by omega), ih k _ _ _ (by omega) (by omega) (Nat.mod_lt _ (by omega)) (Nat.mod_lt _ (by omega)) (by omega), pow_round1]
        rw [show 2 * (e / 2) + 1 = e by omega]
      · rw [if_neg (by omega), ih k _ _ _ (by omega) (by omega) (Nat.mod_lt _ (by omega)) ho (by omega), pow_round0]
        rw [show 2 * (e / 2) = e by omega]
theorem implPower_eq (a e : Nat) (ha : a < 2999) (he : e ≤ 1048576) (k : Nat) (hk : 21 < k) : impl_power.f k (a : Int) (e : Int) = some ((pwm a e : Nat) : Int) := by
  have h := implPower_l0 21 k a e 1 (by omega) hk ha (by omega) (by omega)
  rw [Nat.one_mul] at h
  exact h
def isMem (a : Int) : Bool := decide (1 ≤ a ∧ a ≤ 2998) && decide (pwm a.toNat 1499 = 1)
theorem specMember_eq (a : Int) (k : Nat) (hk : 21 < k) : spec_IsMember.f k a = some (isMem a) := by
  unfold spec_IsMember.f spec_l2Unit.f
  simp only [l1In_eq, Option.bind_some]
  by_cases h : 1 ≤ a ∧ a ≤ 2998
  · obtain ⟨n, rfl⟩ := Int.eq_ofNat_of_zero_le (show 0 ≤ a by omega)
    have h2 := specPower_eq n 1499 (by omega) (by omega) k hk
    rw [decide_eq_true h, if_pos rfl, show ((1499 : Int)) = ((1499 : Nat) : Int) from rfl, h2]
    simp only [Option.bind_some, isMem, decide_eq_true h, Bool.true_and, Int.toNat_natCast]
    congr 1
    rw [Bool.eq_iff_iff, beq_iff_eq, decide_eq_true_iff]
    omega
  · rw [decide_eq_false h, if_neg (by simp)]
    simp [isMem, h]
theorem implMember_eq (a : Int) (k : Nat) (hk : 21 < k) : impl_IsMember.f k a = some (isMem a) := by
  unfold impl_IsMember.f impl_isUnit.f
  simp only [within_eq, Option.bind_some]
  by_cases h : 1 ≤ a ∧ a ≤ 2998
  · obtain ⟨n, rfl⟩ := Int.eq_ofNat_of_zero_le (show 0 ≤ a by omega)
    have h2 := implPower_eq n 1499 (by omega) (by omega) k hk
    rw [decide_eq_true h, if_pos rfl, show ((1499 : Int)) = ((1499 : Nat) : Int) from rfl, h2]
    simp only [Option.bind_some, isMem, decide_eq_true h, Bool.true_and, Int.toNat_natCast]
    congr 1
    rw [Bool.eq_iff_iff, beq_iff_eq, decide_eq_true_iff]
    omega
  · rw [decide_eq_false h, if_neg (by simp)]
    simp [isMem, h]
theorem mem_range {a : Int} (h : isMem a = true) : 1 ≤ a ∧ a ≤ 2998 := by
  unfold isMem at h
  rw [Bool.and_eq_true, decide_eq_true_iff, decide_eq_true_iff] at h
  exact h.1
def isRcp (a b c d : Int) : Bool := decide ((-1 ≤ a ∧ a ≤ 4) ∧ b = a + 1 ∧ (0 ≤ c ∧ c ≤ 1000) ∧ (0 ≤ d ∧ d ≤ 1498))
theorem specReceipt_eq (a b c d : Int) : spec_l11Receipt.f a b c d = some (isRcp a b c d) := by
  unfold spec_l11Receipt.f spec_l11Letter.f isRcp
  simp only [l1In_eq, Option.bind_some]
  by_cases h1 : -1 ≤ a ∧ a ≤ 4
  · rw [w64 (n := a + 1) (by omega) (by omega)]
    by_cases h2 : b = a + 1
    · by_cases h3 : 0 ≤ c ∧ c ≤ 1000
      · simp [h1, h2, h3]
      · simp [h1, h2, h3]
    · simp [h1, h2]
  · simp [h1]
theorem implReceipt_eq (a b c d : Int) : impl_isReceipt.f a b c d = some (isRcp a b c d) := by
  unfold impl_isReceipt.f impl_isPassed.f impl_isLetterNumber.f impl_isValue.f isRcp
  simp only [within_eq, Option.bind_some]
  by_cases h1 : -1 ≤ a ∧ a ≤ 4
  · rw [w64 (n := a + 1) (by omega) (by omega)]
    by_cases h2 : b = a + 1
    · by_cases h3 : 0 ≤ c ∧ c ≤ 1000
      · simp [h1, h2, h3]
      · simp [h1, h2, h3]
    · simp [h1, h2]
  · simp [h1]
def fitsB (p a c d : Int) : Bool := decide (pwm 4 d.toNat = pwm p.toNat (rcpNum a c))
theorem specFits_eq (p a b c d : Int) (hp : 1 ≤ p ∧ p ≤ 2998) (h : isRcp a b c d = true) (k : Nat) (hk : 21 < k) : spec_l11Check.f k p a b c d = some (fitsB p a c d) := by
  unfold isRcp at h
  rw [decide_eq_true_iff] at h
  obtain ⟨ha, hb, hc, hd⟩ := h
  obtain ⟨q, rfl⟩ := Int.eq_ofNat_of_zero_le (show 0 ≤ p by omega)
  obtain ⟨s, rfl⟩ := Int.eq_ofNat_of_zero_le hd.1
  have hn := rcpNum_lt a c
  have h1 := specPower_eq 4 s (by omega) (by omega) k hk
  have h3 := specPower_eq q (rcpNum a c) (by omega) (by omega) k hk
  unfold spec_l11Check.f spec_l11Number.f fitsB
  rw [number_eq a c ha hc, show (4 : Int) = ((4 : Nat) : Int) from rfl, h1]
  simp only [Option.bind_some]
  rw [h3]
  simp only [Option.bind_some, Int.toNat_natCast]
  congr 1
  rw [Bool.eq_iff_iff, beq_iff_eq, decide_eq_true_iff]
  omega
theorem implFits_eq (p a b c d : Int) (hp : 1 ≤ p ∧ p ≤ 2998) (h : isRcp a b c d = true) (k : Nat) (hk : 21 < k) : impl_fits.f k p a b c d = some (fitsB p a c d) := by
  unfold isRcp at h
  rw [decide_eq_true_iff] at h
  obtain ⟨ha, hb, hc, hd⟩ := h
  obtain ⟨q, rfl⟩ := Int.eq_ofNat_of_zero_le (show 0 ≤ p by omega)
  obtain ⟨s, rfl⟩ := Int.eq_ofNat_of_zero_le hd.1
  have hn := rcpNum_lt a c
  have h1 := implPower_eq 4 s (by omega) (by omega) k hk
  have h3 := implPower_eq q (rcpNum a c) (by omega) (by omega) k hk
  unfold impl_fits.f impl_numberOf.f fitsB
  rw [number_eq a c ha hc, show (4 : Int) = ((4 : Nat) : Int) from rfl, h1]
  simp only [Option.bind_some]
  rw [h3]
  simp only [Option.bind_some, Int.toNat_natCast]
  congr 1
  rw [Bool.eq_iff_iff, beq_iff_eq, decide_eq_true_iff]
  omega
def checkV (p a b c d : Int) : Bool × Bool := if isMem p = true ∧ isRcp a b c d = true then (fitsB p a c d, true) else (false, false)
theorem implCheck_eq (p a b c d : Int) (k : Nat) (hk : 21 < k) : impl_CheckReceipt.f k p a b c d = some (checkV p a b c d) := by
  unfold impl_CheckReceipt.f checkV
  rw [implMember_eq p k hk, implReceipt_eq]
  simp only [Option.bind_some]
  by_cases h1 : isMem p = true
  · by_cases h2 : isRcp a b c d = true
    · rw [if_pos h1, if_pos h2, implFits_eq p a b c d (mem_range h1) h2 k hk, if_pos ⟨h1, h2⟩]
      rfl
    · rw [if_pos h1, if_neg h2, if_neg (fun h => h2 h.2)]
  · rw [if_neg h1, if_neg (fun h => h1 h.1)]
theorem four_isMem (s : Nat) : isMem ((pwm 4 s : Nat) : Int) = true := by
  have h := mem_four.pow s
  have h1 := h.pos
  have h2 := h.lt
  unfold isMem
  rw [Bool.and_eq_true, decide_eq_true_iff, decide_eq_true_iff]
  exact ⟨by omega, h.2⟩
theorem signed_fits (s a c : Int) : pwm 4 (sigV s a c) = pwm (pwm 4 s.toNat) (rcpNum a c) := by
  unfold sigV
  rw [pwm_mod mem_four, pwm_mul, Nat.mul_comm]
theorem signed_ok {s a b c : Int} (h : signOk s a b c) : checkV ((pwm 4 s.toNat : Nat) : Int) a (a + 1) c ((sigV s a c : Nat) : Int) = (true, true) := by
  have h1 : sigV s a c < 1499 := Nat.mod_lt _ (by omega)
  obtain ⟨h2, h3, h4, h5⟩ := h
  unfold checkV
  rw [if_pos ⟨four_isMem _, by unfold isRcp; rw [decide_eq_true_iff]; exact ⟨h3, rfl, h5, by omega⟩⟩]
  unfold fitsB
  rw [Int.toNat_natCast, Int.toNat_natCast, decide_eq_true (signed_fits s a c)]
def okR (p letter : Int) (h : Nat) (r : S71) : Bool := isRcp r.f0 r.f1 r.f2 r.f3 && decide (r.f0 = (h : Int) - 1) && decide (r.f2 = letter) && fitsB p r.f0 r.f2 r.f3
def hasB (p letter : Int) (h : Nat) (l : List S71) : Bool := l.any (okR p letter h)
theorem any_drop (f : S71 → Bool) (l : List S71) (i : Nat) (h : i < l.length) : (l.drop i).any f = (f l[i] || (l.drop (i + 1)).any f) := by
  rw [List.drop_eq_getElem_cons h, List.any_cons]
theorem specHas_l0 (ps : List Int) (hps : ps.length ≤ 6) (letter : Int) (h : Nat) (hh : h < ps.length) (hp : 1 ≤ ps[h] ∧ ps[h] ≤ 2998) (l : List S71) (hl : l.length ≤ 40) :
    ∀ (d k i : Nat), l.length - i = d → d + 22 < k → i ≤ l.length → spec_l11Has.l0 k ps (h : Int) letter l (l.length : Int) (i : Int) = some ((l.drop i).any (okR ps[h] letter h)) := by
  intro d
  induction d with
  | zero =>
    intro k i hd hk hi
    obtain ⟨k, rfl⟩ := rounds hk
    simp only [spec_l11Has.l0]
    rw [if_neg (by omega), List.drop_of_length_le (by omega)]
    rfl
  | succ d ih =>
    intro k i hd hk hi
    obtain ⟨k, rfl⟩ := rounds hk
    have hlt : i < l.length := by omega
    have hn := ih k (i + 1) (by omega) (by omega) (by omega)
    have hn' : spec_l11Has.l0 k ps (h : Int) letter l (l.length : Int) ((i : Int) + 1) = some ((l.drop (i + 1)).any (okR ps[h] letter h)) := hn
    rw [any_drop _ l i hlt]
    simp only [spec_l11Has.l0, rd_T71, Int.toNat_natCast]
    rw [if_pos (by omega), if_pos (by omega), if_pos (by omega), w64 (n := (i : Int) + 1) (by omega) (by omega), w64 (n := (h : Int) - 1) (by omega) (by omega), rd_in ps h hh, hn']
    simp only [getDin l z71 i hlt, specReceipt_eq, Option.bind_some]
    unfold okR
    by_cases h1 : isRcp l[i].f0 l[i].f1 l[i].f2 l[i].f3 = true
    · rw [h1, if_pos rfl]
      by_cases h2 : l[i].f0 = (h : Int) - 1
      · rw [if_pos h2, decide_eq_true h2]
        by_cases h3 : l[i].f2 = letter
        · rw [if_pos h3, if_pos (by omega), if_pos (by omega), decide_eq_true h3, specFits_eq _ _ _ _ _ hp h1 k (by omega)]
          simp only [Option.bind_some, Bool.true_and]
          by_cases h4 : fitsB ps[h] l[i].f0 l[i].f2 l[i].f3 = true
          · rw [if_pos h4, h4]; rfl
          · rw [if_neg h4]; simp [h4]
        · rw [if_neg h3]; simp [h3]
      · rw [if_neg h2]; simp [h2]
    · rw [if_neg h1]; simp [h1]
theorem specHas_eq (ps : List Int) (hps : ps.length ≤ 6) (letter : Int) (h : Nat) (hh : h < ps.length) (hp : 1 ≤ ps[h] ∧ ps[h] ≤ 2998) (l : List S71) (hl : l.length ≤ 40) (k : Nat) (hk : l.length + 22 < k) :
    spec_l11Has.f k ps (h : Int) letter l = some (hasB ps[h] letter h l) := by
  have h1 := specHas_l0 ps hps letter h hh hp l hl l.length k 0 (by omega) hk (by omega)
  rw [List.drop_zero] at h1
  exact h1
theorem implBlame_l1 (ps : List Int) (hps : ps.length ≤ 6) (letter : Int) (h : Nat) (hh : h < ps.length) (hp : 1 ≤ ps[h] ∧ ps[h] ≤ 2998) (l : List S71) (hl : l.length ≤ 40) (k : Nat) (hk : 21 < k) :
    ∀ (d i : Nat) (f : Bool), l.length - i = d → i ≤ l.length →
    impl_BlameOf.l1 (k + d + 1) ps letter l (h : Int) ps[h] f ps (ps.length : Int) (h : Int) l (l.length : Int) (i : Int) =
      if (f || (l.drop i).any (okR ps[h] letter h)) = true then impl_BlameOf.l0 k ps letter l ps (ps.length : Int) ((h : Int) + 1) else some ((h : Int) - 1, true) := by
  intro d
  induction d with
  | zero =>
    intro i f hd hi
    simp only [impl_BlameOf.l1, Nat.add_zero]
    rw [if_neg (by omega), List.drop_of_length_le (by omega), w64 (n := (h : Int) + 1) (by omega) (by omega), w64 (n := (h : Int) - 1) (by omega) (by omega)]
    simp
  | succ d ih =>
    intro i f hd hi
    have hlt : i < l.length := by omega
    have hn := fun f => ih (i + 1) f (by omega) (by omega)
    have hn' : ∀ f, impl_BlameOf.l1 (k + d + 1) ps letter l (h : Int) ps[h] f ps (ps.length : Int) (h : Int) l (l.length : Int) ((i : Int) + 1) =
      if (f || (l.drop (i + 1)).any (okR ps[h] letter h)) = true then impl_BlameOf.l0 k ps letter l ps (ps.length : Int) ((h : Int) + 1) else some ((h : Int) - 1, true) := hn
    rw [any_drop _ l i hlt, show k + (d + 1) + 1 = (k + d + 1) + 1 by omega, impl_BlameOf.l1]
    simp only [rd_T71, Int.toNat_natCast]
    rw [if_pos (by omega), if_pos (by omega), if_pos (by omega), w64 (n := (i : Int) + 1) (by omega) (by omega), w64 (n := (h : Int) - 1) (by omega) (by omega), hn', hn']
    simp only [getDin l z71 i hlt, implReceipt_eq]
    cases f with
    | true => simp
    | false =>
      rw [if_neg (by simp)]
      unfold okR
      by_cases h2 : l[i].f0 = (h : Int) - 1
      · rw [if_pos h2, decide_eq_true h2]
        by_cases h3 : l[i].f2 = letter
        · rw [if_pos h3, decide_eq_true h3]
          simp only [Option.bind_some]
          by_cases h1 : isRcp l[i].f0 l[i].f1 l[i].f2 l[i].f3 = true
          · rw [h1, if_pos rfl, implFits_eq _ _ _ _ _ hp h1 _ (by omega)]
            simp only [Option.bind_some, Bool.true_and, Bool.false_or]
            exact hn' _
          · rw [if_neg h1]; simp [h1]
        · rw [if_neg h3]; simp [h3]
      · rw [if_neg h2]; simp [h2]
def blameR (n : Nat) (has : Nat → Bool) : Nat → Nat → Int
  | 0, _ => (n : Int) - 1
  | d + 1, h => if has h = true then blameR n has d (h + 1) else (h : Int) - 1
theorem blameR_range (n : Nat) (has : Nat → Bool) : ∀ d h, h + d = n → (h : Int) - 1 ≤ blameR n has d h ∧ blameR n has d h ≤ (n : Int) - 1 := by
  intro d
  induction d with
  | zero =>
    intro h hd
    simp only [blameR]
    omega
  | succ d ih =>
    intro h hd
    simp only [blameR]
    split
    · have := ih (h + 1) (by omega)
      omega
    · omega
def hasF (ps : List Int) (letter : Int) (l : List S71) (h : Nat) : Bool := hasB (ps.getD h 0) letter h l
theorem implBlame_l0 (ps : List Int) (hps : ps.length ≤ 6) (letter : Int) (hp : ∀ x ∈ ps, isMem x = true) (l : List S71) (hl : l.length ≤ 40) :
    ∀ (d h : Nat), ps.length - h = d → h ≤ ps.length → ∀ e, impl_BlameOf.l0 (d * (l.length + 2) + 23 + e) ps letter l ps (ps.length : Int) (h : Int) = some (blameR ps.length (hasF ps letter l) d h, true) := by
  intro d
  induction d with
  | zero =>
    intro h hd hh e
    rw [show 0 * (l.length + 2) + 23 + e = (22 + e) + 1 by omega, impl_BlameOf.l0]
    rw [if_neg (by omega), w64 (by omega) (by omega)]
    rfl
  | succ d ih =>
    intro h hd hh e
    have hlt : h < ps.length := by omega
    have hr := mem_range (hp ps[h] (List.getElem_mem hlt))
    have h2 := ih (h + 1) (by omega) (by omega) e
    rw [show (d + 1) * (l.length + 2) + 23 + e = ((d * (l.length + 2) + 23 + e) + l.length + 1) + 1 by rw [Nat.add_mul]; omega, impl_BlameOf.l0]
    rw [if_pos (by omega), if_pos (by omega), if_pos (by omega), rd_in ps h hlt]
    have h3 := implBlame_l1 ps hps letter h hlt hr l hl (d * (l.length + 2) + 23 + e) (by omega) l.length 0 false (by omega) (by omega)
    rw [List.drop_zero, Bool.false_or] at h3
    refine Eq.trans h3 ?_
    simp only [blameR, hasF, getDin ps 0 h hlt]
    show (if hasB ps[h] letter h l = true then _ else _) = _
    by_cases hs : hasB ps[h] letter h l = true
    · rw [if_pos hs, if_pos hs]
      exact h2
    · rw [if_neg hs, if_neg hs]
def arePub (l : List Int) : Bool := l.all isMem && decide (1 ≤ (l.length : Int) ∧ (l.length : Int) ≤ 6)
theorem publics_l0 (l : List Int) (hl : l.length ≤ 1048576) : ∀ (d k i : Nat), l.length - i = d → d + 22 < k → i ≤ l.length →
    spec_l11Publics.l0 k l l (l.length : Int) (i : Int) = some ((l.drop i).all isMem && decide (1 ≤ (l.length : Int) ∧ (l.length : Int) ≤ 6)) ∧
    impl_arePublics.l0 k l l (l.length : Int) (i : Int) = some ((l.drop i).all isMem && decide (1 ≤ (l.length : Int) ∧ (l.length : Int) ≤ 6)) := by
  intro d
  induction d with
  | zero =>
    intro k i hd hk hi
    obtain ⟨k, rfl⟩ := rounds hk
    simp only [spec_l11Publics.l0, impl_arePublics.l0]
    rw [if_neg (by omega), if_neg (by omega), List.drop_of_length_le (by omega), l1In_eq, within_eq]
    simp
  | succ d ih =>
    intro k i hd hk hi
    obtain ⟨k, rfl⟩ := rounds hk
    have hlt : i < l.length := by omega
    obtain ⟨h1, h2⟩ := ih k (i + 1) (by omega) (by omega) (by omega)
    simp only [spec_l11Publics.l0, impl_arePublics.l0]
    rw [if_pos (by omega), if_pos (by omega), if_pos (by omega), if_pos (by omega), if_pos (by omega), if_pos (by omega), rd_in l i hlt, w64 (by omega) (by omega), specMember_eq _ k (by omega), implMember_eq _ k (by omega), List.drop_eq_getElem_cons hlt, List.all_cons]
    simp only [Option.bind_some]
    by_cases e : isMem l[i] = true
    · rw [e, if_pos rfl, if_pos rfl, Bool.true_and]
      exact ⟨h1, h2⟩
    · rw [if_neg e, if_neg e]
      simp [e]
theorem publics_eq (l : List Int) (hl : l.length ≤ 1048576) (k : Nat) (hk : l.length + 22 < k) : spec_l11Publics.f k l = some (arePub l) ∧ impl_arePublics.f k l = some (arePub l) := by
  have h := publics_l0 l hl l.length k 0 (by omega) hk (by omega)
  rw [List.drop_zero] at h
  exact h
theorem implBlame_eq (ps : List Int) (hl : ps.length ≤ 1048576) (letter : Int) (l : List S71) : ∃ k0, impl_BlameOf.f k0 ps letter l =
    some (if arePub ps = true ∧ (0 ≤ letter ∧ letter ≤ 1000) ∧ l.length ≤ 40 then (blameR ps.length (hasF ps letter l) ps.length 0, true) else (0, false)) := by
  obtain ⟨K, hK⟩ := some_nat (ps.length + 6 * 42 + 100)
  obtain ⟨h1, h2⟩ := publics_eq ps hl (K + 1) (by omega)
  refine ⟨K + 1, ?_⟩
  unfold impl_BlameOf.f impl_isLetterNumber.f
  rw [h2]
  simp only [within_eq, Option.bind_some]
  by_cases hp : arePub ps = true
  · have hp2 := hp
    unfold arePub at hp2
    rw [Bool.and_eq_true, List.all_eq_true, decide_eq_true_iff] at hp2
    by_cases hle : 0 ≤ letter ∧ letter ≤ 1000
    · rw [if_pos hp, decide_eq_true hle, if_pos rfl]
      by_cases hn : l.length ≤ 40
      · have hm : ps.length * (l.length + 2) ≤ 6 * 42 := Nat.mul_le_mul (by omega) (by omega)
        obtain ⟨e, he⟩ : ∃ e, K = ps.length * (l.length + 2) + 23 + e := ⟨K - (ps.length * (l.length + 2) + 23), by omega⟩
        have h5 := implBlame_l0 ps (by omega) letter hp2.1 l hn ps.length 0 (by omega) (by omega) e
        rw [← he] at h5
        rw [if_pos ⟨hp, hle, hn⟩, decide_eq_false (by omega : ¬ (l.length : Int) > 40)]
        exact h5
      · rw [if_neg (fun h => hn h.2.2), decide_eq_true (by omega : (l.length : Int) > 40)]
        rfl
    · rw [if_pos hp, decide_eq_false hle, if_neg Bool.false_ne_true, if_neg (fun h => hle h.2.1)]
      rfl
  · rw [if_neg hp, if_neg (fun h => hp h.1)]
    rfl
theorem specBlame_l0 (ps : List Int) (hps : ps.length ≤ 6) (letter : Int) (hp : ∀ x ∈ ps, isMem x = true) (l : List S71) (hl : l.length ≤ 40) :
    ∀ (d h : Nat), ps.length - h = d → h ≤ ps.length → ∀ k, d + 70 < k → spec_BlameOf.l0 k ps letter l (ps.length : Int) (h : Int) = some (blameR ps.length (hasF ps letter l) d h, true) := by
  intro d
  induction d with
  | zero =>
    intro h hd hh k hk
    obtain ⟨k, rfl⟩ := rounds hk
    simp only [spec_BlameOf.l0]
    rw [if_neg (by omega), w64 (by omega) (by omega)]
    rfl
  | succ d ih =>
    intro h hd hh k hk
    obtain ⟨k, rfl⟩ := rounds hk
    have hlt : h < ps.length := by omega
    have hr := mem_range (hp ps[h] (List.getElem_mem hlt))
    simp only [spec_BlameOf.l0, blameR, hasF, getDin ps 0 h hlt]
    rw [if_pos (by omega), specHas_eq ps hps letter h hlt hr l hl k (by omega), w64 (n := (h : Int) + 1) (by omega) (by omega), w64 (n := (h : Int) - 1) (by omega) (by omega)]
    simp only [Option.bind_some]
    by_cases hs : hasB ps[h] letter h l = true
    · rw [if_pos hs, if_pos hs]
      exact ih (h + 1) (by omega) (by omega) k (by omega)
    · rw [if_neg hs, if_neg hs]
theorem specBlame_eq (ps : List Int) (hl : ps.length ≤ 1048576) (letter : Int) (l : List S71) : ∃ k0, spec_BlameOf.f k0 ps letter l =
    some (if arePub ps = true ∧ (0 ≤ letter ∧ letter ≤ 1000) ∧ l.length ≤ 40 then (blameR ps.length (hasF ps letter l) ps.length 0, true) else (0, false)) := by
  obtain ⟨K, hK⟩ := some_nat (ps.length + 6 * 42 + 100)
  obtain ⟨h1, h2⟩ := publics_eq ps hl (K + 1) (by omega)
  refine ⟨K + 1, ?_⟩
  unfold spec_BlameOf.f spec_l11Letter.f
  rw [h1]
  simp only [l1In_eq, Option.bind_some]
  by_cases hp : arePub ps = true
  · have hp2 := hp
    unfold arePub at hp2
    rw [Bool.and_eq_true, List.all_eq_true, decide_eq_true_iff] at hp2
    by_cases hle : 0 ≤ letter ∧ letter ≤ 1000
    · rw [if_pos hp, decide_eq_true hle, if_pos rfl]
      by_cases hn : l.length ≤ 40
      · have h5 := specBlame_l0 ps (by omega) letter hp2.1 l hn ps.length 0 (by omega) (by omega) K (by omega)
        rw [if_pos ⟨hp, hle, hn⟩, decide_eq_false (by omega : ¬ (l.length : Int) > 40)]
        exact h5
      · rw [if_neg (fun h => hn h.2.2), decide_eq_true (by omega : (l.length : Int) > 40)]
        rfl
    · rw [if_pos hp, decide_eq_false hle, if_neg Bool.false_ne_true, if_neg (fun h => hle h.2.1)]
      rfl
  · rw [if_neg hp, if_neg (fun h => hp h.1)]
    rfl
theorem specWhole_l0 (ps : List Int) (hps : ps.length ≤ 6) (letter : Int) (hp : ∀ x ∈ ps, isMem x = true) (l : List S71) (hl : l.length ≤ 40) :
    ∀ (d h : Nat), ps.length - h = d → h ≤ ps.length → ∀ k, d + 70 < k → spec_WholeTrip.l0 k ps letter l (ps.length : Int) (h : Int) = some (decide (blameR ps.length (hasF ps letter l) d h = (ps.length : Int) - 1), true) := by
  intro d
  induction d with
  | zero =>
    intro h hd hh k hk
    obtain ⟨k, rfl⟩ := rounds hk
    simp only [spec_WholeTrip.l0, blameR]
    rw [if_neg (by omega)]
    simp
  | succ d ih =>
    intro h hd hh k hk
    obtain ⟨k, rfl⟩ := rounds hk
    have hlt : h < ps.length := by omega
    have hr := mem_range (hp ps[h] (List.getElem_mem hlt))
    simp only [spec_WholeTrip.l0, blameR, hasF, getDin ps 0 h hlt]
    rw [if_pos (by omega), specHas_eq ps hps letter h hlt hr l hl k (by omega), w64 (n := (h : Int) + 1) (by omega) (by omega)]
    simp only [Option.bind_some]
    by_cases hs : hasB ps[h] letter h l = true
    · rw [if_pos hs, if_pos hs]
      exact ih (h + 1) (by omega) (by omega) k (by omega)
    · rw [if_neg hs, if_neg hs, decide_eq_false (by omega)]
theorem specWhole_eq (ps : List Int) (hl : ps.length ≤ 1048576) (letter : Int) (l : List S71) : ∃ k0, spec_WholeTrip.f k0 ps letter l =
    some (if arePub ps = true ∧ (0 ≤ letter ∧ letter ≤ 1000) ∧ l.length ≤ 40 then (decide (blameR ps.length (hasF ps letter l) ps.length 0 = (ps.length : Int) - 1), true) else (false, false)) := by
  obtain ⟨K, hK⟩ := some_nat (ps.length + 6 * 42 + 100)
  obtain ⟨h1, h2⟩ := publics_eq ps hl (K + 1) (by omega)
  refine ⟨K + 1, ?_⟩
  unfold spec_WholeTrip.f spec_l11Letter.f
  rw [h1]
  simp only [l1In_eq, Option.bind_some]
  by_cases hp : arePub ps = true
  · have hp2 := hp
    unfold arePub at hp2
    rw [Bool.and_eq_true, List.all_eq_true, decide_eq_true_iff] at hp2
    by_cases hle : 0 ≤ letter ∧ letter ≤ 1000
    · rw [if_pos hp, decide_eq_true hle, if_pos rfl]
      by_cases hn : l.length ≤ 40
      · have h5 := specWhole_l0 ps (by omega) letter hp2.1 l hn ps.length 0 (by omega) (by omega) K (by omega)
        rw [if_pos ⟨hp, hle, hn⟩, decide_eq_false (by omega : ¬ (l.length : Int) > 40)]
        exact h5
      · rw [if_neg (fun h => hn h.2.2), decide_eq_true (by omega : (l.length : Int) > 40)]
        rfl
    · rw [if_pos hp, decide_eq_false hle, if_neg Bool.false_ne_true, if_neg (fun h => hle h.2.1)]
      rfl
  · rw [if_neg hp, if_neg (fun h => hp h.1)]
    rfl
theorem implWhole_eq (ps : List Int) (hl : ps.length ≤ 1048576) (letter : Int) (l : List S71) : ∃ k0, impl_WholeTrip.f k0 ps letter l =
    some (if arePub ps = true ∧ (0 ≤ letter ∧ letter ≤ 1000) ∧ l.length ≤ 40 then (decide (blameR ps.length (hasF ps letter l) ps.length 0 = (ps.length : Int) - 1), true) else (false, false)) := by
  obtain ⟨k0, h⟩ := implBlame_eq ps hl letter l
  refine ⟨k0, ?_⟩
  unfold impl_WholeTrip.f
  rw [h]
  simp only [Option.bind_some]
  by_cases hc : arePub ps = true ∧ (0 ≤ letter ∧ letter ≤ 1000) ∧ l.length ≤ 40
  · rw [if_pos hc, if_pos hc]
    simp only [if_true]
    rw [w64 (by omega) (by omega)]
    congr 1
  · rw [if_neg hc, if_neg hc]
    rfl
def pubs (l : List Int) : List Int := l.map fun s => ((pwm 4 s.toNat : Nat) : Int)
theorem pubs_length (l : List Int) : (pubs l).length = l.length := by simp [pubs]
theorem pubs_snoc (l : List Int) (i : Nat) (h : i < l.length) : pubs (l.take (i + 1)) = pubs (l.take i) ++ [((pwm 4 l[i].toNat : Nat) : Int)] := by
  unfold pubs
  rw [List.take_succ_eq_append_getElem h, List.map_append]
  rfl
theorem specPublics_l0 (l : List Int) (hl : l.length ≤ 6) (h : ∀ x ∈ l, 1 ≤ x ∧ x ≤ 1498) : ∀ k, l.length + 22 < k → spec_PublicsOf.l0 k [] l (l.length : Int) 0 = some (pubs l, true) := by
  intro k hk
  have h1 := loop_up (fun k (x : List Int × Int) => spec_PublicsOf.l0 k x.1 l (l.length : Int) x.2) l.length 22 (fun i => (pubs (l.take i), (i : Int))) (pubs l, true) (fun i k hi hb => by
    have hx := h l[i] (List.getElem_mem hi)
    have hp := specPower_eq 4 l[i].toNat (by omega) (by omega) k (by omega)
    rw [show ((l[i].toNat : Nat) : Int) = l[i] by omega] at hp
    simp only [spec_PublicsOf.l0]
    rw [if_pos (by omega), if_pos (by omega), if_pos (by omega), rd_in l i hi, show (4 : Int) = ((4 : Nat) : Int) from rfl, hp, w64 (by omega) (by omega)]
    simp only [Option.bind_some]
    rw [if_pos (by rw [pubs_length, List.length_take]; omega), ← pubs_snoc l i hi]
    rfl) (fun k _ => by
    simp only [spec_PublicsOf.l0]
    rw [if_neg (by omega), List.take_length]) k hk
  simpa [pubs] using h1
theorem implPublics_l0 (l : List Int) (hl : l.length ≤ 6) (h : ∀ x ∈ l, 1 ≤ x ∧ x ≤ 1498) : ∀ k, l.length + 22 < k → impl_PublicsOf.l0 k [] l (l.length : Int) 0 = some (pubs l, true) := by
  intro k hk
  have h1 := loop_up (fun k (x : List Int × Int) => impl_PublicsOf.l0 k x.1 l (l.length : Int) x.2) l.length 22 (fun i => (pubs (l.take i), (i : Int))) (pubs l, true) (fun i k hi hb => by
    have hx := h l[i] (List.getElem_mem hi)
    have hp := implPower_eq 4 l[i].toNat (by omega) (by omega) k (by omega)
    rw [show ((l[i].toNat : Nat) : Int) = l[i] by omega] at hp
    simp only [impl_PublicsOf.l0]
    rw [if_pos (by omega), if_pos (by omega), if_pos (by omega), rd_in l i hi, show (4 : Int) = ((4 : Nat) : Int) from rfl, hp, w64 (by omega) (by omega)]
    simp only [Option.bind_some]
    rw [if_pos (by rw [pubs_length, List.length_take]; omega), ← pubs_snoc l i hi]
    rfl) (fun k _ => by
    simp only [impl_PublicsOf.l0]
    rw [if_neg (by omega), List.take_length]) k hk
  simpa [pubs] using h1
theorem index_l0 (l : List Int) (hl : l.length ≤ 1048576) (v : Int) : ∀ (d k i : Nat), l.length - i = d → d < k → i ≤ l.length → ∃ r, slices_Index_int_int.l0 k l v (l.length : Int) (i : Int) = some r ∧ (r ≥ 0 ↔ v ∈ l.drop i) := by
  intro d
  induction d with
  | zero =>
    intro k i hd hk hi
    obtain ⟨k, rfl⟩ := rounds hk
    refine ⟨-1, ?_, ?_⟩
    · simp only [slices_Index_int_int.l0]
      rw [if_neg (by omega)]
    · rw [List.drop_of_length_le (by omega)]
      simp
  | succ d ih =>
    intro k i hd hk hi
    obtain ⟨k, rfl⟩ := rounds hk
    simp only [slices_Index_int_int.l0]
    rw [if_pos (by omega), if_pos (by omega), if_pos (by omega), rd_in l i (by omega), w64 (by omega) (by omega)]
    have hdrop := List.drop_eq_getElem_cons (show i < l.length by omega)
    by_cases e : v = l[i]
    · exact ⟨i, by rw [if_pos e], by rw [hdrop, ← e]; simp⟩
    · obtain ⟨r, hr, h⟩ := ih k (i + 1) (by omega) (by omega) (by omega)
      refine ⟨r, by rw [if_neg e]; exact hr, ?_⟩
      rw [h, hdrop, List.mem_cons]
      exact ⟨fun h => .inr h, fun h => h.resolve_left e⟩
theorem contains_eq (l : List Int) (hl : l.length ≤ 1048576) (v : Int) (k : Nat) (hk : l.length < k) : slices_Contains_int_int.f k l v = some (decide (v ∈ l)) := by
  obtain ⟨r, hr, h⟩ := index_l0 l hl v l.length k 0 (by omega) hk (by omega)
  unfold slices_Contains_int_int.f slices_Index_int_int.f
  have hr' : slices_Index_int_int.l0 k l v (l.length : Int) 0 = some r := hr
  rw [hr']
  simp only [Option.bind_some]
  rw [List.drop_zero] at h
  congr 1
  exact decide_eq_decide.2 h
theorem sgn_rcp (s : Int) (i : Nat) (letter : Int) (hi : i ≤ 5) (hl : 0 ≤ letter ∧ letter ≤ 1000) : isRcp (sgn s i letter).f0 (sgn s i letter).f1 (sgn s i letter).f2 (sgn s i letter).f3 = true := by
  have h1 : rcpNum ((i : Int) - 1) letter * s.toNat % 1499 < 1499 := Nat.mod_lt _ (by omega)
  unfold isRcp sgn
  rw [decide_eq_true_iff]
  exact ⟨by simp only; omega, by simp only; omega, hl, by simp only; omega⟩
theorem okR_sgn (s p : Int) (hp : p = ((pwm 4 s.toNat : Nat) : Int)) (letter : Int) (hl : 0 ≤ letter ∧ letter ≤ 1000) (i : Nat) (hi : i ≤ 5) : okR p letter i (sgn s i letter) = true := by
  unfold okR
  rw [sgn_rcp s i letter hi hl]
  have h1 : (sgn s i letter).f0 = (i : Int) - 1 := rfl
  have h2 : (sgn s i letter).f2 = letter := rfl
  have h3 : (sgn s i letter).f3 = ((sigV s ((i : Int) - 1) letter : Nat) : Int) := rfl
  rw [h1, h2, h3, decide_eq_true rfl, decide_eq_true rfl]
  unfold fitsB
  rw [hp, Int.toNat_natCast, Int.toNat_natCast, decide_eq_true (signed_fits s _ _)]
  rfl
theorem okR_not (s p letter : Int) (i h : Nat) (hi : i ≠ h) : okR p letter h (sgn s i letter) = false := by
  unfold okR
  have h1 : (sgn s i letter).f0 = (i : Int) - 1 := rfl
  rw [h1, decide_eq_false (show ¬ (i : Int) - 1 = (h : Int) - 1 by omega)]
  simp
theorem hasF_rcps (l : List Int) (h6 : l.length ≤ 6) (letter : Int) (hl : 0 ≤ letter ∧ letter ≤ 1000) (m : Nat) (hm : m ≤ l.length) (h : Nat) (hh : h < l.length) : hasF (pubs l) letter (rcps l letter m) h = decide (h < m) := by
  have hp : (pubs l).getD h 0 = ((pwm 4 l[h].toNat : Nat) : Int) := by
    rw [getDin _ 0 h (by rw [pubs_length]; exact hh)]
    simp [pubs]
  unfold hasF hasB
  rw [Bool.eq_iff_iff, List.any_eq_true, decide_eq_true_iff, hp]
  simp only [rcps, List.mem_map, List.mem_range]
  constructor
  · rintro ⟨r, ⟨i, hi, rfl⟩, h1⟩
    by_cases e : i = h
    · omega
    · rw [okR_not _ _ _ i h e] at h1
      cases h1
  · intro h1
    refine ⟨_, ⟨h, h1, rfl⟩, ?_⟩
    rw [getDin l 0 h hh]
    exact okR_sgn l[h] _ rfl letter hl h (by omega)
theorem blameR_val (n m : Nat) (has : Nat → Bool) (hhas : ∀ h, h < n → has h = decide (h < m)) (hm : m ≤ n) : ∀ (d h : Nat), h + d = n → h ≤ m → blameR n has d h = (m : Int) - 1 := by
  intro d
  induction d with
  | zero =>
    intro h hd hh
    simp only [blameR]
    omega
  | succ d ih =>
    intro h hd hh
    simp only [blameR]
    rw [hhas h (by omega)]
    by_cases e : h < m
    · rw [decide_eq_true e, if_pos rfl]
      exact ih (h + 1) (by omega) (by omega)
    · rw [decide_eq_false e, if_neg (by simp)]
      omega
theorem pubs_are (l : List Int) (h : areSec l 6 = true) : arePub (pubs l) = true := by
  obtain ⟨h1, h2, h3⟩ := areSec_true h
  unfold arePub
  rw [Bool.and_eq_true, List.all_eq_true, decide_eq_true_iff, pubs_length]
  refine ⟨fun x hx => ?_, h1, h2⟩
  simp only [pubs, List.mem_map] at hx
  obtain ⟨s, _, rfl⟩ := hx
  exact four_isMem _
def fromV (l : List S71) (v : Int) : List S71 := l.filter fun r => decide (r.f0 = v)
theorem implProof_l0 (l : List S71) (hl : l.length ≤ 1048576) (v : Int) : ∀ (d i : Nat) (out : List S71), l.length - i = d → i ≤ l.length → out.length ≤ i →
    ∀ k, d < k → impl_ProofFor.l0 k v out l (l.length : Int) (i : Int) = some (out ++ fromV (l.drop i) v, true) := by
  intro d
  induction d with
  | zero =>
    intro i out hd hi ho k hk
    obtain ⟨k, rfl⟩ := rounds hk
    simp only [impl_ProofFor.l0]
    rw [if_neg (by omega), List.drop_of_length_le (by omega)]
    simp [fromV]
  | succ d ih =>
    intro i out hd hi ho k hk
    obtain ⟨k, rfl⟩ := rounds hk
    have hlt : i < l.length := by omega
    have hrd : rd_T71 l (i : Int) = l[i] := by
      unfold rd_T71
      rw [Int.toNat_natCast]
      exact getDin l _ i hlt
    rw [List.drop_eq_getElem_cons hlt]
    simp only [impl_ProofFor.l0]
    rw [if_pos (by omega), if_pos (by omega), if_pos (by omega), hrd, w64 (n := (i : Int) + 1) (by omega) (by omega)]
    by_cases e : l[i].f0 = v
    · rw [if_pos e, if_pos (by omega)]
      have h := ih (i + 1) (out ++ [l[i]]) (by omega) (by omega) (by simp; omega) k (by omega)
      have e2 : fromV (l[i] :: l.drop (i + 1)) v = l[i] :: fromV (l.drop (i + 1)) v := List.filter_cons_of_pos (by simp [e])
      rw [e2]
      rw [List.append_assoc] at h
      exact h
    · rw [if_neg e]
      have h := ih (i + 1) out (by omega) (by omega) (by omega) k (by omega)
      have e2 : fromV (l[i] :: l.drop (i + 1)) v = fromV (l.drop (i + 1)) v := List.filter_cons_of_neg (by simp [e])
      rw [e2]
      exact h
theorem fromV_rcps (l : List Int) (letter : Int) (h : Nat) : ∀ m, m ≤ l.length → fromV (rcps l letter m) (h : Int) = if h + 1 < m then [sgn (l.getD (h + 1) 0) (h + 1) letter] else [] := by
  intro m
  induction m with
  | zero =>
    intro _
    rw [if_neg (by omega)]
    rfl
  | succ m ih =>
    intro hm
    have h1 := ih (by omega)
    rw [rcps_snoc l letter m (by omega)]
    have e0 : ∀ a b : List S71, fromV (a ++ b) (h : Int) = fromV a (h : Int) ++ fromV b (h : Int) := fun a b => List.filter_append ..
    rw [e0, h1]
    have hf : (sgn l[m] m letter).f0 = (m : Int) - 1 := rfl
    by_cases e : m = h + 1
    · have e2 : fromV [sgn l[m] m letter] (h : Int) = [sgn l[m] m letter] := List.filter_cons_of_pos (by simp [hf]; omega)
      rw [e2, if_neg (by omega), if_pos (by omega)]
      subst e
      rw [getDin l 0 (h + 1) (by omega)]
      rfl
    · have e2 : fromV [sgn l[m] m letter] (h : Int) = [] := List.filter_cons_of_neg (by simp [hf]; omega)
      rw [e2, List.append_nil]
      by_cases e3 : h + 1 < m
      · rw [if_pos e3, if_pos (by omega)]
      · rw [if_neg e3, if_neg (by omega)]
set_option maxHeartbeats 1000000
theorem pub_val (l : List Int) (hl : l.length ≤ 1048576) : ∃ r : List Int × Bool, r.1.length ≤ 6 ∧ r.2 = areSec l 6 ∧ (areSec l 6 = true → r.1 = pubs l) ∧ Tot (fun k => spec_PublicsOf.f k l) (fun y => y = r) ∧ Tot (fun k => impl_PublicsOf.f k l) (fun y => y = r) := by
  by_cases h : areSec l 6 = true
  · obtain ⟨h1, h2, h3⟩ := areSec_true h
    refine ⟨(pubs l, true), by simp only [pubs_length]; omega, h.symm, fun _ => rfl, Tot.at_ (l.length + 30) rfl (fun k hk => ?_), Tot.at_ (l.length + 30) rfl (fun k hk => ?_)⟩
    · unfold spec_PublicsOf.f
      rw [specSecrets_eq l hl k (by omega), h]
      exact specPublics_l0 l (by omega) h3 k (by omega)
    · unfold impl_PublicsOf.f
      rw [implSecrets_eq l hl 6 k (by omega), h]
      exact implPublics_l0 l (by omega) h3 k (by omega)
  · rw [Bool.not_eq_true] at h
    refine ⟨([], false), by simp, h.symm, (fun h2 => by rw [h] at h2; cases h2), Tot.at_ (l.length + 30) rfl (fun k hk => ?_), Tot.at_ (l.length + 30) rfl (fun k hk => ?_)⟩
    · unfold spec_PublicsOf.f
      rw [specSecrets_eq l hl k (by omega), h]
      rfl
    · unfold impl_PublicsOf.f
      rw [implSecrets_eq l hl 6 k (by omega), h]
      rfl
theorem drawBlame_j0 (c : List Int) (hc : Bytes c) (n : Int) (ps : List Int) (hps : ps.length ≤ 6) (l : List S71) (hl : l.length ≤ 6) (b : Bool) (hb : b = true → 1 < l.length) (p h : Int) (hp : 0 ≤ p ∧ p ≤ 1073741824) :
    Tot (fun k => spec_DrawBlameOf.j0 k n ps l b c p h) (fun y => y.1.length ≤ 6 ∧ y.2.2.length ≤ 6) := by
  refine Tot.up ?_
  simp only [spec_DrawBlameOf.j0]
  refine Tot.ite (fun hb1 => ?_) (fun _ => ?_)
  · have h2 := hb hb1
    refine Tot.bind (Tot.fix (pick_tot c hc p h (l.length : Int) (by omega) (by omega))) (fun y hy => ?_)
    have hw : wrap64 (y.1 + 1) = y.1 + 1 := w64 (by omega) (by omega)
    rw [hw]
    refine Tot.bind (Tot.some_ (Q := fun z => z = ([] : List S71)) rfl) (fun y1 e1 => Tot.pos (by omega) (Tot.pos (by omega) (Tot.bind (Tot.some_ (Q := fun z => z = l.take y.1.toNat) rfl) (fun y2 e2 => ?_))))
    have h3 : y2.length ≤ 6 := by rw [e2, List.length_take]; omega
    have h4 : y1.length = 0 := by rw [e1]; rfl
    refine Tot.pos (by omega) (Tot.bind (Tot.some_ (Q := fun z => z = y1 ++ y2) rfl) (fun y3 e3 => Tot.pos (by omega) (Tot.pos (by omega) (Tot.bind (Tot.some_ (Q := fun z => z = l.drop (y.1 + 1).toNat) rfl) (fun y4 e4 => ?_)))))
    have h5 : y4.length = l.length - (y.1 + 1).toNat := by rw [e4, List.length_drop]
    have h6 : y3.length = min y.1.toNat l.length := by rw [e3, List.length_append, h4, e2, List.length_take]; omega
    refine Tot.pos (by omega) (Tot.bind (Tot.some_ (Q := fun z => z = y3 ++ y4) rfl) (fun y5 e5 => ?_))
    have h7 : y5.length ≤ 6 := by rw [e5, List.length_append]; omega
    refine Tot.ite (fun h8 => Tot.bind (Tot.fix (one_tot c hc y.2.1 y.2.2 6 (by omega) (by omega))) (fun y6 _ => Tot.ite (fun _ => Tot.pos (by omega) (Tot.some_ ⟨hps, by simp only [List.length_set]; omega⟩)) (fun _ => Tot.some_ ⟨hps, h7⟩))) (fun _ => Tot.some_ ⟨hps, h7⟩)
  · exact Tot.ite (fun h8 => Tot.bind (Tot.fix (one_tot c hc p h 6 (by omega) (by omega))) (fun y6 _ => Tot.ite (fun _ => Tot.pos (by omega) (Tot.some_ ⟨hps, by simp only [List.length_set]; omega⟩)) (fun _ => Tot.some_ ⟨hps, hl⟩))) (fun _ => Tot.some_ ⟨hps, hl⟩)
theorem drawBlame_tot (c : List Int) (hc : Bytes c) : Tot (fun k => spec_DrawBlameOf.f k c) (fun y => y.1.length ≤ 6 ∧ y.2.2.length ≤ 6) := by
  simp only [spec_DrawBlameOf.f]
  refine Tot.bind (drawRun_tot c hc) (fun y1 h1 => ?_)
  obtain ⟨hs, a, b, rs, x, o, k0, h2, h3, _, h4, _⟩ := trip_val y1.1 (by omega) y1.2.1 y1.2.2
  refine Tot.bind (Tot.stay (spec_RunTrip.mono _ _ _) h4 rfl (Q := fun y => y = (hs, a, b, rs, x, o))) (fun y2 e2 => ?_)
  obtain ⟨r, h5, _, _, h6, _⟩ := pub_val y1.1 (by omega)
  refine Tot.bind h6 (fun y3 e3 => ?_)
  rw [e2, e3]
  refine Tot.ite (fun h7 => Tot.bind (Tot.fix (one_tot c hc 0 0 4 (by omega) (by omega))) (fun y4 h8 => ?_)) (fun _ => ?_)
  · exact drawBlame_j0 c hc _ _ h5 _ h3 _ (fun _ => by simp only at h7; omega) _ _ (by omega)
  · exact drawBlame_j0 c hc _ _ h5 _ h3 _ (fun h => by cases h) _ _ (by omega)
theorem j2_tot (c : List Int) (hc : Bytes c) : Tot (fun k => laws_FnBlamed.j2 k c) (fun y => y = true) := by
  refine Tot.up ?_
  simp only [laws_FnBlamed.j2]
  refine Tot.bind (drawBlame_tot c hc) (fun y hy => ?_)
  obtain ⟨ps, n, l⟩ := y
  simp only at hy ⊢
  obtain ⟨k1, h1⟩ := implBlame_eq ps (by omega) n l
  obtain ⟨k2, h2⟩ := specBlame_eq ps (by omega) n l
  obtain ⟨k3, h3⟩ := implWhole_eq ps (by omega) n l
  obtain ⟨k4, h4⟩ := specWhole_eq ps (by omega) n l
  refine Tot.bind (Tot.stay (impl_BlameOf.mono _ _ _) h1 rfl (Q := fun y => y = _)) (fun y1 e1 => Tot.bind (Tot.stay (spec_BlameOf.mono _ _ _) h2 rfl (Q := fun y => y = _)) (fun y2 e2 => Tot.bind (Tot.stay (impl_WholeTrip.mono _ _ _) h3 rfl (Q := fun y => y = _)) (fun y3 e3 => Tot.bind (Tot.stay (spec_WholeTrip.mono _ _ _) h4 rfl (Q := fun y => y = _)) (fun y4 e4 => ?_))))
  have hb := blameR_range ps.length (hasF ps n l) ps.length 0 (by omega)
  rw [e1, e2, e3, e4, w64 (n := (ps.length : Int) - 1) (by omega) (by omega)]
  refine Tot.neg (by simp) (Tot.pos rfl (Tot.neg (by simp) (Tot.neg (by simp) ?_)))
  by_cases hok : arePub ps = true ∧ (0 ≤ n ∧ n ≤ 1000) ∧ l.length ≤ 40
  · rw [if_pos hok, if_pos hok]
    refine Tot.pos rfl ?_
    by_cases e : blameR ps.length (hasF ps n l) ps.length 0 = (ps.length : Int) - 1
    · rw [decide_eq_true e]
      exact Tot.pos e (Tot.pos (by simp) (Tot.pos rfl (Tot.some_ rfl)))
    · rw [decide_eq_false e]
      refine Tot.neg e (Tot.pos (by simp) (Tot.neg (by simp) (Tot.some_ ?_)))
      exact decide_eq_true (by simp only; omega)
  · rw [if_neg hok, if_neg hok]
    exact Tot.neg (by simp) (Tot.some_ rfl)
theorem l0_tot (c : List Int) (hc : Bytes c) (l : List Int) (hs : areSec l 6 = true) (letter : Int) (hle : 0 ≤ letter ∧ letter ≤ 1000) (at_ : Nat) (ha : at_ < l.length) (v w : Int) : ∀ (d i : Nat), at_ - i = d → i ≤ at_ →
    Tot (fun k => laws_FnBlamed.l0 k c (pubs l) (at_ : Int) (i : Int) (firsts l.length) letter v (rcps l letter (at_ + 1)) w) (fun y => y = true) := by
  obtain ⟨_, h6, h3⟩ := areSec_true hs
  intro d
  induction d with
  | zero =>
    intro i hd hi
    refine Tot.up ?_
    simp only [laws_FnBlamed.l0]
    exact Tot.neg (by omega) (j2_tot c hc)
  | succ d ih =>
    intro i hd hi
    have hlt : i + 1 < l.length := by omega
    have hrl := rcps_length l letter (at_ + 1)
    refine Tot.up ?_
    simp only [laws_FnBlamed.l0]
    refine Tot.pos (by omega) ?_
    have hpf : Tot (fun k => impl_ProofFor.f k (firsts l.length) letter v (rcps l letter (at_ + 1)) w (i : Int)) (fun y => y = ([sgn (l.getD (i + 1) 0) (i + 1) letter], true)) := by
      simp only [impl_ProofFor.f]
      refine Tot.at_ (l.length + at_ + 20) rfl (fun k hk => ?_)
      rw [contains_eq (firsts l.length) (by rw [firsts_length]; omega) (i : Int) k (by rw [firsts_length]; omega), decide_eq_true ((mem_firsts _ _).2 (by omega))]
      simp only [Option.bind_some, if_true]
      have h := implProof_l0 (rcps l letter (at_ + 1)) (by omega) (i : Int) (rcps l letter (at_ + 1)).length 0 [] (by omega) (by omega) (by simp) k (by omega)
      rw [List.drop_zero, fromV_rcps l letter i (at_ + 1) (by omega), if_pos (by omega)] at h
      exact h
    refine Tot.bind hpf (fun y e => ?_)
    rw [e]
    have hpl := pubs_length l
    rw [w64 (n := (i : Int) + 1) (by omega) (by omega)]
    refine Tot.pos rfl (Tot.pos (by simp) (Tot.pos (by omega) (Tot.pos (by omega) (Tot.pos (by simp) ?_))))
    have hp : rd (pubs l) ((i : Int) + 1) = ((pwm 4 l[i + 1].toNat : Nat) : Int) := by
      rw [show (i : Int) + 1 = ((i + 1 : Nat) : Int) by omega, rd_in (pubs l) (i + 1) (by omega)]
      simp [pubs]
    have hr : rd_T71 [sgn (l.getD (i + 1) 0) (i + 1) letter] 0 = sgn l[i + 1] (i + 1) letter := by
      rw [getDin l 0 (i + 1) hlt]
      rfl
    rw [hp, hr]
    have hx := h3 _ (List.getElem_mem hlt)
    have hv : checkV ((pwm 4 l[i + 1].toNat : Nat) : Int) (sgn l[i + 1] (i + 1) letter).f0 (sgn l[i + 1] (i + 1) letter).f1 (sgn l[i + 1] (i + 1) letter).f2 (sgn l[i + 1] (i + 1) letter).f3 = (true, true) := by
      have h := signed_ok (s := l[i + 1]) (a := ((i + 1 : Nat) : Int) - 1) (b := ((i + 1 : Nat) : Int)) (c := letter) ⟨hx, by omega, by omega, hle⟩
      rw [show ((i + 1 : Nat) : Int) - 1 + 1 = ((i + 1 : Nat) : Int) by omega] at h
      exact h
    refine Tot.bind (Q := fun y => y = (true, true)) (Tot.at_ 22 rfl (fun k hk => by rw [implCheck_eq _ _ _ _ _ k (by omega), hv])) (fun y2 e2 => ?_)
    rw [e2]
    exact Tot.pos rfl (Tot.pos rfl (ih (i + 1) (by omega) (by omega)))
theorem jj_tot (c : List Int) (hc : Bytes c) (l : List Int) (hs : areSec l 6 = true) (letter : Int) (hle : 0 ≤ letter ∧ letter ≤ 1000) (at_ : Nat) (ha : at_ < l.length) (v w : Int) :
    Tot (fun k => laws_FnBlamed.j0 k c (pubs l) (at_ : Int) false (firsts l.length) letter v (rcps l letter (at_ + 1)) w) (fun y => y = true) := by
  refine Tot.up ?_
  simp only [laws_FnBlamed.j0]
  exact Tot.neg (by simp) (l0_tot c hc l hs letter hle at_ ha v w at_ 0 (by omega) (by omega))
theorem j0_tot (c : List Int) (hc : Bytes c) (l : List Int) (hl : l.length ≤ 1048576) (letter loses : Int) (hs : List Int) (a b : Int) (rs : List S71) (x : Int) (o : Bool) (r : List Int × Bool) (hr2 : r.2 = areSec l 6) (hr : areSec l 6 = true → r.1 = pubs l)
    (ho : o = true → areSec l 6 = true ∧ (0 ≤ letter ∧ letter ≤ 1000) ∧ ∃ at_ : Nat, at_ < l.length ∧ (loses = (at_ : Int) ∨ loses = -1 ∧ at_ + 1 = l.length) ∧ hs = firsts l.length ∧ a = letter ∧ b = (at_ : Int) ∧ rs = rcps l letter (at_ + 1) ∧ x = loses) :
    Tot (fun k => (if o = true then ((impl_BlameOf.f k r.1 letter rs).bind fun bt372 => ((impl_WholeTrip.f k r.1 letter rs).bind fun bt374 => (if r.2 = true then (if bt372.2 = true then (if bt374.2 = true then (if loses < 0 then (if (bt374.1 != true) = true then (some false) else (if loses ≥ 0 then (if bt372.1 = loses then (if bt372.1 = (wrap64 ((l.length : Int) - 1)) then (laws_FnBlamed.j0 k c r.1 bt372.1 (b != bt372.1) hs a b rs x) else (some false)) else (some false)) else (if bt372.1 = (wrap64 ((l.length : Int) - 1)) then (laws_FnBlamed.j0 k c r.1 bt372.1 (b != bt372.1) hs a b rs x) else (some false)))) else (if (bt374.1 != (loses == (wrap64 ((l.length : Int) - 1)))) = true then (some false) else (if loses ≥ 0 then (if bt372.1 = loses then (laws_FnBlamed.j0 k c r.1 bt372.1 (b != bt372.1) hs a b rs x) else (some false)) else (laws_FnBlamed.j0 k c r.1 bt372.1 (b != bt372.1) hs a b rs x)))) else (some false)) else (some false)) else (some false)))) else (laws_FnBlamed.j2 k c))) (fun y => y = true) := by
  refine Tot.ite (fun h => ?_) (fun _ => j2_tot c hc)
  obtain ⟨hsec, hle, at_, ha, hat, rfl, rfl, rfl, rfl, ex⟩ := ho h
  rw [ex]
  obtain ⟨_, h6, h3⟩ := areSec_true hsec
  have hrl := rcps_length l a (at_ + 1)
  have hpl := pubs_length l
  rw [hr hsec, hr2, hsec]
  have hbl : blameR (pubs l).length (hasF (pubs l) a (rcps l a (at_ + 1))) (pubs l).length 0 = (at_ : Int) := by
    rw [hpl, blameR_val l.length (at_ + 1) _ (fun h hh => hasF_rcps l (by omega) a hle (at_ + 1) (by omega) h hh) (by omega) l.length 0 (by omega) (by omega)]
    omega
  have hok : arePub (pubs l) = true ∧ (0 ≤ a ∧ a ≤ 1000) ∧ (rcps l a (at_ + 1)).length ≤ 40 := ⟨pubs_are l hsec, hle, by omega⟩
  obtain ⟨k1, h1⟩ := implBlame_eq (pubs l) (by omega) a (rcps l a (at_ + 1))
  obtain ⟨k2, h2⟩ := implWhole_eq (pubs l) (by omega) a (rcps l a (at_ + 1))
  rw [if_pos hok, hbl] at h1 h2
  rw [hpl] at h2
  refine Tot.bind (Tot.stay (impl_BlameOf.mono _ _ _) h1 rfl (Q := fun y => y = _)) (fun y1 e1 => Tot.bind (Tot.stay (impl_WholeTrip.mono _ _ _) h2 rfl (Q := fun y => y = _)) (fun y2 e2 => ?_))
  rw [e1, e2, w64 (n := (l.length : Int) - 1) (by omega) (by omega)]
  have hj := jj_tot c hc l hsec a hle at_ ha (at_ : Int) loses
  refine Tot.pos rfl (Tot.pos rfl (Tot.pos rfl ?_))
  by_cases h0 : loses < 0
  · have e : at_ + 1 = l.length := by omega
    rw [decide_eq_true (show (at_ : Int) = (l.length : Int) - 1 by omega)]
    refine Tot.pos h0 (Tot.neg (by simp) (Tot.neg (by omega) (Tot.pos (by omega) ?_)))
    rw [bne_self_eq_false]
    exact hj
  · refine Tot.neg h0 ?_
    have e : loses = (at_ : Int) := by omega
    have e2 : (decide ((at_ : Int) = (l.length : Int) - 1) != (loses == (l.length : Int) - 1)) = false := by
      rw [e]
      by_cases h7 : (at_ : Int) = (l.length : Int) - 1
      · rw [decide_eq_true h7, beq_iff_eq.2 h7]
        rfl
      · rw [decide_eq_false h7, beq_eq_false_iff_ne.2 h7]
        rfl
    rw [e2]
    refine Tot.neg (by simp) (Tot.pos (by omega) (Tot.pos e.symm ?_))
    rw [bne_self_eq_false]
    exact hj
theorem FnBlamed : laws_FnBlamed.Pure := by
  intro l0 l1 hm0 hx0 hw0 hm1 hx1 hw1
  have hmx : maxLen = 9223372036854775807 := rfl
  refine Tot.ex ?_
  simp only [laws_FnBlamed.f]
  rw [w64 (n := (l0.length : Int) + (l1.length : Int)) (by omega) (by omega)]
  refine Tot.ite (fun _ => Tot.some_ rfl) (fun hlen => ?_)
  have hb0 : Bytes l0 := bytes_of (by omega) hw0
  have hb1 : Bytes l1 := bytes_of (by omega) hw1
  refine Tot.bind (drawRun_tot l0 hb0) (fun y hy => ?_)
  obtain ⟨l, letter, loses⟩ := y
  simp only at hy ⊢
  obtain ⟨hs, a, b, rs, x, o, k0, h2, h3, ho, h4, h5⟩ := trip_val l (by omega) letter loses
  obtain ⟨r, h6, h7, h8, h9, h10⟩ := pub_val l (by omega)
  refine Tot.bind (Tot.stay (impl_RunTrip.mono _ _ _) h5 rfl (Q := fun y => y = (hs, a, b, rs, x, o))) (fun y1 e1 => Tot.bind (Tot.stay (spec_RunTrip.mono _ _ _) h4 rfl (Q := fun y => y = (hs, a, b, rs, x, o))) (fun y2 e2 => Tot.bind h10 (fun y3 e3 => Tot.bind h9 (fun y4 e4 => ?_))))
  rw [e1, e2, e3, e4]
  refine Tot.neg (by simp) (Tot.bind (sameInts_self hs (by omega)) (fun y5 e5 => Tot.pos e5 (Tot.pos rfl (Tot.pos rfl (Tot.bind (sameReceipts_self rs (by omega)) (fun y6 e6 => Tot.pos e6 (Tot.pos rfl (Tot.neg (by simp) (Tot.bind (sameInts_self r.1 (by omega)) (fun y7 e7 => Tot.pos e7 ?_))))))))))
  exact j0_tot l1 hb1 l (by omega) letter loses hs a b rs x o r h7 h8 ho
end Go.Proofs.Ytebpikejljgfgaa.Pure
