/- Proved: parts that were made for a secret tell it, and the readings of parts agree, for all bytes that they are drawn from. Conditions: those of the given statement alone. -/
import Derived.Test.YtdobjdkjflnpmaaPFnHiddenx13
import Derived.Test.YtdobjdkjflnpmaaBase
set_option linter.unusedVariables false
set_option linter.unusedSimpArgs false
namespace Go.Proofs.Ytdobjdkjflnpmaa.Pure
open Go.RowKit Go.Proofs.Ytdobjdkjflnpmaa.PFnHidden Go.Proofs.Ytdobjdkjflnpmaa.Base Go.Proofs.YtdobjdkjflnpmaaW.PrintWords Go.Proofs.YtdobjdkjflnpmaaW.PrintLast Go.Proofs.YtdobjdkjflnpmaaW.PrintMore Go.Proofs.Ytdobjdkjflnpmaa

/-- The bits of a letter: where it stands is small, its bytes are bytes. -/
def Bytes (l : List Int) : Prop := l.length ≤ 1048576 ∧ ∀ x ∈ l, 0 ≤ x ∧ x ≤ 255
theorem and255 (E : Int) : 0 ≤ Go.bits .and .u64 E 255 ∧ Go.bits .and .u64 E 255 ≤ 255 := by
  have h : Go.bits .and .u64 E 255 = IntKind.u64.wrap (((BitVec.ofInt 64 E) &&& (BitVec.ofInt 64 255)).toNat : Int) := rfl
  have h2 : ((BitVec.ofInt 64 E) &&& (BitVec.ofInt 64 255)).toNat ≤ 255 := by
    rw [BitVec.toNat_and]
    exact Nat.and_le_right
  have h3 : IntKind.u64.wrap (((BitVec.ofInt 64 E) &&& (BitVec.ofInt 64 255)).toNat : Int) = (((BitVec.ofInt 64 E) &&& (BitVec.ofInt 64 255)).toNat : Int) := by
    show (_ : Int) % 2 ^ 64 = _
    omega
  rw [h, h3]
  omega
def CurOk (p' p : Int) : Prop := p ≤ p' ∧ p' ≤ p + 2
theorem next_tot (l : List Int) (hl : Bytes l) (p h : Int) (hp : 0 ≤ p ∧ p ≤ 1099511627776) : ∃ y, spec_l1Cur_next.f l p h = some y ∧ (0 ≤ y.1 ∧ y.1 ≤ 255 ∧ y.2.1 = p + 1) := by
  have hl1 := hl.1
  unfold spec_l1Cur_next.f
  rw [w64 (n := p + 1) (by omega) (by omega)]
  by_cases h1 : p < (l.length : Int)
  · obtain ⟨i, rfl⟩ := Int.eq_ofNat_of_zero_le hp.1
    have h2 := hl.2 _ (rd_mem l i (by omega))
    rw [if_pos h1, if_pos hp.1, if_pos (by omega)]
    refine ⟨_, rfl, ?_⟩
    simp only
    rw [w64 (by omega) (by omega)]
    exact ⟨h2.1, h2.2, trivial⟩
  · rw [if_neg h1, if_neg (by omega)]
    refine ⟨_, rfl, ?_⟩
    have h3 := and255 ((IntKind.u64.wrap ((IntKind.u64.wrap ((IntKind.u64.wrap (h * 6364136223846793005)) + 0)) + 1442695040888963407)) / 1099511627776)
    simp only
    rw [w64 (by omega) (by omega)]
    exact ⟨h3.1, h3.2, trivial⟩
theorem pick_tot (l : List Int) (hl : Bytes l) (p h a : Int) (hp : 0 ≤ p ∧ p ≤ 549755813888) (ha : a ≤ 1048576) : ∃ y, spec_l1Cur_pick.f l p h a = some y ∧ (0 ≤ y.1 ∧ (y.1 < a ∨ y.1 = 0) ∧ p ≤ y.2.1 ∧ y.2.1 ≤ p + 2) := by
  unfold spec_l1Cur_pick.f
  by_cases h1 : a ≤ 1
  · rw [if_pos h1]
    exact ⟨_, rfl, by simp only; omega, .inr rfl, by simp only; omega, by simp only; omega⟩
  · rw [if_neg h1]
    obtain ⟨⟨b, p1, h'⟩, e1, hb0, hb1, hp1⟩ := next_tot l hl p h (by omega)
    simp only at hb0 hb1 hp1
    rw [e1]
    simp only [Option.bind_some]
    by_cases h2 : a > 200
    · obtain ⟨⟨c, p2, h''⟩, e2, hc0, hc1, hp2⟩ := next_tot l hl p1 h' (by omega)
      simp only at hc0 hc1 hp2
      rw [if_pos h2, e2]
      simp only [Option.bind_some]
      rw [if_neg (by omega), w64 (n := b * 256) (by omega) (by omega), w64 (by omega) (by omega), Int.tmod_eq_emod_of_nonneg (by omega)]
      have h3 := Int.emod_nonneg (b * 256 + c) (show a ≠ 0 by omega)
      have h4 := Int.emod_lt_of_pos (b * 256 + c) (show 0 < a by omega)
      exact ⟨_, rfl, h3, .inl h4, by simp only; omega, by simp only; omega⟩
    · rw [if_neg h2, if_neg (by omega), Int.tmod_eq_emod_of_nonneg (by omega)]
      have h3 := Int.emod_nonneg b (show a ≠ 0 by omega)
      have h4 := Int.emod_lt_of_pos b (show 0 < a by omega)
      exact ⟨_, rfl, h3, .inl h4, by simp only; omega, by simp only; omega⟩

theorem bytes_of {l : List Int} (h : l.length ≤ 1048576) (hw : ∀ x ∈ l, (Lit.int .u8 x).wf = true) : Bytes l := by
  refine ⟨h, fun x hx => ?_⟩
  have h2 := hw x hx
  simp only [Lit.wf, Bool.and_eq_true, decide_eq_true_iff] at h2
  exact h2

theorem one_tot (l : List Int) (hl : Bytes l) (p h a : Int) (hp : 0 ≤ p ∧ p ≤ 549755813888) (ha : a ≤ 1048576) : ∃ y, spec_l1Cur_one.f l p h a = some y ∧ (p ≤ y.2.1 ∧ y.2.1 ≤ p + 2) := by
  unfold spec_l1Cur_one.f
  obtain ⟨⟨b, p1, h'⟩, e1, hb0, hb1, hp0, hp1⟩ := pick_tot l hl p h a hp ha
  simp only at hp0 hp1
  rw [e1]
  exact ⟨_, rfl, hp0, hp1⟩

theorem among_tot (l : List Int) (hl : Bytes l) (p h : Int) (m : List Int) (hp : 0 ≤ p ∧ p ≤ 549755813888) (hm : 0 < m.length) (hm2 : m.length ≤ 1048576) : ∃ y, spec_l1Cur_among.f l p h m = some y ∧ (y.1 ∈ m ∧ p ≤ y.2.1 ∧ y.2.1 ≤ p + 2) := by
  unfold spec_l1Cur_among.f
  obtain ⟨⟨b, p1, h'⟩, e1, hb0, hb1, hp0, hp1⟩ := pick_tot l hl p h (m.length : Int) hp (by omega)
  simp only at hb0 hb1 hp0 hp1
  rw [e1]
  simp only [Option.bind_some]
  obtain ⟨i, rfl⟩ := Int.eq_ofNat_of_zero_le hb0
  rw [if_pos hb0, if_pos (by omega)]
  exact ⟨_, rfl, rd_mem m i (by omega), by simp only; omega, by simp only; omega⟩

theorem number_tot (l : List Int) (hl : Bytes l) : Tot (fun k => laws_numberOf.f k l) (fun y => 0 ≤ y ∧ y < 1000003) := by
  have h1 := hl.1
  have key : ∀ (d i : Nat) (x : Int), l.length - i = d → i ≤ l.length → 0 ≤ x ∧ x < 1000003 → Tot (fun k => laws_numberOf.l0 k x l (l.length : Int) (i : Int)) (fun y => 0 ≤ y ∧ y < 1000003) := by
    intro d
    induction d with
    | zero =>
      intro i x hd hi hx
      refine Tot.up ?_
      simp only [laws_numberOf.l0]
      exact Tot.neg (by omega) (Tot.some_ hx)
    | succ d ih =>
      intro i x hd hi hx
      have hb := hl.2 _ (rd_mem l i (by omega))
      refine Tot.up ?_
      simp only [laws_numberOf.l0]
      refine Tot.pos (by omega) (Tot.pos (by omega) (Tot.pos (by omega) ?_))
      rw [w64 (n := 31 * x) (by omega) (by omega), w64 (n := rd l (i : Int)) (by omega) (by omega), w64 (n := 31 * x + rd l (i : Int)) (by omega) (by omega), w64 (n := (i : Int) + 1) (by omega) (by omega), Int.tmod_eq_emod_of_nonneg (by omega)]
      exact ih (i + 1) _ (by omega) (by omega) (by omega)
  simp only [laws_numberOf.f]
  exact key l.length 0 0 (by omega) (by omega) (by omega)

theorem sameInts_tot (a b : List Int) (ha : a.length ≤ 1048576) : Tot (fun k => laws_sameInts.f k a b) (fun y => y = decide (a = b)) := by
  simp only [laws_sameInts.f]
  by_cases hl : a.length = b.length
  · refine Tot.pos (by omega) ?_
    have key : ∀ (d i : Nat), a.length - i = d → i ≤ a.length → Tot (fun k => laws_sameInts.l0 k a b (a.length : Int) (i : Int)) (fun y => y = decide (a.drop i = b.drop i)) := by
      intro d
      induction d with
      | zero =>
        intro i hd hi
        refine Tot.up ?_
        simp only [laws_sameInts.l0]
        refine Tot.neg (by omega) (Tot.some_ ?_)
        rw [List.drop_of_length_le (by omega), List.drop_of_length_le (by omega)]
        rfl
      | succ d ih =>
        intro i hd hi
        refine Tot.up ?_
        simp only [laws_sameInts.l0]
        rw [rd_in a i (by omega), rd_in b i (by omega), w64 (n := (i : Int) + 1) (by omega) (by omega), List.drop_eq_getElem_cons (show i < a.length by omega), List.drop_eq_getElem_cons (show i < b.length by omega)]
        refine Tot.pos (by omega) (Tot.pos (by omega) (Tot.pos (by omega) (Tot.pos (by omega) (Tot.ite (fun e => ?_) (fun e => Tot.some_ ?_)))))
        · refine (ih (i + 1) (by omega) (by omega)).imp (fun y hy => ?_)
          rw [hy, Bool.eq_iff_iff, decide_eq_true_iff, decide_eq_true_iff]
          constructor
          · intro h
            rw [e, h]
          · intro h
            exact (List.cons.inj h).2
        · exact (decide_eq_false (fun h => e (List.cons.inj h).1)).symm
    have h := key a.length 0 (by omega) (by omega)
    rw [List.drop_zero, List.drop_zero] at h
    exact h
  · refine Tot.neg (by omega) (Tot.some_ ?_)
    exact (decide_eq_false (fun h => hl (by rw [h]))).symm
theorem sameInts_self (a : List Int) (ha : a.length ≤ 1048576) : Tot (fun k => laws_sameInts.f k a a) (fun y => y = true) := (sameInts_tot a a ha).imp (fun y hy => by rw [hy]; exact decide_eq_true rfl)

set_option exponentiation.threshold 3000
/-- Alike modulo 1499. -/
def Cg (a b : Int) : Prop := ∃ q, a - b = 1499 * q
theorem Cg.rfl {a : Int} : Cg a a := ⟨0, by omega⟩
theorem Cg.of_eq {a b : Int} (h : a = b) : Cg a b := ⟨0, by omega⟩
theorem Cg.symm {a b : Int} (h : Cg a b) : Cg b a := by
  obtain ⟨q, h⟩ := h
  exact ⟨-q, by omega⟩
theorem Cg.trans {a b c : Int} (h : Cg a b) (k : Cg b c) : Cg a c := by
  obtain ⟨q, h⟩ := h
  obtain ⟨r, k⟩ := k
  exact ⟨q + r, by omega⟩
theorem Cg.add {a b c d : Int} (h : Cg a b) (k : Cg c d) : Cg (a + c) (b + d) := by
  obtain ⟨q, h⟩ := h
  obtain ⟨r, k⟩ := k
  exact ⟨q + r, by omega⟩
theorem Cg.sub {a b c d : Int} (h : Cg a b) (k : Cg c d) : Cg (a - c) (b - d) := by
  obtain ⟨q, h⟩ := h
  obtain ⟨r, k⟩ := k
  exact ⟨q - r, by omega⟩
theorem Cg.mul {a b c d : Int} (h : Cg a b) (k : Cg c d) : Cg (a * c) (b * d) := by
  obtain ⟨q, h⟩ := h
  obtain ⟨r, k⟩ := k
  exact ⟨q * c + b * r, by grind⟩
theorem Cg.mod (a : Int) : Cg (a % 1499) a := ⟨-(a / 1499), by omega⟩
theorem Cg.eq {a b : Int} (h : Cg a b) (ha : 0 ≤ a ∧ a < 1499) (hb : 0 ≤ b ∧ b < 1499) : a = b := by
  obtain ⟨q, h⟩ := h
  omega
theorem Cg.emod {a b : Int} (h : Cg a b) : a % 1499 = b % 1499 := by
  obtain ⟨q, h⟩ := h
  omega
theorem fermat : ∀ b : Nat, b < 1499 → b ≠ 0 → b ^ 1497 * b % 1499 = 1 := by decide +kernel
/-- One divided by a number, or 0. -/
def iv (b : Int) : Int := (((b % 1499).toNat ^ 1497 % 1499 : Nat) : Int)
theorem iv_mul (b : Int) (h : ¬ Cg b 0) : Cg (b * iv b) 1 := by
  have hb : (b % 1499).toNat ≠ 0 := fun e => h ⟨b / 1499, by omega⟩
  have hf := fermat (b % 1499).toNat (by omega) hb
  have h1 : Cg b (((b % 1499).toNat : Nat) : Int) := (Cg.mod b).symm.trans (Cg.of_eq (by omega))
  have h2 : Cg (iv b) ((((b % 1499).toNat ^ 1497 : Nat)) : Int) := by
    unfold iv
    rw [Int.natCast_emod]
    exact Cg.mod _
  have h3 := h1.mul h2
  have h4 : ((((b % 1499).toNat ^ 1497 * (b % 1499).toNat : Nat)) : Int) % 1499 = 1 := by
    have : (((b % 1499).toNat ^ 1497 * (b % 1499).toNat % 1499 : Nat) : Int) = ((1 : Nat) : Int) := by rw [hf]
    rw [Int.natCast_emod] at this
    exact this
  refine h3.trans ?_
  rw [Int.mul_comm, ← Int.natCast_mul]
  exact (Cg.mod _).symm.trans (Cg.of_eq h4)
theorem Cg.prime {a b : Int} (h : Cg (a * b) 0) : Cg a 0 ∨ Cg b 0 := by
  by_cases ha : Cg a 0
  · exact .inl ha
  · right
    have h1 : Cg (iv a * (a * b)) 0 := (Cg.rfl.mul h).trans (Cg.of_eq (Int.mul_zero _))
    have h2 : Cg (a * iv a * b) b := ((iv_mul a ha).mul Cg.rfl).trans (Cg.of_eq (Int.one_mul _))
    exact (h2.symm.trans (Cg.of_eq (by grind))).trans h1
/-- The value of a row of numbers at a place. -/
def ev : List Int → Int → Int
  | [], _ => 0
  | a :: t, x => a + x * ev t x
def quo : List Int → Int → List Int
  | [], _ => []
  | [_], _ => []
  | _ :: b :: t, r => ev (b :: t) r :: quo (b :: t) r
theorem quo_ev : ∀ (c : List Int) (x r : Int), ev c x - ev c r = (x - r) * ev (quo c r) x
  | [], x, r => by simp [ev, quo]
  | [a], x, r => by simp [ev, quo]
  | a :: b :: t, x, r => by
    have h := quo_ev (b :: t) x r
    have e1 : ev (a :: b :: t) x = a + x * ev (b :: t) x := rfl
    have e2 : ev (a :: b :: t) r = a + r * ev (b :: t) r := rfl
    have e3 : ev (quo (a :: b :: t) r) x = ev (b :: t) r + x * ev (quo (b :: t) r) x := rfl
    rw [e1, e2, e3]
    grind
theorem quo_length : ∀ (c : List Int) (r : Int), (quo c r).length = c.length - 1
  | [], _ => rfl
  | [_], _ => rfl
  | _ :: b :: t, r => by
    have h := quo_length (b :: t) r
    simp only [quo, List.length_cons] at h ⊢
    omega
theorem quo_zero : ∀ (c : List Int) (r : Int), (∀ q ∈ quo c r, Cg q 0) → Cg (ev c r) 0 → ∀ a ∈ c, Cg a 0
  | [], _, _, _, a, ha => by simp at ha
  | [b], r, _, h, a, ha => by
    rw [List.mem_singleton.1 ha]
    exact (Cg.of_eq (by simp [ev])).trans h
  | b :: d :: t, r, hq, h, a, ha => by
    have h1 : Cg (ev (d :: t) r) 0 := hq _ (by simp [quo])
    have h2 := quo_zero (d :: t) r (fun q hq2 => hq q (by simp only [quo, List.mem_cons]; exact .inr hq2)) h1
    rcases List.mem_cons.1 ha with rfl | ha
    · have h3 : Cg (a + r * ev (d :: t) r) 0 := h
      have h4 : Cg (r * ev (d :: t) r) 0 := (Cg.rfl.mul h1).trans (Cg.of_eq (Int.mul_zero _))
      exact (Cg.of_eq (by omega)).trans ((h3.sub h4).trans (Cg.of_eq rfl))
    · exact h2 a ha
/-- Unlike modulo 1499, two by two. -/
def Far (xs : List Int) : Prop := xs.Pairwise fun a b => ¬ Cg a b
theorem roots : ∀ (n : Nat) (c xs : List Int), c.length ≤ n → c.length ≤ xs.length → Far xs → (∀ x ∈ xs, Cg (ev c x) 0) → ∀ a ∈ c, Cg a 0 := by
  intro n
  induction n with
  | zero =>
    intro c xs hc _ _ _ a ha
    have e : c = [] := List.length_eq_zero_iff.1 (by omega)
    subst e
    simp at ha
  | succ n ih =>
    intro c xs hc hl hd hz
    cases xs with
    | nil =>
      intro a ha
      have e : c = [] := List.length_eq_zero_iff.1 (by simpa using hl)
      subst e
      simp at ha
    | cons r rs =>
      have hd2 := List.pairwise_cons.1 hd
      have hr := hz r (by simp)
      refine quo_zero c r (ih (quo c r) rs ?_ ?_ hd2.2 (fun x hx => ?_)) hr
      · rw [quo_length]
        omega
      · rw [quo_length]
        simp only [List.length_cons] at hl
        omega
      · have h1 := hz x (by simp [hx])
        have h2 : Cg ((x - r) * ev (quo c r) x) 0 := by
          rw [← quo_ev]
          exact (h1.sub hr).trans (Cg.of_eq rfl)
        rcases h2.prime with h3 | h3
        · exact absurd ((Cg.of_eq (by omega)).trans ((h3.symm.trans Cg.rfl).symm.symm.add (Cg.rfl (a := r))) : Cg (0 + r) ((x - r) + r)) (fun h4 => hd2.1 x hx (by
            obtain ⟨q, h4⟩ := h4
            exact ⟨q, by omega⟩))
        · exact h3
theorem ev_sub : ∀ (c d : List Int) (x : Int), c.length = d.length → ev (List.zipWith (fun a b => a - b) c d) x = ev c x - ev d x
  | [], [], x, _ => by simp [ev]
  | a :: c, b :: d, x, h => by
    have h1 := ev_sub c d x (by simpa using h)
    simp only [List.zipWith_cons_cons, ev, h1]
    grind
  | [], _ :: _, _, h => by simp at h
  | _ :: _, [], _, h => by simp at h
/-- Two rows of one length that have one value at as many places are alike. -/
theorem ev_unique (c d xs : List Int) (hl : c.length = d.length) (hx : c.length ≤ xs.length) (hd : Far xs) (hv : ∀ x ∈ xs, Cg (ev c x) (ev d x)) (hc : ∀ a ∈ c, 0 ≤ a ∧ a < 1499) (hd2 : ∀ a ∈ d, 0 ≤ a ∧ a < 1499) : c = d := by
  have h := roots c.length (List.zipWith (fun a b => a - b) c d) xs (by simp; omega) (by simp; omega) hd (fun x hx => by
    rw [ev_sub c d x hl]
    exact ((hv x hx).sub Cg.rfl).trans (Cg.of_eq (by omega)))
  refine List.ext_getElem hl (fun i h1 h2 => ?_)
  have h3 := h (c[i] - d[i]) (by
    refine List.mem_iff_getElem.2 ⟨i, by simp; omega, ?_⟩
    simp)
  have h4 : Cg c[i] d[i] := by
    obtain ⟨q, h3⟩ := h3
    exact ⟨q, by omega⟩
  exact h4.eq (hc _ (List.getElem_mem h1)) (hd2 _ (List.getElem_mem h2))
theorem ev_snoc : ∀ (c : List Int) (a x : Int), ev (c ++ [a]) x = ev c x + a * x ^ c.length
  | [], a, x => by simp [ev]
  | b :: c, a, x => by
    have h := ev_snoc c a x
    simp only [List.cons_append, ev, h, List.length_cons, Int.pow_succ]
    grind
theorem ev_set : ∀ (c : List Int) (i : Nat) (v x : Int), i < c.length → ev (c.set i v) x = ev c x + (v - c.getD i 0) * x ^ i
  | [], i, v, x, h => by simp at h
  | b :: c, 0, v, x, _ => by
    simp only [List.set_cons_zero, ev, List.getD_cons_zero, Int.pow_zero]
    omega
  | b :: c, i + 1, v, x, h => by
    have h1 := ev_set c i v x (by simpa using h)
    simp only [List.set_cons_succ, ev, h1, List.getD_cons_succ, Int.pow_succ]
    grind
theorem ev_zeros : ∀ (n : Nat) (x : Int), ev (List.replicate n 0) x = 0
  | 0, _ => rfl
  | n + 1, x => by
    simp only [List.replicate_succ, ev, ev_zeros n x, Int.mul_zero, Int.add_zero]
/-- A product. -/
def pl : List Int → Int
  | [] => 1
  | a :: t => a * pl t
theorem pl_snoc : ∀ (l : List Int) (a : Int), pl (l ++ [a]) = pl l * a
  | [], a => by simp [pl]
  | b :: l, a => by
    simp only [List.cons_append, pl, pl_snoc l a]
    grind
theorem pl_zero : ∀ (l : List Int), (∃ a ∈ l, Cg a 0) → Cg (pl l) 0
  | [], h => by
    obtain ⟨a, ha, _⟩ := h
    simp at ha
  | b :: l, h => by
    obtain ⟨a, ha, h2⟩ := h
    rcases List.mem_cons.1 ha with rfl | ha
    · exact (h2.mul (Cg.rfl (a := pl l))).trans (Cg.of_eq (Int.zero_mul _))
    · exact ((Cg.rfl (a := b)).mul (pl_zero l ⟨a, ha, h2⟩)).trans (Cg.of_eq (Int.mul_zero _))
theorem pl_one : ∀ (l : List Int), (∀ a ∈ l, Cg a 1) → Cg (pl l) 1
  | [], _ => Cg.rfl
  | b :: l, h => ((h b (by simp)).mul (pl_one l (fun a ha => h a (by simp [ha])))).trans (Cg.of_eq (by omega))
/-- The weight of the i-th of some numbers at a place. -/
def wt (xs : List Int) (i : Nat) (x : Int) : Int := pl ((xs.eraseIdx i).map fun o => (o - x) * iv (o - xs.getD i 0))
theorem far_ne {xs : List Int} (hd : Far xs) (i j : Nat) (hi : i < xs.length) (hj : j < xs.length) (hne : i ≠ j) : ¬ Cg xs[i] xs[j] := by
  have h := List.pairwise_iff_getElem.1 hd
  rcases Nat.lt_or_gt_of_ne hne with h1 | h1
  · exact h i j hi hj h1
  · exact fun h2 => h j i hj hi h1 h2.symm
theorem wt_self (xs : List Int) (hd : Far xs) (i : Nat) (hi : i < xs.length) : Cg (wt xs i xs[i]) 1 := by
  refine pl_one _ (fun a ha => ?_)
  obtain ⟨o, ho, rfl⟩ := List.mem_map.1 ha
  obtain ⟨j, hj, e⟩ := List.mem_eraseIdx_iff_getElem.1 ho
  obtain ⟨hji, e⟩ := e
  have hxi : xs.getD i 0 = xs[i] := by
    rw [List.getD_eq_getElem?_getD, List.getElem?_eq_getElem hi]
    rfl
  rw [hxi]
  refine iv_mul _ (fun h => far_ne hd j i hj hi hji ?_)
  rw [e]
  obtain ⟨q, h⟩ := h
  exact ⟨q, by omega⟩
theorem wt_other (xs : List Int) (i j : Nat) (hi : i < xs.length) (hj : j < xs.length) (hne : j ≠ i) : Cg (wt xs i xs[j]) 0 := by
  refine pl_zero _ ⟨(xs[j] - xs[j]) * iv (xs[j] - xs.getD i 0), List.mem_map.2 ⟨xs[j], List.mem_eraseIdx_iff_getElem.2 ⟨j, hj, hne, rfl⟩, rfl⟩, Cg.of_eq ?_⟩
  rw [Int.sub_self, Int.zero_mul]
/-- The sum of ys times weights. -/
def lsum (xs : List Int) (x : Int) : List Int → Nat → Int
  | [], _ => 0
  | y :: ys, i => y * wt xs i x + lsum xs x ys (i + 1)
theorem lsum_snoc (xs : List Int) (x : Int) : ∀ (ys : List Int) (y : Int) (i : Nat), lsum xs x (ys ++ [y]) i = lsum xs x ys i + y * wt xs (i + ys.length) x
  | [], y, i => by simp [lsum]
  | z :: ys, y, i => by
    have h := lsum_snoc xs x ys y (i + 1)
    simp only [List.cons_append, lsum, h, List.length_cons, show i + 1 + ys.length = i + (ys.length + 1) by omega]
    omega
theorem lsum_at (xs : List Int) (hd : Far xs) (j : Nat) (hj : j < xs.length) : ∀ (ys : List Int) (i : Nat), i + ys.length ≤ xs.length → Cg (lsum xs xs[j] ys i) (if i ≤ j then ys.getD (j - i) 0 else 0)
  | [], i, _ => by simp [lsum, Cg.rfl]
  | y :: ys, i, h => by
    simp only [List.length_cons] at h
    have h1 := lsum_at xs hd j hj ys (i + 1) (by omega)
    simp only [lsum]
    by_cases e : i = j
    · subst e
      rw [if_neg (by omega)] at h1
      rw [if_pos (by omega), Nat.sub_self, List.getD_cons_zero]
      exact ((Cg.rfl (a := y)).mul (wt_self xs hd i hj)).add h1 |>.trans (Cg.of_eq (by omega))
    · have h2 := (Cg.rfl (a := y)).mul (wt_other xs i j (by omega) hj (fun h => e h.symm))
      by_cases h3 : i + 1 ≤ j
      · rw [if_pos h3] at h1
        rw [if_pos (by omega), show j - i = (j - (i + 1)) + 1 by omega, List.getD_cons_succ]
        exact (h2.add h1).trans (Cg.of_eq (by omega))
      · rw [if_neg h3] at h1
        rw [if_neg (by omega)]
        exact (h2.add h1).trans (Cg.of_eq (by omega))

theorem l1In_eq (a b c : Int) : spec_l1In.f a b c = some (decide (b ≤ a ∧ a ≤ c)) := by
  unfold spec_l1In.f
  by_cases h : a ≥ b
  · rw [if_pos h]
    congr 1
    exact decide_eq_decide.2 ⟨fun h1 => ⟨h, h1⟩, fun h1 => h1.2⟩
  · rw [if_neg h, decide_eq_false (fun h1 => h h1.1)]

theorem within_eq (a b c : Int) : impl_within.f a b c = some (decide (b ≤ a ∧ a ≤ c)) := by
  unfold impl_within.f
  by_cases h : a ≥ b
  · rw [if_pos h]
    congr 1
    exact decide_eq_decide.2 ⟨fun h1 => ⟨h, h1⟩, fun h1 => h1.2⟩
  · rw [if_neg h, decide_eq_false (fun h1 => h h1.1)]

theorem index_l0 (l : List Int) (hl : l.length ≤ 1048576) (v : Int) : ∀ (d k i : Nat), l.length - i = d → d < k → i ≤ l.length → ∃ r, slices_Index_int_int.l0 k l v (l.length : Int) (i : Int) = some r ∧ (r ≥ 0 ↔ v ∈ l.drop i) := by
  intro d
  induction d with
  | zero =>
    intro k i hd hk hi
    obtain ⟨k, rfl⟩ := rounds hk
    refine ⟨-1, ?_, ?_⟩
    · simp only [slices_Index_int_int.l0]
      rw [if_neg (by omega)]
    · rw [List.drop_of_length_le (by omega)]
      simp
  | succ d ih =>
    intro k i hd hk hi
    obtain ⟨k, rfl⟩ := rounds hk
    simp only [slices_Index_int_int.l0]
    rw [if_pos (by omega), if_pos (by omega), if_pos (by omega), rd_in l i (by omega), w64 (by omega) (by omega)]
    have hdrop := List.drop_eq_getElem_cons (show i < l.length by omega)
    by_cases e : v = l[i]
    · exact ⟨i, by rw [if_pos e], by rw [hdrop, ← e]; simp⟩
    · obtain ⟨r, hr, h⟩ := ih k (i + 1) (by omega) (by omega) (by omega)
      refine ⟨r, by rw [if_neg e]; exact hr, ?_⟩
      rw [h, hdrop, List.mem_cons]
      exact ⟨fun h => .inr h, fun h => h.resolve_left e⟩

theorem contains_eq (l : List Int) (hl : l.length ≤ 1048576) (v : Int) (k : Nat) (hk : l.length < k) : slices_Contains_int_int.f k l v = some (decide (v ∈ l)) := by
  obtain ⟨r, hr, h⟩ := index_l0 l hl v l.length k 0 (by omega) hk (by omega)
  unfold slices_Contains_int_int.f slices_Index_int_int.f
  have hr' : slices_Index_int_int.l0 k l v (l.length : Int) 0 = some r := hr
  rw [hr']
  simp only [Option.bind_some]
  rw [List.drop_zero] at h
  congr 1
  exact decide_eq_decide.2 h

theorem l1Has_l0 (l : List Int) (hl : l.length ≤ 1048576) (v : Int) : ∀ (d k i : Nat), l.length - i = d → d < k → i ≤ l.length → spec_l1Has.l0 k v l (l.length : Int) (i : Int) = some (decide (v ∈ l.drop i)) := by
  intro d
  induction d with
  | zero =>
    intro k i hd hk hi
    obtain ⟨k, rfl⟩ := rounds hk
    simp only [spec_l1Has.l0]
    rw [if_neg (by omega), List.drop_of_length_le (by omega)]
    simp
  | succ d ih =>
    intro k i hd hk hi
    obtain ⟨k, rfl⟩ := rounds hk
    simp only [spec_l1Has.l0]
    rw [if_pos (by omega), if_pos (by omega), if_pos (by omega), rd_in l i (by omega), w64 (by omega) (by omega), List.drop_eq_getElem_cons (show i < l.length by omega)]
    by_cases e : l[i] = v
    · rw [if_pos e]
      simp [e]
    · have h := ih k (i + 1) (by omega) (by omega) (by omega)
      rw [if_neg e]
      have h' : spec_l1Has.l0 k v l (l.length : Int) ((i : Int) + 1) = some (decide (v ∈ l.drop (i + 1))) := h
      rw [h']
      congr 1
      refine decide_eq_decide.2 ?_
      rw [List.mem_cons]
      exact ⟨fun h => .inr h, fun h => h.resolve_left (fun h => e h.symm)⟩

theorem l1Has_eq (l : List Int) (hl : l.length ≤ 1048576) (v : Int) (k : Nat) (hk : l.length < k) : spec_l1Has.f k l v = some (decide (v ∈ l)) := by
  have h := l1Has_l0 l hl v l.length k 0 (by omega) hk (by omega)
  rw [List.drop_zero] at h
  exact h

theorem implAll_l0 (l : List Int) (hl : l.length ≤ 1048576) (a b : Int) : ∀ (d k i : Nat), l.length - i = d → d < k → i ≤ l.length → impl_allWithin.l0 k a b l (l.length : Int) (i : Int) = some (decide (∀ x ∈ l.drop i, a ≤ x ∧ x ≤ b)) := by
  intro d
  induction d with
  | zero =>
    intro k i hd hk hi
    obtain ⟨k, rfl⟩ := rounds hk
    simp only [impl_allWithin.l0]
    rw [if_neg (by omega), List.drop_of_length_le (by omega)]
    simp
  | succ d ih =>
    intro k i hd hk hi
    obtain ⟨k, rfl⟩ := rounds hk
    have hlt : i < l.length := by omega
    simp only [impl_allWithin.l0]
    rw [if_pos (by omega), if_pos (by omega), if_pos (by omega), rd_in l i hlt, w64 (by omega) (by omega), within_eq]
    simp only [Option.bind_some]
    have hdrop := List.drop_eq_getElem_cons hlt
    by_cases e : a ≤ l[i] ∧ l[i] ≤ b
    · have h := ih k (i + 1) (by omega) (by omega) (by omega)
      rw [decide_eq_true e, if_pos rfl]
      refine Eq.trans h ?_
      congr 1
      refine decide_eq_decide.2 ?_
      rw [hdrop]
      simp only [List.mem_cons, forall_eq_or_imp]
      exact ⟨fun h => ⟨e, h⟩, fun h => h.2⟩
    · rw [decide_eq_false e, if_neg (by simp)]
      congr 1
      refine (decide_eq_false (fun h => e (h l[i] (by rw [hdrop]; exact List.mem_cons_self)))).symm

theorem implAll_eq (l : List Int) (hl : l.length ≤ 1048576) (a b : Int) (k : Nat) (hk : l.length < k) : impl_allWithin.f k l a b = some (decide (∀ x ∈ l, a ≤ x ∧ x ≤ b)) := by
  have h := implAll_l0 l hl a b l.length k 0 (by omega) hk (by omega)
  rw [List.drop_zero] at h
  exact h

theorem specAll_l0 (l : List Int) (hl : l.length ≤ 1048576) (a b : Int) : ∀ (d k i : Nat), l.length - i = d → d < k → i ≤ l.length → spec_l1All.l0 k a b l (l.length : Int) (i : Int) = some (decide (∀ x ∈ l.drop i, a ≤ x ∧ x ≤ b)) := by
  intro d
  induction d with
  | zero =>
    intro k i hd hk hi
    obtain ⟨k, rfl⟩ := rounds hk
    simp only [spec_l1All.l0]
    rw [if_neg (by omega), List.drop_of_length_le (by omega)]
    simp
  | succ d ih =>
    intro k i hd hk hi
    obtain ⟨k, rfl⟩ := rounds hk
    have hlt : i < l.length := by omega
    simp only [spec_l1All.l0]
    rw [if_pos (by omega), if_pos (by omega), if_pos (by omega), rd_in l i hlt, w64 (by omega) (by omega), l1In_eq]
    simp only [Option.bind_some]
    have hdrop := List.drop_eq_getElem_cons hlt
    by_cases e : a ≤ l[i] ∧ l[i] ≤ b
    · have h := ih k (i + 1) (by omega) (by omega) (by omega)
      rw [decide_eq_true e, if_pos rfl]
      refine Eq.trans h ?_
      congr 1
      refine decide_eq_decide.2 ?_
      rw [hdrop]
      simp only [List.mem_cons, forall_eq_or_imp]
      exact ⟨fun h => ⟨e, h⟩, fun h => h.2⟩
    · rw [decide_eq_false e, if_neg (by simp)]
      congr 1
      refine (decide_eq_false (fun h => e (h l[i] (by rw [hdrop]; exact List.mem_cons_self)))).symm

theorem specAll_eq (l : List Int) (hl : l.length ≤ 1048576) (a b : Int) (k : Nat) (hk : l.length < k) : spec_l1All.f k l a b = some (decide (∀ x ∈ l, a ≤ x ∧ x ≤ b)) := by
  have h := specAll_l0 l hl a b l.length k 0 (by omega) hk (by omega)
  rw [List.drop_zero] at h
  exact h

set_option exponentiation.threshold 3000
theorem modV (a : Int) : Int.tmod (wrap64 (Int.tmod a 1499 + 1499)) 1499 = a % 1499 := by
  have h1 : Int.tmod a 1499 = a % 1499 ∨ Int.tmod a 1499 = a % 1499 - 1499 := by
    rw [Int.tmod_eq_emod]
    split
    · exact .inl (by omega)
    · exact .inr rfl
  rw [w64 (by omega) (by omega), Int.tmod_eq_emod_of_nonneg (by omega)]
  omega
theorem div_l0 (b o : Nat) (hb : b < 1499) (ho : o < 1499) : ∀ (e k : Nat), e < 1500 → e < k → impl_divided.l0 k (b : Int) (o : Int) (e : Int) = some ((o * b ^ e % 1499 : Nat) : Int) := by
  intro e
  induction e using Nat.strongRecOn generalizing b o with
  | _ e ih =>
    intro k he hk
    obtain ⟨k, rfl⟩ := rounds hk
    simp only [impl_divided.l0]
    by_cases h0 : e = 0
    · subst h0
      rw [if_neg (by omega), Nat.pow_zero, Nat.mul_one, Nat.mod_eq_of_lt ho]
    · have h1 : b * b ≤ 1499 * 1499 := Nat.mul_le_mul (by omega) (by omega)
      have h2 : o * b ≤ 1499 * 1499 := Nat.mul_le_mul (by omega) (by omega)
      have hd : wrap64 (Int.tdiv (e : Int) 2) = ((e / 2 : Nat) : Int) := (congrArg wrap64 (tdiv_nat e 2)).trans (wnat _ (by omega))
      have hm : Int.tmod (e : Int) 2 = ((e % 2 : Nat) : Int) := tmod_nat e 2
      have hbb : Int.tmod (wrap64 ((b : Int) * (b : Int))) 1499 = ((b * b % 1499 : Nat) : Int) := by
        rw [← Int.natCast_mul, wnat _ (by omega)]
        exact tmod_nat _ 1499
      have hob : Int.tmod (wrap64 ((o : Int) * (b : Int))) 1499 = ((o * b % 1499 : Nat) : Int) := by
        rw [← Int.natCast_mul, wnat _ (by omega)]
        exact tmod_nat _ 1499
      rw [if_pos (by omega), hd, hm, hbb, hob]
      by_cases h3 : e % 2 = 1
      · rw [if_pos (by omega), ih (e / 2) (by omega) _ _ (Nat.mod_lt _ (by omega)) (Nat.mod_lt _ (by omega)) k (by omega) (by omega), pow_round1, show 2 * (e / 2) + 1 = e by omega]
      · rw [if_neg (by omega), ih (e / 2) (by omega) _ _ (Nat.mod_lt _ (by omega)) ho k (by omega) (by omega), pow_round0, show 2 * (e / 2) = e by omega]
theorem inv_l0 (b o : Nat) (hb : b < 1499) (ho : o < 1499) : ∀ (e k : Nat), e < 1500 → e < k → spec_l5Inverse.l0 k (b : Int) (o : Int) (e : Int) = some ((o * b ^ e % 1499 : Nat) : Int) := by
  have twin : ∀ k x y z, spec_l5Inverse.l0 k x y z = impl_divided.l0 k x y z := by
    intro k
    induction k with
    | zero => intro x y z; rfl
    | succ k ih =>
      intro x y z
      simp only [spec_l5Inverse.l0, impl_divided.l0, ih]
  intro e k he hk
  rw [twin]
  exact div_l0 b o hb ho e k he hk
def dvV (a b : Int) : Int := (((a % 1499).toNat * (b % 1499).toNat ^ 1497 % 1499 : Nat) : Int)
theorem dvV_cg (a b : Int) : Cg (dvV a b) (a * iv b) := by
  have h1 : Cg (((a % 1499).toNat : Nat) : Int) a := (Cg.of_eq (by omega)).trans (Cg.mod a)
  have h2 : Cg ((((b % 1499).toNat ^ 1497 : Nat)) : Int) (iv b) := by
    unfold iv
    rw [Int.natCast_emod]
    exact (Cg.mod _).symm
  unfold dvV
  rw [Int.natCast_emod, Int.natCast_mul]
  exact (Cg.mod _).trans (h1.mul h2)
theorem dvV_range (a b : Int) : 0 ≤ dvV a b ∧ dvV a b < 1499 := by
  have := Nat.mod_lt ((a % 1499).toNat * (b % 1499).toNat ^ 1497) (show 0 < 1499 by omega)
  unfold dvV
  omega
theorem divided_eq (a b : Int) (k : Nat) (hk : 1500 < k) : impl_divided.f k a b = some (dvV a b) := by
  unfold impl_divided.f impl_modulo.f
  simp only [Option.bind_some, modV]
  have h := div_l0 (b % 1499).toNat (a % 1499).toNat (by omega) (by omega) 1497 k (by omega) (by omega)
  rw [show (((b % 1499).toNat : Nat) : Int) = b % 1499 by omega, show (((a % 1499).toNat : Nat) : Int) = a % 1499 by omega] at h
  exact h
theorem inverse_eq (b : Int) (k : Nat) (hk : 1500 < k) : spec_l5Inverse.f k (b % 1499) = some (iv b) := by
  unfold spec_l5Inverse.f
  have h := inv_l0 (b % 1499).toNat 1 (by omega) (by omega) 1497 k (by omega) (by omega)
  rw [show (((b % 1499).toNat : Nat) : Int) = b % 1499 by omega, Nat.one_mul] at h
  exact h
theorem mulC {a b c d : Int} (ha : 0 ≤ a ∧ a < 1499) (hb : 0 ≤ b ∧ b < 1499) (h1 : Cg a c) (h2 : Cg b d) : (0 ≤ Int.tmod (wrap64 (a * b)) 1499 ∧ Int.tmod (wrap64 (a * b)) 1499 < 1499) ∧ Cg (Int.tmod (wrap64 (a * b)) 1499) (c * d) := by
  have h0 : 0 ≤ a * b := Int.mul_nonneg ha.1 hb.1
  have h3 : a * b ≤ 1499 * 1499 := Int.mul_le_mul (by omega) (by omega) hb.1 (by omega)
  rw [w64 (by omega) (by omega), Int.tmod_eq_emod_of_nonneg h0]
  exact ⟨by omega, (Cg.mod _).trans (h1.mul h2)⟩
theorem addC {a b c d : Int} (x : Int) (ha : 0 ≤ a ∧ a < 1499) (hb : 0 ≤ b ∧ b < 1499) (hx : 0 ≤ x ∧ x < 1499) (h1 : Cg a c) (h2 : Cg b d) : (0 ≤ Int.tmod (wrap64 (x + wrap64 (a * b))) 1499 ∧ Int.tmod (wrap64 (x + wrap64 (a * b))) 1499 < 1499) ∧ Cg (Int.tmod (wrap64 (x + wrap64 (a * b))) 1499) (x + c * d) := by
  have h0 : 0 ≤ a * b := Int.mul_nonneg ha.1 hb.1
  have h3 : a * b ≤ 1499 * 1499 := Int.mul_le_mul (by omega) (by omega) hb.1 (by omega)
  rw [w64 (n := a * b) (by omega) (by omega), w64 (by omega) (by omega), Int.tmod_eq_emod_of_nonneg (by omega)]
  exact ⟨by omega, (Cg.mod _).trans (Cg.rfl.add (h1.mul h2))⟩
/-- Some numbers that are unlike, and parts that are good. -/
def unlB (xs : List Int) : Bool := decide (xs.Nodup ∧ (1 ≤ (xs.length : Int) ∧ (xs.length : Int) ≤ 8) ∧ ∀ x ∈ xs, 1 ≤ x ∧ x ≤ 1498)
theorem unlB_true {xs : List Int} (h : unlB xs = true) : xs.Nodup ∧ (1 ≤ xs.length ∧ xs.length ≤ 8) ∧ ∀ x ∈ xs, 1 ≤ x ∧ x ≤ 1498 := by
  unfold unlB at h
  rw [decide_eq_true_iff] at h
  exact ⟨h.1, by omega, h.2.2⟩
theorem nodup_snoc {xs : List Int} {i : Nat} (hi : i < xs.length) : (xs.take (i + 1)).Nodup ↔ (xs.take i).Nodup ∧ xs[i] ∉ xs.take i := by
  rw [List.take_succ_eq_append_getElem hi]
  have hp : (xs.take i ++ [xs[i]]).Perm (xs[i] :: xs.take i) := List.perm_append_comm
  rw [hp.nodup_iff, List.nodup_cons]
  exact And.comm
theorem take_nodup {xs : List Int} (h : xs.Nodup) (i : Nat) : (xs.take i).Nodup := List.Sublist.nodup (List.take_sublist i xs) h
theorem unlike_tot (xs : List Int) (hx : xs.length ≤ 1048576) : Tot (fun k => impl_areUnlike.f k xs) (fun y => y = unlB xs) := by
  have key : ∀ (d i : Nat), xs.length - i = d → i ≤ xs.length → (xs.take i).Nodup → Tot (fun k => impl_areUnlike.l0 k xs xs (xs.length : Int) (i : Int)) (fun y => y = unlB xs) := by
    intro d
    induction d with
    | zero =>
      intro i hd hi hn
      rw [List.take_of_length_le (by omega)] at hn
      refine Tot.up ?_
      simp only [impl_areUnlike.l0, within_eq]
      refine Tot.neg (by omega) (Tot.bind (Tot.some_ rfl) (fun y e => ?_))
      subst e
      refine Tot.ite (fun h => ?_) (fun h => Tot.some_ ?_)
      · refine Tot.bind (Tot.at_ (xs.length + 1) rfl (fun k hk => implAll_eq xs hx 1 1498 k (by omega))) (fun y e => ?_)
        subst e
        refine Tot.some_ ?_
        unfold unlB
        refine decide_eq_decide.2 ⟨fun h2 => ⟨hn, of_decide_eq_true h, h2⟩, fun h2 => h2.2.2⟩
      · unfold unlB
        exact (decide_eq_false (fun h2 => h (decide_eq_true h2.2.1))).symm
    | succ d ih =>
      intro i hd hi hn
      refine Tot.up ?_
      simp only [impl_areUnlike.l0]
      rw [rd_in xs i (by omega), Int.toNat_natCast, w64 (n := (i : Int) + 1) (by omega) (by omega)]
      refine Tot.pos (by omega) (Tot.pos (by omega) (Tot.pos (by omega) (Tot.pos (by omega) (Tot.bind (Q := fun y => decide (xs[i]'(by omega) ∈ xs.take i) = y) (Tot.at_ (xs.length + 1) rfl (fun k hk => contains_eq (xs.take i) (by rw [List.length_take]; omega) xs[i] k (by rw [List.length_take]; omega))) (fun y e => ?_)))))
      subst e
      refine Tot.ite (fun h => Tot.some_ ?_) (fun h => ?_)
      · unfold unlB
        refine (decide_eq_false (fun h2 => ?_)).symm
        exact ((nodup_snoc (show i < xs.length by omega)).1 (take_nodup h2.1 (i + 1))).2 (of_decide_eq_true h)
      · exact ih (i + 1) (by omega) (by omega) ((nodup_snoc (by omega)).2 ⟨hn, fun h2 => h (decide_eq_true h2)⟩)
  simp only [impl_areUnlike.f]
  exact key xs.length 0 (by omega) (by omega) (by simp)
theorem xs_tot (xs : List Int) (hx : xs.length ≤ 1048576) : Tot (fun k => spec_l5Xs.f k xs) (fun y => y = unlB xs) := by
  have key : ∀ (d i : Nat), xs.length - i = d → i ≤ xs.length → (xs.take i).Nodup → (∀ x ∈ xs.take i, 1 ≤ x ∧ x ≤ 1498) → Tot (fun k => spec_l5Xs.l0 k xs xs (xs.length : Int) (i : Int)) (fun y => y = unlB xs) := by
    intro d
    induction d with
    | zero =>
      intro i hd hi hn hr
      rw [List.take_of_length_le (by omega)] at hn hr
      refine Tot.up ?_
      simp only [spec_l5Xs.l0, l1In_eq, Option.bind_some]
      refine Tot.neg (by omega) (Tot.some_ ?_)
      unfold unlB
      exact decide_eq_decide.2 ⟨fun h => ⟨hn, h, hr⟩, fun h => h.2.1⟩
    | succ d ih =>
      intro i hd hi hn hr
      refine Tot.up ?_
      simp only [spec_l5Xs.l0, l1In_eq, Option.bind_some]
      rw [rd_in xs i (by omega), Int.toNat_natCast, w64 (n := (i : Int) + 1) (by omega) (by omega)]
      refine Tot.pos (by omega) (Tot.pos (by omega) (Tot.pos (by omega) (Tot.ite (fun h0 => Tot.pos (by omega) (Tot.bind (Q := fun y => decide (xs[i]'(by omega) ∈ xs.take i) = y) (Tot.at_ (xs.length + 1) rfl (fun k hk => l1Has_eq (xs.take i) (by rw [List.length_take]; omega) xs[i] k (by rw [List.length_take]; omega))) (fun y e => ?_))) (fun h0 => Tot.some_ ?_))))
      · subst e
        refine Tot.ite (fun h => Tot.some_ ?_) (fun h => ?_)
        · unfold unlB
          refine (decide_eq_false (fun h2 => ?_)).symm
          exact ((nodup_snoc (show i < xs.length by omega)).1 (take_nodup h2.1 (i + 1))).2 (of_decide_eq_true h)
        · refine ih (i + 1) (by omega) (by omega) ((nodup_snoc (by omega)).2 ⟨hn, fun h2 => h (decide_eq_true h2)⟩) (fun x hx2 => ?_)
          rw [List.take_succ_eq_append_getElem (by omega)] at hx2
          rcases List.mem_append.1 hx2 with h3 | h3
          · exact hr x h3
          · rw [List.mem_singleton.1 h3]
            exact of_decide_eq_true h0
      · unfold unlB
        exact (decide_eq_false (fun h2 => h0 (decide_eq_true (h2.2.2 _ (List.getElem_mem (by omega)))))).symm
  simp only [spec_l5Xs.f]
  exact key xs.length 0 (by omega) (by omega) (by simp) (by simp)
def xsOf (l : List S46) : List Int := l.map fun p => p.f0
def ysOf (l : List S46) : List Int := l.map fun p => p.f1
theorem xsOf_length (l : List S46) : (xsOf l).length = l.length := by simp [xsOf]
theorem ysOf_length (l : List S46) : (ysOf l).length = l.length := by simp [ysOf]
theorem rdP (l : List S46) (i : Nat) (h : i < l.length) : rd_T46 l (i : Int) = l[i] := by
  unfold rd_T46
  rw [Int.toNat_natCast]
  exact getDin l _ i h
theorem places_tot (l : List S46) (hl : l.length ≤ 1048576) : Tot (fun k => impl_placesOf.f k l) (fun y => y = xsOf l) := by
  have key : ∀ (d i : Nat), l.length - i = d → i ≤ l.length → Tot (fun k => impl_placesOf.l0 k (xsOf (l.take i)) l (l.length : Int) (i : Int)) (fun y => y = xsOf l) := by
    intro d
    induction d with
    | zero =>
      intro i hd hi
      refine Tot.up ?_
      simp only [impl_placesOf.l0]
      refine Tot.neg (by omega) (Tot.some_ ?_)
      rw [List.take_of_length_le (by omega)]
    | succ d ih =>
      intro i hd hi
      refine Tot.up ?_
      simp only [impl_placesOf.l0]
      have h := ih (i + 1) (by omega) (by omega)
      rw [List.take_succ_eq_append_getElem (by omega)] at h
      rw [rdP l i (by omega), w64 (n := (i : Int) + 1) (by omega) (by omega)]
      refine Tot.pos (by omega) (Tot.pos (by omega) (Tot.pos (by omega) (Tot.pos (by rw [xsOf_length, List.length_take]; omega) ?_)))
      have e : xsOf (l.take i ++ [l[i]]) = xsOf (l.take i) ++ [l[i].f0] := List.map_append ..
      rw [e] at h
      exact h
  simp only [impl_placesOf.f]
  exact key l.length 0 (by omega) (by omega)
theorem split_tot (l : List S46) (hl : l.length ≤ 1048576) : Tot (fun k => spec_l5Split.f k l) (fun y => y = (xsOf l, ysOf l)) := by
  have key : ∀ (d i : Nat), l.length - i = d → i ≤ l.length → Tot (fun k => spec_l5Split.l0 k (xsOf (l.take i)) (ysOf (l.take i)) l (l.length : Int) (i : Int)) (fun y => y = (xsOf l, ysOf l)) := by
    intro d
    induction d with
    | zero =>
      intro i hd hi
      refine Tot.up ?_
      simp only [spec_l5Split.l0]
      refine Tot.neg (by omega) (Tot.some_ ?_)
      rw [List.take_of_length_le (by omega)]
    | succ d ih =>
      intro i hd hi
      refine Tot.up ?_
      simp only [spec_l5Split.l0]
      have h := ih (i + 1) (by omega) (by omega)
      rw [List.take_succ_eq_append_getElem (by omega)] at h
      rw [rdP l i (by omega), w64 (n := (i : Int) + 1) (by omega) (by omega)]
      refine Tot.pos (by omega) (Tot.pos (by omega) (Tot.pos (by omega) (Tot.pos (by rw [xsOf_length, List.length_take]; omega) (Tot.pos (by rw [ysOf_length, List.length_take]; omega) ?_))))
      have e : xsOf (l.take i ++ [l[i]]) = xsOf (l.take i) ++ [l[i].f0] := List.map_append ..
      have e2 : ysOf (l.take i ++ [l[i]]) = ysOf (l.take i) ++ [l[i].f1] := List.map_append ..
      rw [e, e2] at h
      exact h
  simp only [spec_l5Split.f]
  exact key l.length 0 (by omega) (by omega)
def prtB (l : List S46) : Bool := unlB (xsOf l) && decide (∀ y ∈ ysOf l, 0 ≤ y ∧ y ≤ 1498)
theorem prtB_true {l : List S46} (h : prtB l = true) : unlB (xsOf l) = true ∧ ∀ y ∈ ysOf l, 0 ≤ y ∧ y ≤ 1498 := by
  unfold prtB at h
  rw [Bool.and_eq_true, decide_eq_true_iff] at h
  exact h
theorem implParts_tot (l : List S46) (hl : l.length ≤ 1048576) : Tot (fun k => impl_areParts.f k l) (fun y => y = prtB l) := by
  have key : ∀ (d i : Nat), l.length - i = d → i ≤ l.length → Tot (fun k => impl_Part_69.l0 k l (l.length : Int) (i : Int)) (fun y => (y ≥ 0) ↔ ¬ ∀ z ∈ ysOf (l.drop i), 0 ≤ z ∧ z ≤ 1498) := by
    intro d
    induction d with
    | zero =>
      intro i hd hi
      refine Tot.up ?_
      simp only [impl_Part_69.l0]
      refine Tot.neg (by omega) (Tot.some_ ?_)
      rw [List.drop_of_length_le (by omega)]
      simp [ysOf]
    | succ d ih =>
      intro i hd hi
      have hy : ysOf (l.drop i) = (l[i]'(by omega)).f1 :: ysOf (l.drop (i + 1)) := by
        rw [List.drop_eq_getElem_cons (by omega)]
        rfl
      refine Tot.up ?_
      simp only [impl_Part_69.l0, impl_areParts_1.f, impl_isValue.f, within_eq, Option.bind_some]
      rw [rdP l i (by omega), w64 (n := (i : Int) + 1) (by omega) (by omega), hy]
      refine Tot.pos (by omega) (Tot.pos (by omega) (Tot.pos (by omega) (Tot.ite (fun h => Tot.some_ ?_) (fun h => ?_))))
      · refine ⟨fun _ h2 => ?_, fun _ => by omega⟩
        have h3 := h2 _ List.mem_cons_self
        rw [decide_eq_true h3] at h
        cases h
      · refine (ih (i + 1) (by omega) (by omega)).imp (fun y hy2 => ?_)
        rw [hy2]
        have h3 : 0 ≤ l[i].f1 ∧ l[i].f1 ≤ 1498 := by
          by_cases h4 : 0 ≤ l[i].f1 ∧ l[i].f1 ≤ 1498
          · exact h4
          · rw [decide_eq_false h4] at h
            exact absurd rfl h
        constructor
        · exact fun h4 h5 => h4 (fun z hz => h5 z (List.mem_cons_of_mem _ hz))
        · exact fun h4 h5 => h4 (fun z hz => by
            rcases List.mem_cons.1 hz with rfl | hz
            · exact h3
            · exact h5 z hz)
  simp only [impl_areParts.f, impl_Part_66.f, impl_Part_69.f]
  refine Tot.bind (places_tot l hl) (fun y1 e1 => ?_)
  subst e1
  refine Tot.bind (unlike_tot (xsOf l) (by rw [xsOf_length]; exact hl)) (fun y2 e2 => ?_)
  subst e2
  refine Tot.ite (fun h => ?_) (fun h => Tot.some_ ?_)
  · refine Tot.bind (Q := fun y => y = decide (¬ ∀ z ∈ ysOf l, 0 ≤ z ∧ z ≤ 1498)) (Tot.bind (key l.length 0 (by omega) (by omega)) (fun y3 h3 => Tot.some_ ?_)) (fun y4 e4 => Tot.some_ ?_)
    · rw [List.drop_zero] at h3
      exact decide_eq_decide.2 h3
    · rw [e4]
      unfold prtB
      rw [h, Bool.true_and, Bool.eq_iff_iff]
      simp
  · unfold prtB
    rw [Bool.not_eq_true] at h
    rw [h]
    rfl
theorem specParts_tot (l : List S46) (hl : l.length ≤ 1048576) : Tot (fun k => spec_l5Parts.f k l) (fun y => y = prtB l) := by
  simp only [spec_l5Parts.f]
  refine Tot.bind (split_tot l hl) (fun y1 e1 => ?_)
  subst e1
  refine Tot.bind (xs_tot (xsOf l) (by rw [xsOf_length]; exact hl)) (fun y2 e2 => ?_)
  subst e2
  refine Tot.ite (fun h => ?_) (fun h => Tot.some_ ?_)
  · refine Tot.bind (Tot.at_ (l.length + 1) rfl (fun k hk => specAll_eq (ysOf l) (by rw [ysOf_length]; exact hl) 0 1498 k (by rw [ysOf_length]; omega))) (fun y3 e3 => Tot.some_ ?_)
    subst e3
    unfold prtB
    rw [h, Bool.true_and]
  · unfold prtB
    rw [Bool.not_eq_true] at h
    rw [h]
    rfl
theorem far_of {xs : List Int} (hn : xs.Nodup) (hr : ∀ x ∈ xs, 0 ≤ x ∧ x ≤ 1498) : Far xs := by
  refine (List.nodup_iff_pairwise_ne.1 hn).imp_of_mem (fun {a b} ha hb hab h => hab ?_)
  have h1 := hr a ha
  have h2 := hr b hb
  exact h.eq (by omega) (by omega)
theorem er_step (xs : List Int) (i k : Nat) (hk : k < xs.length) : (xs.take (k + 1)).eraseIdx i = if k = i then (xs.take k).eraseIdx i else (xs.take k).eraseIdx i ++ [xs[k]] := by
  rw [List.take_succ_eq_append_getElem hk]
  have hl : (xs.take k).length = k := by rw [List.length_take]; omega
  by_cases e : k = i
  · subst e
    rw [if_pos rfl, List.eraseIdx_of_length_le (by omega : (xs.take k).length ≤ k)]
    rw [List.eraseIdx_append_of_length_le (by omega), hl, Nat.sub_self]
    simp
  · rw [if_neg e]
    by_cases h : i < k
    · rw [List.eraseIdx_append_of_lt_length (by omega)]
    · rw [List.eraseIdx_append_of_length_le (by omega), List.eraseIdx_of_length_le (by omega : (xs.take k).length ≤ i), List.eraseIdx_of_length_le (by simp only [List.length_singleton]; omega)]
def Small (xs : List Int) : Prop := xs.length ≤ 9 ∧ ∀ x ∈ xs, 0 ≤ x ∧ x ≤ 1498
theorem weight_tot (xs : List Int) (hs : Small xs) (i : Nat) (hi : i < xs.length) (at_ : Int) (ha : 0 ≤ at_ ∧ at_ ≤ 1498) : Tot (fun k => impl_weight.f k xs (i : Int) at_) (fun y => (0 ≤ y ∧ y < 1499) ∧ Cg y (wt xs i at_)) := by
  have hxi := hs.2 _ (List.getElem_mem hi)
  have hgi : xs.getD i 0 = xs[i] := getDin xs 0 i hi
  have h9 := hs.1
  have key : ∀ (d j : Nat) (y : Int), xs.length - j = d → j ≤ xs.length → (0 ≤ y ∧ y < 1499) → Cg y (pl (((xs.take j).eraseIdx i).map fun o => (o - at_) * iv (o - xs.getD i 0))) →
      Tot (fun k => impl_weight.l0 k xs (i : Int) at_ y xs (xs.length : Int) (j : Int)) (fun y => (0 ≤ y ∧ y < 1499) ∧ Cg y (wt xs i at_)) := by
    intro d
    induction d with
    | zero =>
      intro j y hd hj hy hc
      refine Tot.up ?_
      simp only [impl_weight.l0]
      rw [List.take_of_length_le (by omega)] at hc
      exact Tot.neg (by omega) (Tot.some_ ⟨hy, hc⟩)
    | succ d ih =>
      intro j y hd hj hy hc
      have hlt : j < xs.length := by omega
      have hx := hs.2 _ (List.getElem_mem hlt)
      have hst := er_step xs i j hlt
      refine Tot.up ?_
      simp only [impl_weight.l0]
      rw [w64 (n := (j : Int) + 1) (by omega) (by omega), rd_in xs j hlt, rd_in xs i hi, w64 (n := xs[j] - at_) (by omega) (by omega), w64 (n := xs[j] - xs[i]) (by omega) (by omega)]
      refine Tot.pos (by omega) (Tot.pos (by omega) (Tot.pos (by omega) ?_))
      by_cases e : j = i
      · refine Tot.pos (by omega) ?_
        rw [if_pos e] at hst
        exact ih (j + 1) y (by omega) (by omega) hy (by rw [hst]; exact hc)
      · refine Tot.neg (by omega) (Tot.pos (by omega) (Tot.pos (by omega) (Tot.bind (Tot.at_ 1501 rfl (fun k hk => divided_eq _ _ k (by omega))) (fun z ez => ?_))))
        subst ez
        rw [if_neg e] at hst
        have hm := mulC hy (dvV_range (xs[j] - at_) (xs[j] - xs[i])) hc (dvV_cg (xs[j] - at_) (xs[j] - xs[i]))
        refine ih (j + 1) _ (by omega) (by omega) hm.1 ?_
        rw [hst, List.map_append, List.map_singleton, pl_snoc, hgi]
        rw [hgi] at hm
        exact hm.2
  simp only [impl_weight.f]
  exact key xs.length 0 1 (by omega) (by omega) (by omega) (by simp [pl, Cg.rfl])
theorem through_tot (l : List S46) (hs : Small (xsOf l)) (hy : ∀ y ∈ ysOf l, 0 ≤ y ∧ y ≤ 1498) (x : Int) (hx : 0 ≤ x ∧ x ≤ 1498) : Tot (fun k => impl_through.f k l x) (fun y => (0 ≤ y ∧ y < 1499) ∧ Cg y (lsum (xsOf l) x (ysOf l) 0)) := by
  have h9 := hs.1
  have hxl := xsOf_length l
  have hyl := ysOf_length l
  have key : ∀ (d j : Nat) (v : Int), l.length - j = d → j ≤ l.length → (0 ≤ v ∧ v < 1499) → Cg v (lsum (xsOf l) x ((ysOf l).take j) 0) →
      Tot (fun k => impl_through.l0 k x (xsOf l) v l (l.length : Int) (j : Int)) (fun y => (0 ≤ y ∧ y < 1499) ∧ Cg y (lsum (xsOf l) x (ysOf l) 0)) := by
    intro d
    induction d with
    | zero =>
      intro j v hd hj hv hc
      refine Tot.up ?_
      simp only [impl_through.l0]
      rw [List.take_of_length_le (by omega)] at hc
      exact Tot.neg (by omega) (Tot.some_ ⟨hv, hc⟩)
    | succ d ih =>
      intro j v hd hj hv hc
      have hlt : j < l.length := by omega
      have hyj : (ysOf l)[j]'(by omega) = l[j].f1 := by simp [ysOf]
      have hyr := hy _ (List.getElem_mem (show j < (ysOf l).length by omega))
      rw [hyj] at hyr
      refine Tot.up ?_
      simp only [impl_through.l0]
      rw [rdP l j hlt, w64 (n := (j : Int) + 1) (by omega) (by omega)]
      refine Tot.pos (by omega) (Tot.pos (by omega) (Tot.pos (by omega) (Tot.bind (weight_tot (xsOf l) hs j (by omega) x hx) (fun z hz => ?_))))
      have hm := addC v (by omega : 0 ≤ l[j].f1 ∧ l[j].f1 < 1499) hz.1 hv Cg.rfl hz.2
      refine ih (j + 1) _ (by omega) (by omega) hm.1 ?_
      rw [List.take_succ_eq_append_getElem (by omega), lsum_snoc, hyj, List.length_take, show 0 + min j (ysOf l).length = j by omega]
      exact hm.2.trans (hc.add Cg.rfl)
  simp only [impl_through.f]
  refine Tot.bind (places_tot l (by omega)) (fun y1 e1 => ?_)
  subst e1
  exact key l.length 0 0 (by omega) (by omega) (by omega) (by simp [lsum, Cg.rfl])
theorem at_tot (xs : List Int) (hs : Small xs) (at_ : Int) (ha : 0 ≤ at_ ∧ at_ ≤ 1498) : Tot (fun k => spec_l5At.f k xs at_) (fun y => y.length = xs.length ∧ ∀ i, (h : i < y.length) → (0 ≤ y[i] ∧ y[i] < 1499) ∧ Cg y[i] (wt xs i at_)) := by
  have h9 := hs.1
  have key : ∀ (m : Nat), (∀ (i : Nat) (ws : List Int), 20 * (xs.length - i) ≤ m → i ≤ xs.length → (ws.length = i ∧ ∀ j, (h : j < ws.length) → (0 ≤ ws[j] ∧ ws[j] < 1499) ∧ Cg ws[j] (wt xs j at_)) →
        Tot (fun k => spec_l5At.l0 k xs at_ ws xs (xs.length : Int) (i : Int)) (fun y => y.length = xs.length ∧ ∀ i, (h : i < y.length) → (0 ≤ y[i] ∧ y[i] < 1499) ∧ Cg y[i] (wt xs i at_))) ∧
      (∀ (i j : Nat) (ws : List Int) (v : Int), 20 * (xs.length - i) ≤ m + (j + 1) → (hi : i < xs.length) → j ≤ xs.length → (0 ≤ v ∧ v < 1499) → Cg v (pl (((xs.take j).eraseIdx i).map fun o => (o - at_) * iv (o - xs.getD i 0))) → (ws.length = i ∧ ∀ j, (h : j < ws.length) → (0 ≤ ws[j] ∧ ws[j] < 1499) ∧ Cg ws[j] (wt xs j at_)) →
        Tot (fun k => spec_l5At.l1 k xs at_ ws (i : Int) xs[i] v xs (xs.length : Int) (i : Int) xs (xs.length : Int) (j : Int)) (fun y => y.length = xs.length ∧ ∀ i, (h : i < y.length) → (0 ≤ y[i] ∧ y[i] < 1499) ∧ Cg y[i] (wt xs i at_))) := by
    intro m
    induction m with
    | zero =>
      refine ⟨fun i ws hm hi hw => ?_, fun i j ws v hm hi hj _ _ _ => by omega⟩
      refine Tot.up ?_
      simp only [spec_l5At.l0]
      exact Tot.neg (by omega) (Tot.some_ ⟨by omega, hw.2⟩)
    | succ m ih =>
      refine ⟨fun i ws hm hi hw => ?_, fun i j ws v hm hi hj hv hc hw => ?_⟩
      · refine Tot.up ?_
        simp only [spec_l5At.l0]
        by_cases h : i < xs.length
        · rw [rd_in xs i h]
          exact Tot.pos (by omega) (Tot.pos (by omega) (Tot.pos (by omega) (ih.2 i 0 ws 1 (by omega) h (by omega) (by omega) (by simp [pl, Cg.rfl]) hw)))
        · exact Tot.neg (by omega) (Tot.some_ ⟨by omega, hw.2⟩)
      · have hxi := hs.2 _ (List.getElem_mem hi)
        have hgi : xs.getD i 0 = xs[i] := getDin xs 0 i hi
        refine Tot.up ?_
        simp only [spec_l5At.l1]
        by_cases h : j < xs.length
        · have hx := hs.2 _ (List.getElem_mem h)
          have hst := er_step xs i j h
          rw [rd_in xs j h, w64 (n := (j : Int) + 1) (by omega) (by omega), w64 (n := xs[j] - at_) (by omega) (by omega), w64 (n := xs[j] - xs[i]) (by omega) (by omega)]
          refine Tot.pos (by omega) (Tot.pos (by omega) (Tot.pos (by omega) ?_))
          by_cases e : j = i
          · refine Tot.pos (by omega) ?_
            rw [if_pos e] at hst
            exact ih.2 i (j + 1) ws v (by omega) hi (by omega) hv (by rw [hst]; exact hc) hw
          · refine Tot.neg (by omega) ?_
            simp only [spec_l5Mod.f, modV, Option.bind_some]
            refine Tot.bind (Tot.at_ 1501 rfl (fun k hk => inverse_eq _ k (by omega))) (fun z ez => ?_)
            subst ez
            rw [if_neg e] at hst
            have hr : 0 ≤ iv (xs[j] - xs[i]) ∧ iv (xs[j] - xs[i]) < 1499 := by
              have := Nat.mod_lt (((xs[j] - xs[i]) % 1499).toNat ^ 1497) (show 0 < 1499 by omega)
              unfold iv
              omega
            have hm1 := mulC hv (by omega : 0 ≤ (xs[j] - at_) % 1499 ∧ (xs[j] - at_) % 1499 < 1499) hc (Cg.mod (xs[j] - at_))
            have hm2 := mulC hm1.1 hr hm1.2 Cg.rfl
            refine ih.2 i (j + 1) ws _ (by omega) hi (by omega) hm2.1 ?_ hw
            rw [hst, List.map_append, List.map_singleton, pl_snoc, hgi]
            rw [hgi] at hm2
            exact hm2.2.trans (Cg.of_eq (by grind))
        · rw [List.take_of_length_le (by omega)] at hc
          refine Tot.neg (by omega) (Tot.pos (by omega) ?_)
          rw [w64 (n := (i : Int) + 1) (by omega) (by omega)]
          refine ih.1 (i + 1) (ws ++ [v]) (by omega) (by omega) ⟨by rw [List.length_append, List.length_singleton]; omega, fun q hq => ?_⟩
          rw [List.length_append, List.length_singleton] at hq
          by_cases e : q < ws.length
          · rw [List.getElem_append_left e]
            exact hw.2 q e
          · have e2 : q = ws.length := by omega
            subst e2
            rw [List.getElem_append_right (Nat.le_refl _)]
            simp only [Nat.sub_self, List.getElem_singleton]
            rw [hw.1]
            exact ⟨hv, hc⟩
  simp only [spec_l5At.f]
  exact (key (20 * xs.length)).1 0 [] (by omega) (by omega) ⟨rfl, fun j h => by simp at h⟩
theorem specThrough_tot (l : List S46) (hs : Small (xsOf l)) (hy : ∀ y ∈ ysOf l, 0 ≤ y ∧ y ≤ 1498) (x : Int) (hx : 0 ≤ x ∧ x ≤ 1498) : Tot (fun k => spec_l5Through.f k l x) (fun y => (0 ≤ y ∧ y < 1499) ∧ Cg y (lsum (xsOf l) x (ysOf l) 0)) := by
  have h9 := hs.1
  have hxl := xsOf_length l
  have hyl := ysOf_length l
  simp only [spec_l5Through.f]
  refine Tot.bind (split_tot l (by omega)) (fun y1 e1 => ?_)
  subst e1
  refine Tot.bind (at_tot (xsOf l) hs x hx) (fun ws hw => ?_)
  have key : ∀ (d j : Nat) (v : Int), ws.length - j = d → j ≤ ws.length → (0 ≤ v ∧ v < 1499) → Cg v (lsum (xsOf l) x ((ysOf l).take j) 0) →
      Tot (fun k => spec_l5Through.l0 k (ysOf l) v ws (ws.length : Int) (j : Int)) (fun y => (0 ≤ y ∧ y < 1499) ∧ Cg y (lsum (xsOf l) x (ysOf l) 0)) := by
    intro d
    induction d with
    | zero =>
      intro j v hd hj hv hc
      refine Tot.up ?_
      simp only [spec_l5Through.l0]
      rw [List.take_of_length_le (by omega)] at hc
      exact Tot.neg (by omega) (Tot.some_ ⟨hv, hc⟩)
    | succ d ih =>
      intro j v hd hj hv hc
      have hlt : j < ws.length := by omega
      have hyr := hy _ (List.getElem_mem (show j < (ysOf l).length by omega))
      have hz := hw.2 j hlt
      refine Tot.up ?_
      simp only [spec_l5Through.l0]
      rw [rd_in ws j hlt, rd_in (ysOf l) j (by omega), w64 (n := (j : Int) + 1) (by omega) (by omega)]
      refine Tot.pos (by omega) (Tot.pos (by omega) (Tot.pos (by omega) (Tot.pos (by omega) ?_)))
      have hm := addC v hz.1 (by omega : 0 ≤ (ysOf l)[j] ∧ (ysOf l)[j] < 1499) hv hz.2 Cg.rfl
      refine ih (j + 1) _ (by omega) (by omega) hm.1 ?_
      rw [List.take_succ_eq_append_getElem (by omega), lsum_snoc, List.length_take, show 0 + min j (ysOf l).length = j by omega]
      exact hm.2.trans (hc.add (Cg.of_eq (Int.mul_comm _ _)))
  exact key ws.length 0 0 (by omega) (by omega) (by omega) (by simp [lsum, Cg.rfl])
theorem prt_small {l : List S46} (h : prtB l = true) : Small (xsOf l) ∧ Far (xsOf l) ∧ (∀ y ∈ ysOf l, 0 ≤ y ∧ y ≤ 1498) ∧ 1 ≤ l.length ∧ l.length ≤ 8 := by
  obtain ⟨h1, h2⟩ := prtB_true h
  obtain ⟨h3, h4, h5⟩ := unlB_true h1
  rw [xsOf_length] at h4
  exact ⟨⟨by rw [xsOf_length]; omega, fun x hx => by have := h5 x hx; omega⟩, far_of h3 (fun x hx => by have := h5 x hx; omega), h2, h4.1, h4.2⟩
/-- What goes through parts, at a place: one value, told by both. -/
theorem thr_same (l : List S46) (hl : l.length ≤ 1048576) (x : Int) : ∃ r : Int × Bool, r.2 = (prtB l && decide (0 ≤ x ∧ x ≤ 1498)) ∧ (r.2 = true → (0 ≤ r.1 ∧ r.1 < 1499) ∧ Cg r.1 (lsum (xsOf l) x (ysOf l) 0)) ∧
    Tot (fun k => impl_ThroughParts.f k l x) (fun y => y = r) ∧ Tot (fun k => spec_ThroughParts.f k l x) (fun y => y = r) := by
  simp only [impl_ThroughParts.f, spec_ThroughParts.f, impl_isValue.f, spec_l5Field.f, within_eq, l1In_eq, Option.bind_some]
  by_cases h : prtB l = true
  · by_cases hx : 0 ≤ x ∧ x ≤ 1498
    · obtain ⟨h1, h2, h3, _⟩ := prt_small h
      obtain ⟨v, hv, ht⟩ := (through_tot l h1 h3 x hx).val
      have hs2 := (specThrough_tot l h1 h3 x hx).imp (R := fun y => y = v) (fun y hy => ((hy.2.trans hv.2.symm).eq hy.1 hv.1))
      refine ⟨(v, true), by rw [h, decide_eq_true hx]; rfl, fun _ => hv, ?_, ?_⟩
      · refine Tot.bind (implParts_tot l hl) (fun y1 e1 => Tot.pos (e1.trans h) (Tot.pos (decide_eq_true hx) (Tot.bind ht (fun y2 e2 => Tot.some_ (by rw [e2])))))
      · refine Tot.bind (specParts_tot l hl) (fun y1 e1 => Tot.pos (e1.trans h) (Tot.pos (decide_eq_true hx) (Tot.bind hs2 (fun y2 e2 => Tot.some_ (by rw [e2])))))
    · refine ⟨(0, false), by rw [decide_eq_false hx]; simp, (fun h2 => by cases h2), ?_, ?_⟩
      · refine Tot.bind (implParts_tot l hl) (fun y1 e1 => Tot.pos (e1.trans h) (Tot.neg (by simpa using hx) (Tot.some_ rfl)))
      · refine Tot.bind (specParts_tot l hl) (fun y1 e1 => Tot.pos (e1.trans h) (Tot.neg (by simpa using hx) (Tot.some_ rfl)))
  · refine ⟨(0, false), by rw [Bool.not_eq_true] at h; rw [h]; rfl, (fun h2 => by cases h2), ?_, ?_⟩
    · refine Tot.bind (implParts_tot l hl) (fun y1 e1 => Tot.neg (by rw [e1]; exact h) (Tot.some_ rfl))
    · refine Tot.bind (specParts_tot l hl) (fun y1 e1 => Tot.neg (by rw [e1]; exact h) (Tot.some_ rfl))

theorem implValue_tot (c : List Int) (hl : c.length ≤ 9) (hc : ∀ a ∈ c, 0 ≤ a ∧ a ≤ 1498) (x : Int) (hx : 0 ≤ x ∧ x ≤ 1498) : Tot (fun k => impl_value.f k c x) (fun y => (0 ≤ y ∧ y < 1499) ∧ Cg y (ev c x)) := by
  have key : ∀ (j : Nat) (v : Int), j ≤ c.length → (0 ≤ v ∧ v < 1499) → Cg v (ev (c.drop j) x) → Tot (fun k => impl_value.l0 k c x v ((j : Int) - 1)) (fun y => (0 ≤ y ∧ y < 1499) ∧ Cg y (ev c x)) := by
    intro j
    induction j with
    | zero =>
      intro v hj hv hg
      rw [List.drop_zero] at hg
      refine Tot.up ?_
      simp only [impl_value.l0]
      exact Tot.neg (by omega) (Tot.some_ ⟨hv, hg⟩)
    | succ j ih =>
      intro v hj hv hg
      have hlt : j < c.length := by omega
      have ha := hc _ (List.getElem_mem hlt)
      have h0 : 0 ≤ v * x := Int.mul_nonneg hv.1 hx.1
      have h3 : v * x ≤ 1499 * 1499 := Int.mul_le_mul (by omega) (by omega) hx.1 (by omega)
      refine Tot.up ?_
      simp only [impl_value.l0]
      rw [show ((j + 1 : Nat) : Int) - 1 = (j : Int) by omega, rd_in c j hlt, w64 (n := v * x) (by omega) (by omega), w64 (n := v * x + c[j]) (by omega) (by omega), w64 (n := (j : Int) - 1) (by omega) (by omega), Int.tmod_eq_emod_of_nonneg (by omega)]
      refine Tot.pos (by omega) (Tot.pos (by omega) (Tot.pos (by omega) (ih _ (by omega) (by omega) ?_)))
      rw [List.drop_eq_getElem_cons hlt]
      refine (Cg.mod _).trans (((hg.mul Cg.rfl).add Cg.rfl).trans (Cg.of_eq ?_))
      simp only [ev]
      grind
  simp only [impl_value.f]
  rw [w64 (n := (c.length : Int) - 1) (by omega) (by omega)]
  exact key c.length 0 (by omega) (by omega) (by rw [List.drop_of_length_le (Nat.le_refl _)]; exact Cg.rfl)
theorem implPoly_tot (c : List Int) (hl : c.length ≤ 1048576) : Tot (fun k => impl_isPoly.f k c) (fun y => y = decide ((1 ≤ (c.length : Int) ∧ (c.length : Int) ≤ 8) ∧ ∀ a ∈ c, 0 ≤ a ∧ a ≤ 1498)) := by
  simp only [impl_isPoly.f, within_eq, Option.bind_some]
  refine Tot.ite (fun h => ?_) (fun h => Tot.some_ ?_)
  · refine Tot.bind (Tot.at_ (c.length + 1) rfl (fun k hk => implAll_eq c hl 0 1498 k (by omega))) (fun y e => Tot.some_ ?_)
    subst e
    exact decide_eq_decide.2 ⟨fun h2 => ⟨of_decide_eq_true h, h2⟩, fun h2 => h2.2⟩
  · exact (decide_eq_false (fun h2 => h (decide_eq_true h2.1))).symm

theorem specValue_tot (c : List Int) (hl : c.length ≤ 9) (hc : ∀ a ∈ c, 0 ≤ a ∧ a ≤ 1498) (x : Int) (hx : 0 ≤ x ∧ x ≤ 1498) : Tot (fun k => spec_l5Value.f k c x) (fun y => (0 ≤ y ∧ y < 1499) ∧ Cg y (ev c x)) := by
  have key : ∀ (j : Nat) (v : Int), j ≤ c.length → (0 ≤ v ∧ v < 1499) → Cg v (ev (c.drop j) x) → Tot (fun k => spec_l5Value.l0 k c x v ((j : Int) - 1)) (fun y => (0 ≤ y ∧ y < 1499) ∧ Cg y (ev c x)) := by
    intro j
    induction j with
    | zero =>
      intro v hj hv hg
      rw [List.drop_zero] at hg
      refine Tot.up ?_
      simp only [spec_l5Value.l0]
      exact Tot.neg (by omega) (Tot.some_ ⟨hv, hg⟩)
    | succ j ih =>
      intro v hj hv hg
      have hlt : j < c.length := by omega
      have ha := hc _ (List.getElem_mem hlt)
      have h0 : 0 ≤ v * x := Int.mul_nonneg hv.1 hx.1
      have h3 : v * x ≤ 1499 * 1499 := Int.mul_le_mul (by omega) (by omega) hx.1 (by omega)
      refine Tot.up ?_
      simp only [spec_l5Value.l0]
      rw [show ((j + 1 : Nat) : Int) - 1 = (j : Int) by omega, rd_in c j hlt, w64 (n := v * x) (by omega) (by omega), w64 (n := v * x + c[j]) (by omega) (by omega), w64 (n := (j : Int) - 1) (by omega) (by omega), Int.tmod_eq_emod_of_nonneg (by omega)]
      refine Tot.pos (by omega) (Tot.pos (by omega) (Tot.pos (by omega) (ih _ (by omega) (by omega) ?_)))
      rw [List.drop_eq_getElem_cons hlt]
      refine (Cg.mod _).trans (((hg.mul Cg.rfl).add Cg.rfl).trans (Cg.of_eq ?_))
      simp only [ev]
      grind
  simp only [spec_l5Value.f]
  rw [w64 (n := (c.length : Int) - 1) (by omega) (by omega)]
  exact key c.length 0 (by omega) (by omega) (by rw [List.drop_of_length_le (Nat.le_refl _)]; exact Cg.rfl)
theorem specPoly_tot (c : List Int) (hl : c.length ≤ 1048576) : Tot (fun k => spec_l5Poly.f k c) (fun y => y = decide ((1 ≤ (c.length : Int) ∧ (c.length : Int) ≤ 8) ∧ ∀ a ∈ c, 0 ≤ a ∧ a ≤ 1498)) := by
  simp only [spec_l5Poly.f, l1In_eq, Option.bind_some]
  refine Tot.ite (fun h => ?_) (fun h => Tot.some_ ?_)
  · refine Tot.bind (Tot.at_ (c.length + 1) rfl (fun k hk => specAll_eq c hl 0 1498 k (by omega))) (fun y e => Tot.some_ ?_)
    subst e
    exact decide_eq_decide.2 ⟨fun h2 => ⟨of_decide_eq_true h, h2⟩, fun h2 => h2.2⟩
  · exact (decide_eq_false (fun h2 => h (decide_eq_true h2.1))).symm



def plyB (c : List Int) : Bool := decide ((1 ≤ (c.length : Int) ∧ (c.length : Int) ≤ 8) ∧ ∀ a ∈ c, 0 ≤ a ∧ a ≤ 1498)
theorem plyB_true {c : List Int} (h : plyB c = true) : 1 ≤ c.length ∧ c.length ≤ 8 ∧ ∀ a ∈ c, 0 ≤ a ∧ a ≤ 1498 := by
  unfold plyB at h
  rw [decide_eq_true_iff] at h
  exact ⟨by omega, by omega, h.2⟩
theorem specSplit_l0 (c : List Int) (hl : c.length ≤ 9) (hc : ∀ a ∈ c, 0 ≤ a ∧ a ≤ 1498) (m : Nat) (hm : m ≤ 8) : ∀ (d i : Nat) (out : List S46), m - i = d → i ≤ m → (out.length = i ∧ ∀ j, (h : j < out.length) → out[j].f0 = (j : Int) + 1 ∧ (0 ≤ out[j].f1 ∧ out[j].f1 < 1499) ∧ Cg out[j].f1 (ev c ((j : Int) + 1))) →
    Tot (fun k => spec_SplitSecret.l0 k c (m : Int) out ((i : Int) + 1)) (fun y => (y.1.length = m ∧ ∀ j, (h : j < y.1.length) → y.1[j].f0 = (j : Int) + 1 ∧ (0 ≤ y.1[j].f1 ∧ y.1[j].f1 < 1499) ∧ Cg y.1[j].f1 (ev c ((j : Int) + 1))) ∧ y.2 = true) := by
  intro d
  induction d with
  | zero =>
    intro i out hd hi ho
    refine Tot.up ?_
    simp only [spec_SplitSecret.l0]
    exact Tot.neg (by omega) (Tot.some_ ⟨⟨by simp only; omega, ho.2⟩, rfl⟩)
  | succ d ih =>
    intro i out hd hi ho
    refine Tot.up ?_
    simp only [spec_SplitSecret.l0]
    rw [w64 (n := (i : Int) + 1 + 1) (by omega) (by omega)]
    refine Tot.pos (by omega) (Tot.bind (specValue_tot c hl hc ((i : Int) + 1) (by omega)) (fun y hy => Tot.pos (by omega) ?_))
    refine ih (i + 1) _ (by omega) (by omega) ⟨by rw [List.length_append, List.length_singleton]; omega, fun j hj => ?_⟩
    rw [List.length_append, List.length_singleton] at hj
    by_cases e : j < out.length
    · rw [List.getElem_append_left e]
      exact ho.2 j e
    · have e2 : j = i := by omega
      subst e2
      rw [List.getElem_append_right (by omega)]
      simp only [ho.1, Nat.sub_self, List.getElem_singleton]
      exact ⟨trivial, hy⟩

theorem split_draw (c : List Int) (hl : c.length ≤ 1048576) (m : Int) : Tot (fun k => spec_SplitSecret.f k c m) (fun y => y.1.length ≤ 8) := by
  simp only [spec_SplitSecret.f, l1In_eq, Option.bind_some]
  have bs : Tot (fun k => spec_SplitSecret.j0 k c m true) (fun y => y.1.length ≤ 8) := by
    refine Tot.up ?_
    simp only [spec_SplitSecret.j0]
    exact Tot.pos trivial (Tot.some_ (by simp))
  by_cases h : plyB c = true
  · by_cases hm : 1 ≤ m ∧ m ≤ 8
    · obtain ⟨h1, h2, h3⟩ := plyB_true h
      obtain ⟨m, rfl⟩ := Int.eq_ofNat_of_zero_le (show 0 ≤ m by omega)
      refine Tot.bind (specPoly_tot c hl) (fun y1 e1 => Tot.pos (e1.trans h) ?_)
      rw [decide_eq_true hm]
      refine Tot.up ?_
      simp only [spec_SplitSecret.j0]
      exact Tot.neg (by simp) ((specSplit_l0 c (by omega) h3 m (by omega) m 0 [] (by omega) (by omega) ⟨rfl, fun j hj => by simp at hj⟩).imp (fun y hy => by omega))
    · refine Tot.bind (specPoly_tot c hl) (fun y1 e1 => Tot.pos (e1.trans h) ?_)
      rw [decide_eq_false hm]
      exact bs
  · exact Tot.bind (specPoly_tot c hl) (fun y1 e1 => Tot.neg (by rw [e1]; exact h) bs)

theorem poly_draw (c : List Int) (hc : Bytes c) (p h : Int) (hp : 0 ≤ p ∧ p ≤ 1073741824) : Tot (fun k => spec_l1Cur_poly.f k c p h) (fun y => y.1.length ≤ 9 ∧ p ≤ y.2.1 ∧ y.2.1 ≤ p + 60) := by
  have tail : ∀ (n : Nat) (l : List Int) (q h : Int), n ≤ 9 → l.length + n ≤ 9 → (0 ≤ q ∧ q + 5 * (n : Int) ≤ 1073741924) → Tot (fun k => spec_l1Cur_poly.l0 k l (n : Int) c q h) (fun y => y.1.length ≤ 9 ∧ q ≤ y.2.1 ∧ y.2.1 ≤ q + 5 * (n : Int) + 5) := by
    intro n
    induction n with
    | zero =>
      intro l q h hn hl hq
      refine Tot.up ?_
      simp only [spec_l1Cur_poly.l0]
      refine Tot.neg (by omega) (Tot.ite (fun h1 => Tot.bind (Tot.fix (one_tot c hc q h 30 (by omega) (by omega))) (fun y1 h2 => Tot.ite (fun _ => ?_) (fun _ => Tot.some_ ⟨by simp only; omega, by simp only; omega, by simp only; omega⟩))) (fun _ => Tot.some_ ⟨by simp only; omega, by simp only; omega, by simp only; omega⟩))
      exact Tot.bind (Tot.fix (among_tot c hc y1.2.1 y1.2.2 [-1, 1498, 1499] (by omega) (by simp) (by simp))) (fun y2 h3 => Tot.pos (by omega) (Tot.some_ ⟨by simp only [List.length_set]; omega, by simp only; omega, by simp only; omega⟩))
    | succ n ih =>
      intro l q h hn hl hq
      refine Tot.up ?_
      simp only [spec_l1Cur_poly.l0]
      refine Tot.pos (by omega) (Tot.bind (Tot.fix (pick_tot c hc q h 250 (by omega) (by omega))) (fun y1 h1 => Tot.bind (Tot.fix (pick_tot c hc y1.2.1 y1.2.2 5 (by omega) (by omega))) (fun y2 h2 => Tot.pos (by omega) ?_)))
      rw [w64 (n := ((n + 1 : Nat) : Int) - 1) (by omega) (by omega), show ((n + 1 : Nat) : Int) - 1 = (n : Int) by omega]
      exact (ih _ _ _ (by omega) (by rw [List.length_append, List.length_singleton]; omega) (by omega)).imp (fun y hy => ⟨hy.1, by omega, by omega⟩)
  have tail2 : ∀ (n q h : Int), 0 ≤ n ∧ n ≤ 9 → (0 ≤ q ∧ q ≤ 1073741840) → Tot (fun k => spec_l1Cur_poly.j0 k [] n c q h) (fun y => y.1.length ≤ 9 ∧ q ≤ y.2.1 ∧ y.2.1 ≤ q + 50) := by
    intro n q h hn hq
    obtain ⟨n, rfl⟩ := Int.eq_ofNat_of_zero_le hn.1
    refine Tot.up ?_
    simp only [spec_l1Cur_poly.j0]
    refine Tot.up ?_
    have := tail n [] q h (by omega) (by simp; omega) (by omega)
    obtain ⟨y, hy, B, hB⟩ := this
    exact ⟨y, ⟨hy.1, hy.2.1, by omega⟩, B, fun k hk => hB (k + 1) (by omega)⟩
  simp only [spec_l1Cur_poly.f]
  refine Tot.bind (Tot.fix (pick_tot c hc p h 5 (by omega) (by omega))) (fun y1 h1 => Tot.bind (Tot.fix (one_tot c hc y1.2.1 y1.2.2 20 (by omega) (by omega))) (fun y2 h2 => Tot.ite (fun _ => ?_) (fun _ => ?_)))
  · refine Tot.bind (Tot.fix (among_tot c hc y2.2.1 y2.2.2 [0, 8, 9] (by omega) (by simp) (by simp))) (fun y3 h3 => ?_)
    have h4 := h3.1
    simp only [List.mem_cons, List.not_mem_nil, or_false] at h4
    exact (tail2 y3.1 y3.2.1 y3.2.2 (by omega) (by omega)).imp (fun y hy => ⟨hy.1, by omega, by omega⟩)
  · rw [w64 (n := 1 + y1.1) (by omega) (by omega)]
    exact (tail2 (1 + y1.1) y2.2.1 y2.2.2 (by omega) (by omega)).imp (fun y hy => ⟨hy.1, by omega, by omega⟩)
theorem parts_draw (c : List Int) (hc : Bytes c) (p h : Int) (hp : 0 ≤ p ∧ p ≤ 536870912) : Tot (fun k => spec_l1Cur_parts.f k c p h) (fun y => y.1.length ≤ 8 ∧ p ≤ y.2.1 ∧ y.2.1 ≤ p + 200) := by
  have j4 : ∀ (l : List S46) (b : Bool) (q h : Int), l.length ≤ 8 → (b = true → 0 < l.length) → (0 ≤ q ∧ q ≤ 1073741824) → Tot (fun k => spec_l1Cur_parts.j4 k l b c q h) (fun y => y.1.length ≤ 8 ∧ q ≤ y.2.1 ∧ y.2.1 ≤ q + 4) := by
    intro l b q h hl hb hq
    refine Tot.up ?_
    simp only [spec_l1Cur_parts.j4]
    refine Tot.ite (fun h1 => ?_) (fun _ => Tot.some_ ⟨by simp only; omega, by simp only; omega, by simp only; omega⟩)
    have := hb h1
    exact Tot.bind (Tot.fix (among_tot c hc q h [0, 2, 1498, 1499] (by omega) (by simp) (by simp))) (fun y1 h1 => Tot.bind (Tot.fix (among_tot c hc y1.2.1 y1.2.2 [0, 1498, 1499] (by omega) (by simp) (by simp))) (fun y2 h2 => Tot.pos (by omega) (Tot.some_ ⟨by simp only [List.length_set]; omega, by simp only; omega, by simp only; omega⟩)))
  have j3 : ∀ (l : List S46) (q h : Int), l.length ≤ 8 → (0 ≤ q ∧ q ≤ 1073741800) → Tot (fun k => spec_l1Cur_parts.j3 k l c q h) (fun y => y.1.length ≤ 8 ∧ q ≤ y.2.1 ∧ y.2.1 ≤ q + 6) := by
    intro l q h hl hq
    refine Tot.up ?_
    simp only [spec_l1Cur_parts.j3]
    refine Tot.ite (fun h1 => Tot.bind (Tot.fix (one_tot c hc q h 12 (by omega) (by omega))) (fun y1 h2 => ?_)) (fun _ => ?_)
    · exact (j4 l y1.1 y1.2.1 y1.2.2 hl (fun _ => by omega) (by omega)).imp (fun y hy => ⟨hy.1, by omega, by omega⟩)
    · exact (j4 l false q h hl (fun h => by cases h) (by omega)).imp (fun y hy => ⟨hy.1, by omega, by omega⟩)
  have j2 : ∀ (l : List S46) (b : Bool) (q h : Int), l.length ≤ 8 → (b = true → 0 < l.length) → (0 ≤ q ∧ q ≤ 1073741800) → Tot (fun k => spec_l1Cur_parts.j2 k l b c q h) (fun y => y.1.length ≤ 8 ∧ q ≤ y.2.1 ∧ y.2.1 ≤ q + 6) := by
    intro l b q h hl hb hq
    refine Tot.up ?_
    simp only [spec_l1Cur_parts.j2]
    refine Tot.ite (fun h1 => Tot.pos (by have := hb h1; omega) (j3 _ q h (by rw [List.length_drop]; omega) hq)) (fun _ => j3 l q h hl hq)
  have l0 : ∀ (n : Nat) (l : List S46) (q h : Int), n ≤ 4 → l.length ≤ 8 → (0 ≤ q ∧ q + 10 * (n : Int) ≤ 1073741700) → Tot (fun k => spec_l1Cur_parts.l0 k l (n : Int) c q h) (fun y => y.1.length ≤ 8 ∧ q ≤ y.2.1 ∧ y.2.1 ≤ q + 10 * (n : Int) + 10) := by
    intro n
    have out : ∀ (m : Int) (l : List S46) (q h : Int), l.length ≤ 8 → (0 ≤ q ∧ q ≤ 1073741700) → Tot (fun k => spec_l1Cur_parts.j1 k l m false c q h) (fun y => y.1.length ≤ 8 ∧ q ≤ y.2.1 ∧ y.2.1 ≤ q + 8) := by
      intro m l q h hl hq
      refine Tot.up ?_
      simp only [spec_l1Cur_parts.j1]
      refine Tot.neg (by simp) (Tot.ite (fun h1 => Tot.bind (Tot.fix (one_tot c hc q h 3 (by omega) (by omega))) (fun y1 h2 => ?_)) (fun _ => ?_))
      · exact (j2 l y1.1 y1.2.1 y1.2.2 hl (fun _ => by omega) (by omega)).imp (fun y hy => ⟨hy.1, by omega, by omega⟩)
      · exact (j2 l false q h hl (fun h => by cases h) (by omega)).imp (fun y hy => ⟨hy.1, by omega, by omega⟩)
    induction n with
    | zero =>
      intro l q h hn hl hq
      refine Tot.up ?_
      simp only [spec_l1Cur_parts.l0]
      exact Tot.neg (by omega) ((out _ l q h hl (by omega)).imp (fun y hy => ⟨hy.1, by omega, by omega⟩))
    | succ n ih =>
      intro l q h hn hl hq
      refine Tot.up ?_
      simp only [spec_l1Cur_parts.l0]
      refine Tot.pos (by omega) ?_
      by_cases h1 : (l.length : Int) > 1
      · rw [decide_eq_true h1]
        refine Tot.up ?_
        simp only [spec_l1Cur_parts.j1]
        refine Tot.pos trivial (Tot.bind (Tot.fix (pick_tot c hc q h (l.length : Int) (by omega) (by omega))) (fun y1 h2 => Tot.bind (Tot.fix (pick_tot c hc y1.2.1 y1.2.2 (l.length : Int) (by omega) (by omega))) (fun y2 h3 => Tot.pos (by omega) (Tot.pos (by omega) (Tot.pos (by omega) (Tot.pos (by omega) ?_))))))
        rw [w64 (n := ((n + 1 : Nat) : Int) - 1) (by omega) (by omega), show ((n + 1 : Nat) : Int) - 1 = (n : Int) by omega]
        exact (ih _ _ _ (by omega) (by rw [List.length_set, List.length_set]; exact hl) (by omega)).imp (fun y hy => ⟨hy.1, by omega, by omega⟩)
      · rw [decide_eq_false h1]
        exact (out _ l q h hl (by omega)).imp (fun y hy => ⟨hy.1, by omega, by omega⟩)
  simp only [spec_l1Cur_parts.f]
  refine Tot.bind (poly_draw c hc p h (by omega)) (fun y1 h1 => Tot.bind (Tot.fix (pick_tot c hc y1.2.1 y1.2.2 7 (by omega) (by omega))) (fun y2 h2 => ?_))
  refine Tot.bind (split_draw y1.1 (by omega) (wrap64 (1 + y2.1))) (fun y3 h3 => Tot.bind (Tot.fix (pick_tot c hc y2.2.1 y2.2.2 4 (by omega) (by omega))) (fun y4 h5 => ?_))
  have h6 := l0 y4.1.toNat y3.1 y4.2.1 y4.2.2 (by omega) h3 (by omega)
  rw [show ((y4.1.toNat : Nat) : Int) = y4.1 by omega] at h6
  exact h6.imp (fun y hy => ⟨hy.1, by omega, by omega⟩)

theorem modu_eq (a : Int) : impl_modulo.f a = some (a % 1499) := by
  unfold impl_modulo.f
  rw [modV]
def Red (c : List Int) : Prop := ∀ a ∈ c, 0 ≤ a ∧ a < 1499
theorem Red.set {c : List Int} (h : Red c) (i : Nat) (v : Int) (hv : 0 ≤ v ∧ v < 1499) : Red (c.set i v) := fun a ha => by
  rcases List.mem_or_eq_of_mem_set ha with h1 | h1
  · exact h a h1
  · rw [h1]
    exact hv
theorem Red.get {c : List Int} (h : Red c) (i : Nat) : 0 ≤ c.getD i 0 ∧ c.getD i 0 < 1499 := by
  by_cases hi : i < c.length
  · rw [getDin c 0 i hi]
    exact h _ (List.getElem_mem hi)
  · rw [List.getD_eq_getElem?_getD, List.getElem?_eq_none (by omega)]
    simp
/-- What the i-th part gives, others gone through up to k. -/
def termV (l : List S46) (i k : Nat) (x : Int) : Int := (ysOf l).getD i 0 * pl ((((xsOf l).take k).eraseIdx i).map fun o => (x - o) * iv ((xsOf l).getD i 0 - o))
theorem iv_cg {a b : Int} (h : Cg a b) : iv a = iv b := by
  unfold iv
  rw [h.emod]
theorem iv_neg (b : Int) : Cg (iv (0 - b)) (0 - iv b) := by
  by_cases h : Cg b 0
  · have h1 : Cg (0 - b) 0 := (Cg.rfl.sub h).trans (Cg.of_eq (by omega))
    rw [iv_cg h1, iv_cg h]
    have : iv 0 = 0 := by decide +kernel
    rw [this]
    exact Cg.rfl
  · have h1 : ¬ Cg (0 - b) 0 := fun h2 => h (by
      obtain ⟨q, h2⟩ := h2
      exact ⟨-q, by omega⟩)
    have h2 := iv_mul b h
    have h3 := iv_mul (0 - b) h1
    have h4 : Cg ((0 - b) * (iv (0 - b) + iv b)) 0 := by
      have h5 := h3.sub h2
      refine (Cg.of_eq ?_).trans (h5.trans (Cg.of_eq (by omega)))
      grind
    rcases h4.prime with h6 | h6
    · exact absurd h6 h1
    · obtain ⟨q, h6⟩ := h6
      exact ⟨q, by omega⟩
theorem pl_cg : ∀ (l : List Int) (f g : Int → Int), (∀ o ∈ l, Cg (f o) (g o)) → Cg (pl (l.map f)) (pl (l.map g))
  | [], _, _, _ => Cg.rfl
  | a :: l, f, g, h => (h a (by simp)).mul (pl_cg l f g (fun o ho => h o (by simp [ho])))
theorem termV_wt (l : List S46) (i : Nat) (x : Int) : Cg (termV l i l.length x) ((ysOf l).getD i 0 * wt (xsOf l) i x) := by
  unfold termV wt
  rw [List.take_of_length_le (by rw [xsOf_length]; omega)]
  refine Cg.rfl.mul (pl_cg _ _ _ (fun o _ => ?_))
  have h1 : Cg (iv ((xsOf l).getD i 0 - o)) (0 - iv (o - (xsOf l).getD i 0)) := by
    have := iv_neg (o - (xsOf l).getD i 0)
    rw [show 0 - (o - (xsOf l).getD i 0) = (xsOf l).getD i 0 - o by omega] at this
    exact this
  exact ((Cg.rfl (a := x - o)).mul h1).trans (Cg.of_eq (by grind))
theorem poly_l2 (l : List S46) (out : List Int) (i : Nat) (k : Nat) (prod : List Int) (hp : Red prod) (hpl : prod.length ≤ 9) (xi yi o oy : Int) (hxi : 0 ≤ xi ∧ xi ≤ 1498) (ho : 0 ≤ o ∧ o ≤ 1498) (Q : List Int × Bool → Prop)
    (hQ : ∀ next : List Int, Red next → next.length = prod.length + 1 → (∀ x, Cg (ev next x) (ev prod x * ((x - o) * iv (xi - o)))) → Tot (fun k' => impl_PolyThrough.l1 k' l out (i : Int) next l (l.length : Int) (i : Int) l (l.length : Int) ((k : Int) + 1) xi yi) Q) (hk : k < 9) :
    ∀ (d n : Nat) (next : List Int), prod.length - n = d → n ≤ prod.length → Red next → next.length = prod.length + 1 → (∀ x, Cg (ev next x) (ev (prod.take n) x * ((x - o) * iv (xi - o)))) →
    Tot (fun k' => impl_PolyThrough.l2 k' l out (i : Int) prod next l (l.length : Int) (i : Int) l (l.length : Int) (k : Int) (prod.length : Int) (n : Int) xi yi o oy) Q := by
  intro d
  induction d with
  | zero =>
    intro n next hd hn hr hl hv
    refine Tot.up ?_
    simp only [impl_PolyThrough.l2]
    rw [w64 (n := (k : Int) + 1) (by omega) (by omega)]
    rw [List.take_of_length_le (by omega)] at hv
    exact Tot.neg (by omega) (hQ next hr hl hv)
  | succ d ih =>
    intro n next hd hn hr hl hv
    have hlt : n < prod.length := by omega
    have ha := hp _ (List.getElem_mem hlt)
    have h0 : 0 ≤ prod[n] * o := Int.mul_nonneg ha.1 ho.1
    have h3 : prod[n] * o ≤ 1499 * 1499 := Int.mul_le_mul (by omega) (by omega) ho.1 (by omega)
    have hd1 := dvV_range prod[n] (xi - o)
    have hd2 := dvV_range (prod[n] * o) (xi - o)
    have hg1 := hr.get (n + 1)
    have e1 : rd next ((n : Int) + 1) = next.getD (n + 1) 0 := by
      rw [show (n : Int) + 1 = ((n + 1 : Nat) : Int) by omega]
      rfl
    have hr1 := hr.set (n + 1) ((next.getD (n + 1) 0 + dvV prod[n] (xi - o)) % 1499) (by omega)
    have hg2 := hr1.get n
    refine Tot.up ?_
    simp only [impl_PolyThrough.l2]
    rw [w64 (n := (n : Int) + 1) (by omega) (by omega), rd_in prod n hlt, w64 (n := xi - o) (by omega) (by omega), w64 (n := prod[n] * o) (by omega) (by omega), e1, show ((n : Int) + 1).toNat = n + 1 by omega]
    refine Tot.pos (by omega) (Tot.pos (by omega) (Tot.pos (by omega) (Tot.pos (by omega) (Tot.pos (by omega) (Tot.bind (Tot.at_ 1501 rfl (fun k hk => divided_eq _ _ k (by omega))) (fun z ez => ?_))))))
    subst ez
    simp only [modu_eq, Option.bind_some]
    rw [w64 (n := next.getD (n + 1) 0 + dvV prod[n] (xi - o)) (by omega) (by omega)]
    refine Tot.pos (by omega) (Tot.bind (Tot.at_ 1501 rfl (fun k hk => divided_eq _ _ k (by omega))) (fun z ez => ?_))
    subst ez
    have e2 : rd (next.set (n + 1) ((next.getD (n + 1) 0 + dvV prod[n] (xi - o)) % 1499)) (n : Int) = next.getD n 0 := by
      show (next.set (n + 1) _).getD n 0 = _
      rw [List.getD_eq_getElem?_getD, List.getElem?_set_ne (by omega), ← List.getD_eq_getElem?_getD]
    have hg3 := hr.get n
    rw [e2, w64 (n := next.getD n 0 - dvV (prod[n] * o) (xi - o)) (by omega) (by omega), Int.toNat_natCast]
    refine ih (n + 1) _ (by omega) (by omega) (hr1.set n _ (by omega)) (by rw [List.length_set, List.length_set]; exact hl) (fun x => ?_)
    have e3 : (next.set (n + 1) ((next.getD (n + 1) 0 + dvV prod[n] (xi - o)) % 1499)).getD n 0 = next.getD n 0 := e2
    rw [ev_set _ n _ x (by rw [List.length_set]; omega), e3, ev_set _ (n + 1) _ x (by omega), List.take_succ_eq_append_getElem hlt, ev_snoc, List.length_take, show min n prod.length = n by omega]
    have c1 : Cg ((next.getD (n + 1) 0 + dvV prod[n] (xi - o)) % 1499 - next.getD (n + 1) 0) (prod[n] * iv (xi - o)) := ((Cg.mod _).sub Cg.rfl).trans ((Cg.of_eq (by omega)).trans (dvV_cg prod[n] (xi - o)))
    have c2 : Cg ((next.getD n 0 - dvV (prod[n] * o) (xi - o)) % 1499 - next.getD n 0) (0 - prod[n] * o * iv (xi - o)) := ((Cg.mod _).sub Cg.rfl).trans ((Cg.of_eq (by omega)).trans ((Cg.rfl (a := 0)).sub (dvV_cg (prod[n] * o) (xi - o))))
    refine (((hv x).add (c1.mul Cg.rfl)).add (c2.mul Cg.rfl)).trans (Cg.of_eq ?_)
    rw [Int.pow_succ]
    grind
theorem poly_l1 (l : List S46) (hs : Small (xsOf l)) (hy : ∀ y ∈ ysOf l, 0 ≤ y ∧ y ≤ 1498) (out : List Int) (i : Nat) (hi : i < l.length) (Q : List Int × Bool → Prop)
    (hQ : ∀ prod : List Int, Red prod → prod.length = l.length → (∀ x, Cg (ev prod x) (termV l i l.length x)) → Tot (fun k' => impl_PolyThrough.l3 k' l out prod l (l.length : Int) (i : Int) (prod.length : Int) 0) Q) :
    ∀ (d k : Nat) (prod : List Int), l.length - k = d → k ≤ l.length → Red prod → prod.length = (if k ≤ i then k + 1 else k) → (∀ x, Cg (ev prod x) (termV l i k x)) →
    Tot (fun k' => impl_PolyThrough.l1 k' l out (i : Int) prod l (l.length : Int) (i : Int) l (l.length : Int) (k : Int) l[i].f0 l[i].f1) Q := by
  have h9 := hs.1
  rw [xsOf_length] at h9
  have hxl := xsOf_length l
  have hxi : (xsOf l)[i]'(by omega) = l[i].f0 := by simp [xsOf]
  have hxr := hs.2 _ (List.getElem_mem (show i < (xsOf l).length by omega))
  rw [hxi] at hxr
  have hgi : (xsOf l).getD i 0 = l[i].f0 := by rw [getDin _ 0 i (by omega), hxi]
  intro d
  induction d with
  | zero =>
    intro k prod hd hk hr hl hv
    have e : k = l.length := by omega
    subst e
    refine Tot.up ?_
    simp only [impl_PolyThrough.l1]
    exact Tot.neg (by omega) (hQ prod hr (by rw [hl, if_neg (by omega)]) hv)
  | succ d ih =>
    intro k prod hd hk hr hl hv
    have hlt : k < l.length := by omega
    have hst := er_step (xsOf l) i k (by omega)
    have hxk : (xsOf l)[k]'(by omega) = l[k].f0 := by simp [xsOf]
    have hxkr := hs.2 _ (List.getElem_mem (show k < (xsOf l).length by omega))
    rw [hxk] at hxkr
    refine Tot.up ?_
    simp only [impl_PolyThrough.l1]
    rw [rdP l k hlt]
    refine Tot.pos (by omega) (Tot.pos (by omega) (Tot.pos (by omega) ?_))
    by_cases e : k = i
    · rw [w64 (n := (k : Int) + 1) (by omega) (by omega)]
      refine Tot.pos (by omega) (ih (k + 1) prod (by omega) (by omega) hr (by rw [hl, if_pos (by omega), if_neg (by omega)]) (fun x => ?_))
      have := hv x
      unfold termV at this ⊢
      rw [hst, if_pos e]
      exact this
    · have hpl : prod.length ≤ 9 := by rw [hl]; split <;> omega
      rw [w64 (n := (prod.length : Int) + 1) (by omega) (by omega), show ((prod.length : Int) + 1).toNat = prod.length + 1 by omega]
      refine Tot.neg (by omega) (Tot.pos (by omega) (Tot.pos (by omega) ?_))
      have h := poly_l2 l out i k prod hr hpl l[i].f0 l[i].f1 l[k].f0 l[k].f1 hxr hxkr Q (fun next h1 h2 h3 => ih (k + 1) next (by omega) (by omega) h1 (by rw [h2, hl]; split <;> split <;> omega) (fun x => by
        refine (h3 x).trans (((hv x).mul Cg.rfl).trans (Cg.of_eq ?_))
        unfold termV
        rw [hst, if_neg e, List.map_append, List.map_singleton, pl_snoc, hxk, hgi]
        grind)) (by omega) prod.length 0 (List.replicate (prod.length + 1) 0) (by omega) (by omega) (fun a ha => by rw [(List.mem_replicate.1 ha).2]; omega) (by simp) (fun x => by
          rw [ev_zeros]
          simp only [List.take_zero, ev, Int.zero_mul]
          exact Cg.rfl)
      exact h
theorem poly_l3 (l : List S46) (hl : l.length ≤ 9) (i : Nat) (hi : i < l.length) (prod : List Int) (hp : Red prod) (hpl : prod.length = l.length) (Q : List Int × Bool → Prop) (V : Int → Int)
    (hQ : ∀ out : List Int, Red out → out.length = l.length → (∀ x, Cg (ev out x) (V x + ev prod x)) → Tot (fun k' => impl_PolyThrough.l0 k' l out l (l.length : Int) ((i : Int) + 1)) Q) :
    ∀ (d n : Nat) (out : List Int), prod.length - n = d → n ≤ prod.length → Red out → out.length = l.length → (∀ x, Cg (ev out x) (V x + ev (prod.take n) x)) →
    Tot (fun k' => impl_PolyThrough.l3 k' l out prod l (l.length : Int) (i : Int) (prod.length : Int) (n : Int)) Q := by
  intro d
  induction d with
  | zero =>
    intro n out hd hn hr ho hv
    rw [List.take_of_length_le (by omega)] at hv
    refine Tot.up ?_
    simp only [impl_PolyThrough.l3]
    rw [w64 (n := (i : Int) + 1) (by omega) (by omega)]
    exact Tot.neg (by omega) (hQ out hr ho hv)
  | succ d ih =>
    intro n out hd hn hr ho hv
    have hlt : n < prod.length := by omega
    have ha := hp _ (List.getElem_mem hlt)
    have hg := hr.get n
    have e1 : rd out (n : Int) = out.getD n 0 := rfl
    refine Tot.up ?_
    simp only [impl_PolyThrough.l3, modu_eq, Option.bind_some]
    rw [rd_in prod n hlt, e1, w64 (n := out.getD n 0 + prod[n]) (by omega) (by omega), w64 (n := (n : Int) + 1) (by omega) (by omega), Int.toNat_natCast]
    refine Tot.pos (by omega) (Tot.pos (by omega) (Tot.pos (by omega) (Tot.pos (by omega) ?_)))
    refine ih (n + 1) _ (by omega) (by omega) (hr.set n _ (by omega)) (by rw [List.length_set]; exact ho) (fun x => ?_)
    rw [ev_set _ n _ x (by omega), List.take_succ_eq_append_getElem hlt, ev_snoc, List.length_take, show min n prod.length = n by omega]
    have c1 : Cg ((out.getD n 0 + prod[n]) % 1499 - out.getD n 0) prod[n] := ((Cg.mod _).sub Cg.rfl).trans (Cg.of_eq (by omega))
    exact ((hv x).add (c1.mul Cg.rfl)).trans (Cg.of_eq (by omega))
theorem poly_l0 (l : List S46) (hs : Small (xsOf l)) (hy : ∀ y ∈ ysOf l, 0 ≤ y ∧ y ≤ 1498) : ∀ (d i : Nat) (out : List Int), l.length - i = d → i ≤ l.length → Red out → out.length = l.length → (∀ x, Cg (ev out x) (lsum (xsOf l) x ((ysOf l).take i) 0)) →
    Tot (fun k' => impl_PolyThrough.l0 k' l out l (l.length : Int) (i : Int)) (fun y => y.2 = true ∧ Red y.1 ∧ y.1.length = l.length ∧ ∀ x, Cg (ev y.1 x) (lsum (xsOf l) x (ysOf l) 0)) := by
  have h9 := hs.1
  rw [xsOf_length] at h9
  have hyl := ysOf_length l
  intro d
  induction d with
  | zero =>
    intro i out hd hi hr ho hv
    rw [List.take_of_length_le (by omega)] at hv
    refine Tot.up ?_
    simp only [impl_PolyThrough.l0]
    exact Tot.neg (by omega) (Tot.some_ ⟨rfl, hr, ho, hv⟩)
  | succ d ih =>
    intro i out hd hi hr ho hv
    have hlt : i < l.length := by omega
    have hyi : (ysOf l)[i]'(by omega) = l[i].f1 := by simp [ysOf]
    have hyr := hy _ (List.getElem_mem (show i < (ysOf l).length by omega))
    have hgy : (ysOf l).getD i 0 = l[i].f1 := by rw [getDin _ 0 i (by omega), hyi]
    rw [hyi] at hyr
    refine Tot.up ?_
    simp only [impl_PolyThrough.l0]
    rw [rdP l i hlt]
    refine Tot.pos (by omega) (Tot.pos (by omega) (Tot.pos (by omega) ?_))
    refine poly_l1 l hs hy out i hlt _ (fun prod h1 h2 h3 => ?_) l.length 0 [l[i].f1] (by omega) (by omega) (fun a ha => by rw [List.mem_singleton.1 ha]; omega) (by simp) (fun x => ?_)
    · refine poly_l3 l h9 i hlt prod h1 h2 _ (fun x => lsum (xsOf l) x ((ysOf l).take i) 0) (fun out2 h4 h5 h6 => ?_) prod.length 0 out (by omega) (by omega) hr ho (fun x => ?_)
      · refine ih (i + 1) out2 (by omega) (by omega) h4 h5 (fun x => ?_)
        rw [List.take_succ_eq_append_getElem (by omega), lsum_snoc, List.length_take, show 0 + min i (ysOf l).length = i by omega, hyi]
        have h7 := termV_wt l i x
        rw [hgy] at h7
        exact (h6 x).trans (Cg.rfl.add ((h3 x).trans h7))
      · simp only [List.take_zero, ev, Int.add_zero]
        exact hv x
    · unfold termV
      rw [hgy]
      simp [ev, pl, Cg.rfl]
theorem polyThrough_tot (l : List S46) (hl : l.length ≤ 1048576) : Tot (fun k => impl_PolyThrough.f k l) (fun y => y.2 = prtB l ∧ y.1.length ≤ 8 ∧ (prtB l = true → Red y.1 ∧ y.1.length = l.length ∧ ∀ x, Cg (ev y.1 x) (lsum (xsOf l) x (ysOf l) 0))) := by
  simp only [impl_PolyThrough.f]
  refine Tot.bind (implParts_tot l hl) (fun y1 e1 => ?_)
  subst e1
  refine Tot.ite (fun h => ?_) (fun h => Tot.some_ ⟨by rw [Bool.not_eq_true] at h; exact h.symm, by simp, fun h2 => absurd h2 h⟩)
  obtain ⟨h1, h2, h3, h4, h5⟩ := prt_small h
  rw [Int.toNat_natCast]
  refine Tot.pos (by omega) (Tot.pos (by omega) ?_)
  refine (poly_l0 l h1 h3 l.length 0 (List.replicate l.length 0) (by omega) (by omega) (fun a ha => by rw [(List.mem_replicate.1 ha).2]; omega) (by simp) (fun x => ?_)).imp (fun y hy => ⟨by rw [hy.1, h], by omega, fun _ => hy.2⟩)
  rw [ev_zeros]
  exact Cg.rfl

/-- Not a 'rfl' theorem: the kernel would unfold the loop. -/
theorem obind {α β : Type} (x : α) (f : α → Option β) : (some x).bind f = f x := by
  cases h : (some x).bind f <;> simp_all
theorem mod5_eq (a : Int) : spec_l5Mod.f a = some (a % 1499) := by
  unfold spec_l5Mod.f
  rw [modV]
theorem Cg.pow {a b : Int} (h : Cg a b) : ∀ n : Nat, Cg (a ^ n) (b ^ n)
  | 0 => ⟨0, by simp⟩
  | n + 1 => by
    rw [Int.pow_succ, Int.pow_succ]
    exact (Cg.pow h n).mul h
theorem iv_pow (b : Int) : Cg (iv b) (b ^ 1497) := by
  have h1 : Cg (((b % 1499).toNat : Nat) : Int) b := (Cg.of_eq (by omega)).trans (Cg.mod b)
  unfold iv
  rw [Int.natCast_emod, Int.natCast_pow]
  exact (Cg.mod _).trans (h1.pow 1497)
theorem iv_mulp (a b : Int) : Cg (iv (a * b)) (iv a * iv b) := by
  refine (iv_pow (a * b)).trans ?_
  rw [Int.mul_pow]
  exact ((iv_pow a).mul (iv_pow b)).symm
theorem iv_range (b : Int) : 0 ≤ iv b ∧ iv b < 1499 := by
  have := Nat.mod_lt ((b % 1499).toNat ^ 1497) (show 0 < 1499 by omega)
  unfold iv
  omega
theorem pl_split (x z : Int) : ∀ l : List Int, Cg (pl (l.map fun o => (o - x) * iv (o - z))) (pl (l.map fun o => o - x) * iv (pl (l.map fun o => o - z)))
  | [] => by
    have : iv 1 = 1 := by decide +kernel
    simp only [List.map_nil, pl, this]
    exact Cg.rfl
  | o :: l => by
    have h := pl_split x z l
    simp only [List.map_cons, pl]
    refine (Cg.rfl.mul h).trans ?_
    refine Cg.trans (Cg.of_eq ?_) ((Cg.rfl (a := (o - x) * pl (l.map fun o => o - x))).mul (iv_mulp (o - z) (pl (l.map fun o => o - z))).symm)
    grind
/-- The numbers but the i-th, of the first k. -/
def oth (xs : List Int) (i k : Nat) : List Int := (xs.take k).eraseIdx i
theorem sp_l2 (xs ys out : List Int) (i j : Nat) (hj : j < 9) (xi : Int) (hxi : 0 ≤ xi ∧ xi ≤ 1498) (prod : List Int) (hp : Red prod) (hpl : prod.length ≤ 9) (dd : Int) (hdd : 0 ≤ dd ∧ dd < 1499) (o : Int) (ho : 0 ≤ o ∧ o ≤ 1498) (Q : List Int × Bool → Prop)
    (hQ : ∀ next : List Int, Red next → next.length = prod.length + 1 → (∀ x, Cg (ev next x) (ev prod x * (o - x))) → ∀ d2 : Int, (0 ≤ d2 ∧ d2 < 1499) → Cg d2 (dd * (o - xi)) → Tot (fun k' => spec_PolyThrough.l1 k' xs ys out (i : Int) xi next d2 (xs.length : Int) (i : Int) (xs.length : Int) ((j : Int) + 1)) Q) :
    ∀ (d n : Nat) (next : List Int), prod.length - n = d → n ≤ prod.length → Red next → next.length = prod.length + 1 → (∀ x, Cg (ev next x) (ev (prod.take n) x * (o - x))) →
    Tot (fun k' => spec_PolyThrough.l2 k' xs ys out (i : Int) xi prod dd o next (xs.length : Int) (i : Int) (xs.length : Int) (j : Int) (prod.length : Int) (n : Int)) Q := by
  intro d
  induction d with
  | zero =>
    intro n next hd hn hr hl hv
    refine Tot.up ?_
    simp only [spec_PolyThrough.l2, mod5_eq, obind]
    rw [w64 (n := (j : Int) + 1) (by omega) (by omega), w64 (n := o - xi) (by omega) (by omega)]
    rw [List.take_of_length_le (by omega)] at hv
    have hm := mulC hdd (by omega : 0 ≤ (o - xi) % 1499 ∧ (o - xi) % 1499 < 1499) Cg.rfl (Cg.mod (o - xi))
    exact Tot.neg (by omega) (hQ next hr hl hv _ hm.1 hm.2)
  | succ d ih =>
    intro n next hd hn hr hl hv
    have hlt : n < prod.length := by omega
    have ha := hp _ (List.getElem_mem hlt)
    have h0 : 0 ≤ prod[n] * o := Int.mul_nonneg ha.1 ho.1
    have h3 : prod[n] * o ≤ 1499 * 1499 := Int.mul_le_mul (by omega) (by omega) ho.1 (by omega)
    have hg1 := hr.get n
    have hr1 := hr.set n ((next.getD n 0 + prod[n] * o) % 1499) (by omega)
    have hg2 := hr1.get (n + 1)
    have e1 : rd next (n : Int) = next.getD n 0 := by
      unfold rd
      rw [Int.toNat_natCast]
    have e2 : rd (next.set n ((next.getD n 0 + prod[n] * o) % 1499)) ((n : Int) + 1) = next.getD (n + 1) 0 := by
      show (next.set n _).getD ((n : Int) + 1).toNat 0 = _
      rw [show ((n : Int) + 1).toNat = n + 1 by omega, List.getD_eq_getElem?_getD, List.getElem?_set_ne (by omega), ← List.getD_eq_getElem?_getD]
    have hg3 := hr.get (n + 1)
    refine Tot.up ?_
    simp only [spec_PolyThrough.l2, mod5_eq, obind]
    rw [w64 (n := (n : Int) + 1) (by omega) (by omega), rd_in prod n hlt, w64 (n := prod[n] * o) (by omega) (by omega), e1, w64 (n := next.getD n 0 + prod[n] * o) (by omega) (by omega), Int.toNat_natCast, e2, show ((n : Int) + 1).toNat = n + 1 by omega, w64 (n := next.getD (n + 1) 0 - prod[n]) (by omega) (by omega)]
    refine Tot.pos (by omega) (Tot.pos (by omega) (Tot.pos (by omega) (Tot.pos (by omega) (Tot.pos (by omega) (Tot.pos (by omega) ?_)))))
    refine ih (n + 1) _ (by omega) (by omega) (hr1.set (n + 1) _ (by omega)) (by rw [List.length_set, List.length_set]; exact hl) (fun x => ?_)
    have e3 : (next.set n ((next.getD n 0 + prod[n] * o) % 1499)).getD (n + 1) 0 = next.getD (n + 1) 0 := by
      rw [List.getD_eq_getElem?_getD, List.getElem?_set_ne (by omega), ← List.getD_eq_getElem?_getD]
    rw [ev_set _ (n + 1) _ x (by rw [List.length_set]; omega), e3, ev_set _ n _ x (by omega), List.take_succ_eq_append_getElem hlt, ev_snoc, List.length_take, show min n prod.length = n by omega]
    have c1 : Cg ((next.getD (n + 1) 0 - prod[n]) % 1499 - next.getD (n + 1) 0) (0 - prod[n]) := ((Cg.mod _).sub Cg.rfl).trans (Cg.of_eq (by omega))
    have c2 : Cg ((next.getD n 0 + prod[n] * o) % 1499 - next.getD n 0) (prod[n] * o) := ((Cg.mod _).sub Cg.rfl).trans (Cg.of_eq (by omega))
    refine (((hv x).add (c2.mul Cg.rfl)).add (c1.mul Cg.rfl)).trans (Cg.of_eq ?_)
    rw [Int.pow_succ]
    grind
theorem sp_l1 (xs ys : List Int) (hs : Small xs) (out : List Int) (i : Nat) (hi : i < xs.length) (Q : List Int × Bool → Prop)
    (hQ : ∀ (prod : List Int) (dd : Int), Red prod → prod.length = xs.length → (0 ≤ dd ∧ dd < 1499) → (∀ x, Cg (ev prod x) (pl ((xs.eraseIdx i).map fun o => o - x))) → Cg dd (pl ((xs.eraseIdx i).map fun o => o - xs[i])) → Tot (fun k' => spec_PolyThrough.l3 k' xs ys out (i : Int) prod dd (xs.length : Int) (i : Int) (prod.length : Int) 0) Q) :
    ∀ (d j : Nat) (prod : List Int) (dd : Int), xs.length - j = d → j ≤ xs.length → Red prod → prod.length = (if j ≤ i then j + 1 else j) → (0 ≤ dd ∧ dd < 1499) → (∀ x, Cg (ev prod x) (pl ((oth xs i j).map fun o => o - x))) → Cg dd (pl ((oth xs i j).map fun o => o - xs[i])) →
    Tot (fun k' => spec_PolyThrough.l1 k' xs ys out (i : Int) xs[i] prod dd (xs.length : Int) (i : Int) (xs.length : Int) (j : Int)) Q := by
  have h9 := hs.1
  have hxr := hs.2 _ (List.getElem_mem hi)
  intro d
  induction d with
  | zero =>
    intro j prod dd hd hj hr hl hdd hv hc
    have e : j = xs.length := by omega
    subst e
    unfold oth at hv hc
    rw [List.take_of_length_le (by omega)] at hv hc
    refine Tot.up ?_
    simp only [spec_PolyThrough.l1]
    exact Tot.neg (by omega) (hQ prod dd hr (by rw [hl, if_neg (by omega)]) hdd hv hc)
  | succ d ih =>
    intro j prod dd hd hj hr hl hdd hv hc
    have hlt : j < xs.length := by omega
    have hst := er_step xs i j hlt
    have hxj := hs.2 _ (List.getElem_mem hlt)
    refine Tot.up ?_
    simp only [spec_PolyThrough.l1]
    rw [rd_in xs j hlt]
    refine Tot.pos (by omega) (Tot.pos (by omega) (Tot.pos (by omega) ?_))
    by_cases e : j = i
    · rw [w64 (n := (j : Int) + 1) (by omega) (by omega)]
      have eo : oth xs i (j + 1) = oth xs i j := by
        unfold oth
        rw [hst, if_pos e]
      exact Tot.pos (by omega) (ih (j + 1) prod dd (by omega) (by omega) hr (by rw [hl, if_pos (by omega), if_neg (by omega)]) hdd (by rw [eo]; exact hv) (by rw [eo]; exact hc))
    · have hpl : prod.length ≤ 9 := by rw [hl]; split <;> omega
      have eo : oth xs i (j + 1) = oth xs i j ++ [xs[j]] := by
        unfold oth
        rw [hst, if_neg e]
      rw [w64 (n := (prod.length : Int) + 1) (by omega) (by omega), show ((prod.length : Int) + 1).toNat = prod.length + 1 by omega]
      refine Tot.neg (by omega) (Tot.pos (by omega) (Tot.pos (by omega) ?_))
      refine sp_l2 xs ys out i j (by omega) xs[i] hxr prod hr hpl dd hdd xs[j] hxj Q (fun next h1 h2 h3 d2 h4 h5 => ih (j + 1) next d2 (by omega) (by omega) h1 (by rw [h2, hl]; split <;> split <;> omega) h4 (fun x => ?_) ?_) prod.length 0 (List.replicate (prod.length + 1) 0) (by omega) (by omega) (fun a ha => by rw [(List.mem_replicate.1 ha).2]; omega) (by simp) (fun x => ?_)
      · rw [eo, List.map_append, List.map_singleton, pl_snoc]
        exact (h3 x).trans ((hv x).mul Cg.rfl)
      · rw [eo, List.map_append, List.map_singleton, pl_snoc]
        exact h5.trans (hc.mul Cg.rfl)
      · rw [ev_zeros]
        simp only [List.take_zero, ev, Int.zero_mul]
        exact Cg.rfl
theorem sp_l3 (xs ys : List Int) (h9 : xs.length ≤ 9) (hyl : ys.length = xs.length) (hy : ∀ y ∈ ys, 0 ≤ y ∧ y ≤ 1498) (i : Nat) (hi : i < xs.length) (prod : List Int) (hp : Red prod) (hpl : prod.length = xs.length) (dd : Int) (hdd : 0 ≤ dd ∧ dd < 1499) (Q : List Int × Bool → Prop) (V : Int → Int)
    (hQ : ∀ out : List Int, Red out → out.length = xs.length → (∀ x, Cg (ev out x) (V x + ev prod x * (ys.getD i 0 * iv dd))) → Tot (fun k' => spec_PolyThrough.l0 k' xs ys out (xs.length : Int) ((i : Int) + 1)) Q) :
    ∀ (d n : Nat) (out : List Int), prod.length - n = d → n ≤ prod.length → Red out → out.length = xs.length → (∀ x, Cg (ev out x) (V x + ev (prod.take n) x * (ys.getD i 0 * iv dd))) →
    Tot (fun k' => spec_PolyThrough.l3 k' xs ys out (i : Int) prod dd (xs.length : Int) (i : Int) (prod.length : Int) (n : Int)) Q := by
  have hgy : ys.getD i 0 = ys[i]'(by omega) := getDin ys 0 i (by omega)
  have hyr := hy _ (List.getElem_mem (show i < ys.length by omega))
  have hrd : rd ys (i : Int) = ys.getD i 0 := by
    unfold rd
    rw [Int.toNat_natCast]
  rw [← hgy] at hyr
  intro d
  induction d with
  | zero =>
    intro n out hd hn hr ho hv
    rw [List.take_of_length_le (by omega)] at hv
    refine Tot.up ?_
    simp only [spec_PolyThrough.l3]
    rw [w64 (n := (i : Int) + 1) (by omega) (by omega)]
    exact Tot.neg (by omega) (hQ out hr ho hv)
  | succ d ih =>
    intro n out hd hn hr ho hv
    have hlt : n < prod.length := by omega
    have ha := hp _ (List.getElem_mem hlt)
    have hg := hr.get n
    have e1 : rd out (n : Int) = out.getD n 0 := by
      unfold rd
      rw [Int.toNat_natCast]
    have hdm : dd % 1499 = dd := Int.emod_eq_of_lt hdd.1 hdd.2
    refine Tot.up ?_
    simp only [spec_PolyThrough.l3]
    rw [rd_in prod n hlt, e1, hrd, w64 (n := (n : Int) + 1) (by omega) (by omega), Int.toNat_natCast]
    refine Tot.pos (by omega) (Tot.pos (by omega) (Tot.pos (by omega) (Tot.pos (by omega) (Tot.pos (by omega) (Tot.pos (by omega) (Tot.bind (Tot.at_ (Q := fun y => iv dd = y) 1501 rfl (fun k hk => by
      have := inverse_eq dd k (by omega)
      rw [hdm] at this
      exact this)) (fun z ez => ?_)))))))
    subst ez
    have hm1 := mulC ha (by omega : 0 ≤ ys.getD i 0 ∧ ys.getD i 0 < 1499) (Cg.rfl (a := prod[n])) (Cg.rfl (a := ys.getD i 0))
    have hm2 := addC (out.getD n 0) hm1.1 (iv_range dd) hg hm1.2 (Cg.rfl (a := iv dd))
    refine ih (n + 1) _ (by omega) (by omega) (hr.set n _ hm2.1) (by rw [List.length_set]; exact ho) (fun x => ?_)
    rw [ev_set _ n _ x (by omega), List.take_succ_eq_append_getElem hlt, ev_snoc, List.length_take, show min n prod.length = n by omega]
    have c1 := (hm2.2.sub (Cg.rfl (a := out.getD n 0))).trans (Cg.of_eq (by omega : out.getD n 0 + prod[n] * ys.getD i 0 * iv dd - out.getD n 0 = prod[n] * ys.getD i 0 * iv dd))
    refine ((hv x).add (c1.mul Cg.rfl)).trans (Cg.of_eq ?_)
    grind
theorem sp_l0 (xs ys : List Int) (hs : Small xs) (hyl : ys.length = xs.length) (hy : ∀ y ∈ ys, 0 ≤ y ∧ y ≤ 1498) : ∀ (d i : Nat) (out : List Int), xs.length - i = d → i ≤ xs.length → Red out → out.length = xs.length → (∀ x, Cg (ev out x) (lsum xs x (ys.take i) 0)) →
    Tot (fun k' => spec_PolyThrough.l0 k' xs ys out (xs.length : Int) (i : Int)) (fun y => y.2 = true ∧ Red y.1 ∧ y.1.length = xs.length ∧ ∀ x, Cg (ev y.1 x) (lsum xs x ys 0)) := by
  have h9 := hs.1
  intro d
  induction d with
  | zero =>
    intro i out hd hi hr ho hv
    rw [List.take_of_length_le (by omega)] at hv
    refine Tot.up ?_
    simp only [spec_PolyThrough.l0]
    exact Tot.neg (by omega) (Tot.some_ ⟨rfl, hr, ho, hv⟩)
  | succ d ih =>
    intro i out hd hi hr ho hv
    have hlt : i < xs.length := by omega
    have hgx : xs.getD i 0 = xs[i] := getDin xs 0 i hlt
    have hgy : ys.getD i 0 = ys[i]'(by omega) := getDin ys 0 i (by omega)
    refine Tot.up ?_
    simp only [spec_PolyThrough.l0]
    rw [rd_in xs i hlt]
    refine Tot.pos (by omega) (Tot.pos (by omega) (Tot.pos (by omega) ?_))
    refine sp_l1 xs ys hs out i hlt _ (fun prod dd h1 h2 h3 h4 h5 => ?_) xs.length 0 [1] 1 (by omega) (by omega) (fun a ha => by rw [List.mem_singleton.1 ha]; omega) (by simp) (by omega) (fun x => by simp [oth, ev, pl, Cg.rfl]) (by simp [oth, pl, Cg.rfl])
    refine sp_l3 xs ys h9 hyl hy i hlt prod h1 h2 dd h3 _ (fun x => lsum xs x (ys.take i) 0) (fun out2 h6 h7 h8 => ?_) prod.length 0 out (by omega) (by omega) hr ho (fun x => ?_)
    · refine ih (i + 1) out2 (by omega) (by omega) h6 h7 (fun x => ?_)
      rw [List.take_succ_eq_append_getElem (by omega), lsum_snoc, List.length_take, show 0 + min i ys.length = i by omega, ← hgy]
      refine (h8 x).trans (Cg.rfl.add ?_)
      have h10 := pl_split x xs[i] (xs.eraseIdx i)
      unfold wt
      rw [hgx]
      have h11 : iv dd = iv (pl ((xs.eraseIdx i).map fun o => o - xs[i])) := iv_cg h5
      rw [h11]
      refine (((h4 x).mul Cg.rfl).trans (Cg.of_eq ?_)).trans ((Cg.rfl (a := ys.getD i 0)).mul h10.symm)
      grind
    · simp only [List.take_zero, ev, Int.zero_mul, Int.add_zero]
      exact hv x
theorem poly_same (l : List S46) (hl : l.length ≤ 1048576) : ∃ r : List Int × Bool, r.2 = prtB l ∧ r.1.length ≤ 8 ∧ (prtB l = true → Red r.1 ∧ r.1.length = l.length ∧ ∀ x, Cg (ev r.1 x) (lsum (xsOf l) x (ysOf l) 0)) ∧
    Tot (fun k => impl_PolyThrough.f k l) (fun y => y = r) ∧ Tot (fun k => spec_PolyThrough.f k l) (fun y => y = r) := by
  by_cases h : prtB l = true
  · obtain ⟨h1, h2, h3, h4, h5⟩ := prt_small h
    have hxl := xsOf_length l
    obtain ⟨v, hv, ht⟩ := (polyThrough_tot l hl).val
    obtain ⟨v1, v2, v3⟩ := hv
    obtain ⟨v4, v5, v6⟩ := v3 h
    refine ⟨v, v1, v2, fun _ => ⟨v4, v5, v6⟩, ht, ?_⟩
    simp only [spec_PolyThrough.f]
    refine Tot.bind (specParts_tot l hl) (fun y1 e1 => Tot.pos (e1.trans h) (Tot.bind (split_tot l hl) (fun y2 e2 => ?_)))
    subst e2
    rw [Int.toNat_natCast]
    refine Tot.pos (by omega) (Tot.pos (by omega) ?_)
    refine (sp_l0 (xsOf l) (ysOf l) h1 (by rw [xsOf_length, ysOf_length]) h3 (xsOf l).length 0 (List.replicate l.length 0) (by omega) (by omega) (fun a ha => by rw [(List.mem_replicate.1 ha).2]; omega) (by rw [List.length_replicate, hxl]) (fun x => ?_)).imp (fun y hy => ?_)
    · rw [ev_zeros]
      exact Cg.rfl
    · obtain ⟨y1, y2, y3, y4⟩ := hy
      refine Prod.ext ?_ (by rw [y1, v1, h])
      exact ev_unique y.1 v.1 (xsOf l) (by omega) (by omega) h2 (fun x _ => (y4 x).trans (v6 x).symm) y2 v4
  · rw [Bool.not_eq_true] at h
    refine ⟨([], false), h.symm, by simp, (fun h2 => by rw [h] at h2; cases h2), ?_, ?_⟩
    · simp only [impl_PolyThrough.f]
      exact Tot.bind (implParts_tot l hl) (fun y1 e1 => Tot.neg (by rw [e1, h]; simp) (Tot.some_ rfl))
    · simp only [spec_PolyThrough.f]
      exact Tot.bind (specParts_tot l hl) (fun y1 e1 => Tot.neg (by rw [e1, h]; simp) (Tot.some_ rfl))

/-- What a row of n numbers below 1499 gives at each place, modulo 1499. -/
def Row (n : Nat) (f : Int → Int) : Prop := ∃ c : List Int, c.length = n ∧ (∀ a ∈ c, 0 ≤ a ∧ a < 1499) ∧ ∀ x, Cg (ev c x) (f x)
theorem ev_mod : ∀ (c : List Int) (x : Int), Cg (ev (c.map fun a => a % 1499) x) (ev c x)
  | [], _ => Cg.rfl
  | a :: c, x => by
    simp only [List.map_cons, ev]
    exact (Cg.mod a).add ((Cg.rfl (a := x)).mul (ev_mod c x))
theorem Row.of (c : List Int) {n : Nat} (hn : c.length = n) {f : Int → Int} (h : ∀ x, Cg (ev c x) (f x)) : Row n f :=
  ⟨c.map fun a => a % 1499, by simp [hn], fun a ha => by
    obtain ⟨b, _, rfl⟩ := List.mem_map.1 ha
    omega, fun x => (ev_mod c x).trans (h x)⟩
theorem ev_add : ∀ (c d : List Int) (x : Int), c.length = d.length → ev (List.zipWith (fun a b => a + b) c d) x = ev c x + ev d x
  | [], [], x, _ => by simp [ev]
  | a :: c, b :: d, x, h => by
    have h1 := ev_add c d x (by simpa using h)
    simp only [List.zipWith_cons_cons, ev, h1]
    grind
  | [], _ :: _, _, h => by simp at h
  | _ :: _, [], _, h => by simp at h
theorem ev_scale : ∀ (c : List Int) (b x : Int), ev (c.map fun a => b * a) x = b * ev c x
  | [], b, x => by simp [ev]
  | a :: c, b, x => by
    have h := ev_scale c b x
    simp only [List.map_cons, ev, h]
    grind
theorem Row.add {n : Nat} {f g : Int → Int} (h1 : Row n f) (h2 : Row n g) : Row n (fun x => f x + g x) := by
  obtain ⟨c, c1, _, c3⟩ := h1
  obtain ⟨d, d1, _, d3⟩ := h2
  refine Row.of (List.zipWith (fun a b => a + b) c d) (by simp; omega) (fun x => ?_)
  rw [ev_add c d x (by omega)]
  exact (c3 x).add (d3 x)
theorem Row.scale {n : Nat} {f : Int → Int} (b : Int) (h1 : Row n f) : Row n (fun x => b * f x) := by
  obtain ⟨c, c1, _, c3⟩ := h1
  refine Row.of (c.map fun a => b * a) (by simp; omega) (fun x => ?_)
  rw [ev_scale]
  exact (Cg.rfl (a := b)).mul (c3 x)
/-- Times (o - x) * w. -/
theorem Row.lin {n : Nat} {f : Int → Int} (o w : Int) (h1 : Row n f) : Row (n + 1) (fun x => (o - x) * w * f x) := by
  obtain ⟨c, c1, _, c3⟩ := h1
  have h2 : Row (n + 1) (fun x => o * w * f x) := by
    refine Row.of ((c.map fun a => o * w * a) ++ [0]) (by simp; omega) (fun x => ?_)
    rw [ev_snoc, ev_scale]
    exact (((Cg.rfl (a := o * w)).mul (c3 x)).add (Cg.of_eq (Int.zero_mul _))).trans (Cg.of_eq (by omega))
  have h3 : Row (n + 1) (fun x => x * ((0 - w) * f x)) := by
    refine Row.of (0 :: (c.map fun a => (0 - w) * a)) (by simp; omega) (fun x => ?_)
    simp only [ev]
    rw [ev_scale]
    exact ((Cg.rfl (a := (0 : Int))).add ((Cg.rfl (a := x)).mul ((Cg.rfl (a := 0 - w)).mul (c3 x)))).trans (Cg.of_eq (by omega))
  obtain ⟨d, d1, d2, d3⟩ := h2.add h3
  exact ⟨d, d1, d2, fun x => (d3 x).trans (Cg.of_eq (by grind))⟩
theorem Row.prod (g : Int → Int) : ∀ l : List Int, Row (l.length + 1) (fun x => pl (l.map fun o => (o - x) * g o))
  | [] => Row.of [1] rfl (fun x => Cg.of_eq (by simp [ev, pl]))
  | o :: l => by
    obtain ⟨c, c1, c2, c3⟩ := (Row.prod g l).lin o (g o)
    exact ⟨c, by simp only [List.length_cons]; omega, c2, fun x => (c3 x).trans (Cg.of_eq (by simp only [List.map_cons, pl]))⟩
theorem Row.wt (xs : List Int) (i : Nat) (hi : i < xs.length) : Row xs.length (wt xs i) := by
  have h := Row.prod (fun o => iv (o - xs.getD i 0)) (xs.eraseIdx i)
  rw [List.length_eraseIdx_of_lt hi, show xs.length - 1 + 1 = xs.length by omega] at h
  exact h
theorem Row.lsum (xs : List Int) : ∀ (ys : List Int) (i : Nat), i + ys.length ≤ xs.length → Row xs.length (fun x => lsum xs x ys i)
  | [], i, _ => Row.of (List.replicate xs.length 0) (by simp) (fun x => by
      rw [ev_zeros]
      exact Cg.rfl)
  | y :: ys, i, h => by
    simp only [List.length_cons] at h
    exact ((Row.wt xs i (by omega)).scale y).add (Row.lsum xs ys (i + 1) (by omega))
theorem lsum_get (xs : List Int) (hd : Far xs) (ys : List Int) (hl : ys.length = xs.length) (j : Nat) (hj : j < xs.length) : Cg (lsum xs xs[j] ys 0) (ys[j]'(by omega)) := by
  have h := lsum_at xs hd j hj ys 0 (by omega)
  rw [if_pos (Nat.zero_le j), Nat.sub_zero, List.getD_eq_getElem?_getD, List.getElem?_eq_getElem (by omega)] at h
  exact h
/-- Two rows' answers that meet at as many unlike places meet everywhere. -/
theorem Row.meet {n : Nat} {f g : Int → Int} (h1 : Row n f) (h2 : Row n g) (xs : List Int) (hx : n ≤ xs.length) (hd : Far xs) (hv : ∀ x ∈ xs, Cg (f x) (g x)) (z : Int) : Cg (f z) (g z) := by
  obtain ⟨c, c1, c2, c3⟩ := h1
  obtain ⟨d, d1, d2, d3⟩ := h2
  have e := ev_unique c d xs (by omega) (by omega) hd (fun x hx => ((c3 x).trans (hv x hx)).trans (d3 x).symm) c2 d2
  rw [e] at c3
  exact (c3 z).symm.trans (d3 z)
/-- The part that was made for a secret tells that secret. -/
theorem lsum_turn (xs ys : List Int) (hl : ys.length = xs.length) (p q s y : Int) (hq : Far (xs ++ [q])) (hp : Far (xs ++ [p])) (hy : Cg y (lsum (xs ++ [q]) p (ys ++ [s]) 0)) : Cg (lsum (xs ++ [p]) q (ys ++ [y]) 0) s := by
  have r1 := Row.lsum (xs ++ [p]) (ys ++ [y]) 0 (by simp; omega)
  have r2 := Row.lsum (xs ++ [q]) (ys ++ [s]) 0 (by simp; omega)
  have n1 : (xs ++ [p]).length = xs.length + 1 := by simp
  have n2 : (xs ++ [q]).length = xs.length + 1 := by simp
  rw [n1] at r1
  rw [n2] at r2
  have hm := Row.meet r1 r2 (xs ++ [p]) (by omega) hp (fun x hx => by
    obtain ⟨j, hj, rfl⟩ := List.mem_iff_getElem.1 hx
    have g1 := lsum_get (xs ++ [p]) hp (ys ++ [y]) (by simp; omega) j hj
    by_cases hjx : j < xs.length
    · have g2 := lsum_get (xs ++ [q]) hq (ys ++ [s]) (by simp; omega) j (by omega)
      rw [List.getElem_append_left (by omega)] at g1 g2
      rw [List.getElem_append_left (by omega : j < ys.length)] at g1 g2
      rw [List.getElem_append_left hjx]
      exact g1.trans g2.symm
    · have ej : j = xs.length := by omega
      subst ej
      have e1 : (ys ++ [y])[xs.length]'(by simp; omega) = y := by
        rw [List.getElem_append_right (by omega)]
        simp
      have e2 : (xs ++ [p])[xs.length]'(by simp) = p := by
        rw [List.getElem_append_right (by omega)]
        simp
      rw [e1, e2] at g1
      rw [e2]
      exact g1.trans hy) q
  refine hm.trans ?_
  have g3 := lsum_get (xs ++ [q]) hq (ys ++ [s]) (by simp; omega) xs.length (by simp)
  have e1 : (ys ++ [s])[xs.length]'(by simp; omega) = s := by
    rw [List.getElem_append_right (by omega)]
    simp
  have e2 : (xs ++ [q])[xs.length]'(by simp) = q := by
    rw [List.getElem_append_right (by omega)]
    simp
  rw [e1, e2] at g3
  exact g3
/-- The weights of some unlike numbers have the sum one. -/
theorem lsum_ones (xs : List Int) (hd : Far xs) (h0 : 0 < xs.length) (z : Int) : Cg (lsum xs z (List.replicate xs.length 1) 0) 1 := by
  have r1 := Row.lsum xs (List.replicate xs.length 1) 0 (by simp)
  have r2 : Row xs.length (fun _ => 1) := by
    refine Row.of (1 :: List.replicate (xs.length - 1) 0) (by simp; omega) (fun x => ?_)
    simp only [ev]
    rw [ev_zeros]
    exact Cg.of_eq (by omega)
  exact Row.meet r1 r2 xs (by omega) hd (fun x hx => by
    obtain ⟨j, hj, rfl⟩ := List.mem_iff_getElem.1 hx
    have g := lsum_get xs hd (List.replicate xs.length 1) (by simp) j hj
    rw [List.getElem_replicate] at g
    exact g) z

set_option maxHeartbeats 1000000
theorem clone_eq (l : List S46) (h : l.length ≤ 1048576) : impl_Part_53.f l = some l := by
  simp only [impl_Part_53.f]
  exact if_pos (by omega)
/-- The first place, from one on, that is not taken. -/
theorem free_ex (xs : List Int) (h9 : xs.length ≤ 8) : ∃ n : Nat, 1 ≤ n ∧ n ≤ 9 ∧ ((n : Int) ∉ xs) ∧ ∀ m : Nat, 1 ≤ m → m < n → (m : Int) ∈ xs := by
  have key : ∀ (d m : Nat), (∀ j : Nat, 1 ≤ j → j < m → (j : Int) ∈ xs) → 1 ≤ m → m + d = 10 → ∃ n : Nat, 1 ≤ n ∧ n ≤ 9 ∧ ((n : Int) ∉ xs) ∧ ∀ m : Nat, 1 ≤ m → m < n → (m : Int) ∈ xs := by
    intro d
    induction d with
    | zero =>
      intro m hm h1 hd
      have h2 : ((List.range 9).map fun j : Nat => ((j : Int) + 1)).Nodup := by decide
      have h3 := h2.length_le_of_subset (l₂ := xs) (fun a ha => by
        obtain ⟨j, hj, rfl⟩ := List.mem_map.1 ha
        have := List.mem_range.1 hj
        exact_mod_cast hm (j + 1) (by omega) (by omega))
      rw [List.length_map, List.length_range] at h3
      omega
    | succ d ih =>
      intro m hm h1 hd
      by_cases h : (m : Int) ∈ xs
      · exact ih (m + 1) (fun j hj hjm => by
          by_cases e : j = m
          · rw [e]
            exact h
          · exact hm j hj (by omega)) (by omega) (by omega)
      · exact ⟨m, h1, by omega, h, hm⟩
  exact key 9 1 (fun j h1 h2 => by omega) (by omega) (by omega)
theorem xs_snoc (l : List S46) (p : S46) : xsOf (l ++ [p]) = xsOf l ++ [p.f0] := List.map_append ..
theorem ys_snoc (l : List S46) (p : S46) : ysOf (l ++ [p]) = ysOf l ++ [p.f1] := List.map_append ..
theorem far_snoc {xs : List Int} {z : Int} (h : Far xs) (hr : ∀ x ∈ xs, 0 ≤ x ∧ x ≤ 1498) (hz : 0 ≤ z ∧ z ≤ 1498) (hn : z ∉ xs) : Far (xs ++ [z]) := by
  refine List.pairwise_append.2 ⟨h, by simp, fun a ha b hb hc => ?_⟩
  rw [List.mem_singleton.1 hb] at hc
  have h1 := hr a ha
  rw [hc.eq (by omega) (by omega)] at ha
  exact hn ha
theorem far_cons {xs : List Int} {z : Int} (h : Far xs) (hr : ∀ x ∈ xs, 0 ≤ x ∧ x ≤ 1498) (hz : 0 ≤ z ∧ z ≤ 1498) (hn : z ∉ xs) : Far (z :: xs) := by
  refine List.pairwise_cons.2 ⟨fun a ha hc => ?_, h⟩
  have h1 := hr a ha
  rw [← hc.eq (by omega) (by omega)] at ha
  exact hn ha
/-- The order of the places does not matter. -/
theorem lsum_rot (xs ys : List Int) (hl : ys.length = xs.length) (q s : Int) (h1 : Far (q :: xs)) (h2 : Far (xs ++ [q])) (z : Int) : Cg (lsum (q :: xs) z (s :: ys) 0) (lsum (xs ++ [q]) z (ys ++ [s]) 0) := by
  have r1 := Row.lsum (q :: xs) (s :: ys) 0 (by simp; omega)
  have r2 := Row.lsum (xs ++ [q]) (ys ++ [s]) 0 (by simp; omega)
  have n2 : (xs ++ [q]).length = (q :: xs).length := by simp
  rw [n2] at r2
  refine Row.meet r1 r2 (q :: xs) (by omega) h1 (fun x hx => ?_) z
  obtain ⟨j, hj, rfl⟩ := List.mem_iff_getElem.1 hx
  have g1 := lsum_get (q :: xs) h1 (s :: ys) (by simp; omega) j hj
  cases j with
  | zero =>
    have g2 := lsum_get (xs ++ [q]) h2 (ys ++ [s]) (by simp; omega) xs.length (by simp)
    have e1 : (ys ++ [s])[xs.length]'(by simp; omega) = s := by
      rw [List.getElem_append_right (by omega)]
      simp
    have e2 : (xs ++ [q])[xs.length]'(by simp) = q := by
      rw [List.getElem_append_right (by omega)]
      simp
    rw [e1, e2] at g2
    exact g1.trans g2.symm
  | succ j =>
    simp only [List.length_cons] at hj
    have g2 := lsum_get (xs ++ [q]) h2 (ys ++ [s]) (by simp; omega) j (by simp; omega)
    rw [List.getElem_append_left (by omega : j < ys.length), List.getElem_append_left (by omega : j < xs.length)] at g2
    exact g1.trans g2.symm
def Fits (l : List S46) (s : Int) (n : Nat) (r : Int × Int × Bool) : Prop := r.1 = (n : Int) ∧ r.2.2 = true ∧ (0 ≤ r.2.1 ∧ r.2.1 < 1499) ∧ Cg r.2.1 (lsum (xsOf l ++ [0]) (n : Int) (ysOf l ++ [s]) 0)
def Free (xs : List Int) (n : Nat) : Prop := 1 ≤ n ∧ n ≤ 9 ∧ ((n : Int) ∉ xs) ∧ ∀ m : Nat, 1 ≤ m → m < n → (m : Int) ∈ xs
theorem prt_zero {l : List S46} (h : prtB l = true) : (0 : Int) ∉ xsOf l := fun h0 => by
  have := (unlB_true (prtB_true h).1).2.2 0 h0
  omega
theorem implFits_l0 (l : List S46) (h : prtB l = true) (h8 : l.length ≠ 8) (s : Int) (hs : 0 ≤ s ∧ s ≤ 1498) (n : Nat) (hn : Free (xsOf l) n) : ∀ (d m : Nat), m + d = n → 1 ≤ m → Tot (fun k => impl_SecretFits.l0 k l s (m : Int)) (Fits l s n) := by
  obtain ⟨h1, h2, h3, h4, h5⟩ := prt_small h
  intro d
  induction d with
  | zero =>
    intro m hm hm1
    have e : m = n := by omega
    subst e
    refine Tot.up ?_
    simp only [impl_SecretFits.l0]
    refine Tot.bind (places_tot l (by omega)) (fun y1 e1 => ?_)
    subst e1
    refine Tot.bind (Tot.at_ (l.length + 1) rfl (fun k hk => contains_eq (xsOf l) (by rw [xsOf_length]; omega) (m : Int) k (by rw [xsOf_length]; omega))) (fun y2 e2 => ?_)
    subst e2
    refine Tot.neg (by simp only [decide_eq_true_eq]; exact hn.2.2.1) ?_
    simp only [clone_eq l (by omega), Option.bind_some]
    refine Tot.pos (by omega) (Tot.bind (through_tot (l ++ [⟨0, s⟩]) ?_ ?_ (m : Int) (by have := hn.2.1; omega)) (fun y3 h6 => Tot.some_ ⟨rfl, rfl, h6.1, ?_⟩))
    · rw [xs_snoc]
      refine ⟨by rw [List.length_append, List.length_singleton, xsOf_length]; omega, fun x hx => ?_⟩
      rcases List.mem_append.1 hx with h7 | h7
      · exact h1.2 x h7
      · rw [List.mem_singleton.1 h7]
        simp
    · rw [ys_snoc]
      intro y hy
      rcases List.mem_append.1 hy with h7 | h7
      · exact h3 y h7
      · rw [List.mem_singleton.1 h7]
        exact hs
    · have h7 := h6.2
      rw [xs_snoc, ys_snoc] at h7
      exact h7
  | succ d ih =>
    intro m hm hm1
    refine Tot.up ?_
    simp only [impl_SecretFits.l0]
    refine Tot.bind (places_tot l (by omega)) (fun y1 e1 => ?_)
    subst e1
    refine Tot.bind (Tot.at_ (l.length + 1) rfl (fun k hk => contains_eq (xsOf l) (by rw [xsOf_length]; omega) (m : Int) k (by rw [xsOf_length]; omega))) (fun y2 e2 => ?_)
    subst e2
    refine Tot.pos (by simp only [decide_eq_true_eq]; exact hn.2.2.2 m hm1 (by omega)) ?_
    have := hn.2.1
    rw [w64 (n := (m : Int) + 1) (by omega) (by omega)]
    exact ih (m + 1) (by omega) (by omega)
theorem specFits_l1 (l : List S46) (s : Int) (hs : 0 ≤ s ∧ s ≤ 1498) (hy : ∀ y ∈ ysOf l, 0 ≤ y ∧ y ≤ 1498) (hl8 : l.length ≤ 8) (n : Int) (ws : List Int) (hw : ws.length = l.length + 1 ∧ ∀ i, (h : i < ws.length) → (0 ≤ ws[i] ∧ ws[i] < 1499) ∧ Cg ws[i] (wt (0 :: xsOf l) i n)) :
    ∀ (d j : Nat) (v : Int), ws.length - j = d → j ≤ ws.length → (0 ≤ v ∧ v < 1499) → Cg v (lsum (0 :: xsOf l) n ((s :: ysOf l).take j) 0) →
      Tot (fun k => spec_SecretFits.l1 k l s n v ws (ws.length : Int) (j : Int)) (fun y => y.1 = n ∧ y.2.2 = true ∧ (0 ≤ y.2.1 ∧ y.2.1 < 1499) ∧ Cg y.2.1 (lsum (0 :: xsOf l) n (s :: ysOf l) 0)) := by
  have hyl := ysOf_length l
  intro d
  induction d with
  | zero =>
    intro j v hd hj hv hc
    rw [List.take_of_length_le (by rw [List.length_cons]; omega)] at hc
    refine Tot.up ?_
    simp only [spec_SecretFits.l1]
    exact Tot.neg (by omega) (Tot.some_ ⟨rfl, rfl, hv, hc⟩)
  | succ d ih =>
    intro j v hd hj hv hc
    have hlt : j < ws.length := by omega
    have hz := hw.2 j hlt
    have go : ∀ u : Int, (hu : u = (s :: ysOf l)[j]'(by rw [List.length_cons]; omega)) → (0 ≤ u ∧ u < 1499) → Tot (fun k => spec_SecretFits.l1 k l s n (Int.tmod (wrap64 (v + wrap64 (ws[j] * u))) 1499) ws (ws.length : Int) ((j : Int) + 1)) (fun y => y.1 = n ∧ y.2.2 = true ∧ (0 ≤ y.2.1 ∧ y.2.1 < 1499) ∧ Cg y.2.1 (lsum (0 :: xsOf l) n (s :: ysOf l) 0)) := by
      intro u hu hur
      have hm := addC v hz.1 hur hv hz.2 Cg.rfl
      refine ih (j + 1) _ (by omega) (by omega) hm.1 ?_
      have hlc : min j (s :: ysOf l).length = j := by
        rw [List.length_cons]
        omega
      rw [List.take_succ_eq_append_getElem (by rw [List.length_cons]; omega), lsum_snoc, List.length_take, hlc, Nat.zero_add, ← hu]
      exact hm.2.trans (hc.add (Cg.of_eq (Int.mul_comm _ _)))
    refine Tot.up ?_
    simp only [spec_SecretFits.l1]
    rw [rd_in ws j hlt, w64 (n := (j : Int) + 1) (by omega) (by omega)]
    refine Tot.pos (by omega) (Tot.pos (by omega) (Tot.pos (by omega) ?_))
    cases j with
    | zero =>
      refine Tot.neg (by omega) (go s rfl (by omega))
    | succ j =>
      have hyj : (ysOf l)[j]'(by omega) = l[j].f1 := by simp [ysOf]
      have hyr := hy _ (List.getElem_mem (show j < (ysOf l).length by omega))
      rw [hyj] at hyr
      rw [w64 (n := ((j + 1 : Nat) : Int) - 1) (by omega) (by omega), show ((j + 1 : Nat) : Int) - 1 = (j : Int) by omega, rdP l j (by omega)]
      exact Tot.pos (by omega) (Tot.pos (by omega) (Tot.pos (by omega) (go l[j].f1 (by rw [List.getElem_cons_succ, hyj]) (by omega))))
theorem specFits_l0 (l : List S46) (h : prtB l = true) (h8 : l.length ≠ 8) (s : Int) (hs : 0 ≤ s ∧ s ≤ 1498) (n : Nat) (hn : Free (xsOf l) n) : ∀ (d m : Nat), m + d = n → 1 ≤ m → Tot (fun k => spec_SecretFits.l0 k l s (xsOf l) (m : Int)) (Fits l s n) := by
  obtain ⟨h1, h2, h3, h4, h5⟩ := prt_small h
  have hxl := xsOf_length l
  intro d
  induction d with
  | zero =>
    intro m hm hm1
    have e : m = n := by omega
    subst e
    refine Tot.up ?_
    simp only [spec_SecretFits.l0, Option.bind_some]
    refine Tot.bind (Tot.at_ (l.length + 1) rfl (fun k hk => l1Has_eq (xsOf l) (by rw [xsOf_length]; omega) (m : Int) k (by rw [xsOf_length]; omega))) (fun y2 e2 => ?_)
    subst e2
    refine Tot.neg (by simp only [decide_eq_true_eq]; exact hn.2.2.1) ?_
    refine Tot.pos (by simp only [List.length_singleton]; omega) (Tot.bind (at_tot (0 :: xsOf l) ?_ (m : Int) (by have := hn.2.1; omega)) (fun ws hw => ?_))
    · refine ⟨by rw [List.length_cons, xsOf_length]; omega, fun x hx => ?_⟩
      rcases List.mem_cons.1 hx with h7 | h7
      · rw [h7]
        simp
      · exact h1.2 x h7
    · rw [List.length_cons, hxl] at hw
      refine (specFits_l1 l s hs h3 (by omega) (m : Int) ws hw ws.length 0 0 (by omega) (by omega) (by omega) (by simp [lsum, Cg.rfl])).imp (fun y hy => ⟨hy.1, hy.2.1, hy.2.2.1, hy.2.2.2.trans ?_⟩)
      exact lsum_rot (xsOf l) (ysOf l) (by rw [xsOf_length, ysOf_length]) 0 s (far_cons h2 h1.2 (by omega) (prt_zero h)) (far_snoc h2 h1.2 (by omega) (prt_zero h)) _
  | succ d ih =>
    intro m hm hm1
    refine Tot.up ?_
    simp only [spec_SecretFits.l0, Option.bind_some]
    refine Tot.bind (Tot.at_ (l.length + 1) rfl (fun k hk => l1Has_eq (xsOf l) (by rw [xsOf_length]; omega) (m : Int) k (by rw [xsOf_length]; omega))) (fun y2 e2 => ?_)
    subst e2
    refine Tot.pos (by simp only [decide_eq_true_eq]; exact hn.2.2.2 m hm1 (by omega)) ?_
    have := hn.2.1
    rw [w64 (n := (m : Int) + 1) (by omega) (by omega)]
    exact ih (m + 1) (by omega) (by omega)
theorem Fits.same {l : List S46} {s : Int} {n : Nat} {a b : Int × Int × Bool} (ha : Fits l s n a) (hb : Fits l s n b) : a = b := by
  obtain ⟨a1, a2, a3⟩ := a
  obtain ⟨b1, b2, b3⟩ := b
  obtain ⟨h1, h2, h3, h4⟩ := ha
  obtain ⟨h5, h6, h7, h8⟩ := hb
  simp only at h1 h2 h3 h4 h5 h6 h7 h8
  rw [h1, h2, h5, h6, (h4.trans h8.symm).eq h3 h7]
def fitB (l : List S46) (s : Int) : Bool := prtB l && (!decide ((l.length : Int) = 8) && decide (0 ≤ s ∧ s ≤ 1498))
theorem fitB_true {l : List S46} {s : Int} (h : fitB l s = true) : prtB l = true ∧ l.length ≠ 8 ∧ (0 ≤ s ∧ s ≤ 1498) := by
  unfold fitB at h
  rw [Bool.and_eq_true, Bool.and_eq_true, decide_eq_true_iff, Bool.not_eq_true', decide_eq_false_iff_not] at h
  exact ⟨h.1, by omega, h.2.2⟩
theorem fits_same (l : List S46) (hl : l.length ≤ 1048576) (n : Nat) (hn : prtB l = true → Free (xsOf l) n) (s : Int) : ∃ r : Int × Int × Bool, r.2.2 = fitB l s ∧ (r.2.2 = true → Fits l s n r) ∧
    Tot (fun k => impl_SecretFits.f k l s) (fun y => y = r) ∧ Tot (fun k => spec_SecretFits.f k l s) (fun y => y = r) := by
  simp only [impl_SecretFits.f, spec_SecretFits.f, impl_isValue.f, spec_l5Field.f, within_eq, l1In_eq, Option.bind_some]
  have bi : Tot (fun k => impl_SecretFits.j0 k l s true) (fun y => y = ((0, 0, false) : Int × Int × Bool)) := by
    refine Tot.up ?_
    simp only [impl_SecretFits.j0]
    exact Tot.pos trivial (Tot.some_ rfl)
  have bs : Tot (fun k => spec_SecretFits.j0 k l s true) (fun y => y = ((0, 0, false) : Int × Int × Bool)) := by
    refine Tot.up ?_
    simp only [spec_SecretFits.j0]
    exact Tot.pos trivial (Tot.some_ rfl)
  by_cases h : prtB l = true
  · by_cases h8 : (l.length : Int) = 8
    · refine ⟨(0, 0, false), by unfold fitB; rw [decide_eq_true h8]; simp, (fun h2 => by cases h2), ?_, ?_⟩
      · exact Tot.bind (implParts_tot l hl) (fun y1 e1 => Tot.pos (e1.trans h) (Tot.pos h8 bi))
      · exact Tot.bind (specParts_tot l hl) (fun y1 e1 => Tot.pos (e1.trans h) (Tot.pos h8 bs))
    · by_cases hs : 0 ≤ s ∧ s ≤ 1498
      · have hf := hn h
        obtain ⟨v, hv, ht⟩ := (implFits_l0 l h (by omega) s hs n hf (n - 1) 1 (by have := hf.1; omega) (by omega)).val
        have hs2 := (specFits_l0 l h (by omega) s hs n hf (n - 1) 1 (by have := hf.1; omega) (by omega)).imp (R := fun y => y = v) (fun y hy => hy.same hv)
        refine ⟨v, by unfold fitB; rw [h, decide_eq_false h8, decide_eq_true hs, hv.2.1]; rfl, fun _ => hv, ?_, ?_⟩
        · refine Tot.bind (implParts_tot l hl) (fun y1 e1 => Tot.pos (e1.trans h) (Tot.neg h8 ?_))
          rw [decide_eq_true hs]
          refine Tot.up ?_
          simp only [impl_SecretFits.j0]
          exact Tot.neg (by simp) ht
        · refine Tot.bind (specParts_tot l hl) (fun y1 e1 => Tot.pos (e1.trans h) (Tot.neg h8 ?_))
          rw [decide_eq_true hs]
          refine Tot.up ?_
          simp only [spec_SecretFits.j0]
          exact Tot.neg (by simp) (Tot.bind (split_tot l hl) (fun y2 e2 => by
            subst e2
            exact hs2))
      · refine ⟨(0, 0, false), by unfold fitB; rw [decide_eq_false hs]; simp, (fun h2 => by cases h2), ?_, ?_⟩
        · refine Tot.bind (implParts_tot l hl) (fun y1 e1 => Tot.pos (e1.trans h) (Tot.neg h8 ?_))
          rw [decide_eq_false hs]
          exact bi
        · refine Tot.bind (specParts_tot l hl) (fun y1 e1 => Tot.pos (e1.trans h) (Tot.neg h8 ?_))
          rw [decide_eq_false hs]
          exact bs
  · rw [Bool.not_eq_true] at h
    refine ⟨(0, 0, false), by unfold fitB; rw [h]; rfl, (fun h2 => by cases h2), ?_, ?_⟩
    · exact Tot.bind (implParts_tot l hl) (fun y1 e1 => Tot.neg (by rw [e1, h]; simp) bi)
    · exact Tot.bind (specParts_tot l hl) (fun y1 e1 => Tot.neg (by rw [e1, h]; simp) bs)
/-- What was made for a secret, put to the parts, tells the secret. -/
theorem fits_join (l : List S46) (s : Int) (n : Nat) (r : Int × Int × Bool) (h : fitB l s = true) (hn : Free (xsOf l) n) (hr : Fits l s n r) : Tot (fun k => impl_JoinParts.f k (l ++ [⟨r.1, r.2.1⟩])) (fun y => y = (s, true)) := by
  obtain ⟨h0, h8, hs⟩ := fitB_true h
  obtain ⟨h1, h2, h3, h4, h5⟩ := prt_small h0
  obtain ⟨r1, r2, r3, r4⟩ := hr
  have hn2 := hn.2.1
  have hx : xsOf (l ++ [⟨r.1, r.2.1⟩]) = xsOf l ++ [(n : Int)] := by rw [xs_snoc, r1]
  have hy : ysOf (l ++ [⟨r.1, r.2.1⟩]) = ysOf l ++ [r.2.1] := ys_snoc _ _
  have hg : prtB (l ++ [⟨r.1, r.2.1⟩]) = true := by
    obtain ⟨u1, u2⟩ := prtB_true h0
    obtain ⟨u3, u4, u5⟩ := unlB_true u1
    rw [xsOf_length] at u4
    unfold prtB unlB
    rw [hx, hy, Bool.and_eq_true, decide_eq_true_iff, decide_eq_true_iff]
    refine ⟨⟨?_, by rw [List.length_append, List.length_singleton, xsOf_length]; omega, fun x h6 => ?_⟩, fun y h6 => ?_⟩
    · have hp : (xsOf l ++ [(n : Int)]).Perm ((n : Int) :: xsOf l) := List.perm_append_comm
      rw [hp.nodup_iff, List.nodup_cons]
      exact ⟨hn.2.2.1, u3⟩
    · rcases List.mem_append.1 h6 with h7 | h7
      · exact u5 x h7
      · rw [List.mem_singleton.1 h7]
        have := hn.1
        omega
    · rcases List.mem_append.1 h6 with h7 | h7
      · exact h3 y h7
      · rw [List.mem_singleton.1 h7]
        omega
  obtain ⟨v, v1, v2, v3, _⟩ := thr_same (l ++ [⟨r.1, r.2.1⟩]) (by rw [List.length_append, List.length_singleton]; omega) 0
  have v4 : v.2 = true := by rw [v1, hg]; simp
  have v5 := v2 v4
  have hc := v5.2
  rw [hx, hy] at hc
  have ht := lsum_turn (xsOf l) (ysOf l) (by rw [xsOf_length, ysOf_length]) (n : Int) 0 s r.2.1 (far_snoc h2 h1.2 (by omega) (prt_zero h0)) (far_snoc h2 h1.2 (by omega) hn.2.2.1) r4
  have e : v = (s, true) := Prod.ext ((hc.trans ht).eq v5.1 (by omega)) v4
  simp only [impl_JoinParts.f]
  exact Tot.bind v3 (fun y ey => Tot.some_ (by rw [ey, e]))
def WOk (xs w : List Int) : Prop := w.length = xs.length ∧ ∀ i, (h : i < w.length) → (0 ≤ w[i] ∧ w[i] < 1499) ∧ Cg w[i] (wt xs i 0)
theorem WOk.same {xs a b : List Int} (ha : WOk xs a) (hb : WOk xs b) : a = b :=
  List.ext_getElem (by rw [ha.1, hb.1]) (fun i h1 h2 => ((ha.2 i h1).2.trans (hb.2 i h2).2.symm).eq (ha.2 i h1).1 (hb.2 i h2).1)
theorem weights_l0 (xs : List Int) (hs : Small xs) : ∀ (d i : Nat) (out : List Int), xs.length - i = d → i ≤ xs.length → (out.length = i ∧ ∀ j, (h : j < out.length) → (0 ≤ out[j] ∧ out[j] < 1499) ∧ Cg out[j] (wt xs j 0)) →
    Tot (fun k => impl_WeightsOf.l0 k xs out (xs.length : Int) (i : Int)) (fun y => y.2 = true ∧ WOk xs y.1) := by
  have h9 := hs.1
  intro d
  induction d with
  | zero =>
    intro i out hd hi ho
    refine Tot.up ?_
    simp only [impl_WeightsOf.l0]
    exact Tot.neg (by omega) (Tot.some_ ⟨rfl, (by have := ho.1; show out.length = xs.length; omega), ho.2⟩)
  | succ d ih =>
    intro i out hd hi ho
    have hlt : i < xs.length := by omega
    refine Tot.up ?_
    simp only [impl_WeightsOf.l0]
    rw [w64 (n := (i : Int) + 1) (by omega) (by omega)]
    refine Tot.pos (by omega) (Tot.bind (weight_tot xs hs i hlt 0 (by omega)) (fun y hy => Tot.pos (by have := ho.1; omega) (ih (i + 1) _ (by omega) (by omega) ⟨by rw [List.length_append, List.length_singleton, ho.1], fun j h => ?_⟩)))
    by_cases e : j < out.length
    · have := ho.2 j e
      rw [List.getElem_append_left e]
      exact this
    · have e2 : j = i := by
        rw [List.length_append, List.length_singleton] at h
        have := ho.1
        omega
      subst e2
      have e3 : (out ++ [y])[j] = y := by
        rw [List.getElem_append_right (by omega)]
        simp
      rw [e3]
      exact hy
theorem weights_same (xs : List Int) (hl : xs.length ≤ 1048576) : ∃ r : List Int × Bool, r.2 = unlB xs ∧ r.1.length ≤ 8 ∧ (unlB xs = true → WOk xs r.1) ∧
    Tot (fun k => impl_WeightsOf.f k xs) (fun y => y = r) ∧ Tot (fun k => spec_WeightsOf.f k xs) (fun y => y = r) := by
  by_cases h : unlB xs = true
  · obtain ⟨h1, h2, h3⟩ := unlB_true h
    have hs : Small xs := ⟨by omega, fun x hx => by have := h3 x hx; omega⟩
    obtain ⟨v, hv, ht⟩ := (weights_l0 xs hs xs.length 0 [] (by omega) (by omega) ⟨rfl, fun j h => by simp at h⟩).val
    refine ⟨v, by rw [hv.1, h], by rw [hv.2.1]; omega, fun _ => hv.2, ?_, ?_⟩
    · simp only [impl_WeightsOf.f]
      exact Tot.bind (unlike_tot xs hl) (fun y1 e1 => Tot.pos (e1.trans h) ht)
    · simp only [spec_WeightsOf.f]
      exact Tot.bind (xs_tot xs hl) (fun y1 e1 => Tot.pos (e1.trans h) (Tot.bind (at_tot xs hs 0 (by omega)) (fun y2 h4 => Tot.some_ (Prod.ext (WOk.same h4 hv.2) hv.1.symm))))
  · rw [Bool.not_eq_true] at h
    refine ⟨([], false), h.symm, by simp, (fun h2 => by rw [h] at h2; cases h2), ?_, ?_⟩
    · simp only [impl_WeightsOf.f]
      exact Tot.bind (unlike_tot xs hl) (fun y1 e1 => Tot.neg (by rw [e1, h]; simp) (Tot.some_ rfl))
    · simp only [spec_WeightsOf.f]
      exact Tot.bind (xs_tot xs hl) (fun y1 e1 => Tot.neg (by rw [e1, h]; simp) (Tot.some_ rfl))
theorem value_impl (c : List Int) (hl : c.length ≤ 1048576) (x : Int) (h : plyB c = true) (hx : 0 ≤ x ∧ x ≤ 1498) : Tot (fun k => impl_ValueAt.f k c x) (fun r => r.2 = true ∧ (0 ≤ r.1 ∧ r.1 < 1499) ∧ Cg r.1 (ev c x)) := by
  simp only [impl_ValueAt.f, impl_isValue.f, within_eq, Option.bind_some]
  obtain ⟨h1, h2, h3⟩ := plyB_true h
  exact Tot.bind (implPoly_tot c hl) (fun y1 e1 => Tot.pos (e1.trans h) (Tot.pos (decide_eq_true hx) (Tot.bind (implValue_tot c (by omega) h3 x hx) (fun y2 e2 => Tot.some_ ⟨rfl, e2⟩))))
theorem j2_tot (l : List S46) (c : List Int) (b : Bool) (hb : b = true → prtB l = true ∧ Red c ∧ c.length = l.length ∧ ∀ x, Cg (ev c x) (lsum (xsOf l) x (ysOf l) 0)) : Tot (fun k => laws_FnHidden.j2 k l c b) (fun y => y = true) := by
  refine Tot.up ?_
  simp only [laws_FnHidden.j2]
  refine Tot.ite (fun h => ?_) (fun _ => Tot.some_ rfl)
  obtain ⟨h1, h2, h3, h4⟩ := hb h
  obtain ⟨h5, h6, h7, h8, h9⟩ := prt_small h1
  have hpl : plyB c = true := decide_eq_true ⟨by omega, fun a ha => by have := h2 a ha; omega⟩
  have hxl := xsOf_length l
  have hyl := ysOf_length l
  have key : ∀ (d i : Nat), l.length - i = d → i ≤ l.length → Tot (fun k => laws_FnHidden.l1 k l c (l.length : Int) (i : Int)) (fun y => y = true) := by
    intro d
    induction d with
    | zero =>
      intro i hd hi
      refine Tot.up ?_
      simp only [laws_FnHidden.l1]
      exact Tot.neg (by omega) (Tot.some_ rfl)
    | succ d ih =>
      intro i hd hi
      have hlt : i < l.length := by omega
      have hx := h5.2 _ (List.getElem_mem (show i < (xsOf l).length by omega))
      have hy := h7 _ (List.getElem_mem (show i < (ysOf l).length by omega))
      have hxi : (xsOf l)[i]'(by omega) = l[i].f0 := by simp [xsOf]
      have hyi : (ysOf l)[i]'(by omega) = l[i].f1 := by simp [ysOf]
      have hg := lsum_get (xsOf l) h6 (ysOf l) (by omega) i (by omega)
      rw [hxi] at hx hg
      rw [hyi] at hy hg
      have r3 := value_impl c (by omega) l[i].f0 hpl hx
      refine Tot.up ?_
      simp only [laws_FnHidden.l1]
      rw [rdP l i hlt, w64 (n := (i : Int) + 1) (by omega) (by omega)]
      refine Tot.pos (by omega) (Tot.pos (by omega) (Tot.pos (by omega) (Tot.bind r3 (fun y r5 => ?_))))
      exact Tot.pos r5.1 (Tot.pos ((r5.2.2.trans ((h4 _).trans hg)).eq r5.2.1 (by omega)) (ih (i + 1) (by omega) (by omega)))
  exact key l.length 0 (by omega) (by omega)
theorem l0_tot (l : List S46) (c : List Int) (b : Bool) (xs w : List Int) (hu : unlB xs = true) (hw : WOk xs w) (hj : Tot (fun k => laws_FnHidden.j2 k l c b) (fun y => y = true)) :
    ∀ (d i : Nat) (n : Int), w.length - i = d → i ≤ w.length → (0 ≤ n ∧ n < 1499) → Cg n (lsum xs 0 (List.replicate i 1) 0) → Tot (fun k => laws_FnHidden.l0 k l c b w n (w.length : Int) (i : Int)) (fun y => y = true) := by
  obtain ⟨h1, h2, h3⟩ := unlB_true hu
  have hf : Far xs := far_of h1 (fun x hx => by have := h3 x hx; omega)
  have hwl := hw.1
  intro d
  induction d with
  | zero =>
    intro i n hd hi hn hc
    have e : i = xs.length := by omega
    rw [e] at hc
    have h4 : n = 1 := (hc.trans (lsum_ones xs hf (by omega) 0)).eq hn (by omega)
    refine Tot.up ?_
    simp only [laws_FnHidden.l0]
    exact Tot.neg (by omega) (Tot.pos h4 hj)
  | succ d ih =>
    intro i n hd hi hn hc
    have hlt : i < w.length := by omega
    obtain ⟨h4, h5⟩ := hw.2 i hlt
    refine Tot.up ?_
    simp only [laws_FnHidden.l0]
    rw [rd_in w i hlt, w64 (n := (i : Int) + 1) (by omega) (by omega), w64 (n := n + w[i]) (by omega) (by omega), Int.tmod_eq_emod_of_nonneg (by omega)]
    refine Tot.pos (by omega) (Tot.pos (by omega) (Tot.pos (by omega) (ih (i + 1) _ (by omega) (by omega) (by omega) ?_)))
    rw [List.replicate_succ', lsum_snoc, List.length_replicate, Nat.zero_add]
    exact (Cg.mod _).trans (hc.add (h5.trans (Cg.of_eq (by omega))))
theorem j0_tot (c : List Int) (hc : Bytes c) : Tot (fun k => laws_FnHidden.j0 k c) (fun y => y = true) := by
  refine Tot.up ?_
  simp only [laws_FnHidden.j0, spec_DrawThroughParts.f, spec_DrawPolyThrough.f, spec_DrawJoinParts.f, spec_DrawWeightsOf.f]
  refine Tot.bind (Q := fun y => y.1.length ≤ 8) (Tot.bind (parts_draw c hc 0 0 (by omega)) (fun y1 h1 => Tot.bind (Tot.fix (among_tot c hc _ _ _ (by omega) (by simp) (by simp))) (fun y2 h2 => Tot.some_ h1.1))) (fun a ha => ?_)
  obtain ⟨r, _, _, r3, r4⟩ := thr_same a.1 (by omega) a.2
  refine Tot.bind r3 (fun y1 e1 => Tot.bind r4 (fun y2 e2 => ?_))
  rw [e1, e2]
  refine Tot.bind (Q := fun y : List S46 => y.length ≤ 8) (Tot.bind (Tot.bind (parts_draw c hc 0 0 (by omega)) (fun y1 h1 => Tot.some_ (Q := fun y : List S46 => y.length ≤ 8) h1.1)) (fun y1 h1 => Tot.some_ h1)) (fun l hl => ?_)
  obtain ⟨p, p1, p2, p3, p4, p5⟩ := poly_same l (by omega)
  refine Tot.bind p4 (fun y3 e3 => Tot.bind p5 (fun y4 e4 => ?_))
  rw [e3, e4]
  refine Tot.bind (Q := fun y : List Int => y.length ≤ 8) (Tot.bind (parts_draw c hc 0 0 (by omega)) (fun y1 h1 => Tot.bind (split_tot y1.1 (by omega)) (fun y2 h2 => Tot.some_ (by rw [h2]; simp only [xsOf_length]; omega)))) (fun xs hx => ?_)
  obtain ⟨w, w1, w2, w3, w4, w5⟩ := weights_same xs (by omega)
  refine Tot.bind w4 (fun y5 e5 => Tot.bind w5 (fun y6 e6 => ?_))
  rw [e5, e6]
  have hj : Tot (fun k => laws_FnHidden.j2 k l p.1 p.2) (fun y => y = true) := j2_tot l p.1 p.2 (fun h => by
    have h1 := p1.symm.trans h
    exact ⟨h1, p3 h1⟩)
  refine Tot.neg (by simp) (Tot.pos rfl (Tot.neg (by simp) (Tot.bind (sameInts_self p.1 (by omega)) (fun y7 e7 => Tot.pos e7 (Tot.neg (by simp) (Tot.bind (sameInts_self w.1 (by omega)) (fun y8 e8 => Tot.pos e8 (Tot.ite (fun h => ?_) (fun _ => hj)))))))))
  have hu := w1.symm.trans h
  exact l0_tot l p.1 p.2 xs w.1 hu (w3 hu) hj w.1.length 0 0 (by omega) (by omega) (by omega) (by simp [lsum, Cg.rfl])
theorem FnHidden : laws_FnHidden.Pure := by
  intro l0 l1 hm0 hx0 hw0 hm1 hx1 hw1
  have hmx : maxLen = 9223372036854775807 := rfl
  refine Tot.ex ?_
  simp only [laws_FnHidden.f]
  rw [w64 (n := (l0.length : Int) + (l1.length : Int)) (by omega) (by omega)]
  refine Tot.ite (fun _ => Tot.some_ rfl) (fun hlen => ?_)
  have hb0 : Bytes l0 := bytes_of (by omega) hw0
  have hb1 : Bytes l1 := bytes_of (by omega) hw1
  simp only [spec_DrawSecretFits.f]
  refine Tot.bind (Q := fun y => y.1.length ≤ 8) (Tot.bind (parts_draw l0 hb0 0 0 (by omega)) (fun y1 h1 => Tot.bind (Tot.fix (among_tot l0 hb0 _ _ _ (by omega) (by simp) (by simp))) (fun y2 h2 => Tot.some_ h1.1))) (fun y hy => ?_)
  obtain ⟨l, s⟩ := y
  simp only at hy ⊢
  obtain ⟨n, hn1, hn2, hn3, hn4⟩ := free_ex (xsOf l) (by rw [xsOf_length]; exact hy)
  have hfree : Free (xsOf l) n := ⟨hn1, hn2, hn3, hn4⟩
  obtain ⟨r, r1, r2, r3, r4⟩ := fits_same l (by omega) n (fun _ => hfree) s
  refine Tot.bind r3 (fun y1 e1 => Tot.bind r4 (fun y2 e2 => ?_))
  rw [e1, e2]
  refine Tot.neg (by simp) (Tot.neg (by simp) (Tot.ite (fun hok => ?_) (fun _ => j0_tot l1 hb1)))
  have hfb := r1.symm.trans hok
  obtain ⟨g1, g2, g3⟩ := fitB_true hfb
  refine Tot.bind (Tot.some_ (Q := fun z => z = ([] : List S46)) rfl) (fun y3 e3 => ?_)
  subst e3
  refine Tot.pos (by simp only [List.length_nil]; omega) (Tot.bind (Tot.some_ (Q := fun z => z = l) (List.nil_append l)) (fun y4 e4 => ?_))
  subst e4
  refine Tot.bind (Tot.some_ (Q := fun z => z = [(⟨r.1, r.2.1⟩ : S46)]) rfl) (fun y5 e5 => ?_)
  subst e5
  refine Tot.pos (by simp only [List.length_singleton]; omega) (Tot.bind (fits_join y4 s n r hfb hfree (r2 hok)) (fun y6 e6 => ?_))
  rw [e6]
  refine Tot.pos rfl (Tot.pos rfl (Tot.bind (number_tot l1 hb1) (fun m hm => ?_)))
  rw [w64 (n := s + 1) (by omega) (by omega), Int.tmod_eq_emod_of_nonneg (by omega : 0 ≤ m)]
  have hmr : 0 ≤ m % 1498 ∧ m % 1498 < 1498 := by omega
  rw [w64 (n := s + 1 + m % 1498) (by omega) (by omega), Int.tmod_eq_emod_of_nonneg (by omega)]
  have hne : (s + 1 + m % 1498) % 1499 ≠ s := by omega
  have hor : 0 ≤ (s + 1 + m % 1498) % 1499 ∧ (s + 1 + m % 1498) % 1499 ≤ 1498 := by omega
  generalize (s + 1 + m % 1498) % 1499 = o at hne hor ⊢
  obtain ⟨q, q1, q2, q3, _⟩ := fits_same y4 (by omega) n (fun _ => hfree) o
  have qf : fitB y4 o = true := by
    unfold fitB
    rw [g1, decide_eq_false (by omega), decide_eq_true hor]
    rfl
  have qok := q1.trans qf
  have f1 := r2 hok
  have f2 := q2 qok
  refine Tot.bind q3 (fun y7 e7 => ?_)
  rw [e7]
  refine Tot.pos qok (Tot.pos (f2.1.trans f1.1.symm) (Tot.neg (fun h => ?_) (j0_tot l1 hb1)))
  have t1 := fits_join y4 s n r hfb hfree f1
  have t2 := fits_join y4 o n q qf hfree f2
  rw [f2.1.trans f1.1.symm, h] at t2
  obtain ⟨v, hv, K, hK⟩ := t1
  obtain ⟨v', hv', K', hK'⟩ := t2
  have e := (hK (K + K' + 1) (by omega)).symm.trans (hK' (K + K' + 1) (by omega))
  rw [hv, hv'] at e
  exact hne (congrArg Prod.fst (Option.some.inj e)).symm

end Go.Proofs.Ytdobjdkjflnpmaa.Pure
