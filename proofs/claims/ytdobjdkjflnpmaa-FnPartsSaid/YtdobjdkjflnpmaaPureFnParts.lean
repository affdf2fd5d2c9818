/- Proved: any so many parts tell the secret, and added parts the sum, for all bytes that secrets are drawn from. Conditions: those of the given statement alone. -/
import Derived.Test.YtdobjdkjflnpmaaPFnPartsx13
import Derived.Test.YtdobjdkjflnpmaaBase
set_option linter.unusedVariables false
set_option linter.unusedSimpArgs false
namespace Go.Proofs.Ytdobjdkjflnpmaa.Pure
open Go.RowKit Go.Proofs.Ytdobjdkjflnpmaa.PFnParts Go.Proofs.Ytdobjdkjflnpmaa.Base Go.Proofs.YtdobjdkjflnpmaaW.PrintWords Go.Proofs.YtdobjdkjflnpmaaW.PrintLast Go.Proofs.YtdobjdkjflnpmaaW.PrintMore Go.Proofs.Ytdobjdkjflnpmaa

/-- The bits of a letter: where it stands is small, its bytes are bytes. -/
def Bytes (l : List Int) : Prop := l.length ≤ 1048576 ∧ ∀ x ∈ l, 0 ≤ x ∧ x ≤ 255
theorem and255 (E : Int) : 0 ≤ Go.bits .and .u64 E 255 ∧ Go.bits .and .u64 E 255 ≤ 255 := by
  have h : Go.bits .and .u64 E 255 = IntKind.u64.wrap (((BitVec.ofInt 64 E) &&& (BitVec.ofInt 64 255)).toNat : Int) := rfl
  have h2 : ((BitVec.ofInt 64 E) &&& (BitVec.ofInt 64 255)).toNat ≤ 255 := by
    rw [BitVec.toNat_and]
    exact Nat.and_le_right
  have h3 : IntKind.u64.wrap (((BitVec.ofInt 64 E) &&& (BitVec.ofInt 64 255)).toNat : Int) = (((BitVec.ofInt 64 E) &&& (BitVec.ofInt 64 255)).toNat : Int) := by
    show (_ : Int) % 2 ^ 64 = _
    omega
  rw [h, h3]
  omega
def CurOk (p' p : Int) : Prop := p ≤ p' ∧ p' ≤ p + 2
theorem next_tot (l : List Int) (hl : Bytes l) (p h : Int) (hp : 0 ≤ p ∧ p ≤ 1099511627776) : ∃ y, spec_l1Cur_next.f l p h = some y ∧ (0 ≤ y.1 ∧ y.1 ≤ 255 ∧ y.2.1 = p + 1) := by
  have hl1 := hl.1
  unfold spec_l1Cur_next.f
  rw [w64 (n := p + 1) (by omega) (by omega)]
  by_cases h1 : p < (l.length : Int)
  · obtain ⟨i, rfl⟩ := Int.eq_ofNat_of_zero_le hp.1
    have h2 := hl.2 _ (rd_mem l i (by omega))
    rw [if_pos h1, if_pos hp.1, if_pos (by omega)]
    refine ⟨_, rfl, ?_⟩
    simp only
    rw [w64 (by omega) (by omega)]
    exact ⟨h2.1, h2.2, trivial⟩
  · rw [if_neg h1, if_neg (by omega)]
    refine ⟨_, rfl, ?_⟩
    have h3 := and255 ((IntKind.u64.wrap ((IntKind.u64.wrap ((IntKind.u64.wrap (h * 6364136223846793005)) + 0)) + 1442695040888963407)) / 1099511627776)
    simp only
    rw [w64 (by omega) (by omega)]
    exact ⟨h3.1, h3.2, trivial⟩
theorem pick_tot (l : List Int) (hl : Bytes l) (p h a : Int) (hp : 0 ≤ p ∧ p ≤ 549755813888) (ha : a ≤ 1048576) : ∃ y, spec_l1Cur_pick.f l p h a = some y ∧ (0 ≤ y.1 ∧ (y.1 < a ∨ y.1 = 0) ∧ p ≤ y.2.1 ∧ y.2.1 ≤ p + 2) := by
  unfold spec_l1Cur_pick.f
  by_cases h1 : a ≤ 1
  · rw [if_pos h1]
    exact ⟨_, rfl, by simp only; omega, .inr rfl, by simp only; omega, by simp only; omega⟩
  · rw [if_neg h1]
    obtain ⟨⟨b, p1, h'⟩, e1, hb0, hb1, hp1⟩ := next_tot l hl p h (by omega)
    simp only at hb0 hb1 hp1
    rw [e1]
    simp only [Option.bind_some]
    by_cases h2 : a > 200
    · obtain ⟨⟨c, p2, h''⟩, e2, hc0, hc1, hp2⟩ := next_tot l hl p1 h' (by omega)
      simp only at hc0 hc1 hp2
      rw [if_pos h2, e2]
      simp only [Option.bind_some]
      rw [if_neg (by omega), w64 (n := b * 256) (by omega) (by omega), w64 (by omega) (by omega), Int.tmod_eq_emod_of_nonneg (by omega)]
      have h3 := Int.emod_nonneg (b * 256 + c) (show a ≠ 0 by omega)
      have h4 := Int.emod_lt_of_pos (b * 256 + c) (show 0 < a by omega)
      exact ⟨_, rfl, h3, .inl h4, by simp only; omega, by simp only; omega⟩
    · rw [if_neg h2, if_neg (by omega), Int.tmod_eq_emod_of_nonneg (by omega)]
      have h3 := Int.emod_nonneg b (show a ≠ 0 by omega)
      have h4 := Int.emod_lt_of_pos b (show 0 < a by omega)
      exact ⟨_, rfl, h3, .inl h4, by simp only; omega, by simp only; omega⟩

theorem bytes_of {l : List Int} (h : l.length ≤ 1048576) (hw : ∀ x ∈ l, (Lit.int .u8 x).wf = true) : Bytes l := by
  refine ⟨h, fun x hx => ?_⟩
  have h2 := hw x hx
  simp only [Lit.wf, Bool.and_eq_true, decide_eq_true_iff] at h2
  exact h2

theorem one_tot (l : List Int) (hl : Bytes l) (p h a : Int) (hp : 0 ≤ p ∧ p ≤ 549755813888) (ha : a ≤ 1048576) : ∃ y, spec_l1Cur_one.f l p h a = some y ∧ (p ≤ y.2.1 ∧ y.2.1 ≤ p + 2) := by
  unfold spec_l1Cur_one.f
  obtain ⟨⟨b, p1, h'⟩, e1, hb0, hb1, hp0, hp1⟩ := pick_tot l hl p h a hp ha
  simp only at hp0 hp1
  rw [e1]
  exact ⟨_, rfl, hp0, hp1⟩

theorem among_tot (l : List Int) (hl : Bytes l) (p h : Int) (m : List Int) (hp : 0 ≤ p ∧ p ≤ 549755813888) (hm : 0 < m.length) (hm2 : m.length ≤ 1048576) : ∃ y, spec_l1Cur_among.f l p h m = some y ∧ (y.1 ∈ m ∧ p ≤ y.2.1 ∧ y.2.1 ≤ p + 2) := by
  unfold spec_l1Cur_among.f
  obtain ⟨⟨b, p1, h'⟩, e1, hb0, hb1, hp0, hp1⟩ := pick_tot l hl p h (m.length : Int) hp (by omega)
  simp only at hb0 hb1 hp0 hp1
  rw [e1]
  simp only [Option.bind_some]
  obtain ⟨i, rfl⟩ := Int.eq_ofNat_of_zero_le hb0
  rw [if_pos hb0, if_pos (by omega)]
  exact ⟨_, rfl, rd_mem m i (by omega), by simp only; omega, by simp only; omega⟩

theorem number_tot (l : List Int) (hl : Bytes l) : Tot (fun k => laws_numberOf.f k l) (fun y => 0 ≤ y ∧ y < 1000003) := by
  have h1 := hl.1
  have key : ∀ (d i : Nat) (x : Int), l.length - i = d → i ≤ l.length → 0 ≤ x ∧ x < 1000003 → Tot (fun k => laws_numberOf.l0 k x l (l.length : Int) (i : Int)) (fun y => 0 ≤ y ∧ y < 1000003) := by
    intro d
    induction d with
    | zero =>
      intro i x hd hi hx
      refine Tot.up ?_
      simp only [laws_numberOf.l0]
      exact Tot.neg (by omega) (Tot.some_ hx)
    | succ d ih =>
      intro i x hd hi hx
      have hb := hl.2 _ (rd_mem l i (by omega))
      refine Tot.up ?_
      simp only [laws_numberOf.l0]
      refine Tot.pos (by omega) (Tot.pos (by omega) (Tot.pos (by omega) ?_))
      rw [w64 (n := 31 * x) (by omega) (by omega), w64 (n := rd l (i : Int)) (by omega) (by omega), w64 (n := 31 * x + rd l (i : Int)) (by omega) (by omega), w64 (n := (i : Int) + 1) (by omega) (by omega), Int.tmod_eq_emod_of_nonneg (by omega)]
      exact ih (i + 1) _ (by omega) (by omega) (by omega)
  simp only [laws_numberOf.f]
  exact key l.length 0 0 (by omega) (by omega) (by omega)

theorem sameInts_tot (a b : List Int) (ha : a.length ≤ 1048576) : Tot (fun k => laws_sameInts.f k a b) (fun y => y = decide (a = b)) := by
  simp only [laws_sameInts.f]
  by_cases hl : a.length = b.length
  · refine Tot.pos (by omega) ?_
    have key : ∀ (d i : Nat), a.length - i = d → i ≤ a.length → Tot (fun k => laws_sameInts.l0 k a b (a.length : Int) (i : Int)) (fun y => y = decide (a.drop i = b.drop i)) := by
      intro d
      induction d with
      | zero =>
        intro i hd hi
        refine Tot.up ?_
        simp only [laws_sameInts.l0]
        refine Tot.neg (by omega) (Tot.some_ ?_)
        rw [List.drop_of_length_le (by omega), List.drop_of_length_le (by omega)]
        rfl
      | succ d ih =>
        intro i hd hi
        refine Tot.up ?_
        simp only [laws_sameInts.l0]
        rw [rd_in a i (by omega), rd_in b i (by omega), w64 (n := (i : Int) + 1) (by omega) (by omega), List.drop_eq_getElem_cons (show i < a.length by omega), List.drop_eq_getElem_cons (show i < b.length by omega)]
        refine Tot.pos (by omega) (Tot.pos (by omega) (Tot.pos (by omega) (Tot.pos (by omega) (Tot.ite (fun e => ?_) (fun e => Tot.some_ ?_)))))
        · refine (ih (i + 1) (by omega) (by omega)).imp (fun y hy => ?_)
          rw [hy, Bool.eq_iff_iff, decide_eq_true_iff, decide_eq_true_iff]
          constructor
          · intro h
            rw [e, h]
          · intro h
            exact (List.cons.inj h).2
        · exact (decide_eq_false (fun h => e (List.cons.inj h).1)).symm
    have h := key a.length 0 (by omega) (by omega)
    rw [List.drop_zero, List.drop_zero] at h
    exact h
  · refine Tot.neg (by omega) (Tot.some_ ?_)
    exact (decide_eq_false (fun h => hl (by rw [h]))).symm
theorem sameInts_self (a : List Int) (ha : a.length ≤ 1048576) : Tot (fun k => laws_sameInts.f k a a) (fun y => y = true) := (sameInts_tot a a ha).imp (fun y hy => by rw [hy]; exact decide_eq_true rfl)

set_option exponentiation.threshold 3000
/-- Alike modulo 1499. -/
def Cg (a b : Int) : Prop := ∃ q, a - b = 1499 * q
theorem Cg.rfl {a : Int} : Cg a a := ⟨0, by omega⟩
theorem Cg.of_eq {a b : Int} (h : a = b) : Cg a b := ⟨0, by omega⟩
theorem Cg.symm {a b : Int} (h : Cg a b) : Cg b a := by
  obtain ⟨q, h⟩ := h
  exact ⟨-q, by omega⟩
theorem Cg.trans {a b c : Int} (h : Cg a b) (k : Cg b c) : Cg a c := by
  obtain ⟨q, h⟩ := h
  obtain ⟨r, k⟩ := k
  exact ⟨q + r, by omega⟩
theorem Cg.add {a b c d : Int} (h : Cg a b) (k : Cg c d) : Cg (a + c) (b + d) := by
  obtain ⟨q, h⟩ := h
  obtain ⟨r, k⟩ := k
  exact ⟨q + r, by omega⟩
theorem Cg.sub {a b c d : Int} (h : Cg a b) (k : Cg c d) : Cg (a - c) (b - d) := by
  obtain ⟨q, h⟩ := h
  obtain ⟨r, k⟩ := k
  exact ⟨q - r, by omega⟩
theorem Cg.mul {a b c d : Int} (h : Cg a b) (k : Cg c d) : Cg (a * c) (b * d) := by
  obtain ⟨q, h⟩ := h
  obtain ⟨r, k⟩ := k
  exact ⟨q * c + b * r, by grind⟩
theorem Cg.mod (a : Int) : Cg (a % 1499) a := ⟨-(a / 1499), by omega⟩
theorem Cg.eq {a b : Int} (h : Cg a b) (ha : 0 ≤ a ∧ a < 1499) (hb : 0 ≤ b ∧ b < 1499) : a = b := by
  obtain ⟨q, h⟩ := h
  omega
theorem Cg.emod {a b : Int} (h : Cg a b) : a % 1499 = b % 1499 := by
  obtain ⟨q, h⟩ := h
  omega
theorem fermat : ∀ b : Nat, b < 1499 → b ≠ 0 → b ^ 1497 * b % 1499 = 1 := by decide +kernel
/-- One divided by a number, or 0. -/
def iv (b : Int) : Int := (((b % 1499).toNat ^ 1497 % 1499 : Nat) : Int)
theorem iv_mul (b : Int) (h : ¬ Cg b 0) : Cg (b * iv b) 1 := by
  have hb : (b % 1499).toNat ≠ 0 := fun e => h ⟨b / 1499, by omega⟩
  have hf := fermat (b % 1499).toNat (by omega) hb
  have h1 : Cg b (((b % 1499).toNat : Nat) : Int) := (Cg.mod b).symm.trans (Cg.of_eq (by omega))
  have h2 : Cg (iv b) ((((b % 1499).toNat ^ 1497 : Nat)) : Int) := by
    unfold iv
    rw [Int.natCast_emod]
    exact Cg.mod _
  have h3 := h1.mul h2
  have h4 : ((((b % 1499).toNat ^ 1497 * (b % 1499).toNat : Nat)) : Int) % 1499 = 1 := by
    have : (((b % 1499).toNat ^ 1497 * (b % 1499).toNat % 1499 : Nat) : Int) = ((1 : Nat) : Int) := by rw [hf]
    rw [Int.natCast_emod] at this
    exact this
  refine h3.trans ?_
  rw [Int.mul_comm, ← Int.natCast_mul]
  exact (Cg.mod _).symm.trans (Cg.of_eq h4)
theorem Cg.prime {a b : Int} (h : Cg (a * b) 0) : Cg a 0 ∨ Cg b 0 := by
  by_cases ha : Cg a 0
  · exact .inl ha
  · right
    have h1 : Cg (iv a * (a * b)) 0 := (Cg.rfl.mul h).trans (Cg.of_eq (Int.mul_zero _))
    have h2 : Cg (a * iv a * b) b := ((iv_mul a ha).mul Cg.rfl).trans (Cg.of_eq (Int.one_mul _))
    exact (h2.symm.trans (Cg.of_eq (by grind))).trans h1
/-- The value of a row of numbers at a place. -/
def ev : List Int → Int → Int
  | [], _ => 0
  | a :: t, x => a + x * ev t x
def quo : List Int → Int → List Int
  | [], _ => []
  | [_], _ => []
  | _ :: b :: t, r => ev (b :: t) r :: quo (b :: t) r
theorem quo_ev : ∀ (c : List Int) (x r : Int), ev c x - ev c r = (x - r) * ev (quo c r) x
  | [], x, r => by simp [ev, quo]
  | [a], x, r => by simp [ev, quo]
  | a :: b :: t, x, r => by
    have h := quo_ev (b :: t) x r
    have e1 : ev (a :: b :: t) x = a + x * ev (b :: t) x := rfl
    have e2 : ev (a :: b :: t) r = a + r * ev (b :: t) r := rfl
    have e3 : ev (quo (a :: b :: t) r) x = ev (b :: t) r + x * ev (quo (b :: t) r) x := rfl
    rw [e1, e2, e3]
    grind
theorem quo_length : ∀ (c : List Int) (r : Int), (quo c r).length = c.length - 1
  | [], _ => rfl
  | [_], _ => rfl
  | _ :: b :: t, r => by
    have h := quo_length (b :: t) r
    simp only [quo, List.length_cons] at h ⊢
    omega
theorem quo_zero : ∀ (c : List Int) (r : Int), (∀ q ∈ quo c r, Cg q 0) → Cg (ev c r) 0 → ∀ a ∈ c, Cg a 0
  | [], _, _, _, a, ha => by simp at ha
  | [b], r, _, h, a, ha => by
    rw [List.mem_singleton.1 ha]
    exact (Cg.of_eq (by simp [ev])).trans h
  | b :: d :: t, r, hq, h, a, ha => by
    have h1 : Cg (ev (d :: t) r) 0 := hq _ (by simp [quo])
    have h2 := quo_zero (d :: t) r (fun q hq2 => hq q (by simp only [quo, List.mem_cons]; exact .inr hq2)) h1
    rcases List.mem_cons.1 ha with rfl | ha
    · have h3 : Cg (a + r * ev (d :: t) r) 0 := h
      have h4 : Cg (r * ev (d :: t) r) 0 := (Cg.rfl.mul h1).trans (Cg.of_eq (Int.mul_zero _))
      exact (Cg.of_eq (by omega)).trans ((h3.sub h4).trans (Cg.of_eq rfl))
    · exact h2 a ha
/-- Unlike modulo 1499, two by two. -/
def Far (xs : List Int) : Prop := xs.Pairwise fun a b => ¬ Cg a b
theorem roots : ∀ (n : Nat) (c xs : List Int), c.length ≤ n → c.length ≤ xs.length → Far xs → (∀ x ∈ xs, Cg (ev c x) 0) → ∀ a ∈ c, Cg a 0 := by
  intro n
  induction n with
  | zero =>
    intro c xs hc _ _ _ a ha
    have e : c = [] := List.length_eq_zero_iff.1 (by omega)
    subst e
    simp at ha
  | succ n ih =>
    intro c xs hc hl hd hz
    cases xs with
    | nil =>
      intro a ha
      have e : c = [] := List.length_eq_zero_iff.1 (by simpa using hl)
      subst e
      simp at ha
    | cons r rs =>
      have hd2 := List.pairwise_cons.1 hd
      have hr := hz r (by simp)
      refine quo_zero c r (ih (quo c r) rs ?_ ?_ hd2.2 (fun x hx => ?_)) hr
      · rw [quo_length]
        omega
      · rw [quo_length]
        simp only [List.length_cons] at hl
        omega
      · have h1 := hz x (by simp [hx])
        have h2 : Cg ((x - r) * ev (quo c r) x) 0 := by
          rw [← quo_ev]
          exact (h1.sub hr).trans (Cg.of_eq rfl)
        rcases h2.prime with h3 | h3
        · exact absurd ((Cg.of_eq (by omega)).trans ((h3.symm.trans Cg.rfl).symm.symm.add (Cg.rfl (a := r))) : Cg (0 + r) ((x - r) + r)) (fun h4 => hd2.1 x hx (by
            obtain ⟨q, h4⟩ := h4
            exact ⟨q, by omega⟩))
        · exact h3
theorem ev_sub : ∀ (c d : List Int) (x : Int), c.length = d.length → ev (List.zipWith (fun a b => a - b) c d) x = ev c x - ev d x
  | [], [], x, _ => by simp [ev]
  | a :: c, b :: d, x, h => by
    have h1 := ev_sub c d x (by simpa using h)
    simp only [List.zipWith_cons_cons, ev, h1]
    grind
  | [], _ :: _, _, h => by simp at h
  | _ :: _, [], _, h => by simp at h
/-- Two rows of one length that have one value at as many places are alike. -/
theorem ev_unique (c d xs : List Int) (hl : c.length = d.length) (hx : c.length ≤ xs.length) (hd : Far xs) (hv : ∀ x ∈ xs, Cg (ev c x) (ev d x)) (hc : ∀ a ∈ c, 0 ≤ a ∧ a < 1499) (hd2 : ∀ a ∈ d, 0 ≤ a ∧ a < 1499) : c = d := by
  have h := roots c.length (List.zipWith (fun a b => a - b) c d) xs (by simp; omega) (by simp; omega) hd (fun x hx => by
    rw [ev_sub c d x hl]
    exact ((hv x hx).sub Cg.rfl).trans (Cg.of_eq (by omega)))
  refine List.ext_getElem hl (fun i h1 h2 => ?_)
  have h3 := h (c[i] - d[i]) (by
    refine List.mem_iff_getElem.2 ⟨i, by simp; omega, ?_⟩
    simp)
  have h4 : Cg c[i] d[i] := by
    obtain ⟨q, h3⟩ := h3
    exact ⟨q, by omega⟩
  exact h4.eq (hc _ (List.getElem_mem h1)) (hd2 _ (List.getElem_mem h2))
theorem ev_snoc : ∀ (c : List Int) (a x : Int), ev (c ++ [a]) x = ev c x + a * x ^ c.length
  | [], a, x => by simp [ev]
  | b :: c, a, x => by
    have h := ev_snoc c a x
    simp only [List.cons_append, ev, h, List.length_cons, Int.pow_succ]
    grind
theorem ev_set : ∀ (c : List Int) (i : Nat) (v x : Int), i < c.length → ev (c.set i v) x = ev c x + (v - c.getD i 0) * x ^ i
  | [], i, v, x, h => by simp at h
  | b :: c, 0, v, x, _ => by
    simp only [List.set_cons_zero, ev, List.getD_cons_zero, Int.pow_zero]
    omega
  | b :: c, i + 1, v, x, h => by
    have h1 := ev_set c i v x (by simpa using h)
    simp only [List.set_cons_succ, ev, h1, List.getD_cons_succ, Int.pow_succ]
    grind
theorem ev_zeros : ∀ (n : Nat) (x : Int), ev (List.replicate n 0) x = 0
  | 0, _ => rfl
  | n + 1, x => by
    simp only [List.replicate_succ, ev, ev_zeros n x, Int.mul_zero, Int.add_zero]
/-- A product. -/
def pl : List Int → Int
  | [] => 1
  | a :: t => a * pl t
theorem pl_snoc : ∀ (l : List Int) (a : Int), pl (l ++ [a]) = pl l * a
  | [], a => by simp [pl]
  | b :: l, a => by
    simp only [List.cons_append, pl, pl_snoc l a]
    grind
theorem pl_zero : ∀ (l : List Int), (∃ a ∈ l, Cg a 0) → Cg (pl l) 0
  | [], h => by
    obtain ⟨a, ha, _⟩ := h
    simp at ha
  | b :: l, h => by
    obtain ⟨a, ha, h2⟩ := h
    rcases List.mem_cons.1 ha with rfl | ha
    · exact (h2.mul (Cg.rfl (a := pl l))).trans (Cg.of_eq (Int.zero_mul _))
    · exact ((Cg.rfl (a := b)).mul (pl_zero l ⟨a, ha, h2⟩)).trans (Cg.of_eq (Int.mul_zero _))
theorem pl_one : ∀ (l : List Int), (∀ a ∈ l, Cg a 1) → Cg (pl l) 1
  | [], _ => Cg.rfl
  | b :: l, h => ((h b (by simp)).mul (pl_one l (fun a ha => h a (by simp [ha])))).trans (Cg.of_eq (by omega))
/-- The weight of the i-th of some numbers at a place. -/
def wt (xs : List Int) (i : Nat) (x : Int) : Int := pl ((xs.eraseIdx i).map fun o => (o - x) * iv (o - xs.getD i 0))
theorem far_ne {xs : List Int} (hd : Far xs) (i j : Nat) (hi : i < xs.length) (hj : j < xs.length) (hne : i ≠ j) : ¬ Cg xs[i] xs[j] := by
  have h := List.pairwise_iff_getElem.1 hd
  rcases Nat.lt_or_gt_of_ne hne with h1 | h1
  · exact h i j hi hj h1
  · exact fun h2 => h j i hj hi h1 h2.symm
theorem wt_self (xs : List Int) (hd : Far xs) (i : Nat) (hi : i < xs.length) : Cg (wt xs i xs[i]) 1 := by
  refine pl_one _ (fun a ha => ?_)
  obtain ⟨o, ho, rfl⟩ := List.mem_map.1 ha
  obtain ⟨j, hj, e⟩ := List.mem_eraseIdx_iff_getElem.1 ho
  obtain ⟨hji, e⟩ := e
  have hxi : xs.getD i 0 = xs[i] := by
    rw [List.getD_eq_getElem?_getD, List.getElem?_eq_getElem hi]
    rfl
  rw [hxi]
  refine iv_mul _ (fun h => far_ne hd j i hj hi hji ?_)
  rw [e]
  obtain ⟨q, h⟩ := h
  exact ⟨q, by omega⟩
theorem wt_other (xs : List Int) (i j : Nat) (hi : i < xs.length) (hj : j < xs.length) (hne : j ≠ i) : Cg (wt xs i xs[j]) 0 := by
  refine pl_zero _ ⟨(xs[j] - xs[j]) * iv (xs[j] - xs.getD i 0), List.mem_map.2 ⟨xs[j], List.mem_eraseIdx_iff_getElem.2 ⟨j, hj, hne, rfl⟩, rfl⟩, Cg.of_eq ?_⟩
  rw [Int.sub_self, Int.zero_mul]
/-- The sum of ys times weights. -/
def lsum (xs : List Int) (x : Int) : List Int → Nat → Int
  | [], _ => 0
  | y :: ys, i => y * wt xs i x + lsum xs x ys (i + 1)
theorem lsum_snoc (xs : List Int) (x : Int) : ∀ (ys : List Int) (y : Int) (i : Nat), lsum xs x (ys ++ [y]) i = lsum xs x ys i + y * wt xs (i + ys.length) x
  | [], y, i => by simp [lsum]
  | z :: ys, y, i => by
    have h := lsum_snoc xs x ys y (i + 1)
    simp only [List.cons_append, lsum, h, List.length_cons, show i + 1 + ys.length = i + (ys.length + 1) by omega]
    omega
theorem lsum_at (xs : List Int) (hd : Far xs) (j : Nat) (hj : j < xs.length) : ∀ (ys : List Int) (i : Nat), i + ys.length ≤ xs.length → Cg (lsum xs xs[j] ys i) (if i ≤ j then ys.getD (j - i) 0 else 0)
  | [], i, _ => by simp [lsum, Cg.rfl]
  | y :: ys, i, h => by
    simp only [List.length_cons] at h
    have h1 := lsum_at xs hd j hj ys (i + 1) (by omega)
    simp only [lsum]
    by_cases e : i = j
    · subst e
      rw [if_neg (by omega)] at h1
      rw [if_pos (by omega), Nat.sub_self, List.getD_cons_zero]
      exact ((Cg.rfl (a := y)).mul (wt_self xs hd i hj)).add h1 |>.trans (Cg.of_eq (by omega))
    · have h2 := (Cg.rfl (a := y)).mul (wt_other xs i j (by omega) hj (fun h => e h.symm))
      by_cases h3 : i + 1 ≤ j
      · rw [if_pos h3] at h1
        rw [if_pos (by omega), show j - i = (j - (i + 1)) + 1 by omega, List.getD_cons_succ]
        exact (h2.add h1).trans (Cg.of_eq (by omega))
      · rw [if_neg h3] at h1
        rw [if_neg (by omega)]
        exact (h2.add h1).trans (Cg.of_eq (by omega))

theorem l1In_eq (a b c : Int) : spec_l1In.f a b c = some (decide (b ≤ a ∧ a ≤ c)) := by
  unfold spec_l1In.f
  by_cases h : a ≥ b
  · rw [if_pos h]
    congr 1
    exact decide_eq_decide.2 ⟨fun h1 => ⟨h, h1⟩, fun h1 => h1.2⟩
  · rw [if_neg h, decide_eq_false (fun h1 => h h1.1)]

theorem within_eq (a b c : Int) : impl_within.f a b c = some (decide (b ≤ a ∧ a ≤ c)) := by
  unfold impl_within.f
  by_cases h : a ≥ b
  · rw [if_pos h]
    congr 1
    exact decide_eq_decide.2 ⟨fun h1 => ⟨h, h1⟩, fun h1 => h1.2⟩
  · rw [if_neg h, decide_eq_false (fun h1 => h h1.1)]

theorem index_l0 (l : List Int) (hl : l.length ≤ 1048576) (v : Int) : ∀ (d k i : Nat), l.length - i = d → d < k → i ≤ l.length → ∃ r, slices_Index_int_int.l0 k l v (l.length : Int) (i : Int) = some r ∧ (r ≥ 0 ↔ v ∈ l.drop i) := by
  intro d
  induction d with
  | zero =>
    intro k i hd hk hi
    obtain ⟨k, rfl⟩ := rounds hk
    refine ⟨-1, ?_, ?_⟩
    · simp only [slices_Index_int_int.l0]
      rw [if_neg (by omega)]
    · rw [List.drop_of_length_le (by omega)]
      simp
  | succ d ih =>
    intro k i hd hk hi
    obtain ⟨k, rfl⟩ := rounds hk
    simp only [slices_Index_int_int.l0]
    rw [if_pos (by omega), if_pos (by omega), if_pos (by omega), rd_in l i (by omega), w64 (by omega) (by omega)]
    have hdrop := List.drop_eq_getElem_cons (show i < l.length by omega)
    by_cases e : v = l[i]
    · exact ⟨i, by rw [if_pos e], by rw [hdrop, ← e]; simp⟩
    · obtain ⟨r, hr, h⟩ := ih k (i + 1) (by omega) (by omega) (by omega)
      refine ⟨r, by rw [if_neg e]; exact hr, ?_⟩
      rw [h, hdrop, List.mem_cons]
      exact ⟨fun h => .inr h, fun h => h.resolve_left e⟩

theorem contains_eq (l : List Int) (hl : l.length ≤ 1048576) (v : Int) (k : Nat) (hk : l.length < k) : slices_Contains_int_int.f k l v = some (decide (v ∈ l)) := by
  obtain ⟨r, hr, h⟩ := index_l0 l hl v l.length k 0 (by omega) hk (by omega)
  unfold slices_Contains_int_int.f slices_Index_int_int.f
  have hr' : slices_Index_int_int.l0 k l v (l.length : Int) 0 = some r := hr
  rw [hr']
  simp only [Option.bind_some]
  rw [List.drop_zero] at h
  congr 1
  exact decide_eq_decide.2 h

theorem l1Has_l0 (l : List Int) (hl : l.length ≤ 1048576) (v : Int) : ∀ (d k i : Nat), l.length - i = d → d < k → i ≤ l.length → spec_l1Has.l0 k v l (l.length : Int) (i : Int) = some (decide (v ∈ l.drop i)) := by
  intro d
  induction d with
  | zero =>
    intro k i hd hk hi
    obtain ⟨k, rfl⟩ := rounds hk
    simp only [spec_l1Has.l0]
    rw [if_neg (by omega), List.drop_of_length_le (by omega)]
    simp
  | succ d ih =>
    intro k i hd hk hi
    obtain ⟨k, rfl⟩ := rounds hk
    simp only [spec_l1Has.l0]
    rw [if_pos (by omega), if_pos (by omega), if_pos (by omega), rd_in l i (by omega), w64 (by omega) (by omega), List.drop_eq_getElem_cons (show i < l.length by omega)]
    by_cases e : l[i] = v
    · rw [if_pos e]
      simp [e]
    · have h := ih k (i + 1) (by omega) (by omega) (by omega)
      rw [if_neg e]
      have h' : spec_l1Has.l0 k v l (l.length : Int) ((i : Int) + 1) = some (decide (v ∈ l.drop (i + 1))) := h
      rw [h']
      congr 1
      refine decide_eq_decide.2 ?_
      rw [List.mem_cons]
      exact ⟨fun h => .inr h, fun h => h.resolve_left (fun h => e h.symm)⟩

theorem l1Has_eq (l : List Int) (hl : l.length ≤ 1048576) (v : Int) (k : Nat) (hk : l.length < k) : spec_l1Has.f k l v = some (decide (v ∈ l)) := by
  have h := l1Has_l0 l hl v l.length k 0 (by omega) hk (by omega)
  rw [List.drop_zero] at h
  exact h

theorem implAll_l0 (l : List Int) (hl : l.length ≤ 1048576) (a b : Int) : ∀ (d k i : Nat), l.length - i = d → d < k → i ≤ l.length → impl_allWithin.l0 k a b l (l.length : Int) (i : Int) = some (decide (∀ x ∈ l.drop i, a ≤ x ∧ x ≤ b)) := by
  intro d
  induction d with
  | zero =>
    intro k i hd hk hi
    obtain ⟨k, rfl⟩ := rounds hk
    simp only [impl_allWithin.l0]
    rw [if_neg (by omega), List.drop_of_length_le (by omega)]
    simp
  | succ d ih =>
    intro k i hd hk hi
    obtain ⟨k, rfl⟩ := rounds hk
    have hlt : i < l.length := by omega
    simp only [impl_allWithin.l0]
    rw [if_pos (by omega), if_pos (by omega), if_pos (by omega), rd_in l i hlt, w64 (by omega) (by omega), within_eq]
    simp only [Option.bind_some]
    have hdrop := List.drop_eq_getElem_cons hlt
    by_cases e : a ≤ l[i] ∧ l[i] ≤ b
    · have h := ih k (i + 1) (by omega) (by omega) (by omega)
      rw [decide_eq_true e, if_pos rfl]
      refine Eq.trans h ?_
      congr 1
      refine decide_eq_decide.2 ?_
      rw [hdrop]
      simp only [List.mem_cons, forall_eq_or_imp]
      exact ⟨fun h => ⟨e, h⟩, fun h => h.2⟩
    · rw [decide_eq_false e, if_neg (by simp)]
      congr 1
      refine (decide_eq_false (fun h => e (h l[i] (by rw [hdrop]; exact List.mem_cons_self)))).symm

theorem implAll_eq (l : List Int) (hl : l.length ≤ 1048576) (a b : Int) (k : Nat) (hk : l.length < k) : impl_allWithin.f k l a b = some (decide (∀ x ∈ l, a ≤ x ∧ x ≤ b)) := by
  have h := implAll_l0 l hl a b l.length k 0 (by omega) hk (by omega)
  rw [List.drop_zero] at h
  exact h

theorem specAll_l0 (l : List Int) (hl : l.length ≤ 1048576) (a b : Int) : ∀ (d k i : Nat), l.length - i = d → d < k → i ≤ l.length → spec_l1All.l0 k a b l (l.length : Int) (i : Int) = some (decide (∀ x ∈ l.drop i, a ≤ x ∧ x ≤ b)) := by
  intro d
  induction d with
  | zero =>
    intro k i hd hk hi
    obtain ⟨k, rfl⟩ := rounds hk
    simp only [spec_l1All.l0]
    rw [if_neg (by omega), List.drop_of_length_le (by omega)]
    simp
  | succ d ih =>
    intro k i hd hk hi
    obtain ⟨k, rfl⟩ := rounds hk
    have hlt : i < l.length := by omega
    simp only [spec_l1All.l0]
    rw [if_pos (by omega), if_pos (by omega), if_pos (by omega), rd_in l i hlt, w64 (by omega) (by omega), l1In_eq]
    simp only [Option.bind_some]
    have hdrop := List.drop_eq_getElem_cons hlt
    by_cases e : a ≤ l[i] ∧ l[i] ≤ b
    · have h := ih k (i + 1) (by omega) (by omega) (by omega)
      rw [decide_eq_true e, if_pos rfl]
      refine Eq.trans h ?_
      congr 1
      refine decide_eq_decide.2 ?_
      rw [hdrop]
      simp only [List.mem_cons, forall_eq_or_imp]
      exact ⟨fun h => ⟨e, h⟩, fun h => h.2⟩
    · rw [decide_eq_false e, if_neg (by simp)]
      congr 1
      refine (decide_eq_false (fun h => e (h l[i] (by rw [hdrop]; exact List.mem_cons_self)))).symm

theorem specAll_eq (l : List Int) (hl : l.length ≤ 1048576) (a b : Int) (k : Nat) (hk : l.length < k) : spec_l1All.f k l a b = some (decide (∀ x ∈ l, a ≤ x ∧ x ≤ b)) := by
  have h := specAll_l0 l hl a b l.length k 0 (by omega) hk (by omega)
  rw [List.drop_zero] at h
  exact h

set_option exponentiation.threshold 3000
theorem modV (a : Int) : Int.tmod (wrap64 (Int.tmod a 1499 + 1499)) 1499 = a % 1499 := by
  have h1 : Int.tmod a 1499 = a % 1499 ∨ Int.tmod a 1499 = a % 1499 - 1499 := by
    rw [Int.tmod_eq_emod]
    split
    · exact .inl (by omega)
    · exact .inr rfl
  rw [w64 (by omega) (by omega), Int.tmod_eq_emod_of_nonneg (by omega)]
  omega
theorem div_l0 (b o : Nat) (hb : b < 1499) (ho : o < 1499) : ∀ (e k : Nat), e < 1500 → e < k → impl_divided.l0 k (b : Int) (o : Int) (e : Int) = some ((o * b ^ e % 1499 : Nat) : Int) := by
  intro e
  induction e using Nat.strongRecOn generalizing b o with
  | _ e ih =>
    intro k he hk
    obtain ⟨k, rfl⟩ := rounds hk
    simp only [impl_divided.l0]
    by_cases h0 : e = 0
    · subst h0
      rw [if_neg (by omega), Nat.pow_zero, Nat.mul_one, Nat.mod_eq_of_lt ho]
    · have h1 : b * b ≤ 1499 * 1499 := Nat.mul_le_mul (by omega) (by omega)
      have h2 : o * b ≤ 1499 * 1499 := Nat.mul_le_mul (by omega) (by omega)
      have hd : wrap64 (Int.tdiv (e : Int) 2) = ((e / 2 : Nat) : Int) := (congrArg wrap64 (tdiv_nat e 2)).trans (wnat _ (by omega))
      have hm : Int.tmod (e : Int) 2 = ((e % 2 : Nat) : Int) := tmod_nat e 2
      have hbb : Int.tmod (wrap64 ((b : Int) * (b : Int))) 1499 = ((b * b % 1499 : Nat) : Int) := by
        rw [← Int.natCast_mul, wnat _ (by omega)]
        exact tmod_nat _ 1499
      have hob : Int.tmod (wrap64 ((o : Int) * (b : Int))) 1499 = ((o * b % 1499 : Nat) : Int) := by
        rw [← Int.natCast_mul, wnat _ (by omega)]
        exact tmod_nat _ 1499
      rw [if_pos (by omega), hd, hm, hbb, hob]
      by_cases h3 : e % 2 = 1
      · rw [if_pos (by omega), ih (e / 2) (by omega) _ _ (Nat.mod_lt _ (by omega)) (Nat.mod_lt _ (by omega)) k (by omega) (by omega), pow_round1, show 2 * (e / 2) + 1 = e by omega]
      · rw [if_neg (by omega), ih (e / 2) (by omega) _ _ (Nat.mod_lt _ (by omega)) ho k (by omega) (by omega), pow_round0, show 2 * (e / 2) = e by omega]
theorem inv_l0 (b o : Nat) (hb : b < 1499) (ho : o < 1499) : ∀ (e k : Nat), e < 1500 → e < k → spec_l5Inverse.l0 k (b : Int) (o : Int) (e : Int) = some ((o * b ^ e % 1499 : Nat) : Int) := by
  have twin : ∀ k x y z, spec_l5Inverse.l0 k x y z = impl_divided.l0 k x y z := by
    intro k
    induction k with
    | zero => intro x y z; rfl
    | succ k ih =>
      intro x y z
      simp only [spec_l5Inverse.l0, impl_divided.l0, ih]
  intro e k he hk
  rw [twin]
  exact div_l0 b o hb ho e k he hk
def dvV (a b : Int) : Int := (((a % 1499).toNat * (b % 1499).toNat ^ 1497 % 1499 : Nat) : Int)
theorem dvV_cg (a b : Int) : Cg (dvV a b) (a * iv b) := by
  have h1 : Cg (((a % 1499).toNat : Nat) : Int) a := (Cg.of_eq (by omega)).trans (Cg.mod a)
  have h2 : Cg ((((b % 1499).toNat ^ 1497 : Nat)) : Int) (iv b) := by
    unfold iv
    rw [Int.natCast_emod]
    exact (Cg.mod _).symm
  unfold dvV
  rw [Int.natCast_emod, Int.natCast_mul]
  exact (Cg.mod _).trans (h1.mul h2)
theorem dvV_range (a b : Int) : 0 ≤ dvV a b ∧ dvV a b < 1499 := by
  have := Nat.mod_lt ((a % 1499).toNat * (b % 1499).toNat ^ 1497) (show 0 < 1499 by omega)
  unfold dvV
  omega
theorem divided_eq (a b : Int) (k : Nat) (hk : 1500 < k) : impl_divided.f k a b = some (dvV a b) := by
  unfold impl_divided.f impl_modulo.f
  simp only [Option.bind_some, modV]
  have h := div_l0 (b % 1499).toNat (a % 1499).toNat (by omega) (by omega) 1497 k (by omega) (by omega)
  rw [show (((b % 1499).toNat : Nat) : Int) = b % 1499 by omega, show (((a % 1499).toNat : Nat) : Int) = a % 1499 by omega] at h
  exact h
theorem inverse_eq (b : Int) (k : Nat) (hk : 1500 < k) : spec_l5Inverse.f k (b % 1499) = some (iv b) := by
  unfold spec_l5Inverse.f
  have h := inv_l0 (b % 1499).toNat 1 (by omega) (by omega) 1497 k (by omega) (by omega)
  rw [show (((b % 1499).toNat : Nat) : Int) = b % 1499 by omega, Nat.one_mul] at h
  exact h
theorem mulC {a b c d : Int} (ha : 0 ≤ a ∧ a < 1499) (hb : 0 ≤ b ∧ b < 1499) (h1 : Cg a c) (h2 : Cg b d) : (0 ≤ Int.tmod (wrap64 (a * b)) 1499 ∧ Int.tmod (wrap64 (a * b)) 1499 < 1499) ∧ Cg (Int.tmod (wrap64 (a * b)) 1499) (c * d) := by
  have h0 : 0 ≤ a * b := Int.mul_nonneg ha.1 hb.1
  have h3 : a * b ≤ 1499 * 1499 := Int.mul_le_mul (by omega) (by omega) hb.1 (by omega)
  rw [w64 (by omega) (by omega), Int.tmod_eq_emod_of_nonneg h0]
  exact ⟨by omega, (Cg.mod _).trans (h1.mul h2)⟩
theorem addC {a b c d : Int} (x : Int) (ha : 0 ≤ a ∧ a < 1499) (hb : 0 ≤ b ∧ b < 1499) (hx : 0 ≤ x ∧ x < 1499) (h1 : Cg a c) (h2 : Cg b d) : (0 ≤ Int.tmod (wrap64 (x + wrap64 (a * b))) 1499 ∧ Int.tmod (wrap64 (x + wrap64 (a * b))) 1499 < 1499) ∧ Cg (Int.tmod (wrap64 (x + wrap64 (a * b))) 1499) (x + c * d) := by
  have h0 : 0 ≤ a * b := Int.mul_nonneg ha.1 hb.1
  have h3 : a * b ≤ 1499 * 1499 := Int.mul_le_mul (by omega) (by omega) hb.1 (by omega)
  rw [w64 (n := a * b) (by omega) (by omega), w64 (by omega) (by omega), Int.tmod_eq_emod_of_nonneg (by omega)]
  exact ⟨by omega, (Cg.mod _).trans (Cg.rfl.add (h1.mul h2))⟩
/-- Some numbers that are unlike, and parts that are good. -/
def unlB (xs : List Int) : Bool := decide (xs.Nodup ∧ (1 ≤ (xs.length : Int) ∧ (xs.length : Int) ≤ 8) ∧ ∀ x ∈ xs, 1 ≤ x ∧ x ≤ 1498)
theorem unlB_true {xs : List Int} (h : unlB xs = true) : xs.Nodup ∧ (1 ≤ xs.length ∧ xs.length ≤ 8) ∧ ∀ x ∈ xs, 1 ≤ x ∧ x ≤ 1498 := by
  unfold unlB at h
  rw [decide_eq_true_iff] at h
  exact ⟨h.1, by omega, h.2.2⟩
theorem nodup_snoc {xs : List Int} {i : Nat} (hi : i < xs.length) : (xs.take (i + 1)).Nodup ↔ (xs.take i).Nodup ∧ xs[i] ∉ xs.take i := by
  rw [List.take_succ_eq_append_getElem hi]
  have hp : (xs.take i ++ [xs[i]]).Perm (xs[i] :: xs.take i) := List.perm_append_comm
  rw [hp.nodup_iff, List.nodup_cons]
  exact And.comm
theorem take_nodup {xs : List Int} (h : xs.Nodup) (i : Nat) : (xs.take i).Nodup := List.Sublist.nodup (List.take_sublist i xs) h
theorem unlike_tot (xs : List Int) (hx : xs.length ≤ 1048576) : Tot (fun k => impl_areUnlike.f k xs) (fun y => y = unlB xs) := by
  have key : ∀ (d i : Nat), xs.length - i = d → i ≤ xs.length → (xs.take i).Nodup → Tot (fun k => impl_areUnlike.l0 k xs xs (xs.length : Int) (i : Int)) (fun y => y = unlB xs) := by
    intro d
    induction d with
    | zero =>
      intro i hd hi hn
      rw [List.take_of_length_le (by omega)] at hn
      refine Tot.up ?_
      simp only [impl_areUnlike.l0, within_eq]
      refine Tot.neg (by omega) (Tot.bind (Tot.some_ rfl) (fun y e => ?_))
      subst e
      refine Tot.ite (fun h => ?_) (fun h => Tot.some_ ?_)
      · refine Tot.bind (Tot.at_ (xs.length + 1) rfl (fun k hk => implAll_eq xs hx 1 1498 k (by omega))) (fun y e => ?_)
        subst e
        refine Tot.some_ ?_
        unfold unlB
        refine decide_eq_decide.2 ⟨fun h2 => ⟨hn, of_decide_eq_true h, h2⟩, fun h2 => h2.2.2⟩
      · unfold unlB
        exact (decide_eq_false (fun h2 => h (decide_eq_true h2.2.1))).symm
    | succ d ih =>
      intro i hd hi hn
      refine Tot.up ?_
      simp only [impl_areUnlike.l0]
      rw [rd_in xs i (by omega), Int.toNat_natCast, w64 (n := (i : Int) + 1) (by omega) (by omega)]
      refine Tot.pos (by omega) (Tot.pos (by omega) (Tot.pos (by omega) (Tot.pos (by omega) (Tot.bind (Q := fun y => decide (xs[i]'(by omega) ∈ xs.take i) = y) (Tot.at_ (xs.length + 1) rfl (fun k hk => contains_eq (xs.take i) (by rw [List.length_take]; omega) xs[i] k (by rw [List.length_take]; omega))) (fun y e => ?_)))))
      subst e
      refine Tot.ite (fun h => Tot.some_ ?_) (fun h => ?_)
      · unfold unlB
        refine (decide_eq_false (fun h2 => ?_)).symm
        exact ((nodup_snoc (show i < xs.length by omega)).1 (take_nodup h2.1 (i + 1))).2 (of_decide_eq_true h)
      · exact ih (i + 1) (by omega) (by omega) ((nodup_snoc (by omega)).2 ⟨hn, fun h2 => h (decide_eq_true h2)⟩)
  simp only [impl_areUnlike.f]
  exact key xs.length 0 (by omega) (by omega) (by simp)
theorem xs_tot (xs : List Int) (hx : xs.length ≤ 1048576) : Tot (fun k => spec_l5Xs.f k xs) (fun y => y = unlB xs) := by
  have key : ∀ (d i : Nat), xs.length - i = d → i ≤ xs.length → (xs.take i).Nodup → (∀ x ∈ xs.take i, 1 ≤ x ∧ x ≤ 1498) → Tot (fun k => spec_l5Xs.l0 k xs xs (xs.length : Int) (i : Int)) (fun y => y = unlB xs) := by
    intro d
    induction d with
    | zero =>
      intro i hd hi hn hr
      rw [List.take_of_length_le (by omega)] at hn hr
      refine Tot.up ?_
      simp only [spec_l5Xs.l0, l1In_eq, Option.bind_some]
      refine Tot.neg (by omega) (Tot.some_ ?_)
      unfold unlB
      exact decide_eq_decide.2 ⟨fun h => ⟨hn, h, hr⟩, fun h => h.2.1⟩
    | succ d ih =>
      intro i hd hi hn hr
      refine Tot.up ?_
      simp only [spec_l5Xs.l0, l1In_eq, Option.bind_some]
      rw [rd_in xs i (by omega), Int.toNat_natCast, w64 (n := (i : Int) + 1) (by omega) (by omega)]
      refine Tot.pos (by omega) (Tot.pos (by omega) (Tot.pos (by omega) (Tot.ite (fun h0 => Tot.pos (by omega) (Tot.bind (Q := fun y => decide (xs[i]'(by omega) ∈ xs.take i) = y) (Tot.at_ (xs.length + 1) rfl (fun k hk => l1Has_eq (xs.take i) (by rw [List.length_take]; omega) xs[i] k (by rw [List.length_take]; omega))) (fun y e => ?_))) (fun h0 => Tot.some_ ?_))))
      · subst e
        refine Tot.ite (fun h => Tot.some_ ?_) (fun h => ?_)
        · unfold unlB
          refine (decide_eq_false (fun h2 => ?_)).symm
          exact ((nodup_snoc (show i < xs.length by omega)).1 (take_nodup h2.1 (i + 1))).2 (of_decide_eq_true h)
        · refine ih (i + 1) (by omega) (by omega) ((nodup_snoc (by omega)).2 ⟨hn, fun h2 => h (decide_eq_true h2)⟩) (fun x hx2 => ?_)
          rw [List.take_succ_eq_append_getElem (by omega)] at hx2
          rcases List.mem_append.1 hx2 with h3 | h3
          · exact hr x h3
          · rw [List.mem_singleton.1 h3]
            exact of_decide_eq_true h0
      · unfold unlB
        exact (decide_eq_false (fun h2 => h0 (decide_eq_true (h2.2.2 _ (List.getElem_mem (by omega)))))).symm
  simp only [spec_l5Xs.f]
  exact key xs.length 0 (by omega) (by omega) (by simp) (by simp)
def xsOf (l : List S46) : List Int := l.map fun p => p.f0
def ysOf (l : List S46) : List Int := l.map fun p => p.f1
theorem xsOf_length (l : List S46) : (xsOf l).length = l.length := by simp [xsOf]
theorem ysOf_length (l : List S46) : (ysOf l).length = l.length := by simp [ysOf]
theorem rdP (l : List S46) (i : Nat) (h : i < l.length) : rd_T46 l (i : Int) = l[i] := by
  unfold rd_T46
  rw [Int.toNat_natCast]
  exact getDin l _ i h
theorem places_tot (l : List S46) (hl : l.length ≤ 1048576) : Tot (fun k => impl_placesOf.f k l) (fun y => y = xsOf l) := by
  have key : ∀ (d i : Nat), l.length - i = d → i ≤ l.length → Tot (fun k => impl_placesOf.l0 k (xsOf (l.take i)) l (l.length : Int) (i : Int)) (fun y => y = xsOf l) := by
    intro d
    induction d with
    | zero =>
      intro i hd hi
      refine Tot.up ?_
      simp only [impl_placesOf.l0]
      refine Tot.neg (by omega) (Tot.some_ ?_)
      rw [List.take_of_length_le (by omega)]
    | succ d ih =>
      intro i hd hi
      refine Tot.up ?_
      simp only [impl_placesOf.l0]
      have h := ih (i + 1) (by omega) (by omega)
      rw [List.take_succ_eq_append_getElem (by omega)] at h
      rw [rdP l i (by omega), w64 (n := (i : Int) + 1) (by omega) (by omega)]
      refine Tot.pos (by omega) (Tot.pos (by omega) (Tot.pos (by omega) (Tot.pos (by rw [xsOf_length, List.length_take]; omega) ?_)))
      have e : xsOf (l.take i ++ [l[i]]) = xsOf (l.take i) ++ [l[i].f0] := List.map_append ..
      rw [e] at h
      exact h
  simp only [impl_placesOf.f]
  exact key l.length 0 (by omega) (by omega)
theorem split_tot (l : List S46) (hl : l.length ≤ 1048576) : Tot (fun k => spec_l5Split.f k l) (fun y => y = (xsOf l, ysOf l)) := by
  have key : ∀ (d i : Nat), l.length - i = d → i ≤ l.length → Tot (fun k => spec_l5Split.l0 k (xsOf (l.take i)) (ysOf (l.take i)) l (l.length : Int) (i : Int)) (fun y => y = (xsOf l, ysOf l)) := by
    intro d
    induction d with
    | zero =>
      intro i hd hi
      refine Tot.up ?_
      simp only [spec_l5Split.l0]
      refine Tot.neg (by omega) (Tot.some_ ?_)
      rw [List.take_of_length_le (by omega)]
    | succ d ih =>
      intro i hd hi
      refine Tot.up ?_
      simp only [spec_l5Split.l0]
      have h := ih (i + 1) (by omega) (by omega)
      rw [List.take_succ_eq_append_getElem (by omega)] at h
      rw [rdP l i (by omega), w64 (n := (i : Int) + 1) (by omega) (by omega)]
      refine Tot.pos (by omega) (Tot.pos (by omega) (Tot.pos (by omega) (Tot.pos (by rw [xsOf_length, List.length_take]; omega) (Tot.pos (by rw [ysOf_length, List.length_take]; omega) ?_))))
      have e : xsOf (l.take i ++ [l[i]]) = xsOf (l.take i) ++ [l[i].f0] := List.map_append ..
      have e2 : ysOf (l.take i ++ [l[i]]) = ysOf (l.take i) ++ [l[i].f1] := List.map_append ..
      rw [e, e2] at h
      exact h
  simp only [spec_l5Split.f]
  exact key l.length 0 (by omega) (by omega)
def prtB (l : List S46) : Bool := unlB (xsOf l) && decide (∀ y ∈ ysOf l, 0 ≤ y ∧ y ≤ 1498)
theorem prtB_true {l : List S46} (h : prtB l = true) : unlB (xsOf l) = true ∧ ∀ y ∈ ysOf l, 0 ≤ y ∧ y ≤ 1498 := by
  unfold prtB at h
  rw [Bool.and_eq_true, decide_eq_true_iff] at h
  exact h
theorem implParts_tot (l : List S46) (hl : l.length ≤ 1048576) : Tot (fun k => impl_areParts.f k l) (fun y => y = prtB l) := by
  have key : ∀ (d i : Nat), l.length - i = d → i ≤ l.length → Tot (fun k => impl_Part_69.l0 k l (l.length : Int) (i : Int)) (fun y => (y ≥ 0) ↔ ¬ ∀ z ∈ ysOf (l.drop i), 0 ≤ z ∧ z ≤ 1498) := by
    intro d
    induction d with
    | zero =>
      intro i hd hi
      refine Tot.up ?_
      simp only [impl_Part_69.l0]
      refine Tot.neg (by omega) (Tot.some_ ?_)
      rw [List.drop_of_length_le (by omega)]
      simp [ysOf]
    | succ d ih =>
      intro i hd hi
      have hy : ysOf (l.drop i) = (l[i]'(by omega)).f1 :: ysOf (l.drop (i + 1)) := by
        rw [List.drop_eq_getElem_cons (by omega)]
        rfl
      refine Tot.up ?_
      simp only [impl_Part_69.l0, impl_areParts_1.f, impl_isValue.f, within_eq, Option.bind_some]
      rw [rdP l i (by omega), w64 (n := (i : Int) + 1) (by omega) (by omega), hy]
      refine Tot.pos (by omega) (Tot.pos (by omega) (Tot.pos (by omega) (Tot.ite (fun h => Tot.some_ ?_) (fun h => ?_))))
      · refine ⟨fun _ h2 => ?_, fun _ => by omega⟩
        have h3 := h2 _ List.mem_cons_self
        rw [decide_eq_true h3] at h
        cases h
      · refine (ih (i + 1) (by omega) (by omega)).imp (fun y hy2 => ?_)
        rw [hy2]
        have h3 : 0 ≤ l[i].f1 ∧ l[i].f1 ≤ 1498 := by
          by_cases h4 : 0 ≤ l[i].f1 ∧ l[i].f1 ≤ 1498
          · exact h4
          · rw [decide_eq_false h4] at h
            exact absurd rfl h
        constructor
        · exact fun h4 h5 => h4 (fun z hz => h5 z (List.mem_cons_of_mem _ hz))
        · exact fun h4 h5 => h4 (fun z hz => by
            rcases List.mem_cons.1 hz with rfl | hz
            · exact h3
            · exact h5 z hz)
  simp only [impl_areParts.f, impl_Part_66.f, impl_Part_69.f]
  refine Tot.bind (places_tot l hl) (fun y1 e1 => ?_)
  subst e1
  refine Tot.bind (unlike_tot (xsOf l) (by rw [xsOf_length]; exact hl)) (fun y2 e2 => ?_)
  subst e2
  refine Tot.ite (fun h => ?_) (fun h => Tot.some_ ?_)
  · refine Tot.bind (Q := fun y => y = decide (¬ ∀ z ∈ ysOf l, 0 ≤ z ∧ z ≤ 1498)) (Tot.bind (key l.length 0 (by omega) (by omega)) (fun y3 h3 => Tot.some_ ?_)) (fun y4 e4 => Tot.some_ ?_)
    · rw [List.drop_zero] at h3
      exact decide_eq_decide.2 h3
    · rw [e4]
      unfold prtB
      rw [h, Bool.true_and, Bool.eq_iff_iff]
      simp
  · unfold prtB
    rw [Bool.not_eq_true] at h
    rw [h]
    rfl
theorem specParts_tot (l : List S46) (hl : l.length ≤ 1048576) : Tot (fun k => spec_l5Parts.f k l) (fun y => y = prtB l) := by
  simp only [spec_l5Parts.f]
  refine Tot.bind (split_tot l hl) (fun y1 e1 => ?_)
  subst e1
  refine Tot.bind (xs_tot (xsOf l) (by rw [xsOf_length]; exact hl)) (fun y2 e2 => ?_)
  subst e2
  refine Tot.ite (fun h => ?_) (fun h => Tot.some_ ?_)
  · refine Tot.bind (Tot.at_ (l.length + 1) rfl (fun k hk => specAll_eq (ysOf l) (by rw [ysOf_length]; exact hl) 0 1498 k (by rw [ysOf_length]; omega))) (fun y3 e3 => Tot.some_ ?_)
    subst e3
    unfold prtB
    rw [h, Bool.true_and]
  · unfold prtB
    rw [Bool.not_eq_true] at h
    rw [h]
    rfl
theorem far_of {xs : List Int} (hn : xs.Nodup) (hr : ∀ x ∈ xs, 0 ≤ x ∧ x ≤ 1498) : Far xs := by
  refine (List.nodup_iff_pairwise_ne.1 hn).imp_of_mem (fun {a b} ha hb hab h => hab ?_)
  have h1 := hr a ha
  have h2 := hr b hb
  exact h.eq (by omega) (by omega)
theorem er_step (xs : List Int) (i k : Nat) (hk : k < xs.length) : (xs.take (k + 1)).eraseIdx i = if k = i then (xs.take k).eraseIdx i else (xs.take k).eraseIdx i ++ [xs[k]] := by
  rw [List.take_succ_eq_append_getElem hk]
  have hl : (xs.take k).length = k := by rw [List.length_take]; omega
  by_cases e : k = i
  · subst e
    rw [if_pos rfl, List.eraseIdx_of_length_le (by omega : (xs.take k).length ≤ k)]
    rw [List.eraseIdx_append_of_length_le (by omega), hl, Nat.sub_self]
    simp
  · rw [if_neg e]
    by_cases h : i < k
    · rw [List.eraseIdx_append_of_lt_length (by omega)]
    · rw [List.eraseIdx_append_of_length_le (by omega), List.eraseIdx_of_length_le (by omega : (xs.take k).length ≤ i), List.eraseIdx_of_length_le (by simp only [List.length_singleton]; omega)]
def Small (xs : List Int) : Prop := xs.length ≤ 9 ∧ ∀ x ∈ xs, 0 ≤ x ∧ x ≤ 1498
theorem weight_tot (xs : List Int) (hs : Small xs) (i : Nat) (hi : i < xs.length) (at_ : Int) (ha : 0 ≤ at_ ∧ at_ ≤ 1498) : Tot (fun k => impl_weight.f k xs (i : Int) at_) (fun y => (0 ≤ y ∧ y < 1499) ∧ Cg y (wt xs i at_)) := by
  have hxi := hs.2 _ (List.getElem_mem hi)
  have hgi : xs.getD i 0 = xs[i] := getDin xs 0 i hi
  have h9 := hs.1
  have key : ∀ (d j : Nat) (y : Int), xs.length - j = d → j ≤ xs.length → (0 ≤ y ∧ y < 1499) → Cg y (pl (((xs.take j).eraseIdx i).map fun o => (o - at_) * iv (o - xs.getD i 0))) →
      Tot (fun k => impl_weight.l0 k xs (i : Int) at_ y xs (xs.length : Int) (j : Int)) (fun y => (0 ≤ y ∧ y < 1499) ∧ Cg y (wt xs i at_)) := by
    intro d
    induction d with
    | zero =>
      intro j y hd hj hy hc
      refine Tot.up ?_
      simp only [impl_weight.l0]
      rw [List.take_of_length_le (by omega)] at hc
      exact Tot.neg (by omega) (Tot.some_ ⟨hy, hc⟩)
    | succ d ih =>
      intro j y hd hj hy hc
      have hlt : j < xs.length := by omega
      have hx := hs.2 _ (List.getElem_mem hlt)
      have hst := er_step xs i j hlt
      refine Tot.up ?_
      simp only [impl_weight.l0]
      rw [w64 (n := (j : Int) + 1) (by omega) (by omega), rd_in xs j hlt, rd_in xs i hi, w64 (n := xs[j] - at_) (by omega) (by omega), w64 (n := xs[j] - xs[i]) (by omega) (by omega)]
      refine Tot.pos (by omega) (Tot.pos (by omega) (Tot.pos (by omega) ?_))
      by_cases e : j = i
      · refine Tot.pos (by omega) ?_
        rw [if_pos e] at hst
        exact ih (j + 1) y (by omega) (by omega) hy (by rw [hst]; exact hc)
      · refine Tot.neg (by omega) (Tot.pos (by omega) (Tot.pos (by omega) (Tot.bind (Tot.at_ 1501 rfl (fun k hk => divided_eq _ _ k (by omega))) (fun z ez => ?_))))
        subst ez
        rw [if_neg e] at hst
        have hm := mulC hy (dvV_range (xs[j] - at_) (xs[j] - xs[i])) hc (dvV_cg (xs[j] - at_) (xs[j] - xs[i]))
        refine ih (j + 1) _ (by omega) (by omega) hm.1 ?_
        rw [hst, List.map_append, List.map_singleton, pl_snoc, hgi]
        rw [hgi] at hm
        exact hm.2
  simp only [impl_weight.f]
  exact key xs.length 0 1 (by omega) (by omega) (by omega) (by simp [pl, Cg.rfl])
theorem through_tot (l : List S46) (hs : Small (xsOf l)) (hy : ∀ y ∈ ysOf l, 0 ≤ y ∧ y ≤ 1498) (x : Int) (hx : 0 ≤ x ∧ x ≤ 1498) : Tot (fun k => impl_through.f k l x) (fun y => (0 ≤ y ∧ y < 1499) ∧ Cg y (lsum (xsOf l) x (ysOf l) 0)) := by
  have h9 := hs.1
  have hxl := xsOf_length l
  have hyl := ysOf_length l
  have key : ∀ (d j : Nat) (v : Int), l.length - j = d → j ≤ l.length → (0 ≤ v ∧ v < 1499) → Cg v (lsum (xsOf l) x ((ysOf l).take j) 0) →
      Tot (fun k => impl_through.l0 k x (xsOf l) v l (l.length : Int) (j : Int)) (fun y => (0 ≤ y ∧ y < 1499) ∧ Cg y (lsum (xsOf l) x (ysOf l) 0)) := by
    intro d
    induction d with
    | zero =>
      intro j v hd hj hv hc
      refine Tot.up ?_
      simp only [impl_through.l0]
      rw [List.take_of_length_le (by omega)] at hc
      exact Tot.neg (by omega) (Tot.some_ ⟨hv, hc⟩)
    | succ d ih =>
      intro j v hd hj hv hc
      have hlt : j < l.length := by omega
      have hyj : (ysOf l)[j]'(by omega) = l[j].f1 := by simp [ysOf]
      have hyr := hy _ (List.getElem_mem (show j < (ysOf l).length by omega))
      rw [hyj] at hyr
      refine Tot.up ?_
      simp only [impl_through.l0]
      rw [rdP l j hlt, w64 (n := (j : Int) + 1) (by omega) (by omega)]
      refine Tot.pos (by omega) (Tot.pos (by omega) (Tot.pos (by omega) (Tot.bind (weight_tot (xsOf l) hs j (by omega) x hx) (fun z hz => ?_))))
      have hm := addC v (by omega : 0 ≤ l[j].f1 ∧ l[j].f1 < 1499) hz.1 hv Cg.rfl hz.2
      refine ih (j + 1) _ (by omega) (by omega) hm.1 ?_
      rw [List.take_succ_eq_append_getElem (by omega), lsum_snoc, hyj, List.length_take, show 0 + min j (ysOf l).length = j by omega]
      exact hm.2.trans (hc.add Cg.rfl)
  simp only [impl_through.f]
  refine Tot.bind (places_tot l (by omega)) (fun y1 e1 => ?_)
  subst e1
  exact key l.length 0 0 (by omega) (by omega) (by omega) (by simp [lsum, Cg.rfl])
theorem at_tot (xs : List Int) (hs : Small xs) (at_ : Int) (ha : 0 ≤ at_ ∧ at_ ≤ 1498) : Tot (fun k => spec_l5At.f k xs at_) (fun y => y.length = xs.length ∧ ∀ i, (h : i < y.length) → (0 ≤ y[i] ∧ y[i] < 1499) ∧ Cg y[i] (wt xs i at_)) := by
  have h9 := hs.1
  have key : ∀ (m : Nat), (∀ (i : Nat) (ws : List Int), 20 * (xs.length - i) ≤ m → i ≤ xs.length → (ws.length = i ∧ ∀ j, (h : j < ws.length) → (0 ≤ ws[j] ∧ ws[j] < 1499) ∧ Cg ws[j] (wt xs j at_)) →
        Tot (fun k => spec_l5At.l0 k xs at_ ws xs (xs.length : Int) (i : Int)) (fun y => y.length = xs.length ∧ ∀ i, (h : i < y.length) → (0 ≤ y[i] ∧ y[i] < 1499) ∧ Cg y[i] (wt xs i at_))) ∧
      (∀ (i j : Nat) (ws : List Int) (v : Int), 20 * (xs.length - i) ≤ m + (j + 1) → (hi : i < xs.length) → j ≤ xs.length → (0 ≤ v ∧ v < 1499) → Cg v (pl (((xs.take j).eraseIdx i).map fun o => (o - at_) * iv (o - xs.getD i 0))) → (ws.length = i ∧ ∀ j, (h : j < ws.length) → (0 ≤ ws[j] ∧ ws[j] < 1499) ∧ Cg ws[j] (wt xs j at_)) →
        Tot (fun k => spec_l5At.l1 k xs at_ ws (i : Int) xs[i] v xs (xs.length : Int) (i : Int) xs (xs.length : Int) (j : Int)) (fun y => y.length = xs.length ∧ ∀ i, (h : i < y.length) → (0 ≤ y[i] ∧ y[i] < 1499) ∧ Cg y[i] (wt xs i at_))) := by
    intro m
    induction m with
    | zero =>
      refine ⟨fun i ws hm hi hw => ?_, fun i j ws v hm hi hj _ _ _ => by omega⟩
      refine Tot.up ?_
      simp only [spec_l5At.l0]
      exact Tot.neg (by omega) (Tot.some_ ⟨by omega, hw.2⟩)
    | succ m ih =>
      refine ⟨fun i ws hm hi hw => ?_, fun i j ws v hm hi hj hv hc hw => ?_⟩
      · refine Tot.up ?_
        simp only [spec_l5At.l0]
        by_cases h : i < xs.length
        · rw [rd_in xs i h]
          exact Tot.pos (by omega) (Tot.pos (by omega) (Tot.pos (by omega) (ih.2 i 0 ws 1 (by omega) h (by omega) (by omega) (by simp [pl, Cg.rfl]) hw)))
        · exact Tot.neg (by omega) (Tot.some_ ⟨by omega, hw.2⟩)
      · have hxi := hs.2 _ (List.getElem_mem hi)
        have hgi : xs.getD i 0 = xs[i] := getDin xs 0 i hi
        refine Tot.up ?_
        simp only [spec_l5At.l1]
        by_cases h : j < xs.length
        · have hx := hs.2 _ (List.getElem_mem h)
          have hst := er_step xs i j h
          rw [rd_in xs j h, w64 (n := (j : Int) + 1) (by omega) (by omega), w64 (n := xs[j] - at_) (by omega) (by omega), w64 (n := xs[j] - xs[i]) (by omega) (by omega)]
          refine Tot.pos (by omega) (Tot.pos (by omega) (Tot.pos (by omega) ?_))
          by_cases e : j = i
          · refine Tot.pos (by omega) ?_
            rw [if_pos e] at hst
            exact ih.2 i (j + 1) ws v (by omega) hi (by omega) hv (by rw [hst]; exact hc) hw
          · refine Tot.neg (by omega) ?_
            simp only [spec_l5Mod.f, modV, Option.bind_some]
            refine Tot.bind (Tot.at_ 1501 rfl (fun k hk => inverse_eq _ k (by omega))) (fun z ez => ?_)
            subst ez
            rw [if_neg e] at hst
            have hr : 0 ≤ iv (xs[j] - xs[i]) ∧ iv (xs[j] - xs[i]) < 1499 := by
              have := Nat.mod_lt (((xs[j] - xs[i]) % 1499).toNat ^ 1497) (show 0 < 1499 by omega)
              unfold iv
              omega
            have hm1 := mulC hv (by omega : 0 ≤ (xs[j] - at_) % 1499 ∧ (xs[j] - at_) % 1499 < 1499) hc (Cg.mod (xs[j] - at_))
            have hm2 := mulC hm1.1 hr hm1.2 Cg.rfl
            refine ih.2 i (j + 1) ws _ (by omega) hi (by omega) hm2.1 ?_ hw
            rw [hst, List.map_append, List.map_singleton, pl_snoc, hgi]
            rw [hgi] at hm2
            exact hm2.2.trans (Cg.of_eq (by grind))
        · rw [List.take_of_length_le (by omega)] at hc
          refine Tot.neg (by omega) (Tot.pos (by omega) ?_)
          rw [w64 (n := (i : Int) + 1) (by omega) (by omega)]
          refine ih.1 (i + 1) (ws ++ [v]) (by omega) (by omega) ⟨by rw [List.length_append, List.length_singleton]; omega, fun q hq => ?_⟩
          rw [List.length_append, List.length_singleton] at hq
          by_cases e : q < ws.length
          · rw [List.getElem_append_left e]
            exact hw.2 q e
          · have e2 : q = ws.length := by omega
            subst e2
            rw [List.getElem_append_right (Nat.le_refl _)]
            simp only [Nat.sub_self, List.getElem_singleton]
            rw [hw.1]
            exact ⟨hv, hc⟩
  simp only [spec_l5At.f]
  exact (key (20 * xs.length)).1 0 [] (by omega) (by omega) ⟨rfl, fun j h => by simp at h⟩
theorem specThrough_tot (l : List S46) (hs : Small (xsOf l)) (hy : ∀ y ∈ ysOf l, 0 ≤ y ∧ y ≤ 1498) (x : Int) (hx : 0 ≤ x ∧ x ≤ 1498) : Tot (fun k => spec_l5Through.f k l x) (fun y => (0 ≤ y ∧ y < 1499) ∧ Cg y (lsum (xsOf l) x (ysOf l) 0)) := by
  have h9 := hs.1
  have hxl := xsOf_length l
  have hyl := ysOf_length l
  simp only [spec_l5Through.f]
  refine Tot.bind (split_tot l (by omega)) (fun y1 e1 => ?_)
  subst e1
  refine Tot.bind (at_tot (xsOf l) hs x hx) (fun ws hw => ?_)
  have key : ∀ (d j : Nat) (v : Int), ws.length - j = d → j ≤ ws.length → (0 ≤ v ∧ v < 1499) → Cg v (lsum (xsOf l) x ((ysOf l).take j) 0) →
      Tot (fun k => spec_l5Through.l0 k (ysOf l) v ws (ws.length : Int) (j : Int)) (fun y => (0 ≤ y ∧ y < 1499) ∧ Cg y (lsum (xsOf l) x (ysOf l) 0)) := by
    intro d
    induction d with
    | zero =>
      intro j v hd hj hv hc
      refine Tot.up ?_
      simp only [spec_l5Through.l0]
      rw [List.take_of_length_le (by omega)] at hc
      exact Tot.neg (by omega) (Tot.some_ ⟨hv, hc⟩)
    | succ d ih =>
      intro j v hd hj hv hc
      have hlt : j < ws.length := by omega
      have hyr := hy _ (List.getElem_mem (show j < (ysOf l).length by omega))
      have hz := hw.2 j hlt
      refine Tot.up ?_
      simp only [spec_l5Through.l0]
      rw [rd_in ws j hlt, rd_in (ysOf l) j (by omega), w64 (n := (j : Int) + 1) (by omega) (by omega)]
      refine Tot.pos (by omega) (Tot.pos (by omega) (Tot.pos (by omega) (Tot.pos (by omega) ?_)))
      have hm := addC v hz.1 (by omega : 0 ≤ (ysOf l)[j] ∧ (ysOf l)[j] < 1499) hv hz.2 Cg.rfl
      refine ih (j + 1) _ (by omega) (by omega) hm.1 ?_
      rw [List.take_succ_eq_append_getElem (by omega), lsum_snoc, List.length_take, show 0 + min j (ysOf l).length = j by omega]
      exact hm.2.trans (hc.add (Cg.of_eq (Int.mul_comm _ _)))
  exact key ws.length 0 0 (by omega) (by omega) (by omega) (by simp [lsum, Cg.rfl])
theorem prt_small {l : List S46} (h : prtB l = true) : Small (xsOf l) ∧ Far (xsOf l) ∧ (∀ y ∈ ysOf l, 0 ≤ y ∧ y ≤ 1498) ∧ 1 ≤ l.length ∧ l.length ≤ 8 := by
  obtain ⟨h1, h2⟩ := prtB_true h
  obtain ⟨h3, h4, h5⟩ := unlB_true h1
  rw [xsOf_length] at h4
  exact ⟨⟨by rw [xsOf_length]; omega, fun x hx => by have := h5 x hx; omega⟩, far_of h3 (fun x hx => by have := h5 x hx; omega), h2, h4.1, h4.2⟩
/-- What goes through parts, at a place: one value, told by both. -/
theorem thr_same (l : List S46) (hl : l.length ≤ 1048576) (x : Int) : ∃ r : Int × Bool, r.2 = (prtB l && decide (0 ≤ x ∧ x ≤ 1498)) ∧ (r.2 = true → (0 ≤ r.1 ∧ r.1 < 1499) ∧ Cg r.1 (lsum (xsOf l) x (ysOf l) 0)) ∧
    Tot (fun k => impl_ThroughParts.f k l x) (fun y => y = r) ∧ Tot (fun k => spec_ThroughParts.f k l x) (fun y => y = r) := by
  simp only [impl_ThroughParts.f, spec_ThroughParts.f, impl_isValue.f, spec_l5Field.f, within_eq, l1In_eq, Option.bind_some]
  by_cases h : prtB l = true
  · by_cases hx : 0 ≤ x ∧ x ≤ 1498
    · obtain ⟨h1, h2, h3, _⟩ := prt_small h
      obtain ⟨v, hv, ht⟩ := (through_tot l h1 h3 x hx).val
      have hs2 := (specThrough_tot l h1 h3 x hx).imp (R := fun y => y = v) (fun y hy => ((hy.2.trans hv.2.symm).eq hy.1 hv.1))
      refine ⟨(v, true), by rw [h, decide_eq_true hx]; rfl, fun _ => hv, ?_, ?_⟩
      · refine Tot.bind (implParts_tot l hl) (fun y1 e1 => Tot.pos (e1.trans h) (Tot.pos (decide_eq_true hx) (Tot.bind ht (fun y2 e2 => Tot.some_ (by rw [e2])))))
      · refine Tot.bind (specParts_tot l hl) (fun y1 e1 => Tot.pos (e1.trans h) (Tot.pos (decide_eq_true hx) (Tot.bind hs2 (fun y2 e2 => Tot.some_ (by rw [e2])))))
    · refine ⟨(0, false), by rw [decide_eq_false hx]; simp, (fun h2 => by cases h2), ?_, ?_⟩
      · refine Tot.bind (implParts_tot l hl) (fun y1 e1 => Tot.pos (e1.trans h) (Tot.neg (by simpa using hx) (Tot.some_ rfl)))
      · refine Tot.bind (specParts_tot l hl) (fun y1 e1 => Tot.pos (e1.trans h) (Tot.neg (by simpa using hx) (Tot.some_ rfl)))
  · refine ⟨(0, false), by rw [Bool.not_eq_true] at h; rw [h]; rfl, (fun h2 => by cases h2), ?_, ?_⟩
    · refine Tot.bind (implParts_tot l hl) (fun y1 e1 => Tot.neg (by rw [e1]; exact h) (Tot.some_ rfl))
    · refine Tot.bind (specParts_tot l hl) (fun y1 e1 => Tot.neg (by rw [e1]; exact h) (Tot.some_ rfl))

theorem modu_eq (a : Int) : impl_modulo.f a = some (a % 1499) := by
  unfold impl_modulo.f
  rw [modV]
def Red (c : List Int) : Prop := ∀ a ∈ c, 0 ≤ a ∧ a < 1499
theorem Red.set {c : List Int} (h : Red c) (i : Nat) (v : Int) (hv : 0 ≤ v ∧ v < 1499) : Red (c.set i v) := fun a ha => by
  rcases List.mem_or_eq_of_mem_set ha with h1 | h1
  · exact h a h1
  · rw [h1]
    exact hv
theorem Red.get {c : List Int} (h : Red c) (i : Nat) : 0 ≤ c.getD i 0 ∧ c.getD i 0 < 1499 := by
  by_cases hi : i < c.length
  · rw [getDin c 0 i hi]
    exact h _ (List.getElem_mem hi)
  · rw [List.getD_eq_getElem?_getD, List.getElem?_eq_none (by omega)]
    simp
/-- What the i-th part gives, others gone through up to k. -/
def termV (l : List S46) (i k : Nat) (x : Int) : Int := (ysOf l).getD i 0 * pl ((((xsOf l).take k).eraseIdx i).map fun o => (x - o) * iv ((xsOf l).getD i 0 - o))
theorem iv_cg {a b : Int} (h : Cg a b) : iv a = iv b := by
  unfold iv
  rw [h.emod]
theorem iv_neg (b : Int) : Cg (iv (0 - b)) (0 - iv b) := by
  by_cases h : Cg b 0
  · have h1 : Cg (0 - b) 0 := (Cg.rfl.sub h).trans (Cg.of_eq (by omega))
    rw [iv_cg h1, iv_cg h]
    have : iv 0 = 0 := by decide +kernel
    rw [this]
    exact Cg.rfl
  · have h1 : ¬ Cg (0 - b) 0 := fun h2 => h (by
      obtain ⟨q, h2⟩ := h2
      exact ⟨-q, by omega⟩)
    have h2 := iv_mul b h
    have h3 := iv_mul (0 - b) h1
    have h4 : Cg ((0 - b) * (iv (0 - b) + iv b)) 0 := by
      have h5 := h3.sub h2
      refine (Cg.of_eq ?_).trans (h5.trans (Cg.of_eq (by omega)))
      grind
    rcases h4.prime with h6 | h6
    · exact absurd h6 h1
    · obtain ⟨q, h6⟩ := h6
      exact ⟨q, by omega⟩
theorem pl_cg : ∀ (l : List Int) (f g : Int → Int), (∀ o ∈ l, Cg (f o) (g o)) → Cg (pl (l.map f)) (pl (l.map g))
  | [], _, _, _ => Cg.rfl
  | a :: l, f, g, h => (h a (by simp)).mul (pl_cg l f g (fun o ho => h o (by simp [ho])))
theorem termV_wt (l : List S46) (i : Nat) (x : Int) : Cg (termV l i l.length x) ((ysOf l).getD i 0 * wt (xsOf l) i x) := by
  unfold termV wt
  rw [List.take_of_length_le (by rw [xsOf_length]; omega)]
  refine Cg.rfl.mul (pl_cg _ _ _ (fun o _ => ?_))
  have h1 : Cg (iv ((xsOf l).getD i 0 - o)) (0 - iv (o - (xsOf l).getD i 0)) := by
    have := iv_neg (o - (xsOf l).getD i 0)
    rw [show 0 - (o - (xsOf l).getD i 0) = (xsOf l).getD i 0 - o by omega] at this
    exact this
  exact ((Cg.rfl (a := x - o)).mul h1).trans (Cg.of_eq (by grind))
theorem poly_l2 (l : List S46) (out : List Int) (i : Nat) (k : Nat) (prod : List Int) (hp : Red prod) (hpl : prod.length ≤ 9) (xi yi o oy : Int) (hxi : 0 ≤ xi ∧ xi ≤ 1498) (ho : 0 ≤ o ∧ o ≤ 1498) (Q : List Int × Bool → Prop)
    (hQ : ∀ next : List Int, Red next → next.length = prod.length + 1 → (∀ x, Cg (ev next x) (ev prod x * ((x - o) * iv (xi - o)))) → Tot (fun k' => impl_PolyThrough.l1 k' l out (i : Int) next l (l.length : Int) (i : Int) l (l.length : Int) ((k : Int) + 1) xi yi) Q) (hk : k < 9) :
    ∀ (d n : Nat) (next : List Int), prod.length - n = d → n ≤ prod.length → Red next → next.length = prod.length + 1 → (∀ x, Cg (ev next x) (ev (prod.take n) x * ((x - o) * iv (xi - o)))) →
    Tot (fun k' => impl_PolyThrough.l2 k' l out (i : Int) next l (l.length : Int) (i : Int) l (l.length : Int) (k : Int) prod (prod.length : Int) (n : Int) xi yi o oy) Q := by
  intro d
  induction d with
  | zero =>
    intro n next hd hn hr hl hv
    refine Tot.up ?_
    simp only [impl_PolyThrough.l2]
    rw [w64 (n := (k : Int) + 1) (by omega) (by omega)]
    rw [List.take_of_length_le (by omega)] at hv
    exact Tot.neg (by omega) (hQ next hr hl hv)
  | succ d ih =>
    intro n next hd hn hr hl hv
    have hlt : n < prod.length := by omega
    have ha := hp _ (List.getElem_mem hlt)
    have h0 : 0 ≤ prod[n] * o := Int.mul_nonneg ha.1 ho.1
    have h3 : prod[n] * o ≤ 1499 * 1499 := Int.mul_le_mul (by omega) (by omega) ho.1 (by omega)
    have hd1 := dvV_range prod[n] (xi - o)
    have hd2 := dvV_range (prod[n] * o) (xi - o)
    have hg1 := hr.get (n + 1)
    have e1 : rd next ((n : Int) + 1) = next.getD (n + 1) 0 := by
      rw [show (n : Int) + 1 = ((n + 1 : Nat) : Int) by omega]
      rfl
    have hr1 := hr.set (n + 1) ((next.getD (n + 1) 0 + dvV prod[n] (xi - o)) % 1499) (by omega)
    have hg2 := hr1.get n
    refine Tot.up ?_
    simp only [impl_PolyThrough.l2]
    rw [w64 (n := (n : Int) + 1) (by omega) (by omega), rd_in prod n hlt, w64 (n := xi - o) (by omega) (by omega), w64 (n := prod[n] * o) (by omega) (by omega), e1, show ((n : Int) + 1).toNat = n + 1 by omega]
    refine Tot.pos (by omega) (Tot.pos (by omega) (Tot.pos (by omega) (Tot.pos (by omega) (Tot.pos (by omega) (Tot.bind (Tot.at_ 1501 rfl (fun k hk => divided_eq _ _ k (by omega))) (fun z ez => ?_))))))
    subst ez
    simp only [modu_eq, Option.bind_some]
    rw [w64 (n := next.getD (n + 1) 0 + dvV prod[n] (xi - o)) (by omega) (by omega)]
    refine Tot.pos (by omega) (Tot.bind (Tot.at_ 1501 rfl (fun k hk => divided_eq _ _ k (by omega))) (fun z ez => ?_))
    subst ez
    have e2 : rd (next.set (n + 1) ((next.getD (n + 1) 0 + dvV prod[n] (xi - o)) % 1499)) (n : Int) = next.getD n 0 := by
      show (next.set (n + 1) _).getD n 0 = _
      rw [List.getD_eq_getElem?_getD, List.getElem?_set_ne (by omega), ← List.getD_eq_getElem?_getD]
    have hg3 := hr.get n
    rw [e2, w64 (n := next.getD n 0 - dvV (prod[n] * o) (xi - o)) (by omega) (by omega), Int.toNat_natCast]
    refine ih (n + 1) _ (by omega) (by omega) (hr1.set n _ (by omega)) (by rw [List.length_set, List.length_set]; exact hl) (fun x => ?_)
    have e3 : (next.set (n + 1) ((next.getD (n + 1) 0 + dvV prod[n] (xi - o)) % 1499)).getD n 0 = next.getD n 0 := e2
    rw [ev_set _ n _ x (by rw [List.length_set]; omega), e3, ev_set _ (n + 1) _ x (by omega), List.take_succ_eq_append_getElem hlt, ev_snoc, List.length_take, show min n prod.length = n by omega]
    have c1 : Cg ((next.getD (n + 1) 0 + dvV prod[n] (xi - o)) % 1499 - next.getD (n + 1) 0) (prod[n] * iv (xi - o)) := ((Cg.mod _).sub Cg.rfl).trans ((Cg.of_eq (by omega)).trans (dvV_cg prod[n] (xi - o)))
    have c2 : Cg ((next.getD n 0 - dvV (prod[n] * o) (xi - o)) % 1499 - next.getD n 0) (0 - prod[n] * o * iv (xi - o)) := ((Cg.mod _).sub Cg.rfl).trans ((Cg.of_eq (by omega)).trans ((Cg.rfl (a := 0)).sub (dvV_cg (prod[n] * o) (xi - o))))
    refine (((hv x).add (c1.mul Cg.rfl)).add (c2.mul Cg.rfl)).trans (Cg.of_eq ?_)
    rw [Int.pow_succ]
    grind
theorem poly_l1 (l : List S46) (hs : Small (xsOf l)) (hy : ∀ y ∈ ysOf l, 0 ≤ y ∧ y ≤ 1498) (out : List Int) (i : Nat) (hi : i < l.length) (Q : List Int × Bool → Prop)
    (hQ : ∀ prod : List Int, Red prod → prod.length = l.length → (∀ x, Cg (ev prod x) (termV l i l.length x)) → Tot (fun k' => impl_PolyThrough.l3 k' l out l (l.length : Int) (i : Int) prod (prod.length : Int) 0) Q) :
    ∀ (d k : Nat) (prod : List Int), l.length - k = d → k ≤ l.length → Red prod → prod.length = (if k ≤ i then k + 1 else k) → (∀ x, Cg (ev prod x) (termV l i k x)) →
    Tot (fun k' => impl_PolyThrough.l1 k' l out (i : Int) prod l (l.length : Int) (i : Int) l (l.length : Int) (k : Int) l[i].f0 l[i].f1) Q := by
  have h9 := hs.1
  rw [xsOf_length] at h9
  have hxl := xsOf_length l
  have hxi : (xsOf l)[i]'(by omega) = l[i].f0 := by simp [xsOf]
  have hxr := hs.2 _ (List.getElem_mem (show i < (xsOf l).length by omega))
  rw [hxi] at hxr
  have hgi : (xsOf l).getD i 0 = l[i].f0 := by rw [getDin _ 0 i (by omega), hxi]
  intro d
  induction d with
  | zero =>
    intro k prod hd hk hr hl hv
    have e : k = l.length := by omega
    subst e
    refine Tot.up ?_
    simp only [impl_PolyThrough.l1]
    exact Tot.neg (by omega) (hQ prod hr (by rw [hl, if_neg (by omega)]) hv)
  | succ d ih =>
    intro k prod hd hk hr hl hv
    have hlt : k < l.length := by omega
    have hst := er_step (xsOf l) i k (by omega)
    have hxk : (xsOf l)[k]'(by omega) = l[k].f0 := by simp [xsOf]
    have hxkr := hs.2 _ (List.getElem_mem (show k < (xsOf l).length by omega))
    rw [hxk] at hxkr
    refine Tot.up ?_
    simp only [impl_PolyThrough.l1]
    rw [rdP l k hlt]
    refine Tot.pos (by omega) (Tot.pos (by omega) (Tot.pos (by omega) ?_))
    by_cases e : k = i
    · rw [w64 (n := (k : Int) + 1) (by omega) (by omega)]
      refine Tot.pos (by omega) (ih (k + 1) prod (by omega) (by omega) hr (by rw [hl, if_pos (by omega), if_neg (by omega)]) (fun x => ?_))
      have := hv x
      unfold termV at this ⊢
      rw [hst, if_pos e]
      exact this
    · have hpl : prod.length ≤ 9 := by rw [hl]; split <;> omega
      rw [w64 (n := (prod.length : Int) + 1) (by omega) (by omega), show ((prod.length : Int) + 1).toNat = prod.length + 1 by omega]
      refine Tot.neg (by omega) (Tot.pos (by omega) (Tot.pos (by omega) ?_))
      have h := poly_l2 l out i k prod hr hpl l[i].f0 l[i].f1 l[k].f0 l[k].f1 hxr hxkr Q (fun next h1 h2 h3 => ih (k + 1) next (by omega) (by omega) h1 (by rw [h2, hl]; split <;> split <;> omega) (fun x => by
        refine (h3 x).trans (((hv x).mul Cg.rfl).trans (Cg.of_eq ?_))
        unfold termV
        rw [hst, if_neg e, List.map_append, List.map_singleton, pl_snoc, hxk, hgi]
        grind)) (by omega) prod.length 0 (List.replicate (prod.length + 1) 0) (by omega) (by omega) (fun a ha => by rw [(List.mem_replicate.1 ha).2]; omega) (by simp) (fun x => by
          rw [ev_zeros]
          simp only [List.take_zero, ev, Int.zero_mul]
          exact Cg.rfl)
      exact h
theorem poly_l3 (l : List S46) (hl : l.length ≤ 9) (i : Nat) (hi : i < l.length) (prod : List Int) (hp : Red prod) (hpl : prod.length = l.length) (Q : List Int × Bool → Prop) (V : Int → Int)
    (hQ : ∀ out : List Int, Red out → out.length = l.length → (∀ x, Cg (ev out x) (V x + ev prod x)) → Tot (fun k' => impl_PolyThrough.l0 k' l out l (l.length : Int) ((i : Int) + 1)) Q) :
    ∀ (d n : Nat) (out : List Int), prod.length - n = d → n ≤ prod.length → Red out → out.length = l.length → (∀ x, Cg (ev out x) (V x + ev (prod.take n) x)) →
    Tot (fun k' => impl_PolyThrough.l3 k' l out l (l.length : Int) (i : Int) prod (prod.length : Int) (n : Int)) Q := by
  intro d
  induction d with
  | zero =>
    intro n out hd hn hr ho hv
    rw [List.take_of_length_le (by omega)] at hv
    refine Tot.up ?_
    simp only [impl_PolyThrough.l3]
    rw [w64 (n := (i : Int) + 1) (by omega) (by omega)]
    exact Tot.neg (by omega) (hQ out hr ho hv)
  | succ d ih =>
    intro n out hd hn hr ho hv
    have hlt : n < prod.length := by omega
    have ha := hp _ (List.getElem_mem hlt)
    have hg := hr.get n
    have e1 : rd out (n : Int) = out.getD n 0 := rfl
    refine Tot.up ?_
    simp only [impl_PolyThrough.l3, modu_eq, Option.bind_some]
    rw [rd_in prod n hlt, e1, w64 (n := out.getD n 0 + prod[n]) (by omega) (by omega), w64 (n := (n : Int) + 1) (by omega) (by omega), Int.toNat_natCast]
    refine Tot.pos (by omega) (Tot.pos (by omega) (Tot.pos (by omega) (Tot.pos (by omega) ?_)))
    refine ih (n + 1) _ (by omega) (by omega) (hr.set n _ (by omega)) (by rw [List.length_set]; exact ho) (fun x => ?_)
    rw [ev_set _ n _ x (by omega), List.take_succ_eq_append_getElem hlt, ev_snoc, List.length_take, show min n prod.length = n by omega]
    have c1 : Cg ((out.getD n 0 + prod[n]) % 1499 - out.getD n 0) prod[n] := ((Cg.mod _).sub Cg.rfl).trans (Cg.of_eq (by omega))
    exact ((hv x).add (c1.mul Cg.rfl)).trans (Cg.of_eq (by omega))
theorem poly_l0 (l : List S46) (hs : Small (xsOf l)) (hy : ∀ y ∈ ysOf l, 0 ≤ y ∧ y ≤ 1498) : ∀ (d i : Nat) (out : List Int), l.length - i = d → i ≤ l.length → Red out → out.length = l.length → (∀ x, Cg (ev out x) (lsum (xsOf l) x ((ysOf l).take i) 0)) →
    Tot (fun k' => impl_PolyThrough.l0 k' l out l (l.length : Int) (i : Int)) (fun y => y.2 = true ∧ Red y.1 ∧ y.1.length = l.length ∧ ∀ x, Cg (ev y.1 x) (lsum (xsOf l) x (ysOf l) 0)) := by
  have h9 := hs.1
  rw [xsOf_length] at h9
  have hyl := ysOf_length l
  intro d
  induction d with
  | zero =>
    intro i out hd hi hr ho hv
    rw [List.take_of_length_le (by omega)] at hv
    refine Tot.up ?_
    simp only [impl_PolyThrough.l0]
    exact Tot.neg (by omega) (Tot.some_ ⟨rfl, hr, ho, hv⟩)
  | succ d ih =>
    intro i out hd hi hr ho hv
    have hlt : i < l.length := by omega
    have hyi : (ysOf l)[i]'(by omega) = l[i].f1 := by simp [ysOf]
    have hyr := hy _ (List.getElem_mem (show i < (ysOf l).length by omega))
    have hgy : (ysOf l).getD i 0 = l[i].f1 := by rw [getDin _ 0 i (by omega), hyi]
    rw [hyi] at hyr
    refine Tot.up ?_
    simp only [impl_PolyThrough.l0]
    rw [rdP l i hlt]
    refine Tot.pos (by omega) (Tot.pos (by omega) (Tot.pos (by omega) ?_))
    refine poly_l1 l hs hy out i hlt _ (fun prod h1 h2 h3 => ?_) l.length 0 [l[i].f1] (by omega) (by omega) (fun a ha => by rw [List.mem_singleton.1 ha]; omega) (by simp) (fun x => ?_)
    · refine poly_l3 l h9 i hlt prod h1 h2 _ (fun x => lsum (xsOf l) x ((ysOf l).take i) 0) (fun out2 h4 h5 h6 => ?_) prod.length 0 out (by omega) (by omega) hr ho (fun x => ?_)
      · refine ih (i + 1) out2 (by omega) (by omega) h4 h5 (fun x => ?_)
        rw [List.take_succ_eq_append_getElem (by omega), lsum_snoc, List.length_take, show 0 + min i (ysOf l).length = i by omega, hyi]
        have h7 := termV_wt l i x
        rw [hgy] at h7
        exact (h6 x).trans (Cg.rfl.add ((h3 x).trans h7))
      · simp only [List.take_zero, ev, Int.add_zero]
        exact hv x
    · unfold termV
      rw [hgy]
      simp [ev, pl, Cg.rfl]
theorem polyThrough_tot (l : List S46) (hl : l.length ≤ 1048576) : Tot (fun k => impl_PolyThrough.f k l) (fun y => y.2 = prtB l ∧ y.1.length ≤ 8 ∧ (prtB l = true → Red y.1 ∧ y.1.length = l.length ∧ ∀ x, Cg (ev y.1 x) (lsum (xsOf l) x (ysOf l) 0))) := by
  simp only [impl_PolyThrough.f]
  refine Tot.bind (implParts_tot l hl) (fun y1 e1 => ?_)
  subst e1
  refine Tot.ite (fun h => ?_) (fun h => Tot.some_ ⟨by rw [Bool.not_eq_true] at h; exact h.symm, by simp, fun h2 => absurd h2 h⟩)
  obtain ⟨h1, h2, h3, h4, h5⟩ := prt_small h
  rw [Int.toNat_natCast]
  refine Tot.pos (by omega) (Tot.pos (by omega) ?_)
  refine (poly_l0 l h1 h3 l.length 0 (List.replicate l.length 0) (by omega) (by omega) (fun a ha => by rw [(List.mem_replicate.1 ha).2]; omega) (by simp) (fun x => ?_)).imp (fun y hy => ⟨by rw [hy.1, h], by omega, fun _ => hy.2⟩)
  rw [ev_zeros]
  exact Cg.rfl

theorem implValue_tot (c : List Int) (hl : c.length ≤ 9) (hc : ∀ a ∈ c, 0 ≤ a ∧ a ≤ 1498) (x : Int) (hx : 0 ≤ x ∧ x ≤ 1498) : Tot (fun k => impl_value.f k c x) (fun y => (0 ≤ y ∧ y < 1499) ∧ Cg y (ev c x)) := by
  have key : ∀ (j : Nat) (v : Int), j ≤ c.length → (0 ≤ v ∧ v < 1499) → Cg v (ev (c.drop j) x) → Tot (fun k => impl_value.l0 k c x v ((j : Int) - 1)) (fun y => (0 ≤ y ∧ y < 1499) ∧ Cg y (ev c x)) := by
    intro j
    induction j with
    | zero =>
      intro v hj hv hg
      rw [List.drop_zero] at hg
      refine Tot.up ?_
      simp only [impl_value.l0]
      exact Tot.neg (by omega) (Tot.some_ ⟨hv, hg⟩)
    | succ j ih =>
      intro v hj hv hg
      have hlt : j < c.length := by omega
      have ha := hc _ (List.getElem_mem hlt)
      have h0 : 0 ≤ v * x := Int.mul_nonneg hv.1 hx.1
      have h3 : v * x ≤ 1499 * 1499 := Int.mul_le_mul (by omega) (by omega) hx.1 (by omega)
      refine Tot.up ?_
      simp only [impl_value.l0]
      rw [show ((j + 1 : Nat) : Int) - 1 = (j : Int) by omega, rd_in c j hlt, w64 (n := v * x) (by omega) (by omega), w64 (n := v * x + c[j]) (by omega) (by omega), w64 (n := (j : Int) - 1) (by omega) (by omega), Int.tmod_eq_emod_of_nonneg (by omega)]
      refine Tot.pos (by omega) (Tot.pos (by omega) (Tot.pos (by omega) (ih _ (by omega) (by omega) ?_)))
      rw [List.drop_eq_getElem_cons hlt]
      refine (Cg.mod _).trans (((hg.mul Cg.rfl).add Cg.rfl).trans (Cg.of_eq ?_))
      simp only [ev]
      grind
  simp only [impl_value.f]
  rw [w64 (n := (c.length : Int) - 1) (by omega) (by omega)]
  exact key c.length 0 (by omega) (by omega) (by rw [List.drop_of_length_le (Nat.le_refl _)]; exact Cg.rfl)
theorem implPoly_tot (c : List Int) (hl : c.length ≤ 1048576) : Tot (fun k => impl_isPoly.f k c) (fun y => y = decide ((1 ≤ (c.length : Int) ∧ (c.length : Int) ≤ 8) ∧ ∀ a ∈ c, 0 ≤ a ∧ a ≤ 1498)) := by
  simp only [impl_isPoly.f, within_eq, Option.bind_some]
  refine Tot.ite (fun h => ?_) (fun h => Tot.some_ ?_)
  · refine Tot.bind (Tot.at_ (c.length + 1) rfl (fun k hk => implAll_eq c hl 0 1498 k (by omega))) (fun y e => Tot.some_ ?_)
    subst e
    exact decide_eq_decide.2 ⟨fun h2 => ⟨of_decide_eq_true h, h2⟩, fun h2 => h2.2⟩
  · exact (decide_eq_false (fun h2 => h (decide_eq_true h2.1))).symm

theorem specValue_tot (c : List Int) (hl : c.length ≤ 9) (hc : ∀ a ∈ c, 0 ≤ a ∧ a ≤ 1498) (x : Int) (hx : 0 ≤ x ∧ x ≤ 1498) : Tot (fun k => spec_l5Value.f k c x) (fun y => (0 ≤ y ∧ y < 1499) ∧ Cg y (ev c x)) := by
  have key : ∀ (j : Nat) (v : Int), j ≤ c.length → (0 ≤ v ∧ v < 1499) → Cg v (ev (c.drop j) x) → Tot (fun k => spec_l5Value.l0 k c x v ((j : Int) - 1)) (fun y => (0 ≤ y ∧ y < 1499) ∧ Cg y (ev c x)) := by
    intro j
    induction j with
    | zero =>
      intro v hj hv hg
      rw [List.drop_zero] at hg
      refine Tot.up ?_
      simp only [spec_l5Value.l0]
      exact Tot.neg (by omega) (Tot.some_ ⟨hv, hg⟩)
    | succ j ih =>
      intro v hj hv hg
      have hlt : j < c.length := by omega
      have ha := hc _ (List.getElem_mem hlt)
      have h0 : 0 ≤ v * x := Int.mul_nonneg hv.1 hx.1
      have h3 : v * x ≤ 1499 * 1499 := Int.mul_le_mul (by omega) (by omega) hx.1 (by omega)
      refine Tot.up ?_
      simp only [spec_l5Value.l0]
      rw [show ((j + 1 : Nat) : Int) - 1 = (j : Int) by omega, rd_in c j hlt, w64 (n := v * x) (by omega) (by omega), w64 (n := v * x + c[j]) (by omega) (by omega), w64 (n := (j : Int) - 1) (by omega) (by omega), Int.tmod_eq_emod_of_nonneg (by omega)]
      refine Tot.pos (by omega) (Tot.pos (by omega) (Tot.pos (by omega) (ih _ (by omega) (by omega) ?_)))
      rw [List.drop_eq_getElem_cons hlt]
      refine (Cg.mod _).trans (((hg.mul Cg.rfl).add Cg.rfl).trans (Cg.of_eq ?_))
      simp only [ev]
      grind
  simp only [spec_l5Value.f]
  rw [w64 (n := (c.length : Int) - 1) (by omega) (by omega)]
  exact key c.length 0 (by omega) (by omega) (by rw [List.drop_of_length_le (Nat.le_refl _)]; exact Cg.rfl)
theorem specPoly_tot (c : List Int) (hl : c.length ≤ 1048576) : Tot (fun k => spec_l5Poly.f k c) (fun y => y = decide ((1 ≤ (c.length : Int) ∧ (c.length : Int) ≤ 8) ∧ ∀ a ∈ c, 0 ≤ a ∧ a ≤ 1498)) := by
  simp only [spec_l5Poly.f, l1In_eq, Option.bind_some]
  refine Tot.ite (fun h => ?_) (fun h => Tot.some_ ?_)
  · refine Tot.bind (Tot.at_ (c.length + 1) rfl (fun k hk => specAll_eq c hl 0 1498 k (by omega))) (fun y e => Tot.some_ ?_)
    subst e
    exact decide_eq_decide.2 ⟨fun h2 => ⟨of_decide_eq_true h, h2⟩, fun h2 => h2.2⟩
  · exact (decide_eq_false (fun h2 => h (decide_eq_true h2.1))).symm



def plyB (c : List Int) : Bool := decide ((1 ≤ (c.length : Int) ∧ (c.length : Int) ≤ 8) ∧ ∀ a ∈ c, 0 ≤ a ∧ a ≤ 1498)
theorem plyB_true {c : List Int} (h : plyB c = true) : 1 ≤ c.length ∧ c.length ≤ 8 ∧ ∀ a ∈ c, 0 ≤ a ∧ a ≤ 1498 := by
  unfold plyB at h
  rw [decide_eq_true_iff] at h
  exact ⟨by omega, by omega, h.2⟩
theorem value_same (c : List Int) (hl : c.length ≤ 1048576) (x : Int) : ∃ r : Int × Bool, r.2 = (plyB c && decide (0 ≤ x ∧ x ≤ 1498)) ∧ (r.2 = true → (0 ≤ r.1 ∧ r.1 < 1499) ∧ Cg r.1 (ev c x)) ∧
    Tot (fun k => impl_ValueAt.f k c x) (fun y => y = r) ∧ Tot (fun k => spec_ValueAt.f k c x) (fun y => y = r) := by
  simp only [impl_ValueAt.f, spec_ValueAt.f, impl_isValue.f, spec_l5Field.f, within_eq, l1In_eq, Option.bind_some]
  by_cases h : plyB c = true
  · by_cases hx : 0 ≤ x ∧ x ≤ 1498
    · obtain ⟨h1, h2, h3⟩ := plyB_true h
      obtain ⟨v, hv, ht⟩ := (implValue_tot c (by omega) h3 x hx).val
      have hs2 := (specValue_tot c (by omega) h3 x hx).imp (R := fun y => y = v) (fun y hy => ((hy.2.trans hv.2.symm).eq hy.1 hv.1))
      refine ⟨(v, true), by rw [h, decide_eq_true hx]; rfl, fun _ => hv, ?_, ?_⟩
      · refine Tot.bind (implPoly_tot c hl) (fun y1 e1 => Tot.pos (e1.trans h) (Tot.pos (decide_eq_true hx) (Tot.bind ht (fun y2 e2 => Tot.some_ (by rw [e2])))))
      · refine Tot.bind (specPoly_tot c hl) (fun y1 e1 => Tot.pos (e1.trans h) (Tot.pos (decide_eq_true hx) (Tot.bind hs2 (fun y2 e2 => Tot.some_ (by rw [e2])))))
    · refine ⟨(0, false), by rw [decide_eq_false hx]; simp, (fun h2 => by cases h2), ?_, ?_⟩
      · refine Tot.bind (implPoly_tot c hl) (fun y1 e1 => Tot.pos (e1.trans h) (Tot.neg (by simpa using hx) (Tot.some_ rfl)))
      · refine Tot.bind (specPoly_tot c hl) (fun y1 e1 => Tot.pos (e1.trans h) (Tot.neg (by simpa using hx) (Tot.some_ rfl)))
  · refine ⟨(0, false), by rw [Bool.not_eq_true] at h; rw [h]; rfl, (fun h2 => by cases h2), ?_, ?_⟩
    · refine Tot.bind (implPoly_tot c hl) (fun y1 e1 => Tot.neg (by rw [e1]; exact h) (Tot.some_ rfl))
    · refine Tot.bind (specPoly_tot c hl) (fun y1 e1 => Tot.neg (by rw [e1]; exact h) (Tot.some_ rfl))

theorem implSplit_l0 (c : List Int) (hl : c.length ≤ 9) (hc : ∀ a ∈ c, 0 ≤ a ∧ a ≤ 1498) (m : Nat) (hm : m ≤ 8) : ∀ (d i : Nat) (out : List S46), m - i = d → i ≤ m → (out.length = i ∧ ∀ j, (h : j < out.length) → out[j].f0 = (j : Int) + 1 ∧ (0 ≤ out[j].f1 ∧ out[j].f1 < 1499) ∧ Cg out[j].f1 (ev c ((j : Int) + 1))) →
    Tot (fun k => impl_SplitSecret.l0 k c (m : Int) out ((i : Int) + 1)) (fun y => (y.1.length = m ∧ ∀ j, (h : j < y.1.length) → y.1[j].f0 = (j : Int) + 1 ∧ (0 ≤ y.1[j].f1 ∧ y.1[j].f1 < 1499) ∧ Cg y.1[j].f1 (ev c ((j : Int) + 1))) ∧ y.2 = true) := by
  intro d
  induction d with
  | zero =>
    intro i out hd hi ho
    refine Tot.up ?_
    simp only [impl_SplitSecret.l0]
    exact Tot.neg (by omega) (Tot.some_ ⟨⟨by simp only; omega, ho.2⟩, rfl⟩)
  | succ d ih =>
    intro i out hd hi ho
    refine Tot.up ?_
    simp only [impl_SplitSecret.l0]
    rw [w64 (n := (i : Int) + 1 + 1) (by omega) (by omega)]
    refine Tot.pos (by omega) (Tot.bind (implValue_tot c hl hc ((i : Int) + 1) (by omega)) (fun y hy => Tot.pos (by omega) ?_))
    refine ih (i + 1) _ (by omega) (by omega) ⟨by rw [List.length_append, List.length_singleton]; omega, fun j hj => ?_⟩
    rw [List.length_append, List.length_singleton] at hj
    by_cases e : j < out.length
    · rw [List.getElem_append_left e]
      exact ho.2 j e
    · have e2 : j = i := by omega
      subst e2
      rw [List.getElem_append_right (by omega)]
      simp only [ho.1, Nat.sub_self, List.getElem_singleton]
      exact ⟨trivial, hy⟩

theorem specSplit_l0 (c : List Int) (hl : c.length ≤ 9) (hc : ∀ a ∈ c, 0 ≤ a ∧ a ≤ 1498) (m : Nat) (hm : m ≤ 8) : ∀ (d i : Nat) (out : List S46), m - i = d → i ≤ m → (out.length = i ∧ ∀ j, (h : j < out.length) → out[j].f0 = (j : Int) + 1 ∧ (0 ≤ out[j].f1 ∧ out[j].f1 < 1499) ∧ Cg out[j].f1 (ev c ((j : Int) + 1))) →
    Tot (fun k => spec_SplitSecret.l0 k c (m : Int) out ((i : Int) + 1)) (fun y => (y.1.length = m ∧ ∀ j, (h : j < y.1.length) → y.1[j].f0 = (j : Int) + 1 ∧ (0 ≤ y.1[j].f1 ∧ y.1[j].f1 < 1499) ∧ Cg y.1[j].f1 (ev c ((j : Int) + 1))) ∧ y.2 = true) := by
  intro d
  induction d with
  | zero =>
    intro i out hd hi ho
    refine Tot.up ?_
    simp only [spec_SplitSecret.l0]
    exact Tot.neg (by omega) (Tot.some_ ⟨⟨by simp only; omega, ho.2⟩, rfl⟩)
  | succ d ih =>
    intro i out hd hi ho
    refine Tot.up ?_
    simp only [spec_SplitSecret.l0]
    rw [w64 (n := (i : Int) + 1 + 1) (by omega) (by omega)]
    refine Tot.pos (by omega) (Tot.bind (specValue_tot c hl hc ((i : Int) + 1) (by omega)) (fun y hy => Tot.pos (by omega) ?_))
    refine ih (i + 1) _ (by omega) (by omega) ⟨by rw [List.length_append, List.length_singleton]; omega, fun j hj => ?_⟩
    rw [List.length_append, List.length_singleton] at hj
    by_cases e : j < out.length
    · rw [List.getElem_append_left e]
      exact ho.2 j e
    · have e2 : j = i := by omega
      subst e2
      rw [List.getElem_append_right (by omega)]
      simp only [ho.1, Nat.sub_self, List.getElem_singleton]
      exact ⟨trivial, hy⟩

theorem spl_unique (c : List Int) (m : Nat) (a b : List S46) (ha : a.length = m ∧ ∀ j, (h : j < a.length) → a[j].f0 = (j : Int) + 1 ∧ (0 ≤ a[j].f1 ∧ a[j].f1 < 1499) ∧ Cg a[j].f1 (ev c ((j : Int) + 1)))
    (hb : b.length = m ∧ ∀ j, (h : j < b.length) → b[j].f0 = (j : Int) + 1 ∧ (0 ≤ b[j].f1 ∧ b[j].f1 < 1499) ∧ Cg b[j].f1 (ev c ((j : Int) + 1))) : a = b := by
  refine List.ext_getElem (by omega) (fun j h1 h2 => ?_)
  have h3 := ha.2 j h1
  have h4 := hb.2 j h2
  have e0 : a[j].f0 = b[j].f0 := by omega
  have e1 : a[j].f1 = b[j].f1 := (h3.2.2.trans h4.2.2.symm).eq h3.2.1 h4.2.1
  cases ha2 : a[j] with
  | mk p q =>
    cases hb2 : b[j] with
    | mk r s =>
      rw [ha2, hb2] at e0 e1
      simp only at e0 e1
      rw [e0, e1]
def SplOk (c : List Int) (m : Int) (a : List S46) : Prop := (a.length : Int) = m ∧ ∀ j, (h : j < a.length) → a[j].f0 = (j : Int) + 1 ∧ (0 ≤ a[j].f1 ∧ a[j].f1 < 1499) ∧ Cg a[j].f1 (ev c ((j : Int) + 1))
theorem split_same (c : List Int) (hl : c.length ≤ 1048576) (m : Int) : ∃ r : List S46 × Bool, r.2 = (plyB c && decide (1 ≤ m ∧ m ≤ 8)) ∧ r.1.length ≤ 8 ∧ (r.2 = true → SplOk c m r.1) ∧
    Tot (fun k => impl_SplitSecret.f k c m) (fun y => y = r) ∧ Tot (fun k => spec_SplitSecret.f k c m) (fun y => y = r) := by
  simp only [impl_SplitSecret.f, spec_SplitSecret.f, within_eq, l1In_eq, Option.bind_some]
  have bi : Tot (fun k => impl_SplitSecret.j0 k c m true) (fun y => y = (([] : List S46), false)) := by
    refine Tot.up ?_
    simp only [impl_SplitSecret.j0]
    exact Tot.pos trivial (Tot.some_ rfl)
  have bs : Tot (fun k => spec_SplitSecret.j0 k c m true) (fun y => y = (([] : List S46), false)) := by
    refine Tot.up ?_
    simp only [spec_SplitSecret.j0]
    exact Tot.pos trivial (Tot.some_ rfl)
  by_cases h : plyB c = true
  · by_cases hm : 1 ≤ m ∧ m ≤ 8
    · obtain ⟨h1, h2, h3⟩ := plyB_true h
      obtain ⟨m, rfl⟩ := Int.eq_ofNat_of_zero_le (show 0 ≤ m by omega)
      obtain ⟨v, hv, ht⟩ := (implSplit_l0 c (by omega) h3 m (by omega) m 0 [] (by omega) (by omega) ⟨rfl, fun j hj => by simp at hj⟩).val
      have hs2 := (specSplit_l0 c (by omega) h3 m (by omega) m 0 [] (by omega) (by omega) ⟨rfl, fun j hj => by simp at hj⟩).imp (R := fun y => y = v) (fun y hy => Prod.ext (spl_unique c m _ _ hy.1 hv.1) (hy.2.trans hv.2.symm))
      obtain ⟨v, b⟩ := v
      obtain ⟨hv1, hv2⟩ := hv
      simp only at hv1 hv2
      subst hv2
      refine ⟨(v, true), by rw [h, decide_eq_true hm]; rfl, by simp only; omega, fun _ => ⟨by simp only; omega, hv1.2⟩, ?_, ?_⟩
      · refine Tot.bind (implPoly_tot c hl) (fun y1 e1 => Tot.pos (e1.trans h) ?_)
        rw [decide_eq_true hm]
        refine Tot.up ?_
        simp only [impl_SplitSecret.j0]
        exact Tot.neg (by simp) ht
      · refine Tot.bind (specPoly_tot c hl) (fun y1 e1 => Tot.pos (e1.trans h) ?_)
        rw [decide_eq_true hm]
        refine Tot.up ?_
        simp only [spec_SplitSecret.j0]
        exact Tot.neg (by simp) hs2
    · refine ⟨([], false), by rw [decide_eq_false hm]; simp, by simp, (fun h2 => by cases h2), ?_, ?_⟩
      · refine Tot.bind (implPoly_tot c hl) (fun y1 e1 => Tot.pos (e1.trans h) ?_)
        rw [decide_eq_false hm]
        exact bi
      · refine Tot.bind (specPoly_tot c hl) (fun y1 e1 => Tot.pos (e1.trans h) ?_)
        rw [decide_eq_false hm]
        exact bs
  · refine ⟨([], false), by rw [Bool.not_eq_true] at h; rw [h]; rfl, by simp, (fun h2 => by cases h2), ?_, ?_⟩
    · exact Tot.bind (implPoly_tot c hl) (fun y1 e1 => Tot.neg (by rw [e1]; exact h) bi)
    · exact Tot.bind (specPoly_tot c hl) (fun y1 e1 => Tot.neg (by rw [e1]; exact h) bs)

set_option maxHeartbeats 1000000
theorem poly_draw (c : List Int) (hc : Bytes c) (p h : Int) (hp : 0 ≤ p ∧ p ≤ 1073741824) : Tot (fun k => spec_l1Cur_poly.f k c p h) (fun y => y.1.length ≤ 9 ∧ p ≤ y.2.1 ∧ y.2.1 ≤ p + 60) := by
  have tail : ∀ (n : Nat) (l : List Int) (q h : Int), n ≤ 9 → l.length + n ≤ 9 → (0 ≤ q ∧ q + 5 * (n : Int) ≤ 1073741924) → Tot (fun k => spec_l1Cur_poly.l0 k l (n : Int) c q h) (fun y => y.1.length ≤ 9 ∧ q ≤ y.2.1 ∧ y.2.1 ≤ q + 5 * (n : Int) + 5) := by
    intro n
    induction n with
    | zero =>
      intro l q h hn hl hq
      refine Tot.up ?_
      simp only [spec_l1Cur_poly.l0]
      refine Tot.neg (by omega) (Tot.ite (fun h1 => Tot.bind (Tot.fix (one_tot c hc q h 30 (by omega) (by omega))) (fun y1 h2 => Tot.ite (fun _ => ?_) (fun _ => Tot.some_ ⟨by simp only; omega, by simp only; omega, by simp only; omega⟩))) (fun _ => Tot.some_ ⟨by simp only; omega, by simp only; omega, by simp only; omega⟩))
      exact Tot.bind (Tot.fix (among_tot c hc y1.2.1 y1.2.2 [-1, 1498, 1499] (by omega) (by simp) (by simp))) (fun y2 h3 => Tot.pos (by omega) (Tot.some_ ⟨by simp only [List.length_set]; omega, by simp only; omega, by simp only; omega⟩))
    | succ n ih =>
      intro l q h hn hl hq
      refine Tot.up ?_
      simp only [spec_l1Cur_poly.l0]
      refine Tot.pos (by omega) (Tot.bind (Tot.fix (pick_tot c hc q h 250 (by omega) (by omega))) (fun y1 h1 => Tot.bind (Tot.fix (pick_tot c hc y1.2.1 y1.2.2 5 (by omega) (by omega))) (fun y2 h2 => Tot.pos (by omega) ?_)))
      rw [w64 (n := ((n + 1 : Nat) : Int) - 1) (by omega) (by omega), show ((n + 1 : Nat) : Int) - 1 = (n : Int) by omega]
      exact (ih _ _ _ (by omega) (by rw [List.length_append, List.length_singleton]; omega) (by omega)).imp (fun y hy => ⟨hy.1, by omega, by omega⟩)
  have tail2 : ∀ (n q h : Int), 0 ≤ n ∧ n ≤ 9 → (0 ≤ q ∧ q ≤ 1073741840) → Tot (fun k => spec_l1Cur_poly.j0 k [] n c q h) (fun y => y.1.length ≤ 9 ∧ q ≤ y.2.1 ∧ y.2.1 ≤ q + 50) := by
    intro n q h hn hq
    obtain ⟨n, rfl⟩ := Int.eq_ofNat_of_zero_le hn.1
    refine Tot.up ?_
    simp only [spec_l1Cur_poly.j0]
    refine Tot.up ?_
    have := tail n [] q h (by omega) (by simp; omega) (by omega)
    obtain ⟨y, hy, B, hB⟩ := this
    exact ⟨y, ⟨hy.1, hy.2.1, by omega⟩, B, fun k hk => hB (k + 1) (by omega)⟩
  simp only [spec_l1Cur_poly.f]
  refine Tot.bind (Tot.fix (pick_tot c hc p h 5 (by omega) (by omega))) (fun y1 h1 => Tot.bind (Tot.fix (one_tot c hc y1.2.1 y1.2.2 20 (by omega) (by omega))) (fun y2 h2 => Tot.ite (fun _ => ?_) (fun _ => ?_)))
  · refine Tot.bind (Tot.fix (among_tot c hc y2.2.1 y2.2.2 [0, 8, 9] (by omega) (by simp) (by simp))) (fun y3 h3 => ?_)
    have h4 := h3.1
    simp only [List.mem_cons, List.not_mem_nil, or_false] at h4
    exact (tail2 y3.1 y3.2.1 y3.2.2 (by omega) (by omega)).imp (fun y hy => ⟨hy.1, by omega, by omega⟩)
  · rw [w64 (n := 1 + y1.1) (by omega) (by omega)]
    exact (tail2 (1 + y1.1) y2.2.1 y2.2.2 (by omega) (by omega)).imp (fun y hy => ⟨hy.1, by omega, by omega⟩)
theorem parts_draw (c : List Int) (hc : Bytes c) (p h : Int) (hp : 0 ≤ p ∧ p ≤ 536870912) : Tot (fun k => spec_l1Cur_parts.f k c p h) (fun y => y.1.length ≤ 8 ∧ p ≤ y.2.1 ∧ y.2.1 ≤ p + 200) := by
  have j4 : ∀ (l : List S46) (b : Bool) (q h : Int), l.length ≤ 8 → (b = true → 0 < l.length) → (0 ≤ q ∧ q ≤ 1073741824) → Tot (fun k => spec_l1Cur_parts.j4 k l b c q h) (fun y => y.1.length ≤ 8 ∧ q ≤ y.2.1 ∧ y.2.1 ≤ q + 4) := by
    intro l b q h hl hb hq
    refine Tot.up ?_
    simp only [spec_l1Cur_parts.j4]
    refine Tot.ite (fun h1 => ?_) (fun _ => Tot.some_ ⟨by simp only; omega, by simp only; omega, by simp only; omega⟩)
    have := hb h1
    exact Tot.bind (Tot.fix (among_tot c hc q h [0, 2, 1498, 1499] (by omega) (by simp) (by simp))) (fun y1 h1 => Tot.bind (Tot.fix (among_tot c hc y1.2.1 y1.2.2 [0, 1498, 1499] (by omega) (by simp) (by simp))) (fun y2 h2 => Tot.pos (by omega) (Tot.some_ ⟨by simp only [List.length_set]; omega, by simp only; omega, by simp only; omega⟩)))
  have j3 : ∀ (l : List S46) (q h : Int), l.length ≤ 8 → (0 ≤ q ∧ q ≤ 1073741800) → Tot (fun k => spec_l1Cur_parts.j3 k l c q h) (fun y => y.1.length ≤ 8 ∧ q ≤ y.2.1 ∧ y.2.1 ≤ q + 6) := by
    intro l q h hl hq
    refine Tot.up ?_
    simp only [spec_l1Cur_parts.j3]
    refine Tot.ite (fun h1 => Tot.bind (Tot.fix (one_tot c hc q h 12 (by omega) (by omega))) (fun y1 h2 => ?_)) (fun _ => ?_)
    · exact (j4 l y1.1 y1.2.1 y1.2.2 hl (fun _ => by omega) (by omega)).imp (fun y hy => ⟨hy.1, by omega, by omega⟩)
    · exact (j4 l false q h hl (fun h => by cases h) (by omega)).imp (fun y hy => ⟨hy.1, by omega, by omega⟩)
  have j2 : ∀ (l : List S46) (b : Bool) (q h : Int), l.length ≤ 8 → (b = true → 0 < l.length) → (0 ≤ q ∧ q ≤ 1073741800) → Tot (fun k => spec_l1Cur_parts.j2 k l b c q h) (fun y => y.1.length ≤ 8 ∧ q ≤ y.2.1 ∧ y.2.1 ≤ q + 6) := by
    intro l b q h hl hb hq
    refine Tot.up ?_
    simp only [spec_l1Cur_parts.j2]
    refine Tot.ite (fun h1 => Tot.pos (by have := hb h1; omega) (j3 _ q h (by rw [List.length_drop]; omega) hq)) (fun _ => j3 l q h hl hq)
  have l0 : ∀ (n : Nat) (l : List S46) (q h : Int), n ≤ 4 → l.length ≤ 8 → (0 ≤ q ∧ q + 10 * (n : Int) ≤ 1073741700) → Tot (fun k => spec_l1Cur_parts.l0 k l (n : Int) c q h) (fun y => y.1.length ≤ 8 ∧ q ≤ y.2.1 ∧ y.2.1 ≤ q + 10 * (n : Int) + 10) := by
    intro n
    have out : ∀ (m : Int) (l : List S46) (q h : Int), l.length ≤ 8 → (0 ≤ q ∧ q ≤ 1073741700) → Tot (fun k => spec_l1Cur_parts.j1 k l m false c q h) (fun y => y.1.length ≤ 8 ∧ q ≤ y.2.1 ∧ y.2.1 ≤ q + 8) := by
      intro m l q h hl hq
      refine Tot.up ?_
      simp only [spec_l1Cur_parts.j1]
      refine Tot.neg (by simp) (Tot.ite (fun h1 => Tot.bind (Tot.fix (one_tot c hc q h 3 (by omega) (by omega))) (fun y1 h2 => ?_)) (fun _ => ?_))
      · exact (j2 l y1.1 y1.2.1 y1.2.2 hl (fun _ => by omega) (by omega)).imp (fun y hy => ⟨hy.1, by omega, by omega⟩)
      · exact (j2 l false q h hl (fun h => by cases h) (by omega)).imp (fun y hy => ⟨hy.1, by omega, by omega⟩)
    induction n with
    | zero =>
      intro l q h hn hl hq
      refine Tot.up ?_
      simp only [spec_l1Cur_parts.l0]
      exact Tot.neg (by omega) ((out _ l q h hl (by omega)).imp (fun y hy => ⟨hy.1, by omega, by omega⟩))
    | succ n ih =>
      intro l q h hn hl hq
      refine Tot.up ?_
      simp only [spec_l1Cur_parts.l0]
      refine Tot.pos (by omega) ?_
      by_cases h1 : (l.length : Int) > 1
      · rw [decide_eq_true h1]
        refine Tot.up ?_
        simp only [spec_l1Cur_parts.j1]
        refine Tot.pos trivial (Tot.bind (Tot.fix (pick_tot c hc q h (l.length : Int) (by omega) (by omega))) (fun y1 h2 => Tot.bind (Tot.fix (pick_tot c hc y1.2.1 y1.2.2 (l.length : Int) (by omega) (by omega))) (fun y2 h3 => Tot.pos (by omega) (Tot.pos (by omega) (Tot.pos (by omega) (Tot.pos (by omega) ?_))))))
        rw [w64 (n := ((n + 1 : Nat) : Int) - 1) (by omega) (by omega), show ((n + 1 : Nat) : Int) - 1 = (n : Int) by omega]
        exact (ih _ _ _ (by omega) (by rw [List.length_set, List.length_set]; exact hl) (by omega)).imp (fun y hy => ⟨hy.1, by omega, by omega⟩)
      · rw [decide_eq_false h1]
        exact (out _ l q h hl (by omega)).imp (fun y hy => ⟨hy.1, by omega, by omega⟩)
  simp only [spec_l1Cur_parts.f]
  refine Tot.bind (poly_draw c hc p h (by omega)) (fun y1 h1 => Tot.bind (Tot.fix (pick_tot c hc y1.2.1 y1.2.2 7 (by omega) (by omega))) (fun y2 h2 => ?_))
  obtain ⟨r, _, h3, _, _, h4⟩ := split_same y1.1 (by omega) (wrap64 (1 + y2.1))
  refine Tot.bind h4 (fun y3 e3 => Tot.bind (Tot.fix (pick_tot c hc y2.2.1 y2.2.2 4 (by omega) (by omega))) (fun y4 h5 => ?_))
  rw [e3]
  have h6 := l0 y4.1.toNat r.1 y4.2.1 y4.2.2 (by omega) h3 (by omega)
  rw [show ((y4.1.toNat : Nat) : Int) = y4.1 by omega] at h6
  exact h6.imp (fun y hy => ⟨hy.1, by omega, by omega⟩)
theorem sameParts_self (l : List S46) (hl : l.length ≤ 1048576) : Tot (fun k => laws_sameParts.f k l l) (fun y => y = true) := by
  have key : ∀ (d i : Nat), l.length - i = d → i ≤ l.length → Tot (fun k => laws_sameParts.l0 k l l (l.length : Int) (i : Int)) (fun y => y = true) := by
    intro d
    induction d with
    | zero =>
      intro i hd hi
      refine Tot.up ?_
      simp only [laws_sameParts.l0]
      exact Tot.neg (by omega) (Tot.some_ rfl)
    | succ d ih =>
      intro i hd hi
      refine Tot.up ?_
      simp only [laws_sameParts.l0]
      rw [w64 (n := (i : Int) + 1) (by omega) (by omega)]
      exact Tot.pos (by omega) (Tot.pos (by omega) (Tot.pos (by omega) (Tot.pos (by omega) (Tot.neg (by simp) (ih (i + 1) (by omega) (by omega))))))
  simp only [laws_sameParts.f]
  exact Tot.pos trivial (key l.length 0 (by omega) (by omega))
theorem join_same (l : List S46) (hl : l.length ≤ 1048576) : ∃ r : Int × Bool, r.2 = prtB l ∧ (r.2 = true → (0 ≤ r.1 ∧ r.1 < 1499) ∧ Cg r.1 (lsum (xsOf l) 0 (ysOf l) 0)) ∧
    Tot (fun k => impl_JoinParts.f k l) (fun y => y = r) ∧ Tot (fun k => spec_JoinParts.f k l) (fun y => y = r) := by
  obtain ⟨r, h1, h2, h3, h4⟩ := thr_same l hl 0
  refine ⟨r, by rw [h1]; simp, h2, ?_, ?_⟩
  · simp only [impl_JoinParts.f]
    exact Tot.bind h3 (fun y e => Tot.some_ (by rw [e]))
  · simp only [spec_JoinParts.f]
    exact Tot.bind h4 (fun y e => Tot.some_ (by rw [e]))
/-- Parts added, one by one. -/
def addP (a b : List S46) : List S46 := List.zipWith (fun p q => ⟨p.f0, (p.f1 + q.f1) % 1499⟩) a b
theorem addP_length (a b : List S46) (h : a.length = b.length) : (addP a b).length = a.length := by simp [addP, h]
theorem addP_snoc (a b : List S46) (i : Nat) (ha : i < a.length) (hb : i < b.length) : addP (a.take (i + 1)) (b.take (i + 1)) = addP (a.take i) (b.take i) ++ [⟨a[i].f0, (a[i].f1 + b[i].f1) % 1499⟩] := by
  unfold addP
  rw [List.take_succ_eq_append_getElem ha, List.take_succ_eq_append_getElem hb, List.zipWith_append (by rw [List.length_take, List.length_take]; omega)]
  rfl
theorem xs_get (l : List S46) (i : Nat) (h : i < l.length) : (xsOf l)[i]'(by rw [xsOf_length]; exact h) = l[i].f0 := by simp [xsOf]
theorem ys_get (l : List S46) (i : Nat) (h : i < l.length) : (ysOf l)[i]'(by rw [ysOf_length]; exact h) = l[i].f1 := by simp [ysOf]
def addV (a b : List S46) : List S46 × Bool := if prtB a = true ∧ prtB b = true ∧ xsOf a = xsOf b then (addP a b, true) else ([], false)
theorem implAdd_tot (a b : List S46) (ha : a.length ≤ 1048576) (hb : b.length ≤ 1048576) : Tot (fun k => impl_AddParts.f k a b) (fun y => y = addV a b) := by
  have bad : (¬ (prtB a = true ∧ prtB b = true ∧ xsOf a = xsOf b)) → Tot (fun k => impl_AddParts.j0 k a b true) (fun y => y = addV a b) := fun h => by
    refine Tot.up ?_
    simp only [impl_AddParts.j0]
    exact Tot.pos trivial (Tot.some_ (by unfold addV; rw [if_neg h]))
  simp only [impl_AddParts.f]
  refine Tot.bind (implParts_tot a ha) (fun y1 e1 => ?_)
  subst e1
  refine Tot.ite (fun h1 => ?_) (fun h1 => bad (fun h => h1 h.1))
  refine Tot.bind (implParts_tot b hb) (fun y2 e2 => ?_)
  subst e2
  refine Tot.ite (fun h2 => ?_) (fun h2 => bad (fun h => h2 h.2.1))
  refine Tot.bind (places_tot a ha) (fun y3 e3 => Tot.bind (places_tot b hb) (fun y4 e4 => ?_))
  subst e3 e4
  have eq_tot : Tot (fun k => slices_Equal_int_int.f k (xsOf a) (xsOf b)) (fun y => y = decide (xsOf a = xsOf b)) := by
    have twin : ∀ k x y u v, slices_Equal_int_int.l0 k x y u v = laws_sameInts.l0 k x y u v := by
      intro k
      induction k with
      | zero => intro x y u v; rfl
      | succ k ih =>
        intro x y u v
        simp only [slices_Equal_int_int.l0, laws_sameInts.l0, ih]
    have h := sameInts_tot (xsOf a) (xsOf b) (by rw [xsOf_length]; exact ha)
    simp only [laws_sameInts.f] at h
    simp only [slices_Equal_int_int.f, twin]
    exact h
  refine Tot.bind eq_tot (fun y5 e5 => ?_)
  subst e5
  by_cases h3 : xsOf a = xsOf b
  · rw [decide_eq_true h3]
    have hlen : a.length = b.length := by rw [← xsOf_length a, h3, xsOf_length]
    obtain ⟨_, _, hya, _, h8⟩ := prt_small h1
    obtain ⟨_, _, hyb, _, _⟩ := prt_small h2
    have key : ∀ (d i : Nat), a.length - i = d → i ≤ a.length → Tot (fun k => impl_AddParts.l0 k b (addP (a.take i) (b.take i)) a (a.length : Int) (i : Int)) (fun y => y = addV a b) := by
      intro d
      induction d with
      | zero =>
        intro i hd hi
        refine Tot.up ?_
        simp only [impl_AddParts.l0]
        refine Tot.neg (by omega) (Tot.some_ ?_)
        rw [List.take_of_length_le (by omega), List.take_of_length_le (by omega)]
        unfold addV
        rw [if_pos ⟨h1, h2, h3⟩]
      | succ d ih =>
        intro i hd hi
        have hy1 := hya _ (List.getElem_mem (show i < (ysOf a).length by rw [ysOf_length]; omega))
        have hy2 := hyb _ (List.getElem_mem (show i < (ysOf b).length by rw [ysOf_length]; omega))
        rw [ys_get _ i (by omega)] at hy1 hy2
        refine Tot.up ?_
        simp only [impl_AddParts.l0, modu_eq, Option.bind_some]
        rw [rdP a i (by omega), rdP b i (by omega), w64 (n := (i : Int) + 1) (by omega) (by omega), w64 (n := a[i].f1 + b[i].f1) (by omega) (by omega), ← addP_snoc a b i (by omega) (by omega)]
        refine Tot.pos (by omega) (Tot.pos (by omega) (Tot.pos (by omega) (Tot.pos (by omega) (Tot.pos ?_ (ih (i + 1) (by omega) (by omega))))))
        rw [addP_length _ _ (by rw [List.length_take, List.length_take]; omega), List.length_take]
        omega
    refine Tot.up ?_
    simp only [impl_AddParts.j0]
    exact Tot.neg (by simp) (key a.length 0 (by omega) (by omega))
  · rw [decide_eq_false h3]
    exact bad (fun h => h3 h.2.2)
theorem specAdd_tot (a b : List S46) (ha : a.length ≤ 1048576) (hb : b.length ≤ 1048576) : Tot (fun k => spec_AddParts.f k a b) (fun y => y = addV a b) := by
  have bad : (¬ (prtB a = true ∧ prtB b = true ∧ xsOf a = xsOf b)) → Tot (fun k => spec_AddParts.j0 k a b true) (fun y => y = addV a b) := fun h => by
    refine Tot.up ?_
    simp only [spec_AddParts.j0]
    exact Tot.pos trivial (Tot.some_ (by unfold addV; rw [if_neg h]))
  simp only [spec_AddParts.f]
  refine Tot.bind (specParts_tot a ha) (fun y1 e1 => ?_)
  subst e1
  refine Tot.ite (fun h1 => ?_) (fun h1 => bad (fun h => h1 h.1))
  refine Tot.bind (specParts_tot b hb) (fun y2 e2 => ?_)
  subst e2
  refine Tot.ite (fun h2 => ?_) (fun h2 => bad (fun h => h2 h.2.1))
  by_cases hlen : a.length = b.length
  · have e0 : ((a.length : Int) != (b.length : Int)) = false := by rw [hlen]; exact bne_self_eq_false _
    rw [e0]
    obtain ⟨_, _, hya, _, h8⟩ := prt_small h1
    obtain ⟨_, _, hyb, _, _⟩ := prt_small h2
    have key : ∀ (d i : Nat), a.length - i = d → i ≤ a.length → (xsOf a).take i = (xsOf b).take i → Tot (fun k => spec_AddParts.l0 k b (addP (a.take i) (b.take i)) a (a.length : Int) (i : Int)) (fun y => y = addV a b) := by
      intro d
      induction d with
      | zero =>
        intro i hd hi hx
        refine Tot.up ?_
        simp only [spec_AddParts.l0]
        refine Tot.neg (by omega) (Tot.some_ ?_)
        rw [List.take_of_length_le (by rw [xsOf_length]; omega), List.take_of_length_le (by rw [xsOf_length]; omega)] at hx
        rw [List.take_of_length_le (by omega), List.take_of_length_le (by omega)]
        unfold addV
        rw [if_pos ⟨h1, h2, hx⟩]
      | succ d ih =>
        intro i hd hi hx
        have hy1 := hya _ (List.getElem_mem (show i < (ysOf a).length by rw [ysOf_length]; omega))
        have hy2 := hyb _ (List.getElem_mem (show i < (ysOf b).length by rw [ysOf_length]; omega))
        rw [ys_get _ i (by omega)] at hy1 hy2
        refine Tot.up ?_
        simp only [spec_AddParts.l0]
        rw [rdP a i (by omega), rdP b i (by omega), w64 (n := (i : Int) + 1) (by omega) (by omega), w64 (n := a[i].f1 + b[i].f1) (by omega) (by omega), Int.tmod_eq_emod_of_nonneg (by omega), ← addP_snoc a b i (by omega) (by omega)]
        refine Tot.pos (by omega) (Tot.pos (by omega) (Tot.pos (by omega) (Tot.pos (by omega) (Tot.ite (fun h4 => Tot.pos ?_ (ih (i + 1) (by omega) (by omega) ?_)) (fun h4 => Tot.some_ ?_)))))
        · rw [addP_length _ _ (by rw [List.length_take, List.length_take]; omega), List.length_take]
          omega
        · rw [List.take_succ_eq_append_getElem (by rw [xsOf_length]; omega), List.take_succ_eq_append_getElem (by rw [xsOf_length]; omega), hx, xs_get _ i (by omega), xs_get _ i (by omega), h4]
        · unfold addV
          rw [if_neg (fun h => h4 ?_)]
          rw [← xs_get a i (by omega), ← xs_get b i (by omega)]
          simp only [h.2.2]
    refine Tot.up ?_
    simp only [spec_AddParts.j0]
    exact Tot.neg (by simp) (key a.length 0 (by omega) (by omega) (by simp))
  · have e0 : ((a.length : Int) != (b.length : Int)) = true := bne_iff_ne.2 (by omega)
    rw [e0]
    exact bad (fun h => hlen (by rw [← xsOf_length a, h.2.2, xsOf_length]))
theorem addP_good (a b : List S46) (h1 : prtB a = true) (h2 : prtB b = true) (h3 : xsOf a = xsOf b) : prtB (addP a b) = true ∧ xsOf (addP a b) = xsOf a ∧ ∀ x, Cg (lsum (xsOf a) x (ysOf (addP a b)) 0) (lsum (xsOf a) x (ysOf a) 0 + lsum (xsOf b) x (ysOf b) 0) := by
  have hlen : a.length = b.length := by rw [← xsOf_length a, h3, xsOf_length]
  have hx : xsOf (addP a b) = xsOf a := by
    refine List.ext_getElem (by rw [xsOf_length, xsOf_length, addP_length a b hlen]) (fun i h4 h5 => ?_)
    rw [xsOf_length] at h4 h5
    rw [xs_get _ i h4, xs_get _ i h5]
    simp [addP]
  have hs : ∀ (p q : List S46) (i : Nat) (xs : List Int) (x : Int), p.length = q.length → Cg (lsum xs x (ysOf (addP p q)) i) (lsum xs x (ysOf p) i + lsum xs x (ysOf q) i) := by
    intro p
    induction p with
    | nil =>
      intro q i xs x hq
      have : q = [] := List.length_eq_zero_iff.1 (by simpa using hq.symm)
      subst this
      exact Cg.of_eq (by simp [addP, ysOf, lsum])
    | cons u p ih =>
      intro q i xs x hq
      cases q with
      | nil => simp at hq
      | cons v q =>
        have h := ih q (i + 1) xs x (by simpa using hq)
        have e1 : ysOf (addP (u :: p) (v :: q)) = (u.f1 + v.f1) % 1499 :: ysOf (addP p q) := rfl
        have e2 : ysOf (u :: p) = u.f1 :: ysOf p := rfl
        have e3 : ysOf (v :: q) = v.f1 :: ysOf q := rfl
        rw [e1, e2, e3]
        simp only [lsum]
        refine (((Cg.mod (u.f1 + v.f1)).mul Cg.rfl).add h).trans (Cg.of_eq ?_)
        grind
  refine ⟨?_, hx, fun x => by rw [← h3]; exact hs a b 0 (xsOf a) x hlen⟩
  unfold prtB
  rw [hx, (prtB_true h1).1, Bool.true_and, decide_eq_true_iff]
  intro y hy
  simp only [ysOf, addP, List.mem_map] at hy
  obtain ⟨p, hp, rfl⟩ := hy
  obtain ⟨i, hi, rfl⟩ := List.mem_iff_getElem.1 hp
  simp only [List.getElem_zipWith]
  omega
theorem j2_tot (c : List Int) (hc : Bytes c) : Tot (fun k => laws_FnParts.j2 k c) (fun y => y = true) := by
  refine Tot.up ?_
  simp only [laws_FnParts.j2, spec_DrawValueAt.f, spec_DrawJoinParts.f]
  refine Tot.bind (Q := fun y => y.1.length ≤ 9) (Tot.bind (poly_draw c hc 0 0 (by omega)) (fun y1 h1 => Tot.bind (Tot.fix (among_tot c hc _ _ _ (by omega) (by simp) (by simp))) (fun y2 h2 => Tot.some_ h1.1))) (fun y hy => ?_)
  obtain ⟨r, _, _, h3, h4⟩ := value_same y.1 (by omega) y.2
  refine Tot.bind h3 (fun y1 e1 => Tot.bind h4 (fun y2 e2 => Tot.bind (Q := fun y => y.length ≤ 8) (Tot.bind (parts_draw c hc 0 0 (by omega)) (fun y1 h1 => Tot.some_ h1.1)) (fun y3 h5 => ?_)))
  obtain ⟨s, _, _, h6, h7⟩ := join_same y3 (by omega)
  refine Tot.bind h6 (fun y4 e4 => Tot.bind h7 (fun y5 e5 => ?_))
  rw [e1, e2, e4, e5]
  exact Tot.pos (by simp) (Tot.pos rfl (Tot.pos (by simp) (Tot.some_ (by simp))))
theorem drawAdd_tot (c : List Int) (hc : Bytes c) : Tot (fun k => spec_DrawAddParts.f k c) (fun y => y.1.length ≤ 8 ∧ y.2.length ≤ 8) := by
  have l0 : ∀ (a : List S46) (ha : a.length ≤ 8) (d i : Nat) (b : List S46) (q h : Int), b.length - i = d → i ≤ b.length → b.length ≤ 8 → (0 ≤ q ∧ q + 2 * (d : Int) ≤ 1073741824) → Tot (fun k => spec_DrawAddParts.l0 k a b (b.length : Int) (i : Int) c q h) (fun y => y.1.length ≤ 8 ∧ y.2.length ≤ 8) := by
    intro a ha d
    induction d with
    | zero =>
      intro i b q h hd hi hb hq
      refine Tot.up ?_
      simp only [spec_DrawAddParts.l0]
      exact Tot.neg (by omega) (Tot.ite (fun h1 => Tot.bind (Tot.fix (one_tot c hc q h 8 (by omega) (by omega))) (fun y1 _ => Tot.ite (fun _ => Tot.pos (by omega) (Tot.some_ ⟨ha, by simp only [List.length_set]; omega⟩)) (fun _ => Tot.some_ ⟨ha, hb⟩))) (fun _ => Tot.some_ ⟨ha, hb⟩))
    | succ d ih =>
      intro i b q h hd hi hb hq
      refine Tot.up ?_
      simp only [spec_DrawAddParts.l0]
      refine Tot.pos (by omega) (Tot.bind (Tot.fix (pick_tot c hc q h 200 (by omega) (by omega))) (fun y1 h1 => Tot.pos (by omega) (Tot.pos (by omega) ?_)))
      rw [w64 (n := (i : Int) + 1) (by omega) (by omega)]
      have h2 := ih (i + 1) (b.set ((i : Int)).toNat (⟨(rd_T46 b (i : Int)).f0, y1.1⟩ : S46)) y1.2.1 y1.2.2 (by rw [List.length_set]; omega) (by rw [List.length_set]; omega) (by rw [List.length_set]; exact hb) (by omega)
      rw [List.length_set] at h2
      exact h2
  simp only [spec_DrawAddParts.f]
  refine Tot.bind (parts_draw c hc 0 0 (by omega)) (fun y1 h1 => Tot.bind (Tot.some_ (Q := fun z => z = ([] : List S46)) rfl) (fun y2 e2 => ?_))
  subst e2
  refine Tot.pos (by simp only [List.length_nil]; omega) (Tot.bind (Tot.some_ (Q := fun z => z = [] ++ y1.1) rfl) (fun y3 e3 => ?_))
  subst e3
  exact l0 y1.1 h1.1 ([] ++ y1.1).length 0 ([] ++ y1.1) _ _ (by omega) (by omega) (by rw [List.nil_append]; exact h1.1) (by rw [List.nil_append]; omega)
theorem j1_tot (c : List Int) (hc : Bytes c) : Tot (fun k => laws_FnParts.j1 k c) (fun y => y = true) := by
  refine Tot.up ?_
  simp only [laws_FnParts.j1]
  refine Tot.bind (drawAdd_tot c hc) (fun y hy => ?_)
  obtain ⟨a, b⟩ := y
  simp only at hy ⊢
  refine Tot.bind (implAdd_tot a b (by omega) (by omega)) (fun y1 e1 => Tot.bind (specAdd_tot a b (by omega) (by omega)) (fun y2 e2 => ?_))
  rw [e1, e2]
  by_cases h : prtB a = true ∧ prtB b = true ∧ xsOf a = xsOf b
  · have hlen : a.length = b.length := by rw [← xsOf_length a, h.2.2, xsOf_length]
    have e : addV a b = (addP a b, true) := by unfold addV; rw [if_pos h]
    have hcl := addP_length a b hlen
    rw [e]
    refine Tot.neg (by simp) (Tot.bind (sameParts_self _ (by simp only; omega)) (fun y3 e3 => Tot.pos e3 (Tot.pos rfl ?_)))
    obtain ⟨g1, g2, g3⟩ := addP_good a b h.1 h.2.1 h.2.2
    obtain ⟨r, h1, h2, h3, _⟩ := join_same a (by omega)
    obtain ⟨s, h4, h5, h6, _⟩ := join_same b (by omega)
    obtain ⟨t, h7, h8, h9, _⟩ := join_same (addP a b) (by omega)
    have hr := h2 (h1.trans h.1)
    have hs := h5 (h4.trans h.2.1)
    have ht := h8 (h7.trans g1)
    rw [g2] at ht
    refine Tot.bind h3 (fun y4 e4 => Tot.bind h6 (fun y5 e5 => Tot.bind h9 (fun y6 e6 => ?_)))
    rw [e4, e5, e6, w64 (n := r.1 + s.1) (by omega) (by omega), Int.tmod_eq_emod_of_nonneg (by omega)]
    refine Tot.pos (h1.trans h.1) (Tot.pos (h4.trans h.2.1) (Tot.pos (h7.trans g1) (Tot.pos ?_ (j2_tot c hc))))
    have hc2 : Cg t.1 ((r.1 + s.1) % 1499) := (ht.2.trans (g3 0)).trans ((hr.2.add hs.2).symm.trans (Cg.mod _).symm)
    exact hc2.eq ht.1 (by omega)
  · have e : addV a b = ([], false) := by unfold addV; rw [if_neg h]
    rw [e]
    exact Tot.neg (by simp) (Tot.bind (sameParts_self _ (by simp)) (fun y3 e3 => Tot.pos e3 (Tot.neg (by simp) (j2_tot c hc))))
theorem some_good (c : List Int) (hc : plyB c = true) (m : Int) (l : List S46) (hl : SplOk c m l) (h8 : l.length ≤ 8) (k : Nat) (hk : k + c.length ≤ l.length) : prtB ((l.take (k + c.length)).drop k) = true ∧ ((l.take (k + c.length)).drop k).length = c.length ∧ (∀ j, (h : j < c.length) → (ysOf ((l.take (k + c.length)).drop k)).getD j 0 = (l[k + j]'(by omega)).f1 ∧ (xsOf ((l.take (k + c.length)).drop k)).getD j 0 = ((k + j : Nat) : Int) + 1) := by
  obtain ⟨h1, h2, h3⟩ := plyB_true hc
  have hlen : ((l.take (k + c.length)).drop k).length = c.length := by rw [List.length_drop, List.length_take]; omega
  have hget : ∀ j, (h : j < c.length) → ((l.take (k + c.length)).drop k)[j]'(by omega) = l[k + j]'(by omega) := fun j h => by simp
  have hx : ∀ j, (h : j < c.length) → (xsOf ((l.take (k + c.length)).drop k))[j]'(by rw [xsOf_length]; omega) = ((k + j : Nat) : Int) + 1 := fun j h => by
    rw [xs_get _ j (by omega), hget j h]
    exact (hl.2 (k + j) (by omega)).1
  refine ⟨?_, hlen, fun j h => ⟨?_, ?_⟩⟩
  · unfold prtB unlB
    rw [Bool.and_eq_true, decide_eq_true_iff, decide_eq_true_iff, xsOf_length, hlen]
    refine ⟨⟨?_, by omega, fun x hx2 => ?_⟩, fun y hy => ?_⟩
    · rw [List.nodup_iff_pairwise_ne, List.pairwise_iff_getElem]
      intro i j hi hj hij e
      rw [xsOf_length, hlen] at hi hj
      rw [hx i hi, hx j hj] at e
      omega
    · obtain ⟨i, hi, rfl⟩ := List.mem_iff_getElem.1 hx2
      rw [xsOf_length, hlen] at hi
      rw [hx i hi]
      omega
    · obtain ⟨i, hi, rfl⟩ := List.mem_iff_getElem.1 hy
      rw [ysOf_length, hlen] at hi
      rw [ys_get _ i (by omega), hget i hi]
      have := (hl.2 (k + i) (by omega)).2.1
      omega
  · rw [getDin _ 0 j (by rw [ysOf_length]; omega), ys_get _ j (by omega), hget j h]
  · rw [getDin _ 0 j (by rw [xsOf_length]; omega), hx j h]
theorem FnParts : laws_FnParts.Pure := by
  intro l0 l1 hm0 hx0 hw0 hm1 hx1 hw1
  have hmx : maxLen = 9223372036854775807 := rfl
  refine Tot.ex ?_
  simp only [laws_FnParts.f]
  rw [w64 (n := (l0.length : Int) + (l1.length : Int)) (by omega) (by omega)]
  refine Tot.ite (fun _ => Tot.some_ rfl) (fun hlen => ?_)
  have hb0 : Bytes l0 := bytes_of (by omega) hw0
  have hb1 : Bytes l1 := bytes_of (by omega) hw1
  simp only [spec_DrawSplitSecret.f]
  refine Tot.bind (Q := fun y => y.1.length ≤ 9) (Tot.bind (poly_draw l0 hb0 0 0 (by omega)) (fun y1 h1 => Tot.bind (Tot.fix (pick_tot l0 hb0 _ _ 10 (by omega) (by omega))) (fun y2 h2 => Tot.some_ h1.1))) (fun y hy => ?_)
  obtain ⟨c, m⟩ := y
  simp only at hy ⊢
  obtain ⟨r, h1, h2, h3, h4, h5⟩ := split_same c (by omega) m
  refine Tot.bind h4 (fun y1 e1 => Tot.bind h5 (fun y2 e2 => ?_))
  rw [e1, e2]
  obtain ⟨l, b⟩ := r
  simp only at h1 h2 h3 ⊢
  have jf : Tot (fun k => laws_FnParts.j0 k l0 l1 c l false) (fun y => y = true) := by
    refine Tot.up ?_
    simp only [laws_FnParts.j0]
    exact Tot.neg (by simp) (j1_tot l1 hb1)
  refine Tot.neg (by simp) (Tot.bind (sameParts_self l (by omega)) (fun y3 e3 => Tot.pos e3 (Tot.ite (fun hb => ?_) (fun _ => jf))))
  by_cases hge : (l.length : Int) ≥ (c.length : Int)
  · rw [decide_eq_true hge]
    have hpl : plyB c = true := by
      rw [hb] at h1
      have := h1.symm
      rw [Bool.and_eq_true] at this
      exact this.1
    obtain ⟨p1, p2, p3⟩ := plyB_true hpl
    have hsp := h3 hb
    refine Tot.up ?_
    simp only [laws_FnParts.j0]
    refine Tot.pos trivial (Tot.bind (number_tot l1 hb1) (fun n hn => ?_))
    rw [w64 (n := (l.length : Int) - (c.length : Int)) (by omega) (by omega), w64 (n := (l.length : Int) - (c.length : Int) + 1) (by omega) (by omega), Int.tmod_eq_emod_of_nonneg (by omega)]
    have hk0 := Int.emod_nonneg n (show (l.length : Int) - (c.length : Int) + 1 ≠ 0 by omega)
    have hk1 := Int.emod_lt_of_pos n (show 0 < (l.length : Int) - (c.length : Int) + 1 by omega)
    generalize hkk : n % ((l.length : Int) - (c.length : Int) + 1) = q at *
    obtain ⟨q, rfl⟩ := Int.eq_ofNat_of_zero_le hk0
    rw [w64 (n := (q : Int) + (c.length : Int)) (by omega) (by omega), show ((q : Int) + (c.length : Int)).toNat = q + c.length by omega, Int.toNat_natCast]
    refine Tot.neg (by omega) (Tot.pos (by omega) (Tot.pos (by omega) (Tot.pos (by omega) (Tot.bind (Tot.some_ (Q := fun z => z = (l.take (q + c.length)).drop q) rfl) (fun s es => ?_)))))
    obtain ⟨g1, g2, g3⟩ := some_good c hpl m l hsp h2 q (by omega)
    rw [← es] at g1 g2 g3
    obtain ⟨_, hfar, _, _, _⟩ := prt_small g1
    obtain ⟨rj, j1, j2, j3, _⟩ := join_same s (by omega)
    refine Tot.bind j3 (fun y4 e4 => Tot.bind (polyThrough_tot s (by omega)) (fun y5 h6 => ?_))
    obtain ⟨i1, i2, i3⟩ := h6
    obtain ⟨i3, i4, i5⟩ := i3 g1
    have hceq : y5.1 = c := by
      refine ev_unique y5.1 c (xsOf s) (by omega) (by rw [xsOf_length]; omega) hfar (fun x hx => ?_) i3 (fun a ha => by have := p3 a ha; omega)
      obtain ⟨j, hj, rfl⟩ := List.mem_iff_getElem.1 hx
      have hj2 : j < c.length := by rw [xsOf_length] at hj; omega
      have h7 := lsum_at (xsOf s) hfar j hj (ysOf s) 0 (by rw [ysOf_length, xsOf_length]; omega)
      rw [if_pos (by omega), Nat.sub_zero, (g3 j hj2).1] at h7
      have h8 := (hsp.2 (q + j) (by omega)).2.2
      have h9 : (xsOf s)[j] = ((q + j : Nat) : Int) + 1 := by rw [← (g3 j hj2).2, getDin _ 0 j hj]
      rw [h9] at h7 ⊢
      exact (i5 _).trans (h7.trans h8)
    have hj := j2 (j1.trans g1)
    rw [e4]
    have hc0 : rj.1 = rd c 0 := by
      have ha := p3 _ (List.getElem_mem (show 0 < c.length by omega))
      have e0 : rd c 0 = c[0] := rd_in c 0 (by omega)
      rw [e0]
      refine Cg.eq ?_ hj.1 (by omega)
      refine hj.2.trans ((i5 0).symm.trans (Cg.of_eq ?_))
      rw [hceq]
      cases c with
      | nil => simp at p1
      | cons a t => simp [ev]
    refine Tot.pos (j1.trans g1) (Tot.pos (by omega) (Tot.pos hc0 (Tot.pos (i1.trans g1) ?_)))
    rw [hceq]
    refine Tot.bind (sameInts_self c (by omega)) (fun y6 e6 => Tot.pos e6 (Tot.bind (number_tot l0 hb0) (fun x hx => ?_)))
    rw [Int.tmod_eq_emod_of_nonneg (by omega)]
    have hxr : 0 ≤ x % 1499 ∧ x % 1499 ≤ 1498 := by omega
    obtain ⟨rv, v1, v2, v3, _⟩ := value_same c (by omega) (x % 1499)
    obtain ⟨rt, t1, t2, t3, _⟩ := thr_same s (by omega) (x % 1499)
    refine Tot.bind v3 (fun y7 e7 => Tot.bind t3 (fun y8 e8 => ?_))
    have v4 : rv.2 = true := by rw [v1, hpl, decide_eq_true hxr]; rfl
    have t4 : rt.2 = true := by rw [t1, g1, decide_eq_true hxr]; rfl
    rw [e7, e8]
    refine Tot.pos v4 (Tot.pos t4 (Tot.pos ?_ (j1_tot l1 hb1)))
    have h7 := v2 v4
    have h8 := t2 t4
    refine Cg.eq ?_ h7.1 h8.1
    have h9 := i5 (x % 1499)
    rw [hceq] at h9
    exact h7.2.trans (h9.trans h8.2.symm)
  · rw [decide_eq_false hge]
    exact jf

end Go.Proofs.Ytdobjdkjflnpmaa.Pure
