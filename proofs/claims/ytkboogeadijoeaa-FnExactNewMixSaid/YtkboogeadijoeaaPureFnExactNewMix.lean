/- Proved: NewMix of the program and of the reference answer alike at all arguments, and the answer owns its memory. Conditions: those of the given statement alone. -/
import Derived.Test.YtkboogeadijoeaaPFnExactNewMixx3
import Derived.Test.YtkboogeadijoeaaBase
set_option linter.unusedVariables false
set_option linter.unusedSimpArgs false
namespace Go.Proofs.Ytkboogeadijoeaa.Pure
open Go.RowKit Go.Proofs.Ytkboogeadijoeaa.PFnExactNewMix Go.Proofs.Ytkboogeadijoeaa.Base Go.Proofs.YtkboogeadijoeaaW.PrintWords Go.Proofs.YtkboogeadijoeaaW.PrintLast Go.Proofs.YtkboogeadijoeaaW.PrintMore

theorem l1In_eq (a b c : Int) : spec_l1In.f a b c = some (decide (b ≤ a ∧ a ≤ c)) := by
  unfold spec_l1In.f
  by_cases h : a ≥ b
  · rw [if_pos h]
    congr 1
    exact decide_eq_decide.2 ⟨fun h1 => ⟨h, h1⟩, fun h1 => h1.2⟩
  · rw [if_neg h, decide_eq_false (fun h1 => h h1.1)]

theorem within_eq (a b c : Int) : impl_within.f a b c = some (decide (b ≤ a ∧ a ≤ c)) := by
  unfold impl_within.f
  by_cases h : a ≥ b
  · rw [if_pos h]
    congr 1
    exact decide_eq_decide.2 ⟨fun h1 => ⟨h, h1⟩, fun h1 => h1.2⟩
  · rw [if_neg h, decide_eq_false (fun h1 => h h1.1)]

theorem rdStr (l : List ByteArray) (i : Nat) (h : i < l.length) : rdOf ByteArray.empty l (i : Int) = l[i] := by
  unfold rdOf
  rw [Int.toNat_natCast]
  exact getD_in l _ i h

theorem eqStringS_tot (l : List ByteArray) (hl : l.length ≤ 1048576) : Tot (fun k => laws_eqStringS.f k l l) (fun y => y = true) := by
  have h := fun k hk => loop_up (fun k (x : Int) => laws_eqStringS.l0 k l l x) l.length 0 (fun i => (i : Int)) true (fun i k hi _ => by
    simp only [laws_eqStringS.l0]
    rw [if_pos (by omega), if_pos (by omega), if_pos (by omega), if_pos trivial, w64 (by omega) (by omega)]
    rfl) (fun k _ => by
    simp only [laws_eqStringS.l0]
    rw [if_neg (by omega)]) k hk
  simp only [laws_eqStringS.f]
  exact Tot.pos trivial (Tot.at_ (l.length + 1) rfl (fun k hk => h k (by omega)))

theorem markText_l0 : ∀ (n : Nat) (m : Nat) (x : ByteArray), m < 10 ^ n → x.size + n + 1 ≤ 1000 → m ≤ 1099511627776 → Tot (fun k => laws_markText.l0 k (m : Int) x) (fun y => y.size ≤ x.size + n + 1) := by
  intro n
  induction n with
  | zero =>
    intro m x hm hx hle
    refine Tot.up ?_
    simp only [laws_markText.l0]
    refine Tot.neg (by omega) (Tot.pos (by omega) (Tot.some_ ?_))
    rw [ByteArray.size_append]
    show 1 + x.size ≤ _
    omega
  | succ n ih =>
    intro m x hm hx hle
    refine Tot.up ?_
    simp only [laws_markText.l0]
    refine Tot.ite (fun h0 => ?_) (fun h0 => Tot.pos (by omega) (Tot.some_ (by
      rw [ByteArray.size_append]
      show 1 + x.size ≤ _
      omega)))
    simp only [Option.bind_some]
    have h1 : (strOfNums [wrap64 (48 + Int.tmod (m : Int) 10) % 256]).size = 1 := rfl
    rw [show (10 : Int) = ((10 : Nat) : Int) from rfl, tdiv_nat, wnat (m / 10) (by omega)]
    refine Tot.pos (by rw [show ((10 : Nat) : Int) = (10 : Int) from rfl, h1]; omega) ?_
    have hp : 10 ^ (n + 1) = 10 * 10 ^ n := by rw [Nat.pow_succ, Nat.mul_comm]
    have h2 : (strOfNums [wrap64 (48 + Int.tmod (m : Int) ((10 : Nat) : Int)) % 256] ++ x).size = 1 + x.size := by rw [ByteArray.size_append]; rfl
    refine (ih (m / 10) _ (by omega) (by rw [h2]; omega) (by omega)).imp (fun y hy => ?_)
    rw [h2] at hy
    omega
theorem markText_tot (m : Int) (h0 : 0 ≤ m) (h1 : m ≤ 1099511627776) : Tot (fun k => laws_markText.f k m) (fun y => y.size ≤ 64) := by
  obtain ⟨m, rfl⟩ := Int.eq_ofNat_of_zero_le h0
  simp only [laws_markText.f]
  refine Tot.ite (fun _ => Tot.some_ (show 2 ≤ 64 by omega)) (fun _ => ?_)
  refine (markText_l0 13 m _ (by omega) (by show 0 + 13 + 1 ≤ 1000; omega) (by omega)).imp (fun y hy => ?_)
  have h2 : (⟨#[]⟩ : ByteArray).size = 0 := rfl
  omega
/-- The mark of a number. -/
noncomputable def mt (m : Int) : ByteArray := Classical.epsilon fun y => Tot (fun k => laws_markText.f k m) (fun z => z = y)
theorem mt_tot (m : Int) (h0 : 0 ≤ m) (h1 : m ≤ 1099511627776) : Tot (fun k => laws_markText.f k m) (fun z => z = mt m) := by
  obtain ⟨y, _, h⟩ := (markText_tot m h0 h1).val
  exact Classical.epsilon_spec (p := fun y => Tot (fun k => laws_markText.f k m) (fun z => z = y)) ⟨y, h⟩

noncomputable def mts (m : Int) (n : Nat) : List ByteArray := (List.range n).map fun (i : Nat) => mt (m + (i : Int))
theorem mts_length (m : Int) (n : Nat) : (mts m n).length = n := by simp [mts]
theorem mts_get (m : Int) (n i : Nat) (h : i < n) : (mts m n)[i]'(by rw [mts_length]; exact h) = mt (m + (i : Int)) := by simp [mts]
theorem markStringS_tot (l : List ByteArray) (hl : l.length ≤ 1048576) (m : Int) (h0 : 0 ≤ m) (h1 : m ≤ 4294967296) : Tot (fun k => laws_markStringS.f k l m) (fun y => y = (m + (l.length : Int), mts m l.length)) := by
  have hz := mts_length m l.length
  have key : ∀ (d i : Nat), l.length - i = d → i ≤ l.length → Tot (fun k => laws_markStringS.l0 k (mixed (mts m l.length) l i) (m + (i : Int)) (i : Int)) (fun y => y = (m + (l.length : Int), mts m l.length)) := by
    intro d
    induction d with
    | zero =>
      intro i hd hi
      refine Tot.up ?_
      have e : i = l.length := by omega
      subst e
      simp only [laws_markStringS.l0]
      refine Tot.neg (by rw [mixed_length _ _ _ hz]; omega) (Tot.some_ ?_)
      rw [mixed_end _ _ _ (by omega) (by omega)]
    | succ d ih =>
      intro i hd hi
      refine Tot.up ?_
      simp only [laws_markStringS.l0]
      refine Tot.pos (by rw [mixed_length _ _ _ hz]; omega) (Tot.bind (mt_tot _ (by omega) (by omega)) (fun y hy => Tot.pos (by omega) ?_))
      rw [hy, Int.toNat_natCast, mixed_set _ _ i _ hz (by omega) (by rw [getD_in _ _ i (by omega), mts_get m _ i (by omega)]), w64 (n := m + (i : Int) + 1) (by omega) (by omega), w64 (n := (i : Int) + 1) (by omega) (by omega), show m + (i : Int) + 1 = m + ((i + 1 : Nat) : Int) by omega]
      exact ih (i + 1) (by omega) (by omega)
  have h := key l.length 0 (by omega) (by omega)
  rw [mixed_zero, show m + ((0 : Nat) : Int) = m by omega] at h
  exact h
theorem heldStringS_tot (n : Nat) (hn : n ≤ 1048576) (m : Int) (h0 : 0 ≤ m) (h1 : m ≤ 4294967296) : Tot (fun k => laws_heldStringS.f k (mts m n) m) (fun y => y = m + (n : Int)) := by
  have hz := mts_length m n
  have key : ∀ (d i : Nat), n - i = d → i ≤ n → Tot (fun k => laws_heldStringS.l0 k (mts m n) (m + (i : Int)) (i : Int)) (fun y => y = m + (n : Int)) := by
    intro d
    induction d with
    | zero =>
      intro i hd hi
      refine Tot.up ?_
      simp only [laws_heldStringS.l0]
      refine Tot.neg (by rw [hz]; omega) (Tot.some_ (by omega))
    | succ d ih =>
      intro i hd hi
      refine Tot.up ?_
      simp only [laws_heldStringS.l0]
      refine Tot.pos (by rw [hz]; omega) (Tot.pos (by omega) (Tot.bind (mt_tot _ (by omega) (by omega)) (fun y hy => ?_)))
      rw [hy, rdStr _ i (by omega), mts_get m n i (by omega), w64 (n := m + (i : Int) + 1) (by omega) (by omega), w64 (n := (i : Int) + 1) (by omega) (by omega), show m + (i : Int) + 1 = m + ((i + 1 : Nat) : Int) by omega]
      exact Tot.pos rfl (ih (i + 1) (by omega) (by omega))
  have h := key n 0 (by omega) (by omega)
  rw [show m + ((0 : Nat) : Int) = m by omega] at h
  exact h

theorem eqIntS_l0 (l : List Int) (hl : l.length ≤ 1048576) : ∀ (d k i : Nat), l.length - i = d → d < k → laws_eqIntS.l0 k l l (i : Int) = some true := by
  intro d
  induction d with
  | zero =>
    intro k i hd hk
    obtain ⟨k, rfl⟩ := rounds hk
    simp only [laws_eqIntS.l0]
    rw [if_neg (by omega)]
  | succ d ih =>
    intro k i hd hk
    obtain ⟨k, rfl⟩ := rounds hk
    simp only [laws_eqIntS.l0]
    rw [if_pos (by omega), if_pos (by omega), if_pos (by omega), if_pos trivial, w64 (by omega) (by omega)]
    exact ih k (i + 1) (by omega) (by omega)

theorem eqIntS_self (l : List Int) (hl : l.length ≤ 1048576) (k : Nat) (hk : l.length < k) : laws_eqIntS.f k l l = some true := by
  unfold laws_eqIntS.f
  rw [if_pos rfl]
  exact eqIntS_l0 l hl l.length k 0 (by omega) hk

theorem markIntS_l0 (n : Nat) (hn : n ≤ 1048576) (m : Int) (h0 : 0 ≤ m) (h1 : m ≤ 4294967296) : ∀ (d k i : Nat) (out : List Int), n - i = d → d < k → i ≤ n → out.length = n → out.take i = (ups m n).take i → laws_markIntS.l0 k out (m + (i : Int)) (i : Int) = some (m + (n : Int), ups m n) := by
  intro d
  induction d with
  | zero =>
    intro k i out hd hk hi ho ht
    obtain ⟨k, rfl⟩ := rounds hk
    simp only [laws_markIntS.l0]
    rw [if_neg (by omega), take_all out (ups m n) i ht (by omega) (by rw [ups_length]; omega), show i = n by omega]
  | succ d ih =>
    intro k i out hd hk hi ho ht
    obtain ⟨k, rfl⟩ := rounds hk
    simp only [laws_markIntS.l0]
    rw [if_pos (by omega), if_pos (by omega), w64 (n := (i : Int) + 1) (by omega) (by omega), w64 (n := m + (i : Int) + 1) (by omega) (by omega), Int.toNat_natCast]
    rw [show m + (i : Int) + 1 = m + ((i + 1 : Nat) : Int) by omega]
    exact ih k (i + 1) _ (by omega) (by omega) (by omega) (by rw [List.length_set]; exact ho) (take_set out (ups m n) i _ ht (by omega) (by rw [ups_length]; omega) (ups_get m n i (by omega)).symm)

theorem markIntS_eq (l : List Int) (hl : l.length ≤ 1048576) (m : Int) (h0 : 0 ≤ m) (h1 : m ≤ 4294967296) (k : Nat) (hk : l.length < k) : laws_markIntS.f k l m = some (m + (l.length : Int), ups m l.length) := by
  have h := markIntS_l0 l.length hl m h0 h1 l.length k 0 l (by omega) hk (by omega) rfl (by simp)
  unfold laws_markIntS.f
  simpa using h

theorem heldIntS_l0 (n : Nat) (hn : n ≤ 1048576) (m : Int) (h0 : 0 ≤ m) (h1 : m ≤ 4294967296) : ∀ (d k i : Nat), n - i = d → d < k → i ≤ n → laws_heldIntS.l0 k (ups m n) (m + (i : Int)) (i : Int) = some (m + (n : Int)) := by
  intro d
  induction d with
  | zero =>
    intro k i hd hk hi
    obtain ⟨k, rfl⟩ := rounds hk
    simp only [laws_heldIntS.l0]
    rw [if_neg (by rw [ups_length]; omega), show i = n by omega]
  | succ d ih =>
    intro k i hd hk hi
    obtain ⟨k, rfl⟩ := rounds hk
    simp only [laws_heldIntS.l0]
    rw [if_pos (by rw [ups_length]; omega), if_pos (by omega), rd_in _ i (by rw [ups_length]; omega), ups_get m n i (by omega), if_pos rfl, w64 (n := (i : Int) + 1) (by omega) (by omega), w64 (n := m + (i : Int) + 1) (by omega) (by omega)]
    rw [show m + (i : Int) + 1 = m + ((i + 1 : Nat) : Int) by omega]
    exact ih k (i + 1) (by omega) (by omega) (by omega)

theorem heldIntS_eq (n : Nat) (hn : n ≤ 1048576) (m : Int) (h0 : 0 ≤ m) (h1 : m ≤ 4294967296) (k : Nat) (hk : n < k) : laws_heldIntS.f k (ups m n) m = some (m + (n : Int)) := by
  have h := heldIntS_l0 n hn m h0 h1 n k 0 (by omega) hk (by omega)
  unfold laws_heldIntS.f
  simpa using h

theorem eqIntS_tot (l : List Int) (hl : l.length ≤ 1048576) : Tot (fun k => laws_eqIntS.f k l l) (fun y => y = true) := Tot.at_ (l.length + 1) rfl (fun k hk => eqIntS_self l hl k (by omega))
theorem markIntS_tot (l : List Int) (hl : l.length ≤ 1048576) (m : Int) (h0 : 0 ≤ m) (h1 : m ≤ 4294967296) : Tot (fun k => laws_markIntS.f k l m) (fun y => y = (m + (l.length : Int), ups m l.length)) := Tot.at_ (l.length + 1) rfl (fun k hk => markIntS_eq l hl m h0 h1 k (by omega))
theorem heldIntS_tot (n : Nat) (hn : n ≤ 1048576) (m : Int) (h0 : 0 ≤ m) (h1 : m ≤ 4294967296) : Tot (fun k => laws_heldIntS.f k (ups m n) m) (fun y => y = m + (n : Int)) := Tot.at_ (n + 1) rfl (fun k hk => heldIntS_eq n hn m h0 h1 k (by omega))

theorem FnExactNewMix : laws_FnExactNewMix.Pure := by
  intro a b _ _
  have h : ∃ (c d : Int) (o : Bool), spec_NewMix.f a b = some ([], c, d, 0, [], o) ∧ impl_NewMix.f a b = some ([], c, d, 0, [], o) := by
    unfold spec_NewMix.f impl_NewMix.f
    simp only [l1In_eq, within_eq, Option.bind_some]
    by_cases h : 1 ≤ a ∧ a ≤ 12
    · rw [decide_eq_true h]
      by_cases h2 : 1 ≤ b ∧ b ≤ 10
      · rw [decide_eq_true h2]
        exact ⟨a, b, true, rfl, rfl⟩
      · rw [decide_eq_false h2]
        exact ⟨0, 0, false, rfl, rfl⟩
    · rw [decide_eq_false h]
      exact ⟨0, 0, false, rfl, rfl⟩
  obtain ⟨c, d, o, h1, h2⟩ := h
  have eqC : Tot (fun k => laws_eqMix.f k [] c d 0 [] [] c d 0 []) (fun y => y = true) := by
    simp only [laws_eqMix.f]
    exact Tot.bind (eqStringS_tot [] (by simp)) (fun y e => Tot.pos e (Tot.pos trivial (Tot.pos trivial (Tot.pos trivial (Tot.bind (eqIntS_tot [] (by simp)) (fun z e2 => Tot.pos e2 (Tot.some_ rfl)))))))
  have mk : Tot (fun k => laws_markMix.f k [] c d 0 [] 1) (fun y => y = (1, mts 1 0, ups 1 0)) := by
    simp only [laws_markMix.f]
    refine Tot.bind (markStringS_tot [] (by simp) 1 (by omega) (by omega)) (fun y e => ?_)
    rw [e]
    refine Tot.bind (markIntS_tot [] (by simp) _ (by simp) (by simp)) (fun z e2 => Tot.some_ ?_)
    rw [e2]
    rfl
  have hd : Tot (fun k => laws_heldMix.f k (mts 1 0) c d 0 (ups 1 0) 1) (fun y => y = 1) := by
    simp only [laws_heldMix.f]
    refine Tot.bind (heldStringS_tot 0 (by omega) 1 (by omega) (by omega)) (fun y e => Tot.neg (by omega) ?_)
    rw [e, show (1 : Int) + ((0 : Nat) : Int) = 1 by omega]
    exact Tot.bind (heldIntS_tot 0 (by omega) 1 (by omega) (by omega)) (fun z e2 => Tot.neg (by omega) (Tot.some_ (by omega)))
  refine Tot.ex ?_
  simp only [laws_FnExactNewMix.f, h1, h2, Option.bind_some]
  refine Tot.bind eqC (fun y1 e1 => Tot.pos e1 (Tot.up ?_))
  simp only [laws_FnExactNewMix.j0, bne_self_eq_false, h2, Option.bind_some]
  refine Tot.neg (by simp) (Tot.bind mk (fun y2 e2 => ?_))
  rw [e2]
  refine Tot.bind hd (fun y3 e3 => Tot.neg (by omega) (Tot.pos e3 ?_))
  refine Tot.bind eqC (fun y4 e4 => Tot.pos e4 (Tot.up ?_))
  simp only [laws_FnExactNewMix.j1]
  exact Tot.neg (by simp) (Tot.bind hd (fun y5 e5 => Tot.neg (by omega) (Tot.pos e5 (Tot.some_ rfl))))

end Go.Proofs.Ytkboogeadijoeaa.Pure
