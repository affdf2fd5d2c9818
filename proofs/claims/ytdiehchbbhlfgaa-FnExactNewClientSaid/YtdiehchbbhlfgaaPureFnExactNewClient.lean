/- Proved: NewClient of the program and of the reference answer alike at all arguments, and the answer owns its memory. Conditions: those of the given statement alone. -/
import Derived.Test.YtdiehchbbhlfgaaPFnExactNewClientx2
import Derived.Test.YtdiehchbbhlfgaaBase
set_option linter.unusedVariables false
set_option linter.unusedSimpArgs false
namespace Go.Proofs.Ytdiehchbbhlfgaa.Pure
open Go.RowKit Go.Proofs.Ytdiehchbbhlfgaa.PFnExactNewClient Go.Proofs.Ytdiehchbbhlfgaa.Base Go.Proofs.YtdiehchbbhlfgaaW.PrintWords Go.Proofs.YtdiehchbbhlfgaaW.PrintLast Go.Proofs.YtdiehchbbhlfgaaW.PrintMore

theorem l1In_eq (a b c : Int) : spec_l1In.f a b c = some (decide (b ≤ a ∧ a ≤ c)) := by
  unfold spec_l1In.f
  by_cases h : a ≥ b
  · rw [if_pos h]
    congr 1
    exact decide_eq_decide.2 ⟨fun h1 => ⟨h, h1⟩, fun h1 => h1.2⟩
  · rw [if_neg h, decide_eq_false (fun h1 => h h1.1)]

theorem within_eq (a b c : Int) : impl_within.f a b c = some (decide (b ≤ a ∧ a ≤ c)) := by
  unfold impl_within.f
  by_cases h : a ≥ b
  · rw [if_pos h]
    congr 1
    exact decide_eq_decide.2 ⟨fun h1 => ⟨h, h1⟩, fun h1 => h1.2⟩
  · rw [if_neg h, decide_eq_false (fun h1 => h h1.1)]

theorem rdStr (l : List ByteArray) (i : Nat) (h : i < l.length) : rdOf ByteArray.empty l (i : Int) = l[i] := by
  unfold rdOf
  rw [Int.toNat_natCast]
  exact getD_in l _ i h

theorem eqStringS_tot (l : List ByteArray) (hl : l.length ≤ 1048576) : Tot (fun k => laws_eqStringS.f k l l) (fun y => y = true) := by
  have h := fun k hk => loop_up (fun k (x : Int) => laws_eqStringS.l0 k l l x) l.length 0 (fun i => (i : Int)) true (fun i k hi _ => by
    simp only [laws_eqStringS.l0]
    rw [if_pos (by omega), if_pos (by omega), if_pos (by omega), if_pos trivial, w64 (by omega) (by omega)]
    rfl) (fun k _ => by
    simp only [laws_eqStringS.l0]
    rw [if_neg (by omega)]) k hk
  simp only [laws_eqStringS.f]
  exact Tot.pos trivial (Tot.at_ (l.length + 1) rfl (fun k hk => h k (by omega)))

theorem markText_l0 : ∀ (n : Nat) (m : Nat) (x : ByteArray), m < 10 ^ n → x.size + n + 1 ≤ 1000 → m ≤ 1099511627776 → Tot (fun k => laws_markText.l0 k (m : Int) x) (fun y => y.size ≤ x.size + n + 1) := by
  intro n
  induction n with
  | zero =>
    intro m x hm hx hle
    refine Tot.up ?_
    simp only [laws_markText.l0]
    refine Tot.neg (by omega) (Tot.pos (by omega) (Tot.some_ ?_))
    rw [ByteArray.size_append]
    show 1 + x.size ≤ _
    omega
  | succ n ih =>
    intro m x hm hx hle
    refine Tot.up ?_
    simp only [laws_markText.l0]
    refine Tot.ite (fun h0 => ?_) (fun h0 => Tot.pos (by omega) (Tot.some_ (by
      rw [ByteArray.size_append]
      show 1 + x.size ≤ _
      omega)))
    simp only [Option.bind_some]
    have h1 : (strOfNums [wrap64 (48 + Int.tmod (m : Int) 10) % 256]).size = 1 := rfl
    rw [show (10 : Int) = ((10 : Nat) : Int) from rfl, tdiv_nat, wnat (m / 10) (by omega)]
    refine Tot.pos (by rw [show ((10 : Nat) : Int) = (10 : Int) from rfl, h1]; omega) ?_
    have hp : 10 ^ (n + 1) = 10 * 10 ^ n := by rw [Nat.pow_succ, Nat.mul_comm]
    have h2 : (strOfNums [wrap64 (48 + Int.tmod (m : Int) ((10 : Nat) : Int)) % 256] ++ x).size = 1 + x.size := by rw [ByteArray.size_append]; rfl
    refine (ih (m / 10) _ (by omega) (by rw [h2]; omega) (by omega)).imp (fun y hy => ?_)
    rw [h2] at hy
    omega
theorem markText_tot (m : Int) (h0 : 0 ≤ m) (h1 : m ≤ 1099511627776) : Tot (fun k => laws_markText.f k m) (fun y => y.size ≤ 64) := by
  obtain ⟨m, rfl⟩ := Int.eq_ofNat_of_zero_le h0
  simp only [laws_markText.f]
  refine Tot.ite (fun _ => Tot.some_ (show 2 ≤ 64 by omega)) (fun _ => ?_)
  refine (markText_l0 13 m _ (by omega) (by show 0 + 13 + 1 ≤ 1000; omega) (by omega)).imp (fun y hy => ?_)
  have h2 : (⟨#[]⟩ : ByteArray).size = 0 := rfl
  omega
/-- The mark of a number. -/
noncomputable def mt (m : Int) : ByteArray := Classical.epsilon fun y => Tot (fun k => laws_markText.f k m) (fun z => z = y)
theorem mt_tot (m : Int) (h0 : 0 ≤ m) (h1 : m ≤ 1099511627776) : Tot (fun k => laws_markText.f k m) (fun z => z = mt m) := by
  obtain ⟨y, _, h⟩ := (markText_tot m h0 h1).val
  exact Classical.epsilon_spec (p := fun y => Tot (fun k => laws_markText.f k m) (fun z => z = y)) ⟨y, h⟩

noncomputable def mts (m : Int) (n : Nat) : List ByteArray := (List.range n).map fun (i : Nat) => mt (m + (i : Int))
theorem mts_length (m : Int) (n : Nat) : (mts m n).length = n := by simp [mts]
theorem mts_get (m : Int) (n i : Nat) (h : i < n) : (mts m n)[i]'(by rw [mts_length]; exact h) = mt (m + (i : Int)) := by simp [mts]
theorem markStringS_tot (l : List ByteArray) (hl : l.length ≤ 1048576) (m : Int) (h0 : 0 ≤ m) (h1 : m ≤ 4294967296) : Tot (fun k => laws_markStringS.f k l m) (fun y => y = (m + (l.length : Int), mts m l.length)) := by
  have hz := mts_length m l.length
  have key : ∀ (d i : Nat), l.length - i = d → i ≤ l.length → Tot (fun k => laws_markStringS.l0 k (mixed (mts m l.length) l i) (m + (i : Int)) (i : Int)) (fun y => y = (m + (l.length : Int), mts m l.length)) := by
    intro d
    induction d with
    | zero =>
      intro i hd hi
      refine Tot.up ?_
      have e : i = l.length := by omega
      subst e
      simp only [laws_markStringS.l0]
      refine Tot.neg (by rw [mixed_length _ _ _ hz]; omega) (Tot.some_ ?_)
      rw [mixed_end _ _ _ (by omega) (by omega)]
    | succ d ih =>
      intro i hd hi
      refine Tot.up ?_
      simp only [laws_markStringS.l0]
      refine Tot.pos (by rw [mixed_length _ _ _ hz]; omega) (Tot.bind (mt_tot _ (by omega) (by omega)) (fun y hy => Tot.pos (by omega) ?_))
      rw [hy, Int.toNat_natCast, mixed_set _ _ i _ hz (by omega) (by rw [getD_in _ _ i (by omega), mts_get m _ i (by omega)]), w64 (n := m + (i : Int) + 1) (by omega) (by omega), w64 (n := (i : Int) + 1) (by omega) (by omega), show m + (i : Int) + 1 = m + ((i + 1 : Nat) : Int) by omega]
      exact ih (i + 1) (by omega) (by omega)
  have h := key l.length 0 (by omega) (by omega)
  rw [mixed_zero, show m + ((0 : Nat) : Int) = m by omega] at h
  exact h
theorem heldStringS_tot (n : Nat) (hn : n ≤ 1048576) (m : Int) (h0 : 0 ≤ m) (h1 : m ≤ 4294967296) : Tot (fun k => laws_heldStringS.f k (mts m n) m) (fun y => y = m + (n : Int)) := by
  have hz := mts_length m n
  have key : ∀ (d i : Nat), n - i = d → i ≤ n → Tot (fun k => laws_heldStringS.l0 k (mts m n) (m + (i : Int)) (i : Int)) (fun y => y = m + (n : Int)) := by
    intro d
    induction d with
    | zero =>
      intro i hd hi
      refine Tot.up ?_
      simp only [laws_heldStringS.l0]
      refine Tot.neg (by rw [hz]; omega) (Tot.some_ (by omega))
    | succ d ih =>
      intro i hd hi
      refine Tot.up ?_
      simp only [laws_heldStringS.l0]
      refine Tot.pos (by rw [hz]; omega) (Tot.pos (by omega) (Tot.bind (mt_tot _ (by omega) (by omega)) (fun y hy => ?_)))
      rw [hy, rdStr _ i (by omega), mts_get m n i (by omega), w64 (n := m + (i : Int) + 1) (by omega) (by omega), w64 (n := (i : Int) + 1) (by omega) (by omega), show m + (i : Int) + 1 = m + ((i + 1 : Nat) : Int) by omega]
      exact Tot.pos rfl (ih (i + 1) (by omega) (by omega))
  have h := key n 0 (by omega) (by omega)
  rw [show m + ((0 : Nat) : Int) = m by omega] at h
  exact h

theorem FnExactNewClient : laws_FnExactNewClient.Pure := by
  intro a _
  have h : ∃ (b : Int) (o : Bool), spec_NewClient.f a = some ([], 0, b, o) ∧ impl_NewClient.f a = some ([], 0, b, o) := by
    unfold spec_NewClient.f impl_NewClient.f impl_areWays.f
    rw [l1In_eq, within_eq]
    simp only [Option.bind_some]
    by_cases h : 1 ≤ a ∧ a ≤ 4
    · rw [decide_eq_true h]
      exact ⟨a, true, rfl, rfl⟩
    · rw [decide_eq_false h]
      exact ⟨0, false, rfl, rfl⟩
  obtain ⟨b, o, h1, h2⟩ := h
  have eqC : Tot (fun k => laws_eqClient.f k [] 0 b [] 0 b) (fun y => y = true) := by
    simp only [laws_eqClient.f]
    exact Tot.bind (eqStringS_tot [] (by simp)) (fun y e => Tot.pos e (Tot.pos trivial (Tot.pos trivial (Tot.some_ rfl))))
  refine Tot.ex ?_
  simp only [laws_FnExactNewClient.f, h1, h2, Option.bind_some]
  refine Tot.bind eqC (fun y1 e1 => Tot.pos e1 (Tot.up ?_))
  simp only [laws_FnExactNewClient.j0, bne_self_eq_false, laws_markClient.f, laws_heldClient.f, h2, Option.bind_some]
  refine Tot.neg (by simp) (Tot.bind (Tot.bind (Q := fun y => y = (1, mts 1 0)) (R := fun y => y = (1, mts 1 0)) ((markStringS_tot [] (by simp) 1 (by omega) (by omega)).imp (fun y e => e)) (fun y e => Tot.some_ e)) (fun y2 e2 => ?_))
  rw [e2]
  have hh : Tot (fun k => (laws_heldStringS.f k (mts 1 0) 1).bind fun t122 => if t122 < 0 then some (-1) else some t122) (fun y => y = 1) :=
    Tot.bind (heldStringS_tot 0 (by omega) 1 (by omega) (by omega)) (fun y e => Tot.neg (by omega) (Tot.some_ (by omega)))
  refine Tot.bind hh (fun y3 e3 => Tot.neg (by omega) (Tot.pos e3 ?_))
  refine Tot.bind eqC (fun y4 e4 => Tot.pos e4 (Tot.up ?_))
  simp only [laws_FnExactNewClient.j1, laws_heldClient.f]
  exact Tot.neg (by simp) (Tot.bind hh (fun y5 e5 => Tot.neg (by omega) (Tot.pos e5 (Tot.some_ rfl))))

end Go.Proofs.Ytdiehchbbhlfgaa.Pure
