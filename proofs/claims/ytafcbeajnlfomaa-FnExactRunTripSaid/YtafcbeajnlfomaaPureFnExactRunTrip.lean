/- Proved: RunTrip of the program and of the reference answer alike at all arguments, and the answer owns its memory. Conditions: those of the given statement alone. -/
import Derived.Test.YtafcbeajnlfomaaPFnExactRunTripx7
import Derived.Test.YtafcbeajnlfomaaBase
set_option linter.unusedVariables false
set_option linter.unusedSimpArgs false
namespace Go.Proofs.Ytafcbeajnlfomaa.Pure
open Go.RowKit Go.Proofs.Ytafcbeajnlfomaa.PFnExactRunTrip Go.Proofs.Ytafcbeajnlfomaa.Base Go.Proofs.YtafcbeajnlfomaaW.PrintWords Go.Proofs.YtafcbeajnlfomaaW.PrintLast Go.Proofs.YtafcbeajnlfomaaW.PrintMore

theorem toIntS_l0 (l : List Int) (hl : l.length ≤ 1048576) : ∀ (d k i : Nat) (out : List Int), l.length - i = d → d < k → i ≤ l.length → out.length = l.length → out.take i = l.take i → laws_toIntS.l0 k l out (i : Int) = some l := by
  intro d
  induction d with
  | zero =>
    intro k i out hd hk hi ho ht
    obtain ⟨k, rfl⟩ := rounds hk
    simp only [laws_toIntS.l0]
    rw [if_neg (by omega), take_all out l i ht (by omega) (by omega)]
  | succ d ih =>
    intro k i out hd hk hi ho ht
    obtain ⟨k, rfl⟩ := rounds hk
    simp only [laws_toIntS.l0]
    rw [if_pos (by omega), if_pos (by omega), if_pos (by omega), w64 (by omega) (by omega), Int.toNat_natCast, rd_in l i (by omega)]
    exact ih k (i + 1) _ (by omega) (by omega) (by omega) (by rw [List.length_set]; exact ho) (take_set out l i _ ht (by omega) (by omega) rfl)

theorem toIntS_eq (l : List Int) (hl : l.length ≤ 1048576) (k : Nat) (hk : l.length < k) : laws_toIntS.f k l = some l := by
  unfold laws_toIntS.f
  rw [if_pos (by omega), if_pos (by omega)]
  exact toIntS_l0 l hl l.length k 0 _ (by omega) hk (by omega) (by simp) (by simp)

theorem eqIntS_l0 (l : List Int) (hl : l.length ≤ 1048576) : ∀ (d k i : Nat), l.length - i = d → d < k → laws_eqIntS.l0 k l l (i : Int) = some true := by
  intro d
  induction d with
  | zero =>
    intro k i hd hk
    obtain ⟨k, rfl⟩ := rounds hk
    simp only [laws_eqIntS.l0]
    rw [if_neg (by omega)]
  | succ d ih =>
    intro k i hd hk
    obtain ⟨k, rfl⟩ := rounds hk
    simp only [laws_eqIntS.l0]
    rw [if_pos (by omega), if_pos (by omega), if_pos (by omega), if_pos trivial, w64 (by omega) (by omega)]
    exact ih k (i + 1) (by omega) (by omega)

theorem eqIntS_self (l : List Int) (hl : l.length ≤ 1048576) (k : Nat) (hk : l.length < k) : laws_eqIntS.f k l l = some true := by
  unfold laws_eqIntS.f
  rw [if_pos rfl]
  exact eqIntS_l0 l hl l.length k 0 (by omega) hk

theorem markIntS_l0 (n : Nat) (hn : n ≤ 1048576) (m : Int) (h0 : 0 ≤ m) (h1 : m ≤ 4294967296) : ∀ (d k i : Nat) (out : List Int), n - i = d → d < k → i ≤ n → out.length = n → out.take i = (ups m n).take i → laws_markIntS.l0 k out (m + (i : Int)) (i : Int) = some (m + (n : Int), ups m n) := by
  intro d
  induction d with
  | zero =>
    intro k i out hd hk hi ho ht
    obtain ⟨k, rfl⟩ := rounds hk
    simp only [laws_markIntS.l0]
    rw [if_neg (by omega), take_all out (ups m n) i ht (by omega) (by rw [ups_length]; omega), show i = n by omega]
  | succ d ih =>
    intro k i out hd hk hi ho ht
    obtain ⟨k, rfl⟩ := rounds hk
    simp only [laws_markIntS.l0]
    rw [if_pos (by omega), if_pos (by omega), w64 (n := (i : Int) + 1) (by omega) (by omega), w64 (n := m + (i : Int) + 1) (by omega) (by omega), Int.toNat_natCast]
    rw [show m + (i : Int) + 1 = m + ((i + 1 : Nat) : Int) by omega]
    exact ih k (i + 1) _ (by omega) (by omega) (by omega) (by rw [List.length_set]; exact ho) (take_set out (ups m n) i _ ht (by omega) (by rw [ups_length]; omega) (ups_get m n i (by omega)).symm)

theorem markIntS_eq (l : List Int) (hl : l.length ≤ 1048576) (m : Int) (h0 : 0 ≤ m) (h1 : m ≤ 4294967296) (k : Nat) (hk : l.length < k) : laws_markIntS.f k l m = some (m + (l.length : Int), ups m l.length) := by
  have h := markIntS_l0 l.length hl m h0 h1 l.length k 0 l (by omega) hk (by omega) rfl (by simp)
  unfold laws_markIntS.f
  simpa using h

theorem heldIntS_l0 (n : Nat) (hn : n ≤ 1048576) (m : Int) (h0 : 0 ≤ m) (h1 : m ≤ 4294967296) : ∀ (d k i : Nat), n - i = d → d < k → i ≤ n → laws_heldIntS.l0 k (ups m n) (m + (i : Int)) (i : Int) = some (m + (n : Int)) := by
  intro d
  induction d with
  | zero =>
    intro k i hd hk hi
    obtain ⟨k, rfl⟩ := rounds hk
    simp only [laws_heldIntS.l0]
    rw [if_neg (by rw [ups_length]; omega), show i = n by omega]
  | succ d ih =>
    intro k i hd hk hi
    obtain ⟨k, rfl⟩ := rounds hk
    simp only [laws_heldIntS.l0]
    rw [if_pos (by rw [ups_length]; omega), if_pos (by omega), rd_in _ i (by rw [ups_length]; omega), ups_get m n i (by omega), if_pos rfl, w64 (n := (i : Int) + 1) (by omega) (by omega), w64 (n := m + (i : Int) + 1) (by omega) (by omega)]
    rw [show m + (i : Int) + 1 = m + ((i + 1 : Nat) : Int) by omega]
    exact ih k (i + 1) (by omega) (by omega) (by omega)

theorem heldIntS_eq (n : Nat) (hn : n ≤ 1048576) (m : Int) (h0 : 0 ≤ m) (h1 : m ≤ 4294967296) (k : Nat) (hk : n < k) : laws_heldIntS.f k (ups m n) m = some (m + (n : Int)) := by
  have h := heldIntS_l0 n hn m h0 h1 n k 0 (by omega) hk (by omega)
  unfold laws_heldIntS.f
  simpa using h

theorem eqReceiptS_self (l : List S36) (hl : l.length ≤ 1048576) : ∀ k, l.length < k → laws_eqReceiptS.f k l l = some true := by
  intro k hk
  unfold laws_eqReceiptS.f
  rw [if_pos rfl]
  exact loop_up (fun k (x : Int) => laws_eqReceiptS.l0 k l l x) l.length 0 (fun i => (i : Int)) true (fun i k hi _ => by
    simp only [laws_eqReceiptS.l0, laws_eqReceipt.f, if_true, Option.bind_some]
    rw [if_pos (by omega), if_pos (by omega), if_pos (by omega), w64 (by omega) (by omega)]
    rfl) (fun k _ => by
    simp only [laws_eqReceiptS.l0]
    rw [if_neg (by omega)]) k hk

def mkRcp (m : Int) : S36 := ⟨m, m + 1, m + 2, m + 3⟩
def mkRcps (m : Int) (n : Nat) : List S36 := (List.range n).map fun (i : Nat) => mkRcp (m + 4 * (i : Int))
theorem mkRcps_length (m : Int) (n : Nat) : (mkRcps m n).length = n := by simp [mkRcps]
theorem mkRcps_get (m : Int) (n i : Nat) (d : S36) (h : i < n) : (mkRcps m n).getD i d = mkRcp (m + 4 * (i : Int)) := by
  rw [getD_in _ d i (by rw [mkRcps_length]; exact h)]
  simp [mkRcps]

theorem markReceiptS_eq (l : List S36) (hl : l.length ≤ 1048576) (m : Int) (h0 : 0 ≤ m) (h1 : m ≤ 4294967296) : ∀ k, l.length < k → laws_markReceiptS.f k l m = some (m + 4 * (l.length : Int), mkRcps m l.length) := by
  intro k hk
  have h := loop_up (fun k (x : List S36 × Int × Int) => laws_markReceiptS.l0 k x.1 x.2.1 x.2.2) l.length 0 (fun i => (mixed (mkRcps m l.length) l i, m + 4 * (i : Int), (i : Int))) (m + 4 * (l.length : Int), mkRcps m l.length) (fun i k hi _ => by
    have e : (mkRcps m l.length).length = l.length := mkRcps_length m l.length
    have e2 := mixed_length (mkRcps m l.length) l i e
    have e3 := mixed_set (mkRcps m l.length) l i (mkRcp (m + 4 * (i : Int))) e hi (mkRcps_get m l.length i _ hi)
    simp only [laws_markReceiptS.l0, rd_T36, Option.bind_some, Int.toNat_natCast]
    rw [if_pos (by rw [e2]; omega), if_pos (by omega)]
    rw [w64 (n := m + 4 * (i : Int) + 1) (by omega) (by omega), w64 (n := m + 4 * (i : Int) + 1 + 1) (by omega) (by omega), w64 (n := m + 4 * (i : Int) + 1 + 1 + 1) (by omega) (by omega), w64 (n := m + 4 * (i : Int) + 1 + 1 + 1 + 1) (by omega) (by omega), w64 (n := (i : Int) + 1) (by omega) (by omega)]
    rw [getD_set _ _ _ _ (by first | omega | (simp only [List.length_set]; omega)), List.set_set, getD_set _ _ _ _ (by first | omega | (simp only [List.length_set]; omega)), List.set_set, getD_set _ _ _ _ (by first | omega | (simp only [List.length_set]; omega)), List.set_set]
    rw [show m + 4 * (i : Int) + 1 + 1 = m + 4 * (i : Int) + 2 by omega, show m + 4 * (i : Int) + 2 + 1 = m + 4 * (i : Int) + 3 by omega]
    unfold mkRcp at e3
    rw [e3, show m + 4 * (i : Int) + 3 + 1 = m + 4 * ((i + 1 : Nat) : Int) by omega]
    rfl) (fun k _ => by
    simp only [laws_markReceiptS.l0]
    rw [if_neg (by rw [mixed_length _ _ _ (mkRcps_length m l.length)]; omega), mixed_end _ _ _ (by rw [mkRcps_length]; omega) (by omega)]) k hk
  rw [mixed_zero] at h
  simpa [laws_markReceiptS.f] using h

theorem heldReceiptS_eq (n : Nat) (hn : n ≤ 1048576) (m : Int) (h0 : 0 ≤ m) (h1 : m ≤ 4294967296) : ∀ k, n < k → laws_heldReceiptS.f k (mkRcps m n) m = some (m + 4 * (n : Int)) := by
  intro k hk
  have h := loop_up (fun k (x : Int × Int) => laws_heldReceiptS.l0 k (mkRcps m n) x.1 x.2) n 0 (fun i => (m + 4 * (i : Int), (i : Int))) (m + 4 * (n : Int)) (fun i k hi _ => by
    simp only [laws_heldReceiptS.l0, rd_T36, Option.bind_some, Int.toNat_natCast, mkRcps_get m n i _ hi, mkRcp]
    rw [w64 (n := m + 4 * (i : Int) + 1) (by omega) (by omega), w64 (n := m + 4 * (i : Int) + 1 + 1) (by omega) (by omega), w64 (n := m + 4 * (i : Int) + 1 + 1 + 1) (by omega) (by omega), w64 (n := m + 4 * (i : Int) + 1 + 1 + 1 + 1) (by omega) (by omega), w64 (n := (i : Int) + 1) (by omega) (by omega)]
    rw [if_pos (by rw [mkRcps_length]; omega), if_pos (by omega), if_pos (by first | trivial | omega), if_pos (by first | trivial | omega), if_pos (by first | trivial | omega), if_pos (by first | trivial | omega), show m + 4 * (i : Int) + 1 + 1 + 1 + 1 = m + 4 * ((i + 1 : Nat) : Int) by omega]
    rfl) (fun k _ => by
    simp only [laws_heldReceiptS.l0]
    rw [if_neg (by rw [mkRcps_length]; omega)]) k hk
  simpa [laws_heldReceiptS.f] using h

theorem eqTrip_self (l : List Int) (a b : Int) (r : List S36) (c : Int) (hl : l.length ≤ 1048576) (hr : r.length ≤ 1048576) (k : Nat) (hk : l.length < k) (hk2 : r.length < k) : laws_eqTrip.f k l a b r c l a b r c = some true := by
  unfold laws_eqTrip.f
  rw [eqIntS_self l hl k hk]
  simp only [Option.bind_some, if_true]
  rw [eqReceiptS_self r hr k hk2]
  rfl
theorem markTrip_eq (l : List Int) (a b : Int) (r : List S36) (c : Int) (hl : l.length ≤ 1048576) (hr : r.length ≤ 1048576) (k : Nat) (hk : l.length < k) (hk2 : r.length < k) :
    laws_markTrip.f k l a b r c 1 = some (1 + (l.length : Int) + 4 * (r.length : Int), ups 1 l.length, mkRcps (1 + (l.length : Int)) r.length) := by
  unfold laws_markTrip.f
  rw [markIntS_eq l hl 1 (by omega) (by omega) k hk]
  simp only [Option.bind_some]
  rw [markReceiptS_eq r hr _ (by omega) (by omega) k hk2]
  rfl

theorem heldTrip_eq (n m : Nat) (a b c : Int) (hn : n ≤ 1048576) (hm : m ≤ 1048576) (k : Nat) (hk : n < k) (hk2 : m < k) :
    laws_heldTrip.f k (ups 1 n) a b (mkRcps (1 + (n : Int)) m) c 1 = some (1 + (n : Int) + 4 * (m : Int)) := by
  unfold laws_heldTrip.f
  rw [heldIntS_eq n hn 1 (by omega) (by omega) k hk]
  simp only [Option.bind_some]
  rw [if_neg (by omega), heldReceiptS_eq m hm _ (by omega) (by omega) k hk2]
  simp only [Option.bind_some]
  rw [if_neg (by omega)]

theorem l1In_eq (a b c : Int) : spec_l1In.f a b c = some (decide (b ≤ a ∧ a ≤ c)) := by
  unfold spec_l1In.f
  by_cases h : a ≥ b
  · rw [if_pos h]
    congr 1
    exact decide_eq_decide.2 ⟨fun h1 => ⟨h, h1⟩, fun h1 => h1.2⟩
  · rw [if_neg h, decide_eq_false (fun h1 => h h1.1)]

theorem within_eq (a b c : Int) : impl_within.f a b c = some (decide (b ≤ a ∧ a ≤ c)) := by
  unfold impl_within.f
  by_cases h : a ≥ b
  · rw [if_pos h]
    congr 1
    exact decide_eq_decide.2 ⟨fun h1 => ⟨h, h1⟩, fun h1 => h1.2⟩
  · rw [if_neg h, decide_eq_false (fun h1 => h h1.1)]

theorem specAll_l0 (l : List Int) (hl : l.length ≤ 1048576) (a b : Int) : ∀ (d k i : Nat), l.length - i = d → d < k → i ≤ l.length → spec_l1All.l0 k a b l (l.length : Int) (i : Int) = some (decide (∀ x ∈ l.drop i, a ≤ x ∧ x ≤ b)) := by
  intro d
  induction d with
  | zero =>
    intro k i hd hk hi
    obtain ⟨k, rfl⟩ := rounds hk
    simp only [spec_l1All.l0]
    rw [if_neg (by omega), List.drop_of_length_le (by omega)]
    simp
  | succ d ih =>
    intro k i hd hk hi
    obtain ⟨k, rfl⟩ := rounds hk
    have hlt : i < l.length := by omega
    simp only [spec_l1All.l0]
    rw [if_pos (by omega), if_pos (by omega), if_pos (by omega), rd_in l i hlt, w64 (by omega) (by omega), l1In_eq]
    simp only [Option.bind_some]
    have hdrop := List.drop_eq_getElem_cons hlt
    by_cases e : a ≤ l[i] ∧ l[i] ≤ b
    · have h := ih k (i + 1) (by omega) (by omega) (by omega)
      rw [decide_eq_true e, if_pos rfl]
      refine Eq.trans h ?_
      congr 1
      refine decide_eq_decide.2 ?_
      rw [hdrop]
      simp only [List.mem_cons, forall_eq_or_imp]
      exact ⟨fun h => ⟨e, h⟩, fun h => h.2⟩
    · rw [decide_eq_false e, if_neg (by simp)]
      congr 1
      refine (decide_eq_false (fun h => e (h l[i] (by rw [hdrop]; exact List.mem_cons_self)))).symm

theorem specAll_eq (l : List Int) (hl : l.length ≤ 1048576) (a b : Int) (k : Nat) (hk : l.length < k) : spec_l1All.f k l a b = some (decide (∀ x ∈ l, a ≤ x ∧ x ≤ b)) := by
  have h := specAll_l0 l hl a b l.length k 0 (by omega) hk (by omega)
  rw [List.drop_zero] at h
  exact h

theorem implAll_l0 (l : List Int) (hl : l.length ≤ 1048576) (a b : Int) : ∀ (d k i : Nat), l.length - i = d → d < k → i ≤ l.length → impl_allWithin.l0 k a b l (l.length : Int) (i : Int) = some (decide (∀ x ∈ l.drop i, a ≤ x ∧ x ≤ b)) := by
  intro d
  induction d with
  | zero =>
    intro k i hd hk hi
    obtain ⟨k, rfl⟩ := rounds hk
    simp only [impl_allWithin.l0]
    rw [if_neg (by omega), List.drop_of_length_le (by omega)]
    simp
  | succ d ih =>
    intro k i hd hk hi
    obtain ⟨k, rfl⟩ := rounds hk
    have hlt : i < l.length := by omega
    simp only [impl_allWithin.l0]
    rw [if_pos (by omega), if_pos (by omega), if_pos (by omega), rd_in l i hlt, w64 (by omega) (by omega), within_eq]
    simp only [Option.bind_some]
    have hdrop := List.drop_eq_getElem_cons hlt
    by_cases e : a ≤ l[i] ∧ l[i] ≤ b
    · have h := ih k (i + 1) (by omega) (by omega) (by omega)
      rw [decide_eq_true e, if_pos rfl]
      refine Eq.trans h ?_
      congr 1
      refine decide_eq_decide.2 ?_
      rw [hdrop]
      simp only [List.mem_cons, forall_eq_or_imp]
      exact ⟨fun h => ⟨e, h⟩, fun h => h.2⟩
    · rw [decide_eq_false e, if_neg (by simp)]
      congr 1
      refine (decide_eq_false (fun h => e (h l[i] (by rw [hdrop]; exact List.mem_cons_self)))).symm

theorem implAll_eq (l : List Int) (hl : l.length ≤ 1048576) (a b : Int) (k : Nat) (hk : l.length < k) : impl_allWithin.f k l a b = some (decide (∀ x ∈ l, a ≤ x ∧ x ≤ b)) := by
  have h := implAll_l0 l hl a b l.length k 0 (by omega) hk (by omega)
  rw [List.drop_zero] at h
  exact h

def areSec (l : List Int) (n : Int) : Bool := decide (1 ≤ (l.length : Int) ∧ (l.length : Int) ≤ n) && decide (∀ x ∈ l, 1 ≤ x ∧ x ≤ 1498)
theorem specSecrets_eq (l : List Int) (hl : l.length ≤ 1048576) (k : Nat) (hk : l.length < k) : spec_l11Secrets.f k l = some (areSec l 6) := by
  unfold spec_l11Secrets.f areSec
  rw [l1In_eq, specAll_eq l hl 1 1498 k hk]
  simp only [Option.bind_some]
  by_cases h : 1 ≤ (l.length : Int) ∧ (l.length : Int) ≤ 6 <;> simp [h]
theorem implSecrets_eq (l : List Int) (hl : l.length ≤ 1048576) (n : Int) (k : Nat) (hk : l.length < k) : impl_areSecrets.f k l n = some (areSec l n) := by
  unfold impl_areSecrets.f areSec
  rw [within_eq, implAll_eq l hl 1 1498 k hk]
  simp only [Option.bind_some]
  by_cases h : 1 ≤ (l.length : Int) ∧ (l.length : Int) ≤ n <;> simp [h]
theorem areSec_true {l : List Int} {n : Int} (h : areSec l n = true) : 1 ≤ (l.length : Int) ∧ (l.length : Int) ≤ n ∧ ∀ x ∈ l, 1 ≤ x ∧ x ≤ 1498 := by
  unfold areSec at h
  rw [Bool.and_eq_true, decide_eq_true_iff, decide_eq_true_iff] at h
  exact ⟨h.1.1, h.1.2, h.2⟩

/-- The number that a receipt signs. -/
def rcpNum (a c : Int) : Nat := ((c + 1001 * (a + 2) + 7) % 1499).toNat

theorem number_eq (a c : Int) (ha : -1 ≤ a ∧ a ≤ 4) (hc : 0 ≤ c ∧ c ≤ 1000) : Int.tmod (wrap64 ((wrap64 (c + (wrap64 (1001 * (wrap64 (a + 2)))))) + 7)) 1499 = ((rcpNum a c : Nat) : Int) := by
  rw [w64 (n := a + 2) (by omega) (by omega), w64 (n := 1001 * (a + 2)) (by omega) (by omega), w64 (n := c + 1001 * (a + 2)) (by omega) (by omega), w64 (n := c + 1001 * (a + 2) + 7) (by omega) (by omega)]
  unfold rcpNum
  rw [Int.tmod_eq_emod_of_nonneg (by omega)]
  omega

theorem rcpNum_lt (a c : Int) : rcpNum a c < 1499 := by
  unfold rcpNum
  omega

/-- A receipt that is signed. -/
def sgn (s : Int) (h : Nat) (letter : Int) : S36 := ⟨(h : Int) - 1, (h : Int), letter, ((rcpNum ((h : Int) - 1) letter * s.toNat % 1499 : Nat) : Int)⟩
def rcps (l : List Int) (letter : Int) (m : Nat) : List S36 := (List.range m).map fun h => sgn (l.getD h 0) h letter
theorem rcps_length (l : List Int) (letter : Int) (m : Nat) : (rcps l letter m).length = m := by simp [rcps]
theorem rcps_snoc (l : List Int) (letter : Int) (m : Nat) (h : m < l.length) : rcps l letter (m + 1) = rcps l letter m ++ [sgn l[m] m letter] := by
  unfold rcps
  rw [List.range_succ, List.map_append, List.map_singleton, getD_in l 0 m h]
theorem firsts_snoc (m : Nat) : firsts (m + 1) = firsts m ++ [(m : Int)] := by
  unfold firsts
  rw [List.range_succ, List.map_append, List.map_singleton]

theorem sign_val (s : Int) (h : Nat) (letter : Int) (hs : 1 ≤ s ∧ s ≤ 1498) : Int.tmod (wrap64 (((rcpNum ((h : Int) - 1) letter : Nat) : Int) * s)) 1499 = ((rcpNum ((h : Int) - 1) letter * s.toNat % 1499 : Nat) : Int) := by
  have hn := rcpNum_lt ((h : Int) - 1) letter
  obtain ⟨q, rfl⟩ := Int.eq_ofNat_of_zero_le (show 0 ≤ s by omega)
  have hb : rcpNum ((h : Int) - 1) letter * q ≤ 1499 * 1499 := Nat.mul_le_mul (by omega) (by omega)
  rw [← Int.natCast_mul, wnat _ (by omega), Int.toNat_natCast]
  exact tmod_nat _ 1499

theorem specSign_eq (s : Int) (h : Nat) (letter : Int) (hh : h ≤ 5) (hs : 1 ≤ s ∧ s ≤ 1498) (hl : 0 ≤ letter ∧ letter ≤ 1000) :
    spec_l11Sign.f s ((h : Int) - 1) letter = some ((sgn s h letter).f0, (sgn s h letter).f1, (sgn s h letter).f2, (sgn s h letter).f3) := by
  unfold spec_l11Sign.f spec_l11Number.f sgn
  rw [number_eq _ letter (by omega) hl]
  simp only [Option.bind_some]
  rw [sign_val s h letter hs, w64 (by omega) (by omega), show (h : Int) - 1 + 1 = (h : Int) by omega]
theorem implSign_eq (s : Int) (h : Nat) (letter : Int) (hh : h ≤ 5) (hs : 1 ≤ s ∧ s ≤ 1498) (hl : 0 ≤ letter ∧ letter ≤ 1000) :
    impl_signed.f s ((h : Int) - 1) letter = some ((sgn s h letter).f0, (sgn s h letter).f1, (sgn s h letter).f2, (sgn s h letter).f3) := by
  unfold impl_signed.f impl_numberOf.f sgn
  rw [number_eq _ letter (by omega) hl]
  simp only [Option.bind_some]
  rw [sign_val s h letter hs, w64 (by omega) (by omega), show (h : Int) - 1 + 1 = (h : Int) by omega]

theorem implTrip_l0 (l : List Int) (hl : l.length ≤ 6) (hs : ∀ x ∈ l, 1 ≤ x ∧ x ≤ 1498) (letter : Int) (hle : 0 ≤ letter ∧ letter ≤ 1000) (at_ : Nat) (ha : at_ < l.length) (loses : Int) :
    ∀ k, l.length < k → impl_RunTrip.l0 k letter l (l.length : Int) 0 [] letter (at_ : Int) [] loses = some (firsts l.length, letter, (at_ : Int), rcps l letter (at_ + 1), loses, true) := by
  intro k hk
  have h := loop_up (fun k (x : Int × List Int × List S36) => impl_RunTrip.l0 k letter l (l.length : Int) x.1 x.2.1 letter (at_ : Int) x.2.2 loses) l.length 0
    (fun i => ((i : Int), firsts i, rcps l letter (min i (at_ + 1)))) (firsts l.length, letter, (at_ : Int), rcps l letter (at_ + 1), loses, true) (fun i k hi _ => by
    simp only [impl_RunTrip.l0]
    rw [if_pos (by omega), if_pos (by omega), if_pos (by omega), if_pos (by rw [firsts_length]; omega), w64 (n := (i : Int) + 1) (by omega) (by omega), w64 (n := (i : Int) - 1) (by omega) (by omega), rd_in l i hi, implSign_eq _ i letter (by omega) (hs _ (List.getElem_mem hi)) hle]
    simp only [Option.bind_some]
    rw [← firsts_snoc]
    by_cases hia : i ≤ at_
    · rw [if_pos (by omega), if_pos (by rw [rcps_length]; omega)]
      rw [show min i (at_ + 1) = i by omega, show min (i + 1) (at_ + 1) = i + 1 by omega, rcps_snoc l letter i hi]
      rfl
    · rw [if_neg (by omega), show min i (at_ + 1) = at_ + 1 by omega, show min (i + 1) (at_ + 1) = at_ + 1 by omega]
      rfl) (fun k _ => by
    simp only [impl_RunTrip.l0]
    rw [if_neg (by omega), show min l.length (at_ + 1) = at_ + 1 by omega]) k hk
  exact h

theorem specTrip_l1 (l : List Int) (hl : l.length ≤ 6) (hs : ∀ x ∈ l, 1 ≤ x ∧ x ≤ 1498) (letter : Int) (hle : 0 ≤ letter ∧ letter ≤ 1000) (at_ : Nat) (ha : at_ < l.length) (loses : Int)
    (hlo : loses = (at_ : Int) ∨ loses = -1 ∧ at_ + 1 = l.length) (hands : List Int) :
    ∀ k, at_ + 1 < k → spec_RunTrip.l1 k letter loses l (l.length : Int) 0 hands letter 0 [] loses = some (hands, letter, (at_ : Int), rcps l letter (at_ + 1), loses, true) := by
  intro k hk
  have h := loop_up (fun k (x : Int × Int × List S36) => spec_RunTrip.l1 k letter loses l (l.length : Int) x.1 hands letter x.2.1 x.2.2 loses) at_ 1
    (fun i => ((i : Int), ((i - 1 : Nat) : Int), rcps l letter i)) (hands, letter, (at_ : Int), rcps l letter (at_ + 1), loses, true) (fun i k hi _ => by
    have hi2 : i < l.length := by omega
    simp only [spec_RunTrip.l1]
    rw [if_pos (by omega), if_pos (by omega), if_pos (by omega), w64 (n := (i : Int) + 1) (by omega) (by omega), w64 (n := (i : Int) - 1) (by omega) (by omega), rd_in l i hi2, specSign_eq _ i letter (by omega) (hs _ (List.getElem_mem hi2)) hle]
    simp only [Option.bind_some]
    rw [if_pos (by rw [rcps_length]; omega), if_neg (by omega), rcps_snoc l letter i hi2]
    rfl) (fun k hB => by
    simp only [spec_RunTrip.l1]
    rw [if_pos (by omega), if_pos (by omega), if_pos (by omega), w64 (n := (at_ : Int) + 1) (by omega) (by omega), w64 (n := (at_ : Int) - 1) (by omega) (by omega), rd_in l at_ ha, specSign_eq _ at_ letter (by omega) (hs _ (List.getElem_mem ha)) hle]
    simp only [Option.bind_some]
    rw [if_pos (by rw [rcps_length]; omega)]
    rcases hlo with h1 | h1
    · rw [if_pos h1.symm, rcps_snoc l letter at_ ha]
    · rw [if_neg (by omega)]
      obtain ⟨k, rfl⟩ := rounds (show 0 < k by omega)
      rw [spec_RunTrip.l1, if_neg (by omega), rcps_snoc l letter at_ ha]) k hk
  exact h

theorem specTrip_l0 (l : List Int) (hl : l.length ≤ 6) (hs : ∀ x ∈ l, 1 ≤ x ∧ x ≤ 1498) (letter : Int) (hle : 0 ≤ letter ∧ letter ≤ 1000) (at_ : Nat) (ha : at_ < l.length) (loses : Int)
    (hlo : loses = (at_ : Int) ∨ loses = -1 ∧ at_ + 1 = l.length) :
    ∀ k, l.length + 10 < k → spec_RunTrip.l0 k l letter loses (l.length : Int) 0 [] letter 0 loses = some (firsts l.length, letter, (at_ : Int), rcps l letter (at_ + 1), loses, true) := by
  intro k hk
  have h := loop_up (fun k (x : Int × List Int) => spec_RunTrip.l0 k l letter loses (l.length : Int) x.1 x.2 letter 0 loses) l.length 10
    (fun i => ((i : Int), firsts i)) (firsts l.length, letter, (at_ : Int), rcps l letter (at_ + 1), loses, true) (fun i k hi _ => by
    simp only [spec_RunTrip.l0]
    rw [if_pos (by omega), if_pos (by rw [firsts_length]; omega), w64 (n := (i : Int) + 1) (by omega) (by omega), ← firsts_snoc]
    rfl) (fun k hB => by
    simp only [spec_RunTrip.l0]
    rw [if_neg (by omega)]
    exact specTrip_l1 l hl hs letter hle at_ ha loses hlo _ k (by omega)) k hk
  exact h

theorem trip_same (l : List Int) (hl : l.length ≤ 1048576) (letter loses : Int) : ∃ (hs : List Int) (a b : Int) (rs : List S36) (c : Int) (o : Bool) (k0 : Nat), hs.length ≤ 6 ∧ rs.length ≤ 6 ∧
    spec_RunTrip.f k0 l letter loses = some (hs, a, b, rs, c, o) ∧ impl_RunTrip.f k0 l letter loses = some (hs, a, b, rs, c, o) := by
  obtain ⟨K, hK⟩ := some_nat (l.length + 30)
  unfold spec_RunTrip.f impl_RunTrip.f spec_l11Letter.f impl_isLetterNumber.f
  by_cases h : areSec l 6 = true
  · obtain ⟨h1, h2, h3⟩ := areSec_true h
    by_cases hle : 0 ≤ letter ∧ letter ≤ 1000
    · by_cases hlo : -1 ≤ loses ∧ loses ≤ (l.length : Int) - 1
      · obtain ⟨at_, ha, hat, hat2⟩ : ∃ a : Nat, a < l.length ∧ (loses = (a : Int) ∨ loses = -1 ∧ a + 1 = l.length) ∧ (if loses ≥ 0 then loses else (l.length : Int) - 1) = (a : Int) := by
          by_cases h0 : loses ≥ 0
          · exact ⟨loses.toNat, by omega, .inl (by omega), by rw [if_pos h0]; omega⟩
          · exact ⟨l.length - 1, by omega, .inr (by omega), by rw [if_neg h0]; omega⟩
        refine ⟨firsts l.length, letter, (at_ : Int), rcps l letter (at_ + 1), loses, true, K + 2, by rw [firsts_length]; omega, by rw [rcps_length]; omega, ?_, ?_⟩
        · rw [specSecrets_eq l hl (K + 2) (by omega), h, w64 (by omega) (by omega)]
          simp only [Option.bind_some, if_true, l1In_eq, decide_eq_true hle, decide_eq_true hlo, spec_RunTrip.j0, Bool.not_true, Bool.false_eq_true, if_false]
          exact specTrip_l0 l (by omega) h3 letter hle at_ ha loses hat (K + 1) (by omega)
        · rw [implSecrets_eq l hl 6 (K + 2) (by omega), h, w64 (by omega) (by omega)]
          simp only [Option.bind_some, if_true, within_eq, decide_eq_true hle, decide_eq_true hlo, impl_RunTrip.j0, impl_RunTrip.j1, Bool.not_true, Bool.false_eq_true, if_false]
          have hi := implTrip_l0 l (by omega) h3 letter hle at_ ha loses K (by omega)
          rw [w64 (by omega) (by omega)]
          by_cases h0 : loses ≥ 0
          · rw [if_pos h0] at hat2 ⊢
            rw [← hat2] at hi ⊢
            exact hi
          · rw [if_neg h0] at hat2 ⊢
            rw [← hat2] at hi ⊢
            exact hi
      · refine ⟨[], 0, 0, [], 0, false, K + 2, by simp, by simp, ?_, ?_⟩
        · rw [specSecrets_eq l hl (K + 2) (by omega), h, w64 (by omega) (by omega)]
          simp only [Option.bind_some, if_true, l1In_eq, decide_eq_true hle, decide_eq_false hlo, spec_RunTrip.j0, Bool.not_false]
        · rw [implSecrets_eq l hl 6 (K + 2) (by omega), h, w64 (by omega) (by omega)]
          simp only [Option.bind_some, if_true, within_eq, decide_eq_true hle, decide_eq_false hlo, impl_RunTrip.j0, Bool.not_false]
    · refine ⟨[], 0, 0, [], 0, false, K + 2, by simp, by simp, ?_, ?_⟩
      · rw [specSecrets_eq l hl (K + 2) (by omega), h]
        simp only [Option.bind_some, if_true, l1In_eq, decide_eq_false hle, spec_RunTrip.j0, Bool.false_eq_true, if_false]
      · rw [implSecrets_eq l hl 6 (K + 2) (by omega), h]
        simp only [Option.bind_some, if_true, within_eq, decide_eq_false hle, impl_RunTrip.j0, Bool.false_eq_true, if_false]
  · rw [Bool.not_eq_true] at h
    refine ⟨[], 0, 0, [], 0, false, K + 2, by simp, by simp, ?_, ?_⟩
    · rw [specSecrets_eq l hl (K + 2) (by omega), h]
      simp only [Option.bind_some, spec_RunTrip.j0, Bool.false_eq_true, if_false, if_true]
    · rw [implSecrets_eq l hl 6 (K + 2) (by omega), h]
      simp only [Option.bind_some, impl_RunTrip.j0, Bool.false_eq_true, if_false, if_true]

theorem FnExactRunTrip : laws_FnExactRunTrip.Pure := by
  intro l letter loses _ _ _ _ _
  by_cases hl : l.length ≤ 1048576
  · obtain ⟨hs, a, b, rs, c, o, k0, hh, hr, h1, h2⟩ := trip_same l hl letter loses
    have h3 := stay1 (spec_RunTrip.mono l letter loses) h1
    have h4 := stay1 (impl_RunTrip.mono l letter loses) h2
    obtain ⟨K, hK⟩ := some_nat (l.length + k0 + 10)
    refine ⟨K + 3, ?_⟩
    have a1 := fun (k : Nat) (hk : l.length < k) => toIntS_eq l hl k hk
    have a2 := fun (k : Nat) (hk : l.length < k) => eqIntS_self l hl k hk
    have a3 := fun (k : Nat) (hk : l.length < k) => markIntS_eq l hl 1 (by omega) (by omega) k hk
    have a4 := fun (k : Nat) (hk : 8 < k) => eqTrip_self hs a b rs c (by omega) (by omega) k (by omega) (by omega)
    have a5 := fun (k : Nat) (hk : 8 < k) => markTrip_eq hs a b rs c (by omega) (by omega) k (by omega) (by omega)
    have a6 := fun (k : Nat) (hk : 8 < k) => heldTrip_eq hs.length rs.length a b c (by omega) (by omega) k (by omega) (by omega)
    unfold laws_FnExactRunTrip.f
    rw [if_neg (by omega)]
    simp (disch := omega) only [a1, h3, h4, a4, Option.bind_some, if_true, bne_self_eq_false]
    rw [laws_FnExactRunTrip.j0]
    simp (disch := omega) only [a1, a2, a3, a4, Option.bind_some, if_true, if_false, bne_self_eq_false, Bool.false_eq_true]
    rw [if_neg (by omega), laws_FnExactRunTrip.j1]
    simp (disch := omega) only [a1, a4, a5, a6, h4, Option.bind_some, if_true, if_false, bne_self_eq_false, Bool.false_eq_true]
    rw [if_neg (by omega), laws_FnExactRunTrip.j2]
    simp (disch := omega) only [a6, Option.bind_some, if_true, if_false, Bool.false_eq_true]
    rw [if_neg (by omega)]
  · exact ⟨0, by unfold laws_FnExactRunTrip.f; rw [if_pos (by omega)]⟩

end Go.Proofs.Ytafcbeajnlfomaa.Pure
