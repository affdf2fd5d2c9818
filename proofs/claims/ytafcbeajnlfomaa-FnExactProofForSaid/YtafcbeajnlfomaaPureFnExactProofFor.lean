/- Proved: ProofFor of the program and of the reference answer alike at all arguments, and the answer owns its memory. Conditions: those of the given statement alone. -/
import Derived.Test.YtafcbeajnlfomaaPFnExactProofForx4
import Derived.Test.YtafcbeajnlfomaaBase
set_option linter.unusedVariables false
set_option linter.unusedSimpArgs false
namespace Go.Proofs.Ytafcbeajnlfomaa.Pure
open Go.RowKit Go.Proofs.Ytafcbeajnlfomaa.PFnExactProofFor Go.Proofs.Ytafcbeajnlfomaa.Base Go.Proofs.YtafcbeajnlfomaaW.PrintWords Go.Proofs.YtafcbeajnlfomaaW.PrintLast Go.Proofs.YtafcbeajnlfomaaW.PrintMore

theorem toIntS_l0 (l : List Int) (hl : l.length ≤ 1048576) : ∀ (d k i : Nat) (out : List Int), l.length - i = d → d < k → i ≤ l.length → out.length = l.length → out.take i = l.take i → laws_toIntS.l0 k l out (i : Int) = some l := by
  intro d
  induction d with
  | zero =>
    intro k i out hd hk hi ho ht
    obtain ⟨k, rfl⟩ := rounds hk
    simp only [laws_toIntS.l0]
    rw [if_neg (by omega), take_all out l i ht (by omega) (by omega)]
  | succ d ih =>
    intro k i out hd hk hi ho ht
    obtain ⟨k, rfl⟩ := rounds hk
    simp only [laws_toIntS.l0]
    rw [if_pos (by omega), if_pos (by omega), if_pos (by omega), w64 (by omega) (by omega), Int.toNat_natCast, rd_in l i (by omega)]
    exact ih k (i + 1) _ (by omega) (by omega) (by omega) (by rw [List.length_set]; exact ho) (take_set out l i _ ht (by omega) (by omega) rfl)

theorem toIntS_eq (l : List Int) (hl : l.length ≤ 1048576) (k : Nat) (hk : l.length < k) : laws_toIntS.f k l = some l := by
  unfold laws_toIntS.f
  rw [if_pos (by omega), if_pos (by omega)]
  exact toIntS_l0 l hl l.length k 0 _ (by omega) hk (by omega) (by simp) (by simp)

theorem eqIntS_l0 (l : List Int) (hl : l.length ≤ 1048576) : ∀ (d k i : Nat), l.length - i = d → d < k → laws_eqIntS.l0 k l l (i : Int) = some true := by
  intro d
  induction d with
  | zero =>
    intro k i hd hk
    obtain ⟨k, rfl⟩ := rounds hk
    simp only [laws_eqIntS.l0]
    rw [if_neg (by omega)]
  | succ d ih =>
    intro k i hd hk
    obtain ⟨k, rfl⟩ := rounds hk
    simp only [laws_eqIntS.l0]
    rw [if_pos (by omega), if_pos (by omega), if_pos (by omega), if_pos trivial, w64 (by omega) (by omega)]
    exact ih k (i + 1) (by omega) (by omega)

theorem eqIntS_self (l : List Int) (hl : l.length ≤ 1048576) (k : Nat) (hk : l.length < k) : laws_eqIntS.f k l l = some true := by
  unfold laws_eqIntS.f
  rw [if_pos rfl]
  exact eqIntS_l0 l hl l.length k 0 (by omega) hk

theorem markIntS_l0 (n : Nat) (hn : n ≤ 1048576) (m : Int) (h0 : 0 ≤ m) (h1 : m ≤ 4294967296) : ∀ (d k i : Nat) (out : List Int), n - i = d → d < k → i ≤ n → out.length = n → out.take i = (ups m n).take i → laws_markIntS.l0 k out (m + (i : Int)) (i : Int) = some (m + (n : Int), ups m n) := by
  intro d
  induction d with
  | zero =>
    intro k i out hd hk hi ho ht
    obtain ⟨k, rfl⟩ := rounds hk
    simp only [laws_markIntS.l0]
    rw [if_neg (by omega), take_all out (ups m n) i ht (by omega) (by rw [ups_length]; omega), show i = n by omega]
  | succ d ih =>
    intro k i out hd hk hi ho ht
    obtain ⟨k, rfl⟩ := rounds hk
    simp only [laws_markIntS.l0]
    rw [if_pos (by omega), if_pos (by omega), w64 (n := (i : Int) + 1) (by omega) (by omega), w64 (n := m + (i : Int) + 1) (by omega) (by omega), Int.toNat_natCast]
    rw [show m + (i : Int) + 1 = m + ((i + 1 : Nat) : Int) by omega]
    exact ih k (i + 1) _ (by omega) (by omega) (by omega) (by rw [List.length_set]; exact ho) (take_set out (ups m n) i _ ht (by omega) (by rw [ups_length]; omega) (ups_get m n i (by omega)).symm)

theorem markIntS_eq (l : List Int) (hl : l.length ≤ 1048576) (m : Int) (h0 : 0 ≤ m) (h1 : m ≤ 4294967296) (k : Nat) (hk : l.length < k) : laws_markIntS.f k l m = some (m + (l.length : Int), ups m l.length) := by
  have h := markIntS_l0 l.length hl m h0 h1 l.length k 0 l (by omega) hk (by omega) rfl (by simp)
  unfold laws_markIntS.f
  simpa using h

theorem index_l0 (l : List Int) (hl : l.length ≤ 1048576) (v : Int) : ∀ (d k i : Nat), l.length - i = d → d < k → i ≤ l.length → ∃ r, slices_Index_int_int.l0 k l v (l.length : Int) (i : Int) = some r ∧ (r ≥ 0 ↔ v ∈ l.drop i) := by
  intro d
  induction d with
  | zero =>
    intro k i hd hk hi
    obtain ⟨k, rfl⟩ := rounds hk
    refine ⟨-1, ?_, ?_⟩
    · simp only [slices_Index_int_int.l0]
      rw [if_neg (by omega)]
    · rw [List.drop_of_length_le (by omega)]
      simp
  | succ d ih =>
    intro k i hd hk hi
    obtain ⟨k, rfl⟩ := rounds hk
    simp only [slices_Index_int_int.l0]
    rw [if_pos (by omega), if_pos (by omega), if_pos (by omega), rd_in l i (by omega), w64 (by omega) (by omega)]
    have hdrop := List.drop_eq_getElem_cons (show i < l.length by omega)
    by_cases e : v = l[i]
    · exact ⟨i, by rw [if_pos e], by rw [hdrop, ← e]; simp⟩
    · obtain ⟨r, hr, h⟩ := ih k (i + 1) (by omega) (by omega) (by omega)
      refine ⟨r, by rw [if_neg e]; exact hr, ?_⟩
      rw [h, hdrop, List.mem_cons]
      exact ⟨fun h => .inr h, fun h => h.resolve_left e⟩

theorem contains_eq (l : List Int) (hl : l.length ≤ 1048576) (v : Int) (k : Nat) (hk : l.length < k) : slices_Contains_int_int.f k l v = some (decide (v ∈ l)) := by
  obtain ⟨r, hr, h⟩ := index_l0 l hl v l.length k 0 (by omega) hk (by omega)
  unfold slices_Contains_int_int.f slices_Index_int_int.f
  have hr' : slices_Index_int_int.l0 k l v (l.length : Int) 0 = some r := hr
  rw [hr']
  simp only [Option.bind_some]
  rw [List.drop_zero] at h
  congr 1
  exact decide_eq_decide.2 h

theorem l1Has_l0 (l : List Int) (hl : l.length ≤ 1048576) (v : Int) : ∀ (d k i : Nat), l.length - i = d → d < k → i ≤ l.length → spec_l1Has.l0 k v l (l.length : Int) (i : Int) = some (decide (v ∈ l.drop i)) := by
  intro d
  induction d with
  | zero =>
    intro k i hd hk hi
    obtain ⟨k, rfl⟩ := rounds hk
    simp only [spec_l1Has.l0]
    rw [if_neg (by omega), List.drop_of_length_le (by omega)]
    simp
  | succ d ih =>
    intro k i hd hk hi
    obtain ⟨k, rfl⟩ := rounds hk
    simp only [spec_l1Has.l0]
    rw [if_pos (by omega), if_pos (by omega), if_pos (by omega), rd_in l i (by omega), w64 (by omega) (by omega), List.drop_eq_getElem_cons (show i < l.length by omega)]
    by_cases e : l[i] = v
    · rw [if_pos e]
      simp [e]
    · have h := ih k (i + 1) (by omega) (by omega) (by omega)
      rw [if_neg e]
      have h' : spec_l1Has.l0 k v l (l.length : Int) ((i : Int) + 1) = some (decide (v ∈ l.drop (i + 1))) := h
      rw [h']
      congr 1
      refine decide_eq_decide.2 ?_
      rw [List.mem_cons]
      exact ⟨fun h => .inr h, fun h => h.resolve_left (fun h => e h.symm)⟩

theorem l1Has_eq (l : List Int) (hl : l.length ≤ 1048576) (v : Int) (k : Nat) (hk : l.length < k) : spec_l1Has.f k l v = some (decide (v ∈ l)) := by
  have h := l1Has_l0 l hl v l.length k 0 (by omega) hk (by omega)
  rw [List.drop_zero] at h
  exact h

def toR (x : S33) : S36 := ⟨x.f0, x.f1, x.f2, x.f3⟩
def toRs (l : List S33) : List S36 := l.map toR
theorem toRs_length (l : List S33) : (toRs l).length = l.length := by simp [toRs]
theorem toRs_get (l : List S33) (i : Nat) (d : S36) (h : i < l.length) : (toRs l).getD i d = toR l[i] := by
  rw [getD_in _ d i (by rw [toRs_length]; exact h)]
  simp [toRs]

theorem toReceiptS_eq (l : List S33) (hl : l.length ≤ 1048576) : ∀ k, l.length < k → laws_toReceiptS.f k l = some (toRs l) := by
  intro k hk
  have hz : (List.replicate l.length z36).length = l.length := by simp
  have h := loop_up (fun k (x : List S36 × Int) => laws_toReceiptS.l0 k l x.1 x.2) l.length 0 (fun i => (mixed (toRs l) (List.replicate l.length z36) i, (i : Int))) (toRs l) (fun i k hi _ => by
    have e : (toRs l).length = (List.replicate l.length z36).length := by rw [toRs_length, hz]
    have e2 := mixed_length (toRs l) (List.replicate l.length z36) i e
    have e3 := mixed_set (toRs l) (List.replicate l.length z36) i (toR l[i]) e (by omega) (toRs_get l i _ hi)
    simp only [laws_toReceiptS.l0, laws_toReceipt.f, rd_T33, Option.bind_some, Int.toNat_natCast]
    rw [if_pos (by omega), if_pos (by omega), if_pos (by rw [e2, hz]; omega), w64 (by omega) (by omega), getD_in l z33 i hi]
    unfold toR at e3
    rw [e3]
    rfl) (fun k _ => by
    simp only [laws_toReceiptS.l0]
    rw [if_neg (by omega), mixed_end _ _ _ (by rw [toRs_length]; omega) (by rw [hz]; omega)]) k hk
  rw [mixed_zero] at h
  unfold laws_toReceiptS.f
  rw [if_pos (by omega), if_pos (by omega)]
  exact h

theorem eqReceiptS_self (l : List S36) (hl : l.length ≤ 1048576) : ∀ k, l.length < k → laws_eqReceiptS.f k l l = some true := by
  intro k hk
  unfold laws_eqReceiptS.f
  rw [if_pos rfl]
  exact loop_up (fun k (x : Int) => laws_eqReceiptS.l0 k l l x) l.length 0 (fun i => (i : Int)) true (fun i k hi _ => by
    simp only [laws_eqReceiptS.l0, laws_eqReceipt.f, if_true, Option.bind_some]
    rw [if_pos (by omega), if_pos (by omega), if_pos (by omega), w64 (by omega) (by omega)]
    rfl) (fun k _ => by
    simp only [laws_eqReceiptS.l0]
    rw [if_neg (by omega)]) k hk

def mkRcp (m : Int) : S36 := ⟨m, m + 1, m + 2, m + 3⟩
def mkRcps (m : Int) (n : Nat) : List S36 := (List.range n).map fun (i : Nat) => mkRcp (m + 4 * (i : Int))
theorem mkRcps_length (m : Int) (n : Nat) : (mkRcps m n).length = n := by simp [mkRcps]
theorem mkRcps_get (m : Int) (n i : Nat) (d : S36) (h : i < n) : (mkRcps m n).getD i d = mkRcp (m + 4 * (i : Int)) := by
  rw [getD_in _ d i (by rw [mkRcps_length]; exact h)]
  simp [mkRcps]

theorem markReceiptS_eq (l : List S36) (hl : l.length ≤ 1048576) (m : Int) (h0 : 0 ≤ m) (h1 : m ≤ 4294967296) : ∀ k, l.length < k → laws_markReceiptS.f k l m = some (m + 4 * (l.length : Int), mkRcps m l.length) := by
  intro k hk
  have h := loop_up (fun k (x : List S36 × Int × Int) => laws_markReceiptS.l0 k x.1 x.2.1 x.2.2) l.length 0 (fun i => (mixed (mkRcps m l.length) l i, m + 4 * (i : Int), (i : Int))) (m + 4 * (l.length : Int), mkRcps m l.length) (fun i k hi _ => by
    have e : (mkRcps m l.length).length = l.length := mkRcps_length m l.length
    have e2 := mixed_length (mkRcps m l.length) l i e
    have e3 := mixed_set (mkRcps m l.length) l i (mkRcp (m + 4 * (i : Int))) e hi (mkRcps_get m l.length i _ hi)
    simp only [laws_markReceiptS.l0, rd_T36, Option.bind_some, Int.toNat_natCast]
    rw [if_pos (by rw [e2]; omega), if_pos (by omega)]
    rw [w64 (n := m + 4 * (i : Int) + 1) (by omega) (by omega), w64 (n := m + 4 * (i : Int) + 1 + 1) (by omega) (by omega), w64 (n := m + 4 * (i : Int) + 1 + 1 + 1) (by omega) (by omega), w64 (n := m + 4 * (i : Int) + 1 + 1 + 1 + 1) (by omega) (by omega), w64 (n := (i : Int) + 1) (by omega) (by omega)]
    rw [getD_set _ _ _ _ (by first | omega | (simp only [List.length_set]; omega)), List.set_set, getD_set _ _ _ _ (by first | omega | (simp only [List.length_set]; omega)), List.set_set, getD_set _ _ _ _ (by first | omega | (simp only [List.length_set]; omega)), List.set_set]
    rw [show m + 4 * (i : Int) + 1 + 1 = m + 4 * (i : Int) + 2 by omega, show m + 4 * (i : Int) + 2 + 1 = m + 4 * (i : Int) + 3 by omega]
    unfold mkRcp at e3
    rw [e3, show m + 4 * (i : Int) + 3 + 1 = m + 4 * ((i + 1 : Nat) : Int) by omega]
    rfl) (fun k _ => by
    simp only [laws_markReceiptS.l0]
    rw [if_neg (by rw [mixed_length _ _ _ (mkRcps_length m l.length)]; omega), mixed_end _ _ _ (by rw [mkRcps_length]; omega) (by omega)]) k hk
  rw [mixed_zero] at h
  simpa [laws_markReceiptS.f] using h

theorem heldReceiptS_eq (n : Nat) (hn : n ≤ 1048576) (m : Int) (h0 : 0 ≤ m) (h1 : m ≤ 4294967296) : ∀ k, n < k → laws_heldReceiptS.f k (mkRcps m n) m = some (m + 4 * (n : Int)) := by
  intro k hk
  have h := loop_up (fun k (x : Int × Int) => laws_heldReceiptS.l0 k (mkRcps m n) x.1 x.2) n 0 (fun i => (m + 4 * (i : Int), (i : Int))) (m + 4 * (n : Int)) (fun i k hi _ => by
    simp only [laws_heldReceiptS.l0, rd_T36, Option.bind_some, Int.toNat_natCast, mkRcps_get m n i _ hi, mkRcp]
    rw [w64 (n := m + 4 * (i : Int) + 1) (by omega) (by omega), w64 (n := m + 4 * (i : Int) + 1 + 1) (by omega) (by omega), w64 (n := m + 4 * (i : Int) + 1 + 1 + 1) (by omega) (by omega), w64 (n := m + 4 * (i : Int) + 1 + 1 + 1 + 1) (by omega) (by omega), w64 (n := (i : Int) + 1) (by omega) (by omega)]
    rw [if_pos (by rw [mkRcps_length]; omega), if_pos (by omega), if_pos (by first | trivial | omega), if_pos (by first | trivial | omega), if_pos (by first | trivial | omega), if_pos (by first | trivial | omega), show m + 4 * (i : Int) + 1 + 1 + 1 + 1 = m + 4 * ((i + 1 : Nat) : Int) by omega]
    rfl) (fun k _ => by
    simp only [laws_heldReceiptS.l0]
    rw [if_neg (by rw [mkRcps_length]; omega)]) k hk
  simpa [laws_heldReceiptS.f] using h

theorem eqTrip_self (l : List Int) (a b : Int) (r : List S36) (c : Int) (hl : l.length ≤ 1048576) (hr : r.length ≤ 1048576) (k : Nat) (hk : l.length < k) (hk2 : r.length < k) : laws_eqTrip.f k l a b r c l a b r c = some true := by
  unfold laws_eqTrip.f
  rw [eqIntS_self l hl k hk]
  simp only [Option.bind_some, if_true]
  rw [eqReceiptS_self r hr k hk2]
  rfl
theorem markTrip_eq (l : List Int) (a b : Int) (r : List S36) (c : Int) (hl : l.length ≤ 1048576) (hr : r.length ≤ 1048576) (k : Nat) (hk : l.length < k) (hk2 : r.length < k) :
    laws_markTrip.f k l a b r c 1 = some (1 + (l.length : Int) + 4 * (r.length : Int), ups 1 l.length, mkRcps (1 + (l.length : Int)) r.length) := by
  unfold laws_markTrip.f
  rw [markIntS_eq l hl 1 (by omega) (by omega) k hk]
  simp only [Option.bind_some]
  rw [markReceiptS_eq r hr _ (by omega) (by omega) k hk2]
  rfl

theorem toTrip_eq (l : List Int) (a b : Int) (r : List S33) (c : Int) (hl : l.length ≤ 1048576) (hr : r.length ≤ 1048576) (k : Nat) (hk : l.length < k) (hk2 : r.length < k) : laws_toTrip.f k l a b r c = some (l, a, b, toRs r, c) := by
  unfold laws_toTrip.f
  rw [toIntS_eq l hl k hk]
  simp only [Option.bind_some]
  rw [toReceiptS_eq r hr k hk2]
  rfl

theorem proof_l0 (l : List S36) (hl : l.length ≤ 1048576) (v : Int) : ∀ (d k i : Nat) (out : List S36), l.length - i = d → d < k → i ≤ l.length → out.length ≤ i →
    ∃ r : List S36, r.length ≤ l.length ∧ spec_ProofFor.l0 k v out l (l.length : Int) (i : Int) = some (r, true) ∧ impl_ProofFor.l0 k v out l (l.length : Int) (i : Int) = some (r, true) := by
  intro d
  induction d with
  | zero =>
    intro k i out hd hk hi ho
    obtain ⟨k, rfl⟩ := rounds hk
    refine ⟨out, by omega, ?_, ?_⟩
    · simp only [spec_ProofFor.l0]
      rw [if_neg (by omega)]
    · simp only [impl_ProofFor.l0]
      rw [if_neg (by omega)]
  | succ d ih =>
    intro k i out hd hk hi ho
    obtain ⟨k, rfl⟩ := rounds hk
    by_cases e : (rd_T36 l (i : Int)).f0 = v
    · obtain ⟨r, h0, h1, h2⟩ := ih k (i + 1) (out ++ [⟨(rd_T36 l (i : Int)).f0, (rd_T36 l (i : Int)).f1, (rd_T36 l (i : Int)).f2, (rd_T36 l (i : Int)).f3⟩]) (by omega) (by omega) (by omega) (by simp; omega)
      refine ⟨r, h0, ?_, ?_⟩
      · simp only [spec_ProofFor.l0]
        rw [if_pos (by omega), if_pos (by omega), if_pos (by omega), if_pos e, if_pos (by omega), w64 (by omega) (by omega)]
        exact h1
      · simp only [impl_ProofFor.l0]
        rw [if_pos (by omega), if_pos (by omega), if_pos (by omega), if_pos e, if_pos (by omega), w64 (by omega) (by omega)]
        exact h2
    · obtain ⟨r, h0, h1, h2⟩ := ih k (i + 1) out (by omega) (by omega) (by omega) (by omega)
      refine ⟨r, h0, ?_, ?_⟩
      · simp only [spec_ProofFor.l0]
        rw [if_pos (by omega), if_pos (by omega), if_pos (by omega), if_neg e, w64 (by omega) (by omega)]
        exact h1
      · simp only [impl_ProofFor.l0]
        rw [if_pos (by omega), if_pos (by omega), if_pos (by omega), if_neg e, w64 (by omega) (by omega)]
        exact h2

theorem proof_same (hs : List Int) (hl : hs.length ≤ 1048576) (a b : Int) (l : List S36) (hr : l.length ≤ 1048576) (c v : Int) :
    ∃ (r : List S36) (o : Bool) (k0 : Nat), r.length ≤ 1048576 ∧ spec_ProofFor.f k0 hs a b l c v = some (r, o) ∧ impl_ProofFor.f k0 hs a b l c v = some (r, o) := by
  obtain ⟨K, hK⟩ := some_nat (hs.length + l.length + 1)
  unfold spec_ProofFor.f impl_ProofFor.f
  by_cases h : v ∈ hs
  · obtain ⟨r, h0, h1, h2⟩ := proof_l0 l hr v l.length K 0 [] (by omega) (by omega) (by omega) (by simp)
    refine ⟨r, true, K, by omega, ?_, ?_⟩
    · rw [l1Has_eq hs hl v K (by omega), decide_eq_true h]
      exact h1
    · rw [contains_eq hs hl v K (by omega), decide_eq_true h]
      exact h2
  · refine ⟨[], false, K, by simp, ?_, ?_⟩
    · rw [l1Has_eq hs hl v K (by omega), decide_eq_false h]
      rfl
    · rw [contains_eq hs hl v K (by omega), decide_eq_false h]
      rfl

theorem FnExactProofFor : laws_FnExactProofFor.Pure := by
  intro hs a b l c v hhs _ _ hlr _ _
  have hmax : maxLen = 9223372036854775807 := rfl
  by_cases hl : hs.length ≤ 1048576
  · by_cases hn : hs.length + l.length ≤ 1048576
    · obtain ⟨r, o, k0, hr, h1, h2⟩ := proof_same hs hl a b (toRs l) (by rw [toRs_length]; omega) c v
      have h3 := stay1 (spec_ProofFor.mono hs a b (toRs l) c v) h1
      have h4 := stay1 (impl_ProofFor.mono hs a b (toRs l) c v) h2
      obtain ⟨K, hK⟩ := some_nat (hs.length + l.length + r.length + k0 + 1)
      refine ⟨K + 3, ?_⟩
      have a1 := fun (k : Nat) (hk : hs.length + l.length < k) => toTrip_eq hs a b l c hl (by omega) k (by omega) (by omega)
      have a2 := fun (k : Nat) (hk : hs.length + l.length < k) => eqTrip_self hs a b (toRs l) c hl (by rw [toRs_length]; omega) k (by omega) (by rw [toRs_length]; omega)
      have a3 := fun (k : Nat) (hk : hs.length + l.length < k) => markTrip_eq hs a b (toRs l) c hl (by rw [toRs_length]; omega) k (by omega) (by rw [toRs_length]; omega)
      have a4 := eqReceiptS_self r hr
      have a5 := markReceiptS_eq r hr 1 (by omega) (by omega)
      have a6 := heldReceiptS_eq r.length hr 1 (by omega) (by omega)
      unfold laws_FnExactProofFor.f laws_szTrip.f laws_szIntS.f laws_szReceiptS.f
      rw [w64 (n := 1048576 - (hs.length : Int)) (by omega) (by omega), if_neg (by omega)]
      simp only [Option.bind_some]
      rw [if_neg (by omega), w64 (n := 1048576 - (hs.length : Int) - (l.length : Int)) (by omega) (by omega), if_neg (by omega)]
      simp only [Option.bind_some]
      rw [if_neg (by omega)]
      simp only [Option.bind_some]
      rw [if_neg (by omega)]
      simp (disch := omega) only [a1, h3, h4, a4, Option.bind_some, if_true, bne_self_eq_false]
      rw [laws_FnExactProofFor.j0]
      simp (disch := omega) only [a1, a2, a3, a4, Option.bind_some, if_true, if_false, bne_self_eq_false, Bool.false_eq_true]
      rw [if_neg (by omega), laws_FnExactProofFor.j1]
      simp (disch := omega) only [a1, a4, a5, a6, h4, Option.bind_some, if_true, if_false, bne_self_eq_false, Bool.false_eq_true]
      rw [if_neg (by omega), laws_FnExactProofFor.j2]
      simp (disch := omega) only [a6, Option.bind_some, if_true, if_false, Bool.false_eq_true]
      rw [if_neg (by omega)]
    · refine ⟨0, ?_⟩
      unfold laws_FnExactProofFor.f laws_szTrip.f laws_szIntS.f laws_szReceiptS.f
      rw [w64 (n := 1048576 - (hs.length : Int)) (by omega) (by omega), if_neg (by omega)]
      simp only [Option.bind_some]
      rw [if_neg (by omega), w64 (n := 1048576 - (hs.length : Int) - (l.length : Int)) (by omega) (by omega), if_pos (by omega)]
      simp only [Option.bind_some]
      rw [if_pos (by omega)]
      simp only [Option.bind_some]
      rw [if_pos (by omega)]
  · refine ⟨0, ?_⟩
    unfold laws_FnExactProofFor.f laws_szTrip.f laws_szIntS.f
    rw [w64 (n := 1048576 - (hs.length : Int)) (by omega) (by omega), if_pos (by omega)]
    simp only [Option.bind_some]
    rw [if_pos (by omega)]
    simp only [Option.bind_some]
    rw [if_pos (by omega)]

end Go.Proofs.Ytafcbeajnlfomaa.Pure
