/- Proved: TraceOf of the program and of the reference answer alike at all arguments, and the answer owns its memory. Conditions: those of the given statement alone. -/
import Derived.Test.YtdiehchbbhlfgaaPFnExactTraceOfx3
import Derived.Test.YtdiehchbbhlfgaaBase
set_option linter.unusedVariables false
set_option linter.unusedSimpArgs false
namespace Go.Proofs.Ytdiehchbbhlfgaa.Pure
open Go.RowKit Go.Proofs.Ytdiehchbbhlfgaa.PFnExactTraceOf Go.Proofs.Ytdiehchbbhlfgaa.Base Go.Proofs.YtdiehchbbhlfgaaW.PrintWords Go.Proofs.YtdiehchbbhlfgaaW.PrintLast Go.Proofs.YtdiehchbbhlfgaaW.PrintMore

theorem l1In_eq (a b c : Int) : spec_l1In.f a b c = some (decide (b ≤ a ∧ a ≤ c)) := by
  unfold spec_l1In.f
  by_cases h : a ≥ b
  · rw [if_pos h]
    congr 1
    exact decide_eq_decide.2 ⟨fun h1 => ⟨h, h1⟩, fun h1 => h1.2⟩
  · rw [if_neg h, decide_eq_false (fun h1 => h h1.1)]

theorem within_eq (a b c : Int) : impl_within.f a b c = some (decide (b ≤ a ∧ a ≤ c)) := by
  unfold impl_within.f
  by_cases h : a ≥ b
  · rw [if_pos h]
    congr 1
    exact decide_eq_decide.2 ⟨fun h1 => ⟨h, h1⟩, fun h1 => h1.2⟩
  · rw [if_neg h, decide_eq_false (fun h1 => h h1.1)]

def mkEmit (m : Int) : S57 := ⟨m, m + 1, m + 2⟩
def mkEmits (m : Int) (n : Nat) : List S57 := (List.range n).map fun (i : Nat) => mkEmit (m + 3 * (i : Int))
theorem mkEmits_length (m : Int) (n : Nat) : (mkEmits m n).length = n := by simp [mkEmits]
theorem mkEmits_get (m : Int) (n i : Nat) (d : S57) (h : i < n) : (mkEmits m n).getD i d = mkEmit (m + 3 * (i : Int)) := by
  rw [getD_in _ d i (by rw [mkEmits_length]; exact h)]
  simp [mkEmits]

theorem eqEmitS_self (l : List S57) (hl : l.length ≤ 1048576) : ∀ k, l.length < k → laws_eqEmitS.f k l l = some true := by
  intro k hk
  unfold laws_eqEmitS.f
  rw [if_pos rfl]
  exact loop_up (fun k (x : Int) => laws_eqEmitS.l0 k l l x) l.length 0 (fun i => (i : Int)) true (fun i k hi _ => by
    simp only [laws_eqEmitS.l0, laws_eqEmit.f, if_true, Option.bind_some]
    rw [if_pos (by omega), if_pos (by omega), if_pos (by omega), w64 (by omega) (by omega)]
    rfl) (fun k _ => by
    simp only [laws_eqEmitS.l0]
    rw [if_neg (by omega)]) k hk

theorem markEmitS_eq (l : List S57) (hl : l.length ≤ 1048576) (m : Int) (h0 : 0 ≤ m) (h1 : m ≤ 4294967296) : ∀ k, l.length < k → laws_markEmitS.f k l m = some (m + 3 * (l.length : Int), mkEmits m l.length) := by
  intro k hk
  have h := loop_up (fun k (x : List S57 × Int × Int) => laws_markEmitS.l0 k x.1 x.2.1 x.2.2) l.length 0 (fun i => (mixed (mkEmits m l.length) l i, m + 3 * (i : Int), (i : Int))) (m + 3 * (l.length : Int), mkEmits m l.length) (fun i k hi _ => by
    have e : (mkEmits m l.length).length = l.length := mkEmits_length m l.length
    have e2 := mixed_length (mkEmits m l.length) l i e
    have e3 := mixed_set (mkEmits m l.length) l i (mkEmit (m + 3 * (i : Int))) e hi (mkEmits_get m l.length i _ hi)
    simp only [laws_markEmitS.l0, rd_T57, Option.bind_some, Int.toNat_natCast]
    rw [if_pos (by rw [e2]; omega), if_pos (by omega)]
    rw [w64 (n := m + 3 * (i : Int) + 1) (by omega) (by omega), w64 (n := m + 3 * (i : Int) + 1 + 1) (by omega) (by omega), w64 (n := m + 3 * (i : Int) + 1 + 1 + 1) (by omega) (by omega), w64 (n := (i : Int) + 1) (by omega) (by omega)]
    rw [getD_set _ _ _ _ (by first | omega | (rw [List.length_set]; omega)), List.set_set, getD_set _ _ _ _ (by first | omega | (rw [List.length_set]; omega)), List.set_set]
    rw [show m + 3 * (i : Int) + 1 + 1 = m + 3 * (i : Int) + 2 by omega]
    unfold mkEmit at e3
    rw [e3, show m + 3 * (i : Int) + 2 + 1 = m + 3 * ((i + 1 : Nat) : Int) by omega]
    rfl) (fun k _ => by
    simp only [laws_markEmitS.l0]
    rw [if_neg (by rw [mixed_length _ _ _ (mkEmits_length m l.length)]; omega), mixed_end _ _ _ (by rw [mkEmits_length]; omega) (by omega)]) k hk
  rw [mixed_zero] at h
  simpa [laws_markEmitS.f] using h

theorem heldEmitS_eq (n : Nat) (hn : n ≤ 1048576) (m : Int) (h0 : 0 ≤ m) (h1 : m ≤ 4294967296) : ∀ k, n < k → laws_heldEmitS.f k (mkEmits m n) m = some (m + 3 * (n : Int)) := by
  intro k hk
  have h := loop_up (fun k (x : Int × Int) => laws_heldEmitS.l0 k (mkEmits m n) x.1 x.2) n 0 (fun i => (m + 3 * (i : Int), (i : Int))) (m + 3 * (n : Int)) (fun i k hi _ => by
    simp only [laws_heldEmitS.l0, rd_T57, Option.bind_some, Int.toNat_natCast, mkEmits_get m n i _ hi, mkEmit]
    rw [w64 (n := m + 3 * (i : Int) + 1) (by omega) (by omega), w64 (n := m + 3 * (i : Int) + 1 + 1) (by omega) (by omega), w64 (n := m + 3 * (i : Int) + 1 + 1 + 1) (by omega) (by omega), w64 (n := (i : Int) + 1) (by omega) (by omega)]
    rw [if_pos (by rw [mkEmits_length]; omega), if_pos (by omega), if_pos (by first | trivial | omega), if_pos (by first | trivial | omega), if_pos (by first | trivial | omega), show m + 3 * (i : Int) + 1 + 1 + 1 = m + 3 * ((i + 1 : Nat) : Int) by omega]
    rfl) (fun k _ => by
    simp only [laws_heldEmitS.l0]
    rw [if_neg (by rw [mkEmits_length]; omega)]) k hk
  simpa [laws_heldEmitS.f] using h

theorem trace_l0 (a : Int) (ha : 1 ≤ a ∧ a ≤ 4) (n : Nat) (hn : n ≤ 80) : ∀ (d k i : Nat) (out : List S57), n - i = d → d < k → i ≤ n → out.length = i →
    ∃ r : List S57, r.length = n ∧ spec_TraceOf.l0 k a (n : Int) out (i : Int) = some (r, true) ∧ impl_TraceOf.l0 k a out (n : Int) (i : Int) = some (r, true) := by
  intro d
  induction d with
  | zero =>
    intro k i out hd hk hi ho
    obtain ⟨k, rfl⟩ := rounds hk
    refine ⟨out, by omega, ?_, ?_⟩
    · simp only [spec_TraceOf.l0]
      rw [if_neg (by omega)]
    · simp only [impl_TraceOf.l0]
      rw [if_neg (by omega)]
  | succ d ih =>
    intro k i out hd hk hi ho
    obtain ⟨k, rfl⟩ := rounds hk
    obtain ⟨r, h0, h1, h2⟩ := ih k (i + 1) (out ++ [⟨(i : Int), Int.tmod (i : Int) a, 24⟩]) (by omega) (by omega) (by omega) (by simp; omega)
    refine ⟨r, h0, ?_, ?_⟩
    · simp only [spec_TraceOf.l0, spec_l10Emit.f]
      rw [if_pos (by omega), if_neg (by omega)]
      simp only [Option.bind_some]
      rw [if_pos (by omega), w64 (by omega) (by omega)]
      exact h1
    · simp only [impl_TraceOf.l0, impl_emit.f]
      rw [if_pos (by omega), if_neg (by omega)]
      simp only [Option.bind_some]
      rw [if_pos (by omega), w64 (by omega) (by omega)]
      exact h2

theorem trace_same (a n : Int) (k : Nat) (hk : 90 < k) : ∃ (r : List S57) (b : Bool), r.length ≤ 80 ∧ spec_TraceOf.f k a n = some (r, b) ∧ impl_TraceOf.f k a n = some (r, b) := by
  obtain ⟨k, rfl⟩ := rounds hk
  unfold spec_TraceOf.f impl_TraceOf.f impl_areWays.f
  simp only [l1In_eq, within_eq, Option.bind_some, spec_TraceOf.j0, impl_TraceOf.j0]
  by_cases ha : 1 ≤ a ∧ a ≤ 4
  · rw [decide_eq_true ha, if_pos rfl, if_pos rfl]
    by_cases hn : 0 ≤ n ∧ n ≤ 80
    · rw [decide_eq_true hn]
      obtain ⟨m, rfl⟩ := Int.eq_ofNat_of_zero_le hn.1
      obtain ⟨r, h0, h1, h2⟩ := trace_l0 a ha m (by omega) m k 0 [] (by omega) (by omega) (by omega) rfl
      exact ⟨r, true, by omega, h1, h2⟩
    · rw [decide_eq_false hn]
      exact ⟨[], false, by simp, rfl, rfl⟩
  · rw [decide_eq_false ha]
    exact ⟨[], false, by simp, rfl, rfl⟩

theorem FnExactTraceOf : laws_FnExactTraceOf.Pure := by
  intro a n _ _
  obtain ⟨r, b, hr, h1, h2⟩ := trace_same a n 91 (by omega)
  obtain ⟨h3, h4⟩ := stay (spec_TraceOf.mono a n) (impl_TraceOf.mono a n) h1 h2
  obtain ⟨K, hK⟩ := some_nat 91
  refine ⟨K + 2, ?_⟩
  have a3 := eqEmitS_self r (by omega)
  have a5 := markEmitS_eq r (by omega) 1 (by omega) (by omega)
  have a6 := heldEmitS_eq r.length (by omega) 1 (by omega) (by omega)
  unfold laws_FnExactTraceOf.f
  simp (disch := omega) only [h3, h4, a3, Option.bind_some, if_true, bne_self_eq_false]
  rw [laws_FnExactTraceOf.j0]
  simp (disch := omega) only [a3, a5, a6, h4, Option.bind_some, if_true, if_false, bne_self_eq_false, Bool.false_eq_true]
  rw [if_neg (by omega), laws_FnExactTraceOf.j1]
  simp (disch := omega) only [a6, Option.bind_some, if_true, if_false, Bool.false_eq_true]
  rw [if_neg (by omega)]

end Go.Proofs.Ytdiehchbbhlfgaa.Pure
