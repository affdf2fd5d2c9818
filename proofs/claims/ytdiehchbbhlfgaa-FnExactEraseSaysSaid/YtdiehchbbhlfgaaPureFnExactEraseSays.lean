/- Proved: EraseSays of the program and of the reference answer alike at all arguments, and the answer owns its memory. Conditions: those of the given statement alone. -/
import Derived.Test.YtdiehchbbhlfgaaPFnExactEraseSaysx4
import Derived.Test.YtdiehchbbhlfgaaBase
set_option linter.unusedVariables false
set_option linter.unusedSimpArgs false
namespace Go.Proofs.Ytdiehchbbhlfgaa.Pure
open Go.RowKit Go.Proofs.Ytdiehchbbhlfgaa.PFnExactEraseSays Go.Proofs.Ytdiehchbbhlfgaa.Base Go.Proofs.YtdiehchbbhlfgaaW.PrintWords Go.Proofs.YtdiehchbbhlfgaaW.PrintLast Go.Proofs.YtdiehchbbhlfgaaW.PrintMore

theorem markText_l0 : ∀ (n : Nat) (m : Nat) (x : ByteArray), m < 10 ^ n → x.size + n + 1 ≤ 1000 → m ≤ 1099511627776 → Tot (fun k => laws_markText.l0 k (m : Int) x) (fun y => y.size ≤ x.size + n + 1) := by
  intro n
  induction n with
  | zero =>
    intro m x hm hx hle
    refine Tot.up ?_
    simp only [laws_markText.l0]
    refine Tot.neg (by omega) (Tot.pos (by omega) (Tot.some_ ?_))
    rw [ByteArray.size_append]
    show 1 + x.size ≤ _
    omega
  | succ n ih =>
    intro m x hm hx hle
    refine Tot.up ?_
    simp only [laws_markText.l0]
    refine Tot.ite (fun h0 => ?_) (fun h0 => Tot.pos (by omega) (Tot.some_ (by
      rw [ByteArray.size_append]
      show 1 + x.size ≤ _
      omega)))
    simp only [Option.bind_some]
    have h1 : (strOfNums [wrap64 (48 + Int.tmod (m : Int) 10) % 256]).size = 1 := rfl
    rw [show (10 : Int) = ((10 : Nat) : Int) from rfl, tdiv_nat, wnat (m / 10) (by omega)]
    refine Tot.pos (by rw [show ((10 : Nat) : Int) = (10 : Int) from rfl, h1]; omega) ?_
    have hp : 10 ^ (n + 1) = 10 * 10 ^ n := by rw [Nat.pow_succ, Nat.mul_comm]
    have h2 : (strOfNums [wrap64 (48 + Int.tmod (m : Int) ((10 : Nat) : Int)) % 256] ++ x).size = 1 + x.size := by rw [ByteArray.size_append]; rfl
    refine (ih (m / 10) _ (by omega) (by rw [h2]; omega) (by omega)).imp (fun y hy => ?_)
    rw [h2] at hy
    omega
theorem markText_tot (m : Int) (h0 : 0 ≤ m) (h1 : m ≤ 1099511627776) : Tot (fun k => laws_markText.f k m) (fun y => y.size ≤ 64) := by
  obtain ⟨m, rfl⟩ := Int.eq_ofNat_of_zero_le h0
  simp only [laws_markText.f]
  refine Tot.ite (fun _ => Tot.some_ (show 2 ≤ 64 by omega)) (fun _ => ?_)
  refine (markText_l0 13 m _ (by omega) (by show 0 + 13 + 1 ≤ 1000; omega) (by omega)).imp (fun y hy => ?_)
  have h2 : (⟨#[]⟩ : ByteArray).size = 0 := rfl
  omega
/-- The mark of a number. -/
noncomputable def mt (m : Int) : ByteArray := Classical.epsilon fun y => Tot (fun k => laws_markText.f k m) (fun z => z = y)
theorem mt_tot (m : Int) (h0 : 0 ≤ m) (h1 : m ≤ 1099511627776) : Tot (fun k => laws_markText.f k m) (fun z => z = mt m) := by
  obtain ⟨y, _, h⟩ := (markText_tot m h0 h1).val
  exact Classical.epsilon_spec (p := fun y => Tot (fun k => laws_markText.f k m) (fun z => z = y)) ⟨y, h⟩

def toCs (x : S54) : S60 := ⟨x.f0, x.f1⟩
def toCss (l : List S54) : List S60 := l.map toCs
theorem toCss_length (l : List S54) : (toCss l).length = l.length := by simp [toCss]
theorem toCss_get (l : List S54) (i : Nat) (d : S60) (h : i < l.length) : (toCss l).getD i d = toCs l[i] := by
  rw [getD_in _ d i (by rw [toCss_length]; exact h)]
  simp [toCss]
theorem rd60 (l : List S60) (i : Nat) (h : i < l.length) : rd_T60 l (i : Int) = l[i] := by
  unfold rd_T60
  rw [Int.toNat_natCast]
  exact getD_in l _ i h
theorem rd54 (l : List S54) (i : Nat) (h : i < l.length) : rd_T54 l (i : Int) = l[i] := by
  unfold rd_T54
  rw [Int.toNat_natCast]
  exact getD_in l _ i h
theorem toCoverStepS_tot (l : List S54) (hl : l.length ≤ 1048576) : Tot (fun k => laws_toCoverStepS.f k l) (fun y => y = toCss l) := by
  have hz : (List.replicate l.length z60).length = l.length := by simp
  have h := fun k hk => loop_up (fun k (x : List S60 × Int) => laws_toCoverStepS.l0 k l x.1 x.2) l.length 0 (fun i => (mixed (toCss l) (List.replicate l.length z60) i, (i : Int))) (toCss l) (fun i k hi _ => by
    have e : (toCss l).length = (List.replicate l.length z60).length := by rw [toCss_length, hz]
    have e2 := mixed_length (toCss l) (List.replicate l.length z60) i e
    have e3 := mixed_set (toCss l) (List.replicate l.length z60) i (toCs l[i]) e (by omega) (toCss_get l i _ hi)
    simp only [laws_toCoverStepS.l0, laws_toCoverStep.f, Option.bind_some, Int.toNat_natCast]
    rw [if_pos (by omega), if_pos (by omega), if_pos (by rw [e2, hz]; omega), w64 (by omega) (by omega), rd54 l i hi]
    unfold toCs at e3
    rw [e3]
    rfl) (fun k _ => by
    simp only [laws_toCoverStepS.l0]
    rw [if_neg (by omega), mixed_end _ _ _ (by rw [toCss_length]; omega) (by rw [hz]; omega)]) k hk
  rw [mixed_zero] at h
  simp only [laws_toCoverStepS.f]
  exact Tot.pos (by omega) (Tot.pos (by omega) (Tot.at_ (l.length + 1) rfl (fun k hk => h k (by omega))))
theorem eqCoverStepS_tot (l : List S60) (hl : l.length ≤ 1048576) : Tot (fun k => laws_eqCoverStepS.f k l l) (fun y => y = true) := by
  have h := fun k hk => loop_up (fun k (x : Int) => laws_eqCoverStepS.l0 k l l x) l.length 0 (fun i => (i : Int)) true (fun i k hi _ => by
    simp only [laws_eqCoverStepS.l0, laws_eqCoverStep.f]
    rw [if_pos (by omega), if_pos (by omega), if_pos (by omega), if_pos trivial, if_pos trivial, w64 (by omega) (by omega)]
    rfl) (fun k _ => by
    simp only [laws_eqCoverStepS.l0]
    rw [if_neg (by omega)]) k hk
  simp only [laws_eqCoverStepS.f]
  exact Tot.pos trivial (Tot.at_ (l.length + 1) rfl (fun k hk => h k (by omega)))
theorem szCoverStepS_tot (l : List S54) (hl : l.length ≤ maxLen) (hs : ∀ x ∈ l, x.f1.size ≤ maxLen) : Tot (fun k => laws_szCoverStepS.f k l 1048576) (fun y => 0 ≤ y → l.length ≤ 1048576) := by
  have hmx : maxLen = 9223372036854775807 := rfl
  have key : ∀ (d i : Nat) (b : Int), l.length - i = d → i ≤ l.length → 0 ≤ b ∧ b ≤ 1048576 → l.length ≤ 1048576 → Tot (fun k => laws_szCoverStepS.l0 k l b (i : Int)) (fun y => True) := by
    intro d
    induction d with
    | zero =>
      intro i b hd hi hb hll
      refine Tot.up ?_
      simp only [laws_szCoverStepS.l0]
      exact Tot.neg (by omega) (Tot.some_ trivial)
    | succ d ih =>
      intro i b hd hi hb hll
      have hlt : i < l.length := by omega
      have hx := hs _ (List.getElem_mem hlt)
      refine Tot.up ?_
      simp only [laws_szCoverStepS.l0, laws_szCoverStep.f]
      refine Tot.pos (by omega) (Tot.pos (by omega) ?_)
      rw [rd54 l i hlt, w64 (n := b - (l[i].f1.size : Int)) (by omega) (by omega), w64 (n := (i : Int) + 1) (by omega) (by omega)]
      refine Tot.bind (Q := fun y => y = (if b - (l[i].f1.size : Int) < 0 then -1 else b - (l[i].f1.size : Int))) (Tot.ite (fun h => Tot.some_ (by rw [if_pos h])) (fun h => Tot.some_ (by rw [if_neg h]))) (fun y hy => ?_)
      refine Tot.ite (fun h => Tot.some_ trivial) (fun h => ?_)
      refine ih (i + 1) _ (by omega) (by omega) ?_ hll
      split at hy <;> omega
  simp only [laws_szCoverStepS.f]
  rw [w64 (n := 1048576 - (l.length : Int)) (by omega) (by omega)]
  refine Tot.ite (fun h => Tot.some_ (fun h => by omega)) (fun h => ?_)
  exact (key l.length 0 _ (by omega) (by omega) (by omega) (by omega)).imp (fun y hy => fun h0 => by omega)

noncomputable def mtc (m : Int) (n : Nat) : List S60 := (List.range n).map fun (i : Nat) => (⟨m + 2 * (i : Int), mt (m + 2 * (i : Int) + 1)⟩ : S60)
theorem mtc_length (m : Int) (n : Nat) : (mtc m n).length = n := by simp [mtc]
theorem mtc_get (m : Int) (n i : Nat) (h : i < n) : (mtc m n)[i]'(by rw [mtc_length]; exact h) = (⟨m + 2 * (i : Int), mt (m + 2 * (i : Int) + 1)⟩ : S60) := by simp [mtc]
theorem set_set {α : Type} (l : List α) (i : Nat) (x y : α) : (l.set i x).set i y = l.set i y := by simp
theorem markCoverStepS_tot (l : List S60) (hl : l.length ≤ 1048576) : Tot (fun k => laws_markCoverStepS.f k l 1) (fun y => y = (1 + 2 * (l.length : Int), mtc 1 l.length)) := by
  have hz := mtc_length 1 l.length
  have key : ∀ (d i : Nat), l.length - i = d → i ≤ l.length → Tot (fun k => laws_markCoverStepS.l0 k (mixed (mtc 1 l.length) l i) (1 + 2 * (i : Int)) (i : Int)) (fun y => y = (1 + 2 * (l.length : Int), mtc 1 l.length)) := by
    intro d
    induction d with
    | zero =>
      intro i hd hi
      refine Tot.up ?_
      have e : i = l.length := by omega
      subst e
      simp only [laws_markCoverStepS.l0]
      refine Tot.neg (by rw [mixed_length _ _ _ hz]; omega) (Tot.some_ ?_)
      rw [mixed_end _ _ _ (by omega) (by omega)]
    | succ d ih =>
      intro i hd hi
      refine Tot.up ?_
      simp only [laws_markCoverStepS.l0, Int.toNat_natCast]
      rw [w64 (n := 1 + 2 * (i : Int) + 1) (by omega) (by omega), w64 (n := 1 + 2 * (i : Int) + 1 + 1) (by omega) (by omega), w64 (n := (i : Int) + 1) (by omega) (by omega)]
      refine Tot.pos (by rw [mixed_length _ _ _ hz]; omega) (Tot.pos (by omega) (Tot.bind (Q := fun y => y = (mixed (mtc 1 l.length) l i).set i ⟨1 + 2 * (i : Int), (rd_T60 (mixed (mtc 1 l.length) l i) (i : Int)).f1⟩) (Tot.some_ rfl) (fun x hx => Tot.bind (mt_tot _ (by omega) (by omega)) (fun y hy => ?_))))
      rw [hy, hx, set_set, rd60 _ i (by rw [List.length_set, mixed_length _ _ _ hz]; omega), List.getElem_set_self]
      simp only
      rw [mixed_set _ _ i _ hz (by omega) (by rw [getD_in _ _ i (by omega), mtc_get 1 _ i (by omega)]), show 1 + 2 * (i : Int) + 1 + 1 = 1 + 2 * ((i + 1 : Nat) : Int) by omega]
      exact ih (i + 1) (by omega) (by omega)
  have h := key l.length 0 (by omega) (by omega)
  rw [mixed_zero, show (1 : Int) + 2 * ((0 : Nat) : Int) = 1 by omega] at h
  exact h
theorem heldCoverStepS_tot (n : Nat) (hn : n ≤ 1048576) : Tot (fun k => laws_heldCoverStepS.f k (mtc 1 n) 1) (fun y => y = 1 + 2 * (n : Int)) := by
  have hz := mtc_length 1 n
  have key : ∀ (d i : Nat), n - i = d → i ≤ n → Tot (fun k => laws_heldCoverStepS.l0 k (mtc 1 n) (1 + 2 * (i : Int)) (i : Int)) (fun y => y = 1 + 2 * (n : Int)) := by
    intro d
    induction d with
    | zero =>
      intro i hd hi
      refine Tot.up ?_
      simp only [laws_heldCoverStepS.l0]
      refine Tot.neg (by rw [hz]; omega) (Tot.some_ (by omega))
    | succ d ih =>
      intro i hd hi
      refine Tot.up ?_
      simp only [laws_heldCoverStepS.l0]
      rw [rd60 _ i (by omega), mtc_get 1 n i (by omega), w64 (n := 1 + 2 * (i : Int) + 1) (by omega) (by omega), w64 (n := 1 + 2 * (i : Int) + 1 + 1) (by omega) (by omega), w64 (n := (i : Int) + 1) (by omega) (by omega)]
      refine Tot.pos (by rw [hz]; omega) (Tot.pos (by omega) (Tot.pos rfl (Tot.bind (mt_tot _ (by omega) (by omega)) (fun y hy => ?_))))
      rw [hy, show 1 + 2 * (i : Int) + 1 + 1 = 1 + 2 * ((i + 1 : Nat) : Int) by omega]
      exact Tot.pos rfl (ih (i + 1) (by omega) (by omega))
  have h := key n 0 (by omega) (by omega)
  rw [show (1 : Int) + 2 * ((0 : Nat) : Int) = 1 by omega] at h
  exact h

def isTick (x : S60) : Bool := decide (x.f0 = 2) && decide (x.f1.toList = [])
def eraV (l : List S60) : List S60 × Bool := if l.length > 80 then ([], false) else (l.filter isTick, true)
theorem filter_snoc (l : List S60) (i : Nat) (h : i < l.length) : (l.take (i + 1)).filter isTick = (l.take i).filter isTick ++ (if isTick l[i] = true then [l[i]] else []) := by
  rw [List.take_succ_eq_append_getElem h, List.filter_append]
  by_cases e : isTick l[i] = true
  · simp [e]
  · simp [e]
theorem filter_short (l : List S60) (i : Nat) (h : i ≤ l.length) : ((l.take i).filter isTick).length ≤ i := by
  have h1 := List.length_filter_le isTick (l.take i)
  rw [List.length_take] at h1
  omega
theorem specErase_tot (l : List S60) : Tot (fun k => spec_EraseSays.f k l) (fun y => y = eraV l) := by
  simp only [spec_EraseSays.f]
  unfold eraV
  refine Tot.ite (fun h => Tot.some_ (by rw [if_pos (by omega)])) (fun h => ?_)
  rw [if_neg (by omega)]
  have key := fun k hk => loop_up (fun k (x : List S60 × Int) => spec_EraseSays.l0 k x.1 l (l.length : Int) x.2) l.length 0 (fun i => ((l.take i).filter isTick, (i : Int))) (l.filter isTick, true) (fun i k hi _ => by
    have hs := filter_short l i (by omega)
    simp only [spec_EraseSays.l0]
    rw [if_pos (by omega), if_pos (by omega), if_pos (by omega), rd60 l i hi, w64 (n := (i : Int) + 1) (by omega) (by omega), filter_snoc l i hi]
    by_cases h1 : l[i].f0 = 2
    · rw [if_pos h1]
      by_cases h2 : l[i].f1.toList = []
      · rw [if_pos h2, if_pos (by omega), if_pos (by simp [isTick, h1, h2])]
        rfl
      · rw [if_neg h2, if_neg (by simp [isTick, h2]), List.append_nil]
        rfl
    · rw [if_neg h1, if_neg (by simp [isTick, h1]), List.append_nil]
      rfl) (fun k _ => by
    simp only [spec_EraseSays.l0]
    rw [if_neg (by omega), List.take_length]) k hk
  exact Tot.at_ (l.length + 1) rfl (fun k hk => key k (by omega))
theorem implErase_tot (l : List S60) : Tot (fun k => impl_EraseSays.f k l) (fun y => y = eraV l) := by
  simp only [impl_EraseSays.f]
  unfold eraV
  refine Tot.ite (fun h => Tot.some_ (by rw [if_pos (by omega)])) (fun h => ?_)
  rw [if_neg (by omega)]
  have key := fun k hk => loop_up (fun k (x : List S60 × Int) => impl_EraseSays.l0 k x.1 l (l.length : Int) x.2) l.length 0 (fun i => ((l.take i).filter isTick, (i : Int))) (l.filter isTick, true) (fun i k hi _ => by
    have hs := filter_short l i (by omega)
    simp only [impl_EraseSays.l0]
    rw [if_pos (by omega), if_pos (by omega), if_pos (by omega), rd60 l i hi, w64 (n := (i : Int) + 1) (by omega) (by omega), filter_snoc l i hi]
    by_cases h1 : isTick l[i] = true
    · have h2 := h1
      simp only [isTick, Bool.and_eq_true, decide_eq_true_iff] at h2
      rw [if_pos (by rw [Bool.and_eq_true, beq_iff_eq, beq_iff_eq]; exact h2), if_pos (by omega), if_pos h1]
      rfl
    · have h2 := h1
      simp only [isTick, Bool.and_eq_true, decide_eq_true_iff] at h2
      rw [if_neg (by rw [Bool.and_eq_true, beq_iff_eq, beq_iff_eq]; exact h2), if_neg h1, List.append_nil]
      rfl) (fun k _ => by
    simp only [impl_EraseSays.l0]
    rw [if_neg (by omega), List.take_length]) k hk
  exact Tot.at_ (l.length + 1) rfl (fun k hk => key k (by omega))
theorem FnExactEraseSays : laws_FnExactEraseSays.Pure := by
  intro l hw
  refine Tot.ex ?_
  simp only [laws_FnExactEraseSays.f]
  refine Tot.bind (szCoverStepS_tot l hw.1 (fun x hx => (hw.2 x hx).2)) (fun y0 h0 => Tot.ite (fun _ => Tot.some_ rfl) (fun hy0 => ?_))
  have hl := h0 (by omega)
  have hl2 := toCss_length l
  have hs := specErase_tot (toCss l)
  have hi := implErase_tot (toCss l)
  have hr : (eraV (toCss l)).1.length ≤ 1048576 := by
    unfold eraV
    split
    · simp
    · have h1 := List.length_filter_le isTick (toCss l)
      simp only
      omega
  generalize eraV (toCss l) = v at hr hs hi
  obtain ⟨r, o⟩ := v
  simp only at hr
  refine Tot.bind (toCoverStepS_tot l hl) (fun y1 e1 => ?_)
  rw [e1]
  refine Tot.bind hs (fun y2 e2 => ?_)
  rw [e2]
  refine Tot.bind (toCoverStepS_tot l hl) (fun y3 e3 => ?_)
  rw [e3]
  refine Tot.bind hi (fun y4 e4 => ?_)
  rw [e4]
  refine Tot.bind (eqCoverStepS_tot r hr) (fun y5 e5 => Tot.pos e5 (Tot.up ?_))
  simp only [laws_FnExactEraseSays.j0, bne_self_eq_false]
  refine Tot.neg (by simp) (Tot.bind (toCoverStepS_tot l hl) (fun y6 e6 => ?_))
  rw [e6]
  refine Tot.bind (eqCoverStepS_tot _ (by omega)) (fun y7 e7 => Tot.pos e7 ?_)
  refine Tot.bind (markCoverStepS_tot _ (by omega)) (fun y8 e8 => ?_)
  rw [e8]
  refine Tot.neg (by simp only; omega) ?_
  refine Tot.bind (eqCoverStepS_tot r hr) (fun y9 e9 => Tot.pos e9 (Tot.up ?_))
  simp only [laws_FnExactEraseSays.j1, bne_self_eq_false]
  refine Tot.neg (by simp) ?_
  refine Tot.bind (markCoverStepS_tot r hr) (fun y10 e10 => ?_)
  rw [e10]
  refine Tot.bind (heldCoverStepS_tot r.length hr) (fun y11 e11 => ?_)
  rw [e11]
  refine Tot.neg (by omega) (Tot.pos rfl ?_)
  refine Tot.bind (toCoverStepS_tot l hl) (fun y12 e12 => ?_)
  rw [e12]
  refine Tot.bind hi (fun y13 e13 => ?_)
  rw [e13]
  refine Tot.bind (eqCoverStepS_tot r hr) (fun y14 e14 => Tot.pos e14 (Tot.up ?_))
  simp only [laws_FnExactEraseSays.j2, bne_self_eq_false]
  refine Tot.neg (by simp) ?_
  refine Tot.bind (heldCoverStepS_tot r.length hr) (fun y15 e15 => ?_)
  rw [e15]
  exact Tot.neg (by omega) (Tot.pos rfl (Tot.some_ rfl))

end Go.Proofs.Ytdiehchbbhlfgaa.Pure
