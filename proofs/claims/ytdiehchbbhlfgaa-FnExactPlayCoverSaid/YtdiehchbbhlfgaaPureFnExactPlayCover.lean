/- Proved: PlayCover of the program and of the reference answer alike at all arguments, and the answer owns its memory. Conditions: those of the given statement alone. -/
import Derived.Test.YtdiehchbbhlfgaaPFnExactPlayCoverx9
import Derived.Test.YtdiehchbbhlfgaaBase
set_option linter.unusedVariables false
set_option linter.unusedSimpArgs false
namespace Go.Proofs.Ytdiehchbbhlfgaa.Pure
open Go.RowKit Go.Proofs.Ytdiehchbbhlfgaa.PFnExactPlayCover Go.Proofs.Ytdiehchbbhlfgaa.Base Go.Proofs.YtdiehchbbhlfgaaW.PrintWords Go.Proofs.YtdiehchbbhlfgaaW.PrintLast Go.Proofs.YtdiehchbbhlfgaaW.PrintMore Go.Proofs.Ytdiehchbbhlfgaa

theorem l1In_eq (a b c : Int) : spec_l1In.f a b c = some (decide (b ≤ a ∧ a ≤ c)) := by
  unfold spec_l1In.f
  by_cases h : a ≥ b
  · rw [if_pos h]
    congr 1
    exact decide_eq_decide.2 ⟨fun h1 => ⟨h, h1⟩, fun h1 => h1.2⟩
  · rw [if_neg h, decide_eq_false (fun h1 => h h1.1)]

theorem within_eq (a b c : Int) : impl_within.f a b c = some (decide (b ≤ a ∧ a ≤ c)) := by
  unfold impl_within.f
  by_cases h : a ≥ b
  · rw [if_pos h]
    congr 1
    exact decide_eq_decide.2 ⟨fun h1 => ⟨h, h1⟩, fun h1 => h1.2⟩
  · rw [if_neg h, decide_eq_false (fun h1 => h h1.1)]

theorem markText_l0 : ∀ (n : Nat) (m : Nat) (x : ByteArray), m < 10 ^ n → x.size + n + 1 ≤ 1000 → m ≤ 1099511627776 → Tot (fun k => laws_markText.l0 k (m : Int) x) (fun y => y.size ≤ x.size + n + 1) := by
  intro n
  induction n with
  | zero =>
    intro m x hm hx hle
    refine Tot.up ?_
    simp only [laws_markText.l0]
    refine Tot.neg (by omega) (Tot.pos (by omega) (Tot.some_ ?_))
    rw [ByteArray.size_append]
    show 1 + x.size ≤ _
    omega
  | succ n ih =>
    intro m x hm hx hle
    refine Tot.up ?_
    simp only [laws_markText.l0]
    refine Tot.ite (fun h0 => ?_) (fun h0 => Tot.pos (by omega) (Tot.some_ (by
      rw [ByteArray.size_append]
      show 1 + x.size ≤ _
      omega)))
    simp only [Option.bind_some]
    have h1 : (strOfNums [wrap64 (48 + Int.tmod (m : Int) 10) % 256]).size = 1 := rfl
    rw [show (10 : Int) = ((10 : Nat) : Int) from rfl, tdiv_nat, wnat (m / 10) (by omega)]
    refine Tot.pos (by rw [show ((10 : Nat) : Int) = (10 : Int) from rfl, h1]; omega) ?_
    have hp : 10 ^ (n + 1) = 10 * 10 ^ n := by rw [Nat.pow_succ, Nat.mul_comm]
    have h2 : (strOfNums [wrap64 (48 + Int.tmod (m : Int) ((10 : Nat) : Int)) % 256] ++ x).size = 1 + x.size := by rw [ByteArray.size_append]; rfl
    refine (ih (m / 10) _ (by omega) (by rw [h2]; omega) (by omega)).imp (fun y hy => ?_)
    rw [h2] at hy
    omega
theorem markText_tot (m : Int) (h0 : 0 ≤ m) (h1 : m ≤ 1099511627776) : Tot (fun k => laws_markText.f k m) (fun y => y.size ≤ 64) := by
  obtain ⟨m, rfl⟩ := Int.eq_ofNat_of_zero_le h0
  simp only [laws_markText.f]
  refine Tot.ite (fun _ => Tot.some_ (show 2 ≤ 64 by omega)) (fun _ => ?_)
  refine (markText_l0 13 m _ (by omega) (by show 0 + 13 + 1 ≤ 1000; omega) (by omega)).imp (fun y hy => ?_)
  have h2 : (⟨#[]⟩ : ByteArray).size = 0 := rfl
  omega
/-- The mark of a number. -/
noncomputable def mt (m : Int) : ByteArray := Classical.epsilon fun y => Tot (fun k => laws_markText.f k m) (fun z => z = y)
theorem mt_tot (m : Int) (h0 : 0 ≤ m) (h1 : m ≤ 1099511627776) : Tot (fun k => laws_markText.f k m) (fun z => z = mt m) := by
  obtain ⟨y, _, h⟩ := (markText_tot m h0 h1).val
  exact Classical.epsilon_spec (p := fun y => Tot (fun k => laws_markText.f k m) (fun z => z = y)) ⟨y, h⟩

def toCs (x : S54) : S60 := ⟨x.f0, x.f1⟩
def toCss (l : List S54) : List S60 := l.map toCs
theorem toCss_length (l : List S54) : (toCss l).length = l.length := by simp [toCss]
theorem toCss_get (l : List S54) (i : Nat) (d : S60) (h : i < l.length) : (toCss l).getD i d = toCs l[i] := by
  rw [getDin _ d i (by rw [toCss_length]; exact h)]
  simp [toCss]
theorem rd60 (l : List S60) (i : Nat) (h : i < l.length) : rd_T60 l (i : Int) = l[i] := by
  unfold rd_T60
  rw [Int.toNat_natCast]
  exact getDin l _ i h
theorem rd54 (l : List S54) (i : Nat) (h : i < l.length) : rd_T54 l (i : Int) = l[i] := by
  unfold rd_T54
  rw [Int.toNat_natCast]
  exact getDin l _ i h
theorem toCoverStepS_tot (l : List S54) (hl : l.length ≤ 1048576) : Tot (fun k => laws_toCoverStepS.f k l) (fun y => y = toCss l) := by
  have hz : (List.replicate l.length z60).length = l.length := by simp
  have h := fun k hk => loop_up (fun k (x : List S60 × Int) => laws_toCoverStepS.l0 k l x.1 x.2) l.length 0 (fun i => (mixed (toCss l) (List.replicate l.length z60) i, (i : Int))) (toCss l) (fun i k hi _ => by
    have e : (toCss l).length = (List.replicate l.length z60).length := by rw [toCss_length, hz]
    have e2 := mixed_length (toCss l) (List.replicate l.length z60) i e
    have e3 := mixed_set (toCss l) (List.replicate l.length z60) i (toCs l[i]) e (by omega) (toCss_get l i _ hi)
    simp only [laws_toCoverStepS.l0, laws_toCoverStep.f, Option.bind_some, Int.toNat_natCast]
    rw [if_pos (by omega), if_pos (by omega), if_pos (by rw [e2, hz]; omega), w64 (by omega) (by omega), rd54 l i hi]
    unfold toCs at e3
    rw [e3]
    rfl) (fun k _ => by
    simp only [laws_toCoverStepS.l0]
    rw [if_neg (by omega), mixed_end _ _ _ (by rw [toCss_length]; omega) (by rw [hz]; omega)]) k hk
  rw [mixed_zero] at h
  simp only [laws_toCoverStepS.f]
  exact Tot.pos (by omega) (Tot.pos (by omega) (Tot.at_ (l.length + 1) rfl (fun k hk => h k (by omega))))
theorem eqCoverStepS_tot (l : List S60) (hl : l.length ≤ 1048576) : Tot (fun k => laws_eqCoverStepS.f k l l) (fun y => y = true) := by
  have h := fun k hk => loop_up (fun k (x : Int) => laws_eqCoverStepS.l0 k l l x) l.length 0 (fun i => (i : Int)) true (fun i k hi _ => by
    simp only [laws_eqCoverStepS.l0, laws_eqCoverStep.f]
    rw [if_pos (by omega), if_pos (by omega), if_pos (by omega), if_pos trivial, if_pos trivial, w64 (by omega) (by omega)]
    rfl) (fun k _ => by
    simp only [laws_eqCoverStepS.l0]
    rw [if_neg (by omega)]) k hk
  simp only [laws_eqCoverStepS.f]
  exact Tot.pos trivial (Tot.at_ (l.length + 1) rfl (fun k hk => h k (by omega)))
theorem szCoverStepS_tot (l : List S54) (hl : l.length ≤ maxLen) (hs : ∀ x ∈ l, x.f1.size ≤ maxLen) : Tot (fun k => laws_szCoverStepS.f k l 1048576) (fun y => 0 ≤ y → l.length ≤ 1048576) := by
  have hmx : maxLen = 9223372036854775807 := rfl
  have key : ∀ (d i : Nat) (b : Int), l.length - i = d → i ≤ l.length → 0 ≤ b ∧ b ≤ 1048576 → l.length ≤ 1048576 → Tot (fun k => laws_szCoverStepS.l0 k l b (i : Int)) (fun y => True) := by
    intro d
    induction d with
    | zero =>
      intro i b hd hi hb hll
      refine Tot.up ?_
      simp only [laws_szCoverStepS.l0]
      exact Tot.neg (by omega) (Tot.some_ trivial)
    | succ d ih =>
      intro i b hd hi hb hll
      have hlt : i < l.length := by omega
      have hx := hs _ (List.getElem_mem hlt)
      refine Tot.up ?_
      simp only [laws_szCoverStepS.l0, laws_szCoverStep.f]
      refine Tot.pos (by omega) (Tot.pos (by omega) ?_)
      rw [rd54 l i hlt, w64 (n := b - (l[i].f1.size : Int)) (by omega) (by omega), w64 (n := (i : Int) + 1) (by omega) (by omega)]
      refine Tot.bind (Q := fun y => y = (if b - (l[i].f1.size : Int) < 0 then -1 else b - (l[i].f1.size : Int))) (Tot.ite (fun h => Tot.some_ (by rw [if_pos h])) (fun h => Tot.some_ (by rw [if_neg h]))) (fun y hy => ?_)
      refine Tot.ite (fun h => Tot.some_ trivial) (fun h => ?_)
      refine ih (i + 1) _ (by omega) (by omega) ?_ hll
      split at hy <;> omega
  simp only [laws_szCoverStepS.f]
  rw [w64 (n := 1048576 - (l.length : Int)) (by omega) (by omega)]
  refine Tot.ite (fun h => Tot.some_ (fun h => by omega)) (fun h => ?_)
  exact (key l.length 0 _ (by omega) (by omega) (by omega) (by omega)).imp (fun y hy => fun h0 => by omega)

theorem rdStr (l : List ByteArray) (i : Nat) (h : i < l.length) : rdOf ByteArray.empty l (i : Int) = l[i] := by
  unfold rdOf
  rw [Int.toNat_natCast]
  exact getDin l _ i h

def goodC (l : List ByteArray) (a b : Int) : Bool := decide ((l.length ≤ 5 ∧ ∀ x ∈ l, x.size ≤ 15) ∧ (0 ≤ a ∧ a ≤ 1000) ∧ (1 ≤ b ∧ b ≤ 4))
theorem implGood_tot (l : List ByteArray) (hl : l.length ≤ 1048576) (a b : Int) : Tot (fun k => impl_GoodClient.f k l a b) (fun y => y = goodC l a b) := by
  have key : ∀ (d i : Nat), l.length - i = d → i ≤ l.length → Tot (fun k => slices_IndexFunc_string_string.l0 k l (l.length : Int) (i : Int)) (fun y => y ≥ 0 ↔ ¬ ∀ x ∈ l.drop i, x.size ≤ 15) := by
    intro d
    induction d with
    | zero =>
      intro i hd hi
      refine Tot.up ?_
      simp only [slices_IndexFunc_string_string.l0]
      refine Tot.neg (by omega) (Tot.some_ ?_)
      rw [List.drop_of_length_le (by omega)]
      simp
    | succ d ih =>
      intro i hd hi
      have hlt : i < l.length := by omega
      refine Tot.up ?_
      simp only [slices_IndexFunc_string_string.l0, impl_GoodClient_1.f, impl_isSaid.f, Option.bind_some]
      refine Tot.pos (by omega) (Tot.pos (by omega) (Tot.pos (by omega) ?_))
      rw [rdStr l i hlt, w64 (n := (i : Int) + 1) (by omega) (by omega), List.drop_eq_getElem_cons hlt]
      refine Tot.ite (fun h => Tot.some_ ?_) (fun h => (ih (i + 1) (by omega) (by omega)).imp (fun y hy => ?_))
      · rw [Bool.not_eq_true', decide_eq_false_iff_not] at h
        simp only [List.mem_cons, forall_eq_or_imp]
        exact ⟨fun _ h3 => h (by have := h3.1; omega), fun _ => by omega⟩
      · rw [Bool.not_eq_true', decide_eq_false_iff_not] at h
        rw [hy]
        simp only [List.mem_cons, forall_eq_or_imp]
        exact not_congr ⟨fun h3 => ⟨by omega, h3⟩, fun h3 => h3.2⟩
  have h0 := key l.length 0 (by omega) (by omega)
  simp only [impl_GoodClient.f, slices_ContainsFunc_string_string.f, slices_IndexFunc_string_string.f, impl_areWays.f, within_eq, Option.bind_some]
  refine Tot.ite (fun h => ?_) (fun h => Tot.some_ ((decide_eq_false (fun h3 => h (by have := h3.1.1; omega))).symm))
  refine Tot.bind (Tot.bind (R := fun y => y = true ↔ ¬ ∀ x ∈ l, x.size ≤ 15) h0 (fun y hy => Tot.some_ ?_)) (fun y hy => ?_)
  · rw [decide_eq_true_iff, hy, List.drop_zero]
  · refine Tot.ite (fun h2 => Tot.some_ ?_) (fun h2 => ?_)
    · exact (decide_eq_false (fun h3 => (hy.1 h2) h3.1.2)).symm
    · have hall : ∀ x ∈ l, x.size ≤ 15 := Classical.byContradiction fun h3 => h2 (hy.2 h3)
      refine Tot.ite (fun h4 => Tot.some_ ?_) (fun h4 => Tot.some_ ?_)
      · rw [decide_eq_true_iff] at h4
        exact decide_eq_decide.2 ⟨fun h3 => ⟨⟨by omega, hall⟩, h4, h3⟩, fun h3 => h3.2.2⟩
      · rw [decide_eq_true_iff] at h4
        exact (decide_eq_false (fun h3 => h4 h3.2.1)).symm

theorem eqStringS_tot (l : List ByteArray) (hl : l.length ≤ 1048576) : Tot (fun k => laws_eqStringS.f k l l) (fun y => y = true) := by
  have h := fun k hk => loop_up (fun k (x : Int) => laws_eqStringS.l0 k l l x) l.length 0 (fun i => (i : Int)) true (fun i k hi _ => by
    simp only [laws_eqStringS.l0]
    rw [if_pos (by omega), if_pos (by omega), if_pos (by omega), if_pos trivial, w64 (by omega) (by omega)]
    rfl) (fun k _ => by
    simp only [laws_eqStringS.l0]
    rw [if_neg (by omega)]) k hk
  simp only [laws_eqStringS.f]
  exact Tot.pos trivial (Tot.at_ (l.length + 1) rfl (fun k hk => h k (by omega)))

def hd8 : List ByteArray → ByteArray
  | [] => ⟨#[]⟩
  | x :: _ => x
/-- What a step makes of a client: the queue, the tick, what goes out. -/
def stepO (q : List ByteArray) (t w k : Int) (x : ByteArray) : Option (List ByteArray × Int × Int × Int × Int × ByteArray) :=
  if k = 1 ∧ x.size ≤ 15 ∧ q.length < 5 then some (q ++ [x], t, 0, 0, 0, ⟨#[]⟩)
  else if k = 2 ∧ x.toList = [] ∧ t < 1000 then some (q.drop 1, t + 1, t, Int.tmod t w, 24, hd8 q)
  else none
def GoodC (q : List ByteArray) (t w : Int) : Prop := (q.length ≤ 5 ∧ ∀ x ∈ q, x.size ≤ 15) ∧ (0 ≤ t ∧ t ≤ 1000) ∧ (1 ≤ w ∧ w ≤ 4)
def outS (q : List ByteArray) (t w : Int) (o : Option (List ByteArray × Int × Int × Int × Int × ByteArray)) : List ByteArray × Int × Int × Int × Int × Int × ByteArray × Bool := match o with
  | some (q', t', a, b, c, x) => (q', t', w, a, b, c, x, true)
  | none => (q, t, w, 0, 0, 0, ⟨#[]⟩, false)
def outI (w : Int) (o : Option (List ByteArray × Int × Int × Int × Int × ByteArray)) : List ByteArray × Int × Int × Int × Int × Int × ByteArray × Bool := match o with
  | some (q', t', a, b, c, x) => (q', t', w, a, b, c, x, true)
  | none => ([], 0, 0, 0, 0, 0, ⟨#[]⟩, false)
theorem rd0 (q : List ByteArray) (h : 0 < q.length) : rdOf ByteArray.empty q 0 = hd8 q := by
  cases q with
  | nil => simp at h
  | cons x q => rfl
theorem specStep_tot (q : List ByteArray) (t w : Int) (hg : GoodC q t w) (k : Int) (x : ByteArray) : Tot (fun n => spec_l10Step.f n q t w k x) (fun y => y = outS q t w (stepO q t w k x)) := by
  obtain ⟨⟨h1, h2⟩, h3, h4⟩ := hg
  have j1f : Tot (fun n => spec_l10Step.j1 n false q t w) (fun y => y = (q, t, w, 0, 0, 0, ⟨#[]⟩, false)) := by
    refine Tot.up ?_
    simp only [spec_l10Step.j1]
    exact Tot.neg (by simp) (Tot.some_ rfl)
  have e1 : wrap64 (t + 1 - 1) = t := by rw [w64 (by omega) (by omega)]; omega
  have e2 : wrap64 (t + 1) = t + 1 := w64 (by omega) (by omega)
  have j1t : Tot (fun n => spec_l10Step.j1 n true q t w) (fun y => y = (q.drop 1, t + 1, w, t, Int.tmod t w, 24, hd8 q, true)) := by
    refine Tot.up ?_
    simp only [spec_l10Step.j1, e2, e1, spec_l10Emit.f]
    refine Tot.pos trivial (Tot.ite (fun hq => ?_) (fun hq => ?_))
    · refine Tot.pos (by omega) (Tot.bind (Tot.some_ rfl) (fun y hy => Tot.pos (by omega) (Tot.bind (Tot.some_ rfl) (fun z hz => ?_))))
      rw [← hy, ← hz]
      refine Tot.pos (by rw [List.length_drop]; simp only [List.length_nil]; omega) ?_
      refine Tot.bind (Q := fun u => u = (t, Int.tmod t w, 24)) (Tot.neg (by omega) (Tot.some_ rfl)) (fun u hu => Tot.some_ ?_)
      rw [hu, rd0 q (by omega), List.nil_append]
    · refine Tot.bind (Q := fun u => u = (t, Int.tmod t w, 24)) (Tot.neg (by omega) (Tot.some_ rfl)) (fun u hu => Tot.some_ ?_)
      have : q = [] := List.eq_nil_of_length_eq_zero (by omega)
      rw [hu, this]
      rfl
  have j0f : Tot (fun n => spec_l10Step.j0 n false q t w k x) (fun y => y = outS q t w (if k = 2 ∧ x.toList = [] ∧ t < 1000 then some (q.drop 1, t + 1, t, Int.tmod t w, 24, hd8 q) else none)) := by
    refine Tot.up ?_
    simp only [spec_l10Step.j0]
    refine Tot.neg (by simp) (Tot.ite (fun c1 => Tot.ite (fun c2 => ?_) (fun c2 => ?_)) (fun c1 => ?_))
    · by_cases c3 : t < 1000
      · rw [decide_eq_true c3, if_pos ⟨c1, c2, c3⟩]
        exact j1t
      · rw [decide_eq_false c3, if_neg (fun h => c3 h.2.2)]
        exact j1f
    · rw [if_neg (fun h => c2 h.2.1)]
      exact j1f
    · rw [if_neg (fun h => c1 h.1)]
      exact j1f
  have j0t : q.length < 5 → Tot (fun n => spec_l10Step.j0 n true q t w k x) (fun y => y = (q ++ [x], t, w, 0, 0, 0, ⟨#[]⟩, true)) := by
    intro hq
    refine Tot.up ?_
    simp only [spec_l10Step.j0]
    refine Tot.pos trivial (Tot.bind (Tot.some_ rfl) (fun y hy => ?_))
    rw [← hy]
    refine Tot.pos (by simp only [List.length_nil]; omega) (Tot.bind (Tot.some_ rfl) (fun z hz => Tot.bind (Tot.some_ rfl) (fun v hv => ?_)))
    rw [← hz, ← hv]
    exact Tot.pos (by simp only [List.nil_append, List.length_singleton]; omega) (Tot.some_ (by rw [List.nil_append]))
  simp only [spec_l10Step.f, spec_l10Text.f, stepO]
  refine Tot.ite (fun c1 => Tot.bind (Tot.some_ rfl) (fun b hb => ?_)) (fun c1 => ?_)
  · refine Tot.ite (fun c2 => ?_) (fun c2 => ?_)
    · have c2' : x.size ≤ 15 := by
        have := of_decide_eq_true (hb.symm ▸ c2 : decide ((x.size : Int) ≤ 15) = true)
        omega
      by_cases c3 : q.length < 5
      · rw [decide_eq_true (show (q.length : Int) < 5 by omega), if_pos ⟨c1, c2', c3⟩]
        exact j0t c3
      · rw [decide_eq_false (show ¬ (q.length : Int) < 5 by omega), if_neg (fun h => c3 h.2.2)]
        exact j0f
    · rw [if_neg (fun h => c2 (by rw [← hb]; exact decide_eq_true (show (x.size : Int) ≤ 15 by omega)))]
      exact j0f
  · rw [if_neg (fun h => c1 h.1)]
    exact j0f
theorem implStep_tot (q : List ByteArray) (t w : Int) (hg : GoodC q t w) (k : Int) (x : ByteArray) : Tot (fun n => impl_StepClient.f n q t w k x) (fun y => y = outI w (stepO q t w k x)) := by
  have hgb : goodC q t w = true := decide_eq_true hg
  obtain ⟨⟨h1, h2⟩, h3, h4⟩ := hg
  have e2 : wrap64 (t + 1) = t + 1 := w64 (by omega) (by omega)
  have j1f : Tot (fun n => impl_StepClient.j1 n false q t w) (fun y => y = ([], 0, 0, 0, 0, 0, ⟨#[]⟩, false)) := by
    refine Tot.up ?_
    simp only [impl_StepClient.j1]
    exact Tot.neg (by simp) (Tot.some_ rfl)
  have j1t : Tot (fun n => impl_StepClient.j1 n true q t w) (fun y => y = (q.drop 1, t + 1, w, t, Int.tmod t w, 24, hd8 q, true)) := by
    refine Tot.up ?_
    simp only [impl_StepClient.j1, e2, impl_emit.f]
    refine Tot.pos trivial (Tot.bind (Q := fun u => u = (t, Int.tmod t w, 24)) (Tot.neg (by omega) (Tot.some_ rfl)) (fun u hu => ?_))
    rw [hu]
    refine Tot.ite (fun hq => ?_) (fun hq => ?_)
    · refine Tot.pos (by omega) (Tot.pos (by omega) (Tot.some_ ?_))
      rw [rd0 q (by omega)]
      rfl
    · have : q = [] := List.eq_nil_of_length_eq_zero (by omega)
      rw [this]
      exact Tot.some_ rfl
  have j0f : Tot (fun n => impl_StepClient.j0 n false q t w k x) (fun y => y = outI w (if k = 2 ∧ x.toList = [] ∧ t < 1000 then some (q.drop 1, t + 1, t, Int.tmod t w, 24, hd8 q) else none)) := by
    refine Tot.up ?_
    simp only [impl_StepClient.j0]
    refine Tot.neg (by simp) (Tot.ite (fun c1 => Tot.ite (fun c2 => ?_) (fun c2 => ?_)) (fun c1 => ?_))
    · by_cases c3 : t < 1000
      · rw [decide_eq_true c3, if_pos ⟨c1, c2, c3⟩]
        exact j1t
      · rw [decide_eq_false c3, if_neg (fun h => c3 h.2.2)]
        exact j1f
    · rw [if_neg (fun h => c2 h.2.1)]
      exact j1f
    · rw [if_neg (fun h => c1 h.1)]
      exact j1f
  have j0t : q.length < 5 → Tot (fun n => impl_StepClient.j0 n true q t w k x) (fun y => y = (q ++ [x], t, w, 0, 0, 0, ⟨#[]⟩, true)) := by
    intro hq
    refine Tot.up ?_
    simp only [impl_StepClient.j0]
    exact Tot.pos trivial (Tot.pos (by omega) (Tot.some_ rfl))
  simp only [impl_StepClient.f, impl_isSaid.f, stepO, slices_Clone_string_string.f]
  refine Tot.bind (implGood_tot q (by omega) t w) (fun g eg => Tot.pos (eg.trans hgb) ?_)
  refine Tot.bind (Q := fun y => y = q) (Tot.pos (by omega) (Tot.some_ rfl)) (fun q' hq' => ?_)
  rw [hq']
  refine Tot.ite (fun c1 => Tot.bind (Tot.some_ rfl) (fun b hb => ?_)) (fun c1 => ?_)
  · refine Tot.ite (fun c2 => ?_) (fun c2 => ?_)
    · have c2' : x.size ≤ 15 := by
        have := of_decide_eq_true (hb.symm ▸ c2 : decide ((x.size : Int) < 16) = true)
        omega
      by_cases c3 : q.length < 5
      · rw [decide_eq_true (show (q.length : Int) < 5 by omega), if_pos ⟨c1, c2', c3⟩]
        exact j0t c3
      · rw [decide_eq_false (show ¬ (q.length : Int) < 5 by omega), if_neg (fun h => c3 h.2.2)]
        exact j0f
    · rw [if_neg (fun h => c2 (by rw [← hb]; exact decide_eq_true (show (x.size : Int) < 16 by omega)))]
      exact j0f
  · rw [if_neg (fun h => c1 h.1)]
    exact j0f
theorem step_good (q : List ByteArray) (t w : Int) (hg : GoodC q t w) (k : Int) (x : ByteArray) (q' : List ByteArray) (t' a b c : Int) (z : ByteArray) (h : stepO q t w k x = some (q', t', a, b, c, z)) : GoodC q' t' w := by
  obtain ⟨⟨h1, h2⟩, h3, h4⟩ := hg
  unfold stepO at h
  split at h
  · rename_i hc
    simp only [Option.some.injEq, Prod.mk.injEq] at h
    obtain ⟨rfl, rfl, _⟩ := h
    refine ⟨⟨by rw [List.length_append, List.length_singleton]; omega, fun y hy => ?_⟩, h3, h4⟩
    rcases List.mem_append.1 hy with hy | hy
    · exact h2 y hy
    · rw [List.mem_singleton.1 hy]
      exact hc.2.1
  · split at h
    · rename_i hc
      simp only [Option.some.injEq, Prod.mk.injEq] at h
      obtain ⟨rfl, rfl, _⟩ := h
      exact ⟨⟨by rw [List.length_drop]; omega, fun y hy => h2 y (List.mem_of_mem_drop hy)⟩, by omega, h4⟩
    · simp at h
theorem play_l0 (l : List S60) (hl : l.length ≤ 80) : ∀ (d i : Nat) (em : List S57) (tx : List ByteArray) (did : List Bool) (q : List ByteArray) (t w : Int), l.length - i = d → i ≤ l.length → em.length ≤ i → tx.length ≤ i → did.length ≤ i → GoodC q t w →
    ∃ y : List S57 × List ByteArray × List Bool × Bool, (y.1.length ≤ 80 ∧ y.2.1.length ≤ 80 ∧ y.2.2.1.length ≤ 80) ∧ Tot (fun k => spec_PlayCover.l0 k em tx did l (l.length : Int) (i : Int) q t w) (fun z => z = y) ∧ Tot (fun k => impl_PlayCover.l0 k em tx did l (l.length : Int) (i : Int) q t w) (fun z => z = y) := by
  intro d
  induction d with
  | zero =>
    intro i em tx did q t w hd hi h1 h2 h3 hg
    refine ⟨(em, tx, did, true), ⟨by simp only; omega, by simp only; omega, by simp only; omega⟩, ?_, ?_⟩
    · refine Tot.up ?_
      simp only [spec_PlayCover.l0]
      exact Tot.neg (by omega) (Tot.some_ rfl)
    · refine Tot.up ?_
      simp only [impl_PlayCover.l0]
      exact Tot.neg (by omega) (Tot.some_ rfl)
  | succ d ih =>
    intro i em tx did q t w hd hi h1 h2 h3 hg
    have hlt : i < l.length := by omega
    have hs := specStep_tot q t w hg l[i].f0 l[i].f1
    have hi' := implStep_tot q t w hg l[i].f0 l[i].f1
    have ew : wrap64 ((i : Int) + 1) = ((i + 1 : Nat) : Int) := by rw [w64 (by omega) (by omega)]; rfl
    cases ho : stepO q t w l[i].f0 l[i].f1 with
    | none =>
      obtain ⟨y, hy, ha, hb⟩ := ih (i + 1) em tx (did ++ [false]) q t w (by omega) (by omega) (by omega) (by omega) (by rw [List.length_append, List.length_singleton]; omega) hg
      rw [ho] at hs hi'
      refine ⟨y, hy, ?_, ?_⟩
      · refine Tot.up ?_
        simp only [spec_PlayCover.l0]
        refine Tot.pos (by omega) (Tot.pos (by omega) (Tot.pos (by omega) ?_))
        rw [rd60 l i hlt, ew]
        refine Tot.bind hs (fun u hu => ?_)
        rw [hu]
        exact Tot.neg (by simp [outS]) (Tot.pos (by omega) ha)
      · refine Tot.up ?_
        simp only [impl_PlayCover.l0]
        refine Tot.pos (by omega) (Tot.pos (by omega) (Tot.pos (by omega) ?_))
        rw [rd60 l i hlt, ew]
        refine Tot.bind hi' (fun u hu => ?_)
        rw [hu]
        refine Tot.pos (by omega) (Tot.bind (Tot.some_ rfl) (fun v hv => ?_))
        rw [← hv]
        exact Tot.neg (by simp [outI]) hb
    | some r =>
      obtain ⟨q', t', a, b, c, z⟩ := r
      have hg' := step_good q t w hg _ _ q' t' a b c z ho
      rw [ho] at hs hi'
      by_cases hk : l[i].f0 = 2
      · obtain ⟨y, hy, ha, hb⟩ := ih (i + 1) (em ++ [⟨a, b, c⟩]) (tx ++ [z]) (did ++ [true]) q' t' w (by omega) (by omega) (by rw [List.length_append, List.length_singleton]; omega) (by rw [List.length_append, List.length_singleton]; omega) (by rw [List.length_append, List.length_singleton]; omega) hg'
        refine ⟨y, hy, ?_, ?_⟩
        · refine Tot.up ?_
          simp only [spec_PlayCover.l0]
          refine Tot.pos (by omega) (Tot.pos (by omega) (Tot.pos (by omega) ?_))
          rw [rd60 l i hlt, ew]
          refine Tot.bind hs (fun u hu => ?_)
          rw [hu]
          exact Tot.pos (by simp [outS]) (Tot.pos hk (Tot.pos (by omega) (Tot.pos (by omega) (Tot.pos (by omega) ha))))
        · refine Tot.up ?_
          simp only [impl_PlayCover.l0]
          refine Tot.pos (by omega) (Tot.pos (by omega) (Tot.pos (by omega) ?_))
          rw [rd60 l i hlt, ew]
          refine Tot.bind hi' (fun u hu => ?_)
          rw [hu]
          refine Tot.pos (by omega) (Tot.bind (Tot.some_ rfl) (fun v hv => ?_))
          rw [← hv]
          exact Tot.pos (by simp [outI]) (Tot.pos hk (Tot.pos (by omega) (Tot.pos (by omega) hb)))
      · obtain ⟨y, hy, ha, hb⟩ := ih (i + 1) em tx (did ++ [true]) q' t' w (by omega) (by omega) (by omega) (by omega) (by rw [List.length_append, List.length_singleton]; omega) hg'
        refine ⟨y, hy, ?_, ?_⟩
        · refine Tot.up ?_
          simp only [spec_PlayCover.l0]
          refine Tot.pos (by omega) (Tot.pos (by omega) (Tot.pos (by omega) ?_))
          rw [rd60 l i hlt, ew]
          refine Tot.bind hs (fun u hu => ?_)
          rw [hu]
          exact Tot.pos (by simp [outS]) (Tot.neg hk (Tot.pos (by omega) ha))
        · refine Tot.up ?_
          simp only [impl_PlayCover.l0]
          refine Tot.pos (by omega) (Tot.pos (by omega) (Tot.pos (by omega) ?_))
          rw [rd60 l i hlt, ew]
          refine Tot.bind hi' (fun u hu => ?_)
          rw [hu]
          refine Tot.pos (by omega) (Tot.bind (Tot.some_ rfl) (fun v hv => ?_))
          rw [← hv]
          exact Tot.pos (by simp [outI]) (Tot.neg hk hb)
theorem play_tot (w : Int) (l : List S60) : ∃ y : List S57 × List ByteArray × List Bool × Bool, (y.1.length ≤ 80 ∧ y.2.1.length ≤ 80 ∧ y.2.2.1.length ≤ 80) ∧ Tot (fun k => spec_PlayCover.f k w l) (fun z => z = y) ∧ Tot (fun k => impl_PlayCover.f k w l) (fun z => z = y) := by
  by_cases hw : 1 ≤ w ∧ w ≤ 4
  · by_cases hl : l.length ≤ 80
    · obtain ⟨y, hy, ha, hb⟩ := play_l0 l hl l.length 0 [] [] [] [] 0 w rfl (by omega) (by simp) (by simp) (by simp) ⟨⟨by simp, by simp⟩, by omega, hw⟩
      refine ⟨y, hy, ?_, ?_⟩
      · simp only [spec_PlayCover.f, spec_NewClient.f, l1In_eq]
        refine Tot.bind (Q := fun u => u = ([], 0, w, true)) (Tot.bind (Tot.some_ rfl) (fun b hb' => Tot.pos (by rw [← hb']; exact decide_eq_true hw) (Tot.some_ rfl))) (fun u hu => ?_)
        rw [hu]
        refine Tot.pos rfl ?_
        rw [decide_eq_false (show ¬ (l.length : Int) > 80 by omega)]
        refine Tot.up ?_
        simp only [spec_PlayCover.j0]
        exact Tot.neg (by simp) ha
      · simp only [impl_PlayCover.f, impl_NewClient.f, impl_areWays.f, within_eq]
        refine Tot.bind (Q := fun u => u = ([], 0, w, true)) (Tot.bind (Tot.bind (Tot.some_ rfl) (fun b hb' => Tot.some_ hb')) (fun b hb' => Tot.pos (by rw [← hb']; exact decide_eq_true hw) (Tot.some_ rfl))) (fun u hu => ?_)
        rw [hu]
        refine Tot.pos rfl ?_
        rw [decide_eq_false (show ¬ (l.length : Int) > 80 by omega)]
        refine Tot.up ?_
        simp only [impl_PlayCover.j0]
        exact Tot.neg (by simp) hb
    · refine ⟨([], [], [], false), by simp, ?_, ?_⟩
      · simp only [spec_PlayCover.f, spec_NewClient.f, l1In_eq]
        refine Tot.bind (Q := fun u => u = ([], 0, w, true)) (Tot.bind (Tot.some_ rfl) (fun b hb' => Tot.pos (by rw [← hb']; exact decide_eq_true hw) (Tot.some_ rfl))) (fun u hu => ?_)
        rw [hu]
        refine Tot.pos rfl ?_
        rw [decide_eq_true (show (l.length : Int) > 80 by omega)]
        refine Tot.up ?_
        simp only [spec_PlayCover.j0]
        exact Tot.pos trivial (Tot.some_ rfl)
      · simp only [impl_PlayCover.f, impl_NewClient.f, impl_areWays.f, within_eq]
        refine Tot.bind (Q := fun u => u = ([], 0, w, true)) (Tot.bind (Tot.bind (Tot.some_ rfl) (fun b hb' => Tot.some_ hb')) (fun b hb' => Tot.pos (by rw [← hb']; exact decide_eq_true hw) (Tot.some_ rfl))) (fun u hu => ?_)
        rw [hu]
        refine Tot.pos rfl ?_
        rw [decide_eq_true (show (l.length : Int) > 80 by omega)]
        refine Tot.up ?_
        simp only [impl_PlayCover.j0]
        exact Tot.pos trivial (Tot.some_ rfl)
  · refine ⟨([], [], [], false), by simp, ?_, ?_⟩
    · simp only [spec_PlayCover.f, spec_NewClient.f, l1In_eq]
      refine Tot.bind (Q := fun u => u = ([], 0, 0, false)) (Tot.bind (Tot.some_ rfl) (fun b hb' => Tot.neg (by rw [← hb', decide_eq_false hw]; simp) (Tot.some_ rfl))) (fun u hu => ?_)
      rw [hu]
      refine Tot.neg (by simp) (Tot.up ?_)
      simp only [spec_PlayCover.j0]
      exact Tot.pos trivial (Tot.some_ rfl)
    · simp only [impl_PlayCover.f, impl_NewClient.f, impl_areWays.f, within_eq]
      refine Tot.bind (Q := fun u => u = ([], 0, 0, false)) (Tot.bind (Tot.bind (Tot.some_ rfl) (fun b hb' => Tot.some_ hb')) (fun b hb' => Tot.neg (by rw [← hb', decide_eq_false hw]; simp) (Tot.some_ rfl))) (fun u hu => ?_)
      rw [hu]
      refine Tot.neg (by simp) (Tot.up ?_)
      simp only [impl_PlayCover.j0]
      exact Tot.pos trivial (Tot.some_ rfl)

def bz (m : Int) : Bool := Int.tmod m 3 == 0
def mbs (m : Int) (n : Nat) : List Bool := (List.range n).map fun (i : Nat) => bz (m + (i : Int))
theorem mbs_length (m : Int) (n : Nat) : (mbs m n).length = n := by simp [mbs]
theorem mbs_get (m : Int) (n i : Nat) (h : i < n) (d : Bool) : (mbs m n).getD i d = bz (m + (i : Int)) := by
  rw [getDin _ d i (by rw [mbs_length]; exact h)]
  simp [mbs]
theorem rdB (l : List Bool) (i : Nat) (d : Bool) : rdOf d l (i : Int) = l.getD i d := by
  unfold rdOf
  rw [Int.toNat_natCast]
theorem eqBoolS_tot (l : List Bool) (hl : l.length ≤ 1048576) : Tot (fun k => laws_eqBoolS.f k l l) (fun y => y = true) := by
  have h := fun k hk => loop_up (fun k (x : Int) => laws_eqBoolS.l0 k l l x) l.length 0 (fun i => (i : Int)) true (fun i k hi _ => by
    simp only [laws_eqBoolS.l0, bne_self_eq_false]
    rw [if_pos (by omega), if_pos (by omega), if_pos (by omega), if_neg (by simp), w64 (by omega) (by omega)]
    rfl) (fun k _ => by
    simp only [laws_eqBoolS.l0]
    rw [if_neg (by omega)]) k hk
  simp only [laws_eqBoolS.f]
  exact Tot.pos trivial (Tot.at_ (l.length + 1) rfl (fun k hk => h k (by omega)))
theorem markBoolS_tot (l : List Bool) (hl : l.length ≤ 1048576) (m : Int) (h0 : 0 ≤ m) (h1 : m ≤ 4294967296) : Tot (fun k => laws_markBoolS.f k l m) (fun y => y = (m + (l.length : Int), mbs m l.length)) := by
  have hz := mbs_length m l.length
  have h := fun k hk => loop_up (fun k (x : List Bool × Int × Int) => laws_markBoolS.l0 k x.1 x.2.1 x.2.2) l.length 0 (fun i => (mixed (mbs m l.length) l i, m + (i : Int), (i : Int))) (m + (l.length : Int), mbs m l.length) (fun i k hi _ => by
    have e2 := mixed_length (mbs m l.length) l i hz
    have e3 := mixed_set (mbs m l.length) l i (bz (m + (i : Int))) hz hi (mbs_get m l.length i hi _)
    simp only [laws_markBoolS.l0, Int.toNat_natCast]
    rw [if_pos (by rw [e2]; omega), if_pos (by omega), w64 (n := m + (i : Int) + 1) (by omega) (by omega), w64 (n := (i : Int) + 1) (by omega) (by omega)]
    unfold bz at e3
    rw [e3, show m + (i : Int) + 1 = m + ((i + 1 : Nat) : Int) by omega]
    rfl) (fun k _ => by
    simp only [laws_markBoolS.l0]
    rw [if_neg (by rw [mixed_length _ _ _ hz]; omega), mixed_end _ _ _ (by omega) (by omega)]) k hk
  rw [mixed_zero] at h
  simp only [laws_markBoolS.f]
  refine Tot.at_ (l.length + 1) rfl (fun k hk => ?_)
  have h2 := h k (by omega)
  simpa using h2
theorem heldBoolS_tot (n : Nat) (hn : n ≤ 1048576) (m : Int) (h0 : 0 ≤ m) (h1 : m ≤ 4294967296) : Tot (fun k => laws_heldBoolS.f k (mbs m n) m) (fun y => y = m + (n : Int)) := by
  have hz := mbs_length m n
  have h := fun k hk => loop_up (fun k (x : Int × Int) => laws_heldBoolS.l0 k (mbs m n) x.1 x.2) n 0 (fun i => (m + (i : Int), (i : Int))) (m + (n : Int)) (fun i k hi _ => by
    simp only [laws_heldBoolS.l0]
    rw [if_pos (by omega), if_pos (by omega), rdB, mbs_get m n i hi, show (bz (m + (i : Int)) != (Int.tmod (m + (i : Int)) 3 == 0)) = false by unfold bz; simp, if_neg (by simp), w64 (n := m + (i : Int) + 1) (by omega) (by omega), w64 (n := (i : Int) + 1) (by omega) (by omega), show m + (i : Int) + 1 = m + ((i + 1 : Nat) : Int) by omega]
    rfl) (fun k _ => by
    simp only [laws_heldBoolS.l0]
    rw [if_neg (by omega)]) k hk
  simp only [laws_heldBoolS.f]
  refine Tot.at_ (n + 1) rfl (fun k hk => ?_)
  have h2 := h k (by omega)
  simpa using h2

noncomputable def mtc (m : Int) (n : Nat) : List S60 := (List.range n).map fun (i : Nat) => (⟨m + 2 * (i : Int), mt (m + 2 * (i : Int) + 1)⟩ : S60)
theorem mtc_length (m : Int) (n : Nat) : (mtc m n).length = n := by simp [mtc]
theorem mtc_get (m : Int) (n i : Nat) (h : i < n) : (mtc m n)[i]'(by rw [mtc_length]; exact h) = (⟨m + 2 * (i : Int), mt (m + 2 * (i : Int) + 1)⟩ : S60) := by simp [mtc]
theorem set_set {α : Type} (l : List α) (i : Nat) (x y : α) : (l.set i x).set i y = l.set i y := by simp
theorem markCoverStepS_tot (l : List S60) (hl : l.length ≤ 1048576) : Tot (fun k => laws_markCoverStepS.f k l 1) (fun y => y = (1 + 2 * (l.length : Int), mtc 1 l.length)) := by
  have hz := mtc_length 1 l.length
  have key : ∀ (d i : Nat), l.length - i = d → i ≤ l.length → Tot (fun k => laws_markCoverStepS.l0 k (mixed (mtc 1 l.length) l i) (1 + 2 * (i : Int)) (i : Int)) (fun y => y = (1 + 2 * (l.length : Int), mtc 1 l.length)) := by
    intro d
    induction d with
    | zero =>
      intro i hd hi
      refine Tot.up ?_
      have e : i = l.length := by omega
      subst e
      simp only [laws_markCoverStepS.l0]
      refine Tot.neg (by rw [mixed_length _ _ _ hz]; omega) (Tot.some_ ?_)
      rw [mixed_end _ _ _ (by omega) (by omega)]
    | succ d ih =>
      intro i hd hi
      refine Tot.up ?_
      simp only [laws_markCoverStepS.l0, Int.toNat_natCast]
      rw [w64 (n := 1 + 2 * (i : Int) + 1) (by omega) (by omega), w64 (n := 1 + 2 * (i : Int) + 1 + 1) (by omega) (by omega), w64 (n := (i : Int) + 1) (by omega) (by omega)]
      refine Tot.pos (by rw [mixed_length _ _ _ hz]; omega) (Tot.pos (by omega) (Tot.bind (Q := fun y => y = (mixed (mtc 1 l.length) l i).set i ⟨1 + 2 * (i : Int), (rd_T60 (mixed (mtc 1 l.length) l i) (i : Int)).f1⟩) (Tot.some_ rfl) (fun x hx => Tot.bind (mt_tot _ (by omega) (by omega)) (fun y hy => ?_))))
      rw [hy, hx, set_set, rd60 _ i (by rw [List.length_set, mixed_length _ _ _ hz]; omega), List.getElem_set_self]
      simp only
      rw [mixed_set _ _ i _ hz (by omega) (by rw [getDin _ _ i (by omega), mtc_get 1 _ i (by omega)]), show 1 + 2 * (i : Int) + 1 + 1 = 1 + 2 * ((i + 1 : Nat) : Int) by omega]
      exact ih (i + 1) (by omega) (by omega)
  have h := key l.length 0 (by omega) (by omega)
  rw [mixed_zero, show (1 : Int) + 2 * ((0 : Nat) : Int) = 1 by omega] at h
  exact h

def mkEmit (m : Int) : S57 := ⟨m, m + 1, m + 2⟩
def mkEmits (m : Int) (n : Nat) : List S57 := (List.range n).map fun (i : Nat) => mkEmit (m + 3 * (i : Int))
theorem mkEmits_length (m : Int) (n : Nat) : (mkEmits m n).length = n := by simp [mkEmits]
theorem mkEmits_get (m : Int) (n i : Nat) (d : S57) (h : i < n) : (mkEmits m n).getD i d = mkEmit (m + 3 * (i : Int)) := by
  rw [getDin _ d i (by rw [mkEmits_length]; exact h)]
  simp [mkEmits]

theorem eqEmitS_self (l : List S57) (hl : l.length ≤ 1048576) : ∀ k, l.length < k → laws_eqEmitS.f k l l = some true := by
  intro k hk
  unfold laws_eqEmitS.f
  rw [if_pos rfl]
  exact loop_up (fun k (x : Int) => laws_eqEmitS.l0 k l l x) l.length 0 (fun i => (i : Int)) true (fun i k hi _ => by
    simp only [laws_eqEmitS.l0, laws_eqEmit.f, if_true, Option.bind_some]
    rw [if_pos (by omega), if_pos (by omega), if_pos (by omega), w64 (by omega) (by omega)]
    rfl) (fun k _ => by
    simp only [laws_eqEmitS.l0]
    rw [if_neg (by omega)]) k hk

theorem markEmitS_eq (l : List S57) (hl : l.length ≤ 1048576) (m : Int) (h0 : 0 ≤ m) (h1 : m ≤ 4294967296) : ∀ k, l.length < k → laws_markEmitS.f k l m = some (m + 3 * (l.length : Int), mkEmits m l.length) := by
  intro k hk
  have h := loop_up (fun k (x : List S57 × Int × Int) => laws_markEmitS.l0 k x.1 x.2.1 x.2.2) l.length 0 (fun i => (mixed (mkEmits m l.length) l i, m + 3 * (i : Int), (i : Int))) (m + 3 * (l.length : Int), mkEmits m l.length) (fun i k hi _ => by
    have e : (mkEmits m l.length).length = l.length := mkEmits_length m l.length
    have e2 := mixed_length (mkEmits m l.length) l i e
    have e3 := mixed_set (mkEmits m l.length) l i (mkEmit (m + 3 * (i : Int))) e hi (mkEmits_get m l.length i _ hi)
    simp only [laws_markEmitS.l0, rd_T57, Option.bind_some, Int.toNat_natCast]
    rw [if_pos (by rw [e2]; omega), if_pos (by omega)]
    rw [w64 (n := m + 3 * (i : Int) + 1) (by omega) (by omega), w64 (n := m + 3 * (i : Int) + 1 + 1) (by omega) (by omega), w64 (n := m + 3 * (i : Int) + 1 + 1 + 1) (by omega) (by omega), w64 (n := (i : Int) + 1) (by omega) (by omega)]
    rw [getD_set _ _ _ _ (by first | omega | (rw [List.length_set]; omega)), List.set_set, getD_set _ _ _ _ (by first | omega | (rw [List.length_set]; omega)), List.set_set]
    rw [show m + 3 * (i : Int) + 1 + 1 = m + 3 * (i : Int) + 2 by omega]
    unfold mkEmit at e3
    rw [e3, show m + 3 * (i : Int) + 2 + 1 = m + 3 * ((i + 1 : Nat) : Int) by omega]
    rfl) (fun k _ => by
    simp only [laws_markEmitS.l0]
    rw [if_neg (by rw [mixed_length _ _ _ (mkEmits_length m l.length)]; omega), mixed_end _ _ _ (by rw [mkEmits_length]; omega) (by omega)]) k hk
  rw [mixed_zero] at h
  simpa [laws_markEmitS.f] using h

theorem heldEmitS_eq (n : Nat) (hn : n ≤ 1048576) (m : Int) (h0 : 0 ≤ m) (h1 : m ≤ 4294967296) : ∀ k, n < k → laws_heldEmitS.f k (mkEmits m n) m = some (m + 3 * (n : Int)) := by
  intro k hk
  have h := loop_up (fun k (x : Int × Int) => laws_heldEmitS.l0 k (mkEmits m n) x.1 x.2) n 0 (fun i => (m + 3 * (i : Int), (i : Int))) (m + 3 * (n : Int)) (fun i k hi _ => by
    simp only [laws_heldEmitS.l0, rd_T57, Option.bind_some, Int.toNat_natCast, mkEmits_get m n i _ hi, mkEmit]
    rw [w64 (n := m + 3 * (i : Int) + 1) (by omega) (by omega), w64 (n := m + 3 * (i : Int) + 1 + 1) (by omega) (by omega), w64 (n := m + 3 * (i : Int) + 1 + 1 + 1) (by omega) (by omega), w64 (n := (i : Int) + 1) (by omega) (by omega)]
    rw [if_pos (by rw [mkEmits_length]; omega), if_pos (by omega), if_pos (by first | trivial | omega), if_pos (by first | trivial | omega), if_pos (by first | trivial | omega), show m + 3 * (i : Int) + 1 + 1 + 1 = m + 3 * ((i + 1 : Nat) : Int) by omega]
    rfl) (fun k _ => by
    simp only [laws_heldEmitS.l0]
    rw [if_neg (by rw [mkEmits_length]; omega)]) k hk
  simpa [laws_heldEmitS.f] using h

noncomputable def mts (m : Int) (n : Nat) : List ByteArray := (List.range n).map fun (i : Nat) => mt (m + (i : Int))
theorem mts_length (m : Int) (n : Nat) : (mts m n).length = n := by simp [mts]
theorem mts_get (m : Int) (n i : Nat) (h : i < n) : (mts m n)[i]'(by rw [mts_length]; exact h) = mt (m + (i : Int)) := by simp [mts]
theorem markStringS_tot (l : List ByteArray) (hl : l.length ≤ 1048576) (m : Int) (h0 : 0 ≤ m) (h1 : m ≤ 4294967296) : Tot (fun k => laws_markStringS.f k l m) (fun y => y = (m + (l.length : Int), mts m l.length)) := by
  have hz := mts_length m l.length
  have key : ∀ (d i : Nat), l.length - i = d → i ≤ l.length → Tot (fun k => laws_markStringS.l0 k (mixed (mts m l.length) l i) (m + (i : Int)) (i : Int)) (fun y => y = (m + (l.length : Int), mts m l.length)) := by
    intro d
    induction d with
    | zero =>
      intro i hd hi
      refine Tot.up ?_
      have e : i = l.length := by omega
      subst e
      simp only [laws_markStringS.l0]
      refine Tot.neg (by rw [mixed_length _ _ _ hz]; omega) (Tot.some_ ?_)
      rw [mixed_end _ _ _ (by omega) (by omega)]
    | succ d ih =>
      intro i hd hi
      refine Tot.up ?_
      simp only [laws_markStringS.l0]
      refine Tot.pos (by rw [mixed_length _ _ _ hz]; omega) (Tot.bind (mt_tot _ (by omega) (by omega)) (fun y hy => Tot.pos (by omega) ?_))
      rw [hy, Int.toNat_natCast, mixed_set _ _ i _ hz (by omega) (by rw [getDin _ _ i (by omega), mts_get m _ i (by omega)]), w64 (n := m + (i : Int) + 1) (by omega) (by omega), w64 (n := (i : Int) + 1) (by omega) (by omega), show m + (i : Int) + 1 = m + ((i + 1 : Nat) : Int) by omega]
      exact ih (i + 1) (by omega) (by omega)
  have h := key l.length 0 (by omega) (by omega)
  rw [mixed_zero, show m + ((0 : Nat) : Int) = m by omega] at h
  exact h
theorem heldStringS_tot (n : Nat) (hn : n ≤ 1048576) (m : Int) (h0 : 0 ≤ m) (h1 : m ≤ 4294967296) : Tot (fun k => laws_heldStringS.f k (mts m n) m) (fun y => y = m + (n : Int)) := by
  have hz := mts_length m n
  have key : ∀ (d i : Nat), n - i = d → i ≤ n → Tot (fun k => laws_heldStringS.l0 k (mts m n) (m + (i : Int)) (i : Int)) (fun y => y = m + (n : Int)) := by
    intro d
    induction d with
    | zero =>
      intro i hd hi
      refine Tot.up ?_
      simp only [laws_heldStringS.l0]
      refine Tot.neg (by rw [hz]; omega) (Tot.some_ (by omega))
    | succ d ih =>
      intro i hd hi
      refine Tot.up ?_
      simp only [laws_heldStringS.l0]
      refine Tot.pos (by rw [hz]; omega) (Tot.pos (by omega) (Tot.bind (mt_tot _ (by omega) (by omega)) (fun y hy => ?_)))
      rw [hy, rdStr _ i (by omega), mts_get m n i (by omega), w64 (n := m + (i : Int) + 1) (by omega) (by omega), w64 (n := (i : Int) + 1) (by omega) (by omega), show m + (i : Int) + 1 = m + ((i + 1 : Nat) : Int) by omega]
      exact Tot.pos rfl (ih (i + 1) (by omega) (by omega))
  have h := key n 0 (by omega) (by omega)
  rw [show m + ((0 : Nat) : Int) = m by omega] at h
  exact h

theorem emE_tot (l : List S57) (hl : l.length ≤ 1048576) : Tot (fun k => laws_eqEmitS.f k l l) (fun y => y = true) := Tot.at_ (l.length + 1) rfl (fun k hk => eqEmitS_self l hl k (by omega))
theorem emM_tot (l : List S57) (hl : l.length ≤ 1048576) : Tot (fun k => laws_markEmitS.f k l 1) (fun y => y = (1 + 3 * (l.length : Int), mkEmits 1 l.length)) := Tot.at_ (l.length + 1) rfl (fun k hk => markEmitS_eq l hl 1 (by omega) (by omega) k (by omega))
theorem emH_tot (n : Nat) (hn : n ≤ 1048576) : Tot (fun k => laws_heldEmitS.f k (mkEmits 1 n) 1) (fun y => y = 1 + 3 * (n : Int)) := Tot.at_ (n + 1) rfl (fun k hk => heldEmitS_eq n hn 1 (by omega) (by omega) k (by omega))
theorem FnExactPlayCover : laws_FnExactPlayCover.Pure := by
  intro a l ha hl
  have hmx : maxLen = 9223372036854775807 := rfl
  have hs : ∀ x ∈ l, x.f1.size ≤ maxLen := fun x hx => (hl.2 x hx).2
  refine Tot.ex ?_
  simp only [laws_FnExactPlayCover.f]
  refine Tot.bind (szCoverStepS_tot l hl.1 hs) (fun y0 h0 => Tot.ite (fun _ => Tot.some_ rfl) (fun hy0 => ?_))
  have hll := h0 (by omega)
  have hc : (toCss l).length ≤ 1048576 := by rw [toCss_length]; omega
  obtain ⟨⟨em, tx, did, ok⟩, ⟨hb1, hb2, hb3⟩, hsp, him⟩ := play_tot a (toCss l)
  simp only at hb1 hb2 hb3
  refine Tot.bind (toCoverStepS_tot l hll) (fun y1 e1 => ?_)
  rw [e1]
  refine Tot.bind hsp (fun y2 e2 => ?_)
  rw [e2]
  refine Tot.bind (toCoverStepS_tot l hll) (fun y3 e3 => ?_)
  rw [e3]
  refine Tot.bind him (fun y4 e4 => ?_)
  rw [e4]
  refine Tot.bind (emE_tot em (by omega)) (fun y5 e5 => Tot.pos e5 ?_)
  refine Tot.bind (eqStringS_tot tx (by omega)) (fun y6 e6 => Tot.pos e6 ?_)
  refine Tot.bind (eqBoolS_tot did (by omega)) (fun y7 e7 => Tot.pos e7 ?_)
  refine Tot.up ?_
  simp only [laws_FnExactPlayCover.j0, bne_self_eq_false]
  refine Tot.neg (by simp) (Tot.bind (toCoverStepS_tot l hll) (fun y8 e8 => ?_))
  rw [e8]
  refine Tot.bind (eqCoverStepS_tot _ hc) (fun y9 e9 => Tot.pos e9 ?_)
  refine Tot.bind (markCoverStepS_tot _ hc) (fun y10 e10 => ?_)
  rw [e10]
  refine Tot.neg (by simp only; omega) ?_
  refine Tot.bind (emE_tot em (by omega)) (fun y5 e5 => Tot.pos e5 ?_)
  refine Tot.bind (eqStringS_tot tx (by omega)) (fun y6 e6 => Tot.pos e6 ?_)
  refine Tot.bind (eqBoolS_tot did (by omega)) (fun y7 e7 => Tot.pos e7 ?_)
  refine Tot.up ?_
  simp only [laws_FnExactPlayCover.j1]
  refine Tot.neg (by simp) (Tot.bind (emM_tot em (by omega)) (fun y11 e11 => ?_))
  rw [e11]
  simp only
  refine Tot.bind (markStringS_tot tx (by omega) _ (by omega) (by omega)) (fun y12 e12 => ?_)
  rw [e12]
  simp only
  refine Tot.bind (markBoolS_tot did (by omega) _ (by omega) (by omega)) (fun y13 e13 => ?_)
  rw [e13]
  simp only
  have hE := emH_tot em.length (by omega)
  have hS := heldStringS_tot tx.length (by omega) (1 + 3 * (em.length : Int)) (by omega) (by omega)
  have hB := heldBoolS_tot did.length (by omega) (1 + 3 * (em.length : Int) + (tx.length : Int)) (by omega) (by omega)
  refine Tot.bind hE (fun y14 e14 => Tot.neg (by omega) ?_)
  rw [e14]
  refine Tot.bind hS (fun y15 e15 => Tot.neg (by omega) ?_)
  rw [e15]
  refine Tot.bind hB (fun y16 e16 => Tot.neg (by omega) (Tot.pos e16 ?_))
  refine Tot.bind (toCoverStepS_tot l hll) (fun y17 e17 => ?_)
  rw [e17]
  refine Tot.bind him (fun y18 e18 => ?_)
  rw [e18]
  refine Tot.bind (emE_tot em (by omega)) (fun y5 e5 => Tot.pos e5 ?_)
  refine Tot.bind (eqStringS_tot tx (by omega)) (fun y6 e6 => Tot.pos e6 ?_)
  refine Tot.bind (eqBoolS_tot did (by omega)) (fun y7 e7 => Tot.pos e7 ?_)
  refine Tot.up ?_
  simp only [laws_FnExactPlayCover.j2, bne_self_eq_false]
  refine Tot.neg (by simp) (Tot.bind hE (fun y14 e14 => Tot.neg (by omega) ?_))
  rw [e14]
  refine Tot.bind hS (fun y15 e15 => Tot.neg (by omega) ?_)
  rw [e15]
  exact Tot.bind hB (fun y16 e16 => Tot.neg (by omega) (Tot.pos e16 (Tot.some_ rfl)))

end Go.Proofs.Ytdiehchbbhlfgaa.Pure
