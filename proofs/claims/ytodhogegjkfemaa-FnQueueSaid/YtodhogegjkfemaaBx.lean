/- A region that draws its order, in which two boxes may be made at any time beside a chain of calls: the chain is walked once. Conditions: as each theorem says. -/
import Derived.Test.YtodhogegjkfemaaHand
set_option linter.unusedVariables false
set_option linter.unusedSimpArgs false
namespace Go.Proofs.Ytodhogegjkfemaa.Bx
open Go.RowKit Go.Proofs.YtodhogegjkfemaaW.PrintWords Go.Proofs.YtodhogegjkfemaaW.PrintLast
section
variable {P : Program} {ops : Array Oper} {Q : Exit → Act → World → Prop} {md : Region.Mode} {S : World → Prop} {ds : List Nat}
theorem wpOp_putv {j : Nat} {oj : Oper} {N : Tmp} (v : Value) (hj : ops[j]? = some oj) (h1 : N ∉ oj.looksAt ops) (h2 : oj.dst ≠ some N) (hsj : ∀ cs b, oj.op ≠ .select cs b)
    (hQ : ∀ c a w, Q (.panic c) a w → Q (.panic c) (a.put (some N) v) w) {K : Act → World → Prop} {a : Act} {w : World} (h : wpOp P ops Q j K a w) :
    wpOp P ops Q j (fun a' w' => ∃ a0, a' = Act.put a0 (some N) v ∧ K a0 w') (a.put (some N) v) w := by
  have h1' : ∀ d, some N = some d → d ∉ oj.looksAt ops := fun d e => by cases e; exact h1
  have h2' : ∀ d, some N = some d → oj.dst ≠ some d := fun d e => by cases e; exact h2
  unfold wpOp at *
  simp only [hj] at *
  rw [wanted_put oj a (some N) v h1']
  split
  · rename_i hw
    simp only [hw, if_true] at h
    rcases h with h | ⟨hasks, hlets⟩
    case inr => exact .inr ⟨by unfold Oper.asks at *; rw [execOp_put oj hsj a (some N) v h1']; exact hasks, hlets⟩
    refine .inl ?_
    unfold Oper.wp at *
    rw [execOp_put oj hsj a (some N) v h1']
    generalize (execOp a.eval oj).run P w = r at *
    cases r with
    | ok n w' =>
      cases n <;> simp only [Oper.upon] at h ⊢
      case value u => exact ⟨_, Act.put_comm a v u h2', h⟩
      case skip => exact ⟨_, Act.put_comm a v undef h2', h⟩
      case defer d =>
        refine ⟨_, ?_, h⟩
        rw [Act.put_defers, Act.put_comm _ v undef h2']
      case enter f args =>
        refine Calls.mono h fun e w'' he => ?_
        cases e with
        | returned u => exact ⟨_, Act.put_comm a v u h2', he⟩
        | panicked c => exact hQ _ _ _ he
        | outgrown => exact he
      case row row args => exact Rows.mono h fun u w'' he => ⟨_, Act.put_comm a v u h2', he⟩
    | halt x w' =>
      cases x <;> simp only [Oper.upon] at h ⊢
      case panic u => exact hQ _ _ _ h
  · rename_i hw
    simp only [hw] at h
    exact ⟨_, Act.put_comm a v undef h2', h⟩
inductive Stp | pure (c : Nat) | call (c : Nat)
def EnvW (P : Program) (ops : Array Oper) (Q : Exit → Act → World → Prop) (S : World → Prop) (t1 t2 : TypeId) (Z : Act → World → Prop) : List Stp → Act → World → Prop
  | [], a, w => ∀ w', Below w.heap.size w w' → S w' → Z a w'
  | .pure c :: r, a, w => ∃ oc v, ops[c]? = some oc ∧ Yields P ops oc v a ∧ EnvW P ops Q S t1 t2 Z r (a.put oc.dst v) w
  | .call c :: r, a, w => ∃ oc, ops[c]? = some oc ∧ ∀ w', Below w.heap.size w w' → S w' → ∀ K : Act → World → Prop, Shut (∀ a' w'', S w'' → (∀ (g : Nat) (cs : Array Value) (t : TypeId), (t = t1 ∨ t = t2) → w'.heap[g]? = some (Obj.cells cs t (0, 0)) → w''.heap[g]? = w'.heap[g]?) → (w'.heap.size ≤ w''.heap.size) → (S w'' → EnvW P ops Q S t1 t2 Z r a' w'') → K a' w'') →
      if Region.wanted oc (yielded ops a.tmps) = true then Oper.wp P oc a w' K Q else K (a.put oc.dst undef) w'
theorem EnvW.grow {t1 t2 : TypeId} {Z : Act → World → Prop} : ∀ (plan : List Stp) {a : Act} {w w' : World}, EnvW P ops Q S t1 t2 Z plan a w → Below w.heap.size w w' → EnvW P ops Q S t1 t2 Z plan a w'
  | [], _, _, _, h, hb => fun w2 hb2 hS => h w2 (below_step hb hb2) hS
  | .pure c :: r, _, _, _, ⟨oc, v, h1, h2, h3⟩, hb => ⟨oc, v, h1, h2, EnvW.grow r h3 hb⟩
  | .call c :: r, _, _, _, ⟨oc, h1, h2⟩, hb => ⟨oc, h1, fun w2 hb2 hS => h2 w2 (below_step hb hb2) hS⟩
def bl (l : Array Bool) (i j : Nat) (b1 b2 : Bool) : Array Bool := (l.setIfInBounds i b1).setIfInBounds j b2
def ba (a : Act) (N1 N2 : Tmp) (x1 x2 : Value) : Act := (a.put (some N1) x1).put (some N2) x2
def combos : List (Bool × Bool) := [(false, false), (false, true), (true, false), (true, true)]
def sepB (ops : Array Oper) (N1 N2 : Tmp) (c : Nat) : Bool := match ops[c]? with
  | none => false
  | some oc => !(oc.looksAt ops).contains N1 && !(oc.looksAt ops).contains N2 && oc.dst != some N1 && oc.dst != some N2
def planB (md : Region.Mode) (ops : Array Oper) (ds : List Nat) (i j : Nat) (N1 N2 : Tmp) (lend : Array Bool) : Array Bool → List Stp → Bool
  | l, [] => (Region.ready md ops (bl l i j false false) == [i, j]) && (Region.ready md ops (bl l i j false true) == [i]) && (Region.ready md ops (bl l i j true false) == [j]) && (bl l i j true true == lend)
  | l, .pure c :: r => combos.all (fun b => anyB md ops (bl l i j b.1 b.2) (bl (l.setIfInBounds c true) i j b.1 b.2) c) && sepB ops N1 N2 c && (c != i) && (c != j) && planB md ops ds i j N1 N2 lend (l.setIfInBounds c true) r
  | l, .call c :: r => (Region.ready md ops (bl l i j false false) == [c, i, j]) && (Region.ready md ops (bl l i j false true) == [c, i]) && (Region.ready md ops (bl l i j true false) == [c, j]) && (Region.ready md ops (bl l i j true true) == [c]) && !ds.contains c
      && sepB ops N1 N2 c && (c != i) && (c != j) && planB md ops ds i j N1 N2 lend (l.setIfInBounds c true) r
def nb (b : Bool) : Nat := if b then 0 else 1
theorem bl_i (l : Array Bool) {i j : Nat} (h : i ≠ j) (b1 b2 : Bool) : (bl l i j b1 b2).setIfInBounds i true = bl l i j true b2 := by
  unfold bl
  rw [Array.setIfInBounds_comm _ _ (Ne.symm h), Array.setIfInBounds_setIfInBounds]
theorem bl_j (l : Array Bool) (i j : Nat) (b1 b2 : Bool) : (bl l i j b1 b2).setIfInBounds j true = bl l i j b1 true := by
  unfold bl
  rw [Array.setIfInBounds_setIfInBounds]
theorem bl_c (l : Array Bool) {i j c : Nat} (h1 : c ≠ i) (h2 : c ≠ j) (b1 b2 : Bool) : (bl l i j b1 b2).setIfInBounds c true = bl (l.setIfInBounds c true) i j b1 b2 := by
  unfold bl
  rw [Array.setIfInBounds_comm _ _ (Ne.symm h2), Array.setIfInBounds_comm _ _ (Ne.symm h1)]
theorem put_twice (a : Act) (N : Tmp) (x y : Value) : (a.put (some N) x).put (some N) y = a.put (some N) y := by
  simp [Act.put]
theorem ba_1 (a : Act) {N1 N2 : Tmp} (h : N1 ≠ N2) (x1 x2 v : Value) : (ba a N1 N2 x1 x2).put (some N1) v = ba a N1 N2 v x2 := by
  unfold ba
  rw [Act.put_comm _ x2 v (fun d e => by cases e; simpa using h), put_twice]
theorem ba_2 (a : Act) (N1 N2 : Tmp) (x1 x2 v : Value) : (ba a N1 N2 x1 x2).put (some N2) v = ba a N1 N2 x1 v := by
  unfold ba
  rw [put_twice]
theorem boxes_run {i j : Nat} {oi oj : Oper} {N1 N2 : Tmp} {cs1 cs2 : Array Value} {t1 t2 : TypeId} {m lo : Nat} {lend : Array Bool} (hi : ops[i]? = some oi) (hj : ops[j]? = some oj) (hij : i ≠ j) (hdi : i ∉ ds) (hdj : j ∉ ds) (hN : N1 ≠ N2) (hd1 : oi.dst = some N1) (hd2 : oj.dst = some N2)
    (hg1 : oi.guard = none) (hg2 : oj.guard = none) (hsel : Region.noSelect ops = true)
    (box1 : ∀ a : Act, ∀ w, (execOp a.eval oi).run P w = .ok (.value (.pointer (some ⟨w.heap.size, 0, none⟩))) (w.alloc (.cells cs1 t1 (0, 0))))
    (box2 : ∀ a : Act, ∀ w, (execOp a.eval oj).run P w = .ok (.value (.pointer (some ⟨w.heap.size, 0, none⟩))) (w.alloc (.cells cs2 t2 (0, 0))))
    (hS : ∀ w w', Below w.heap.size w w' → S w → S w') (hQ0 : ∀ c a w (N : Tmp) v, Q (.panic c) (Act.put a (some N) v) w ↔ Q (.panic c) a w) :
    ∀ (n : Nat) (plan : List Stp) (b1 b2 : Bool) (x1 x2 : Value) (l : Array Bool) (a : Act) (w : World), plan.length + nb b1 + nb b2 = n → planB md ops ds i j N1 N2 lend l plan = true → S w → lo ≤ w.heap.size →
      EnvW P ops Q S t1 t2 (fun a w => ∀ g1 g2, w.heap[g1]? = some (.cells cs1 t1 (0, 0)) → w.heap[g2]? = some (.cells cs2 t2 (0, 0)) → lo ≤ g1 → lo ≤ g2 → g1 ≠ g2 → wpAnyLast P md ops Q S ds m lend (ba a N1 N2 (.pointer (some ⟨g1, 0, none⟩)) (.pointer (some ⟨g2, 0, none⟩))) w) plan a w →
      (b1 = true → ∃ g, x1 = .pointer (some ⟨g, 0, none⟩) ∧ w.heap[g]? = some (.cells cs1 t1 (0, 0)) ∧ lo ≤ g) → (b2 = true → ∃ g, x2 = .pointer (some ⟨g, 0, none⟩) ∧ w.heap[g]? = some (.cells cs2 t2 (0, 0)) ∧ lo ≤ g) → (b1 = true → b2 = true → x1 ≠ x2) →
      wpAnyLast P md ops Q S ds (n + m) (bl l i j b1 b2) (ba a N1 N2 x1 x2) w := by
  have hsel' := Region.noSelect_spec hsel
  have hQ : ∀ c a w N v, Q (.panic c) (Act.put a N v) w ↔ Q (.panic c) a w := fun c a w N v => by
    cases N with
    | none => exact Iff.rfl
    | some N => exact hQ0 c a w N v
  have w1 : ∀ y, Region.wanted oi y = true := fun y => by unfold Region.wanted; rw [hg1]
  have w2 : ∀ y, Region.wanted oj y = true := fun y => by unfold Region.wanted; rw [hg2]
  -- a box that is made now
  have key : ∀ (n : Nat) (plan : List Stp) (x1 x2 : Value) (b1 b2 : Bool) (l : Array Bool) (a : Act) (w : World), plan.length + nb b1 + nb b2 = n + 1 → True := fun _ _ _ _ _ _ _ _ _ _ => trivial
  intro n
  induction n with
  | zero =>
    intro plan b1 b2 x1 x2 l a w hn hp hw hlo hE h1 h2 h3
    obtain rfl : plan = [] := List.eq_nil_of_length_eq_zero (by omega)
    obtain rfl : b1 = true := by cases b1 <;> simp [nb] at hn ⊢
    obtain rfl : b2 = true := by cases b2 <;> simp [nb] at hn ⊢
    obtain ⟨g1, rfl, e1, k1⟩ := h1 rfl
    obtain ⟨g2, rfl, e2, k2⟩ := h2 rfl
    simp only [planB, Bool.and_eq_true, beq_iff_eq] at hp
    rw [hp.2, Nat.zero_add]
    exact hE w (Below.refl _ _) hw g1 g2 e1 e2 k1 k2 (fun e => h3 rfl rfl (by rw [e]))
  | succ n ih =>
    intro plan b1 b2 x1 x2 l a w hn hp hw hlo hE h1 h2 h3
    rw [show n + 1 + m = (n + m) + 1 by omega]
    have B1 : b1 = false → wpOp P ops Q i (fun a' w' => (i ∉ ds → S w → S w') ∧ wpAnyLast P md ops Q S ds (n + m) ((bl l i j b1 b2).setIfInBounds i true) a' w') (ba a N1 N2 x1 x2) w := fun hb => by
      subst hb
      have hb : Below w.heap.size w (w.alloc (.cells cs1 t1 (0, 0))) := below_alloc (Below.refl _ _) _
      unfold wpOp
      simp only [hi, w1, if_true]
      refine .inl ?_
      unfold Oper.wp
      rw [box1]
      simp only [Oper.upon]
      refine ⟨fun _ h => hS _ _ hb h, ?_⟩
      rw [hd1, ba_1 a hN, bl_i l hij]
      refine ih plan true b2 _ x2 l a _ (by simp [nb] at hn ⊢; omega) hp (hS _ _ hb hw) (by simp; omega) (hE.grow plan hb) (fun _ => ⟨_, rfl, blk_new w _, hlo⟩) (fun h => ?_) (fun _ h => ?_)
      · obtain ⟨g, e, e2, k⟩ := h2 h
        exact ⟨g, e, (hb.block g (Array.getElem?_eq_some_iff.1 e2).1).trans e2, k⟩
      · obtain ⟨g, rfl, e2, k⟩ := h2 h
        have := (Array.getElem?_eq_some_iff.1 e2).1
        intro e
        injection e with e
        injection e with e
        injection e with e
        omega
    have B2 : b2 = false → wpOp P ops Q j (fun a' w' => (j ∉ ds → S w → S w') ∧ wpAnyLast P md ops Q S ds (n + m) ((bl l i j b1 b2).setIfInBounds j true) a' w') (ba a N1 N2 x1 x2) w := fun hb => by
      subst hb
      have hb : Below w.heap.size w (w.alloc (.cells cs2 t2 (0, 0))) := below_alloc (Below.refl _ _) _
      unfold wpOp
      simp only [hj, w2, if_true]
      refine .inl ?_
      unfold Oper.wp
      rw [box2]
      simp only [Oper.upon]
      refine ⟨fun _ h => hS _ _ hb h, ?_⟩
      rw [hd2, ba_2, bl_j]
      refine ih plan b1 true x1 _ l a _ (by simp [nb] at hn ⊢; omega) hp (hS _ _ hb hw) (by simp; omega) (hE.grow plan hb) (fun h => ?_) (fun _ => ⟨_, rfl, blk_new w _, hlo⟩) (fun h _ => ?_)
      · obtain ⟨g, e, e2, k⟩ := h1 h
        exact ⟨g, e, (hb.block g (Array.getElem?_eq_some_iff.1 e2).1).trans e2, k⟩
      · obtain ⟨g, rfl, e2, k⟩ := h1 h
        have := (Array.getElem?_eq_some_iff.1 e2).1
        intro e
        injection e with e
        injection e with e
        injection e with e
        omega
    cases plan with
    | nil =>
      simp only [planB, Bool.and_eq_true, beq_iff_eq] at hp
      obtain ⟨⟨⟨p1, p2⟩, p3⟩, p4⟩ := hp
      cases b1 <;> cases b2
      · refine wpAnyLast_all p1 (by simp) (fun k hk => ?_)
        simp only [List.mem_cons, List.not_mem_nil, or_false] at hk
        rcases hk with rfl | rfl
        · exact B1 rfl
        · exact B2 rfl
      · refine wpAnyLast_all p2 (by simp) (fun k hk => ?_)
        simp only [List.mem_cons, List.not_mem_nil, or_false] at hk
        subst hk
        exact B1 rfl
      · refine wpAnyLast_all p3 (by simp) (fun k hk => ?_)
        simp only [List.mem_cons, List.not_mem_nil, or_false] at hk
        subst hk
        exact B2 rfl
      · simp [nb] at hn
    | cons s r =>
      cases s with
      | pure c =>
        simp only [planB, Bool.and_eq_true, bne_iff_ne] at hp
        obtain ⟨⟨⟨⟨p1, p2⟩, p3⟩, p4⟩, p5⟩ := hp
        obtain ⟨oc, v, hc, hy, hE⟩ := hE
        have p1' : anyB md ops (bl l i j b1 b2) (bl (l.setIfInBounds c true) i j b1 b2) c = true := by
          have := List.all_eq_true.1 p1 (b1, b2) (by cases b1 <;> cases b2 <;> simp [combos])
          exact this
        unfold sepB at p2
        rw [hc] at p2
        simp only [Bool.and_eq_true, Bool.not_eq_true', List.contains_eq_mem, decide_eq_false_iff_not, bne_iff_ne] at p2
        obtain ⟨⟨⟨q1, q2⟩, q3⟩, q4⟩ := p2
        have n1 : ∀ d, some N1 = some d → d ∉ oc.looksAt ops := fun d e => by cases e; exact q1
        have n2 : ∀ d, some N2 = some d → d ∉ oc.looksAt ops := fun d e => by cases e; exact q2
        have hy2 : Yields P ops oc v (ba a N1 N2 x1 x2) := by
          unfold ba
          have hs := hsel' c oc
          exact (hy.of_same (execOp_put oc (fun cs b => hs cs b hc) a (some N1) x1 n1) (wanted_put oc a (some N1) x1 n1)).of_same (execOp_put oc (fun cs b => hs cs b hc) _ (some N2) x2 n2) (wanted_put oc _ (some N2) x2 n2)
        refine pure_ (i := c) (N := oc.dst) (v := v) (bl (l.setIfInBounds c true) i j b1 b2) hc rfl p1' (fun c a w h => (hQ c a w _ _).1 h) hy2 rfl ?_
        have e : (ba a N1 N2 x1 x2).put oc.dst v = ba (a.put oc.dst v) N1 N2 x1 x2 := by
          unfold ba
          rw [Act.put_comm _ x2 v (fun d e => by cases e; exact q4), Act.put_comm _ x1 v (fun d e => by cases e; exact q3)]
        rw [e]
        exact ih r b1 b2 x1 x2 _ _ w (by simp at hn; omega) p5 hw hlo hE h1 h2 h3
      | call c =>
        simp only [planB, Bool.and_eq_true, bne_iff_ne, beq_iff_eq, Bool.not_eq_true', List.contains_eq_mem, decide_eq_false_iff_not] at hp
        obtain ⟨⟨⟨⟨⟨⟨⟨⟨p1, p2⟩, p3⟩, p4⟩, pd⟩, p5⟩, p6⟩, p7⟩, p8⟩ := hp
        obtain ⟨oc, hc, hE⟩ := id hE
        unfold sepB at p5
        rw [hc] at p5
        simp only [Bool.and_eq_true, Bool.not_eq_true', List.contains_eq_mem, decide_eq_false_iff_not, bne_iff_ne] at p5
        obtain ⟨⟨⟨q1, q2⟩, q3⟩, q4⟩ := p5
        have C : wpOp P ops Q c (fun a' w' => (c ∉ ds → S w → S w') ∧ wpAnyLast P md ops Q S ds (n + m) ((bl l i j b1 b2).setIfInBounds c true) a' w') (ba a N1 N2 x1 x2) w := by
          have h0 : wpOp P ops Q c (fun a' w'' => S w'' ∧ (∀ (g : Nat) (cs : Array Value) (t : TypeId), (t = t1 ∨ t = t2) → w.heap[g]? = some (Obj.cells cs t (0, 0)) → w''.heap[g]? = w.heap[g]?) ∧ w.heap.size ≤ w''.heap.size ∧ EnvW P ops Q S t1 t2 _ r a' w'') a w :=
            wpOp_step hc (fun K' hK => hE w (Below.refl _ _) hw K' (fun a' w'' s1 s2 s3 s4 => hK a' w'' ⟨s1, s2, s3, s4 s1⟩))
          have hs := hsel' c oc
          have h4 := wpOp_putv x2 hc q2 q4 (fun cs b => hs cs b hc) (fun c a w h => (hQ c a w _ _).2 h) (wpOp_putv x1 hc q1 q3 (fun cs b => hs cs b hc) (fun c a w h => (hQ c a w _ _).2 h) h0)
          refine wpOp_mono (fun a' w' hh => ?_) h4
          obtain ⟨a1, rfl, a0, rfl, s1, s2, s3, s4⟩ := hh
          refine ⟨fun _ _ => s1, ?_⟩
          rw [bl_c l p6 p7]
          refine ih r b1 b2 x1 x2 _ a0 w' (by simp at hn; omega) p8 s1 (by omega) s4 (fun h => ?_) (fun h => ?_) h3
          · obtain ⟨g, e, e2, k⟩ := h1 h
            exact ⟨g, e, (s2 g _ _ (.inl rfl) e2).trans e2, k⟩
          · obtain ⟨g, e, e2, k⟩ := h2 h
            exact ⟨g, e, (s2 g _ _ (.inr rfl) e2).trans e2, k⟩
        cases b1 <;> cases b2
        · refine wpAnyLast_all p1 (by simp) (fun k hk => ?_)
          simp only [List.mem_cons, List.not_mem_nil, or_false] at hk
          rcases hk with rfl | rfl | rfl
          · exact C
          · exact B1 rfl
          · exact B2 rfl
        · refine wpAnyLast_all p2 (by simp) (fun k hk => ?_)
          simp only [List.mem_cons, List.not_mem_nil, or_false] at hk
          rcases hk with rfl | rfl
          · exact C
          · exact B1 rfl
        · refine wpAnyLast_all p3 (by simp) (fun k hk => ?_)
          simp only [List.mem_cons, List.not_mem_nil, or_false] at hk
          rcases hk with rfl | rfl
          · exact C
          · exact B2 rfl
        · refine wpAnyLast_all p4 (by simp) (fun k hk => ?_)
          simp only [List.mem_cons, List.not_mem_nil, or_false] at hk
          subst hk
          exact C
theorem boxes_ {fuel : Nat} {l0 : Array Bool} {a0 : Act} {w : World} {i j : Nat} {oi oj : Oper} {N1 N2 : Tmp} {cs1 cs2 : Array Value} {t1 t2 : TypeId} (m : Nat) (lend l : Array Bool) (plan : List Stp) (hi : ops[i]? = some oi) (hj : ops[j]? = some oj) (hd1 : oi.dst = some N1) (hd2 : oj.dst = some N2)
    (hg1 : oi.guard = none) (hg2 : oj.guard = none) (hB : (i != j && N1 != N2 && !ds.contains i && !ds.contains j && Region.noSelect ops && (fuel == plan.length + 2 + m) && (bl l i j false false == l0) && planB md ops ds i j N1 N2 lend l plan) = true)
    (ha : ba a0 N1 N2 undef undef = a0)
    (box1 : ∀ a : Act, ∀ w, (execOp a.eval oi).run P w = .ok (.value (.pointer (some ⟨w.heap.size, 0, none⟩))) (w.alloc (.cells cs1 t1 (0, 0))))
    (box2 : ∀ a : Act, ∀ w, (execOp a.eval oj).run P w = .ok (.value (.pointer (some ⟨w.heap.size, 0, none⟩))) (w.alloc (.cells cs2 t2 (0, 0))))
    (hS : ∀ w w', Below w.heap.size w w' → S w → S w') (hQ : ∀ c a w (N : Tmp) v, Q (.panic c) (Act.put a (some N) v) w ↔ Q (.panic c) a w) (hw : S w)
    (h : EnvW P ops Q S t1 t2 (fun a w' => ∀ g1 g2, w'.heap[g1]? = some (.cells cs1 t1 (0, 0)) → w'.heap[g2]? = some (.cells cs2 t2 (0, 0)) → w.heap.size ≤ g1 → w.heap.size ≤ g2 → g1 ≠ g2 → wpAnyLast P md ops Q S ds m lend (ba a N1 N2 (.pointer (some ⟨g1, 0, none⟩)) (.pointer (some ⟨g2, 0, none⟩))) w') plan a0 w) :
    wpAnyLast P md ops Q S ds fuel l0 a0 w := by
  simp only [Bool.and_eq_true, bne_iff_ne, beq_iff_eq, Bool.not_eq_true', List.contains_eq_mem, decide_eq_false_iff_not] at hB
  obtain ⟨⟨⟨⟨⟨⟨⟨b1, b2⟩, b3⟩, b4⟩, b5⟩, b6⟩, b7⟩, b8⟩ := hB
  subst b6
  subst b7
  have r := boxes_run (lo := w.heap.size) hi hj b1 b3 b4 b2 hd1 hd2 hg1 hg2 b5 box1 box2 hS hQ (plan.length + nb false + nb false) plan false false undef undef l a0 w rfl b8 hw (Nat.le_refl _) h (fun h => by cases h) (fun h => by cases h) (fun h => by cases h)
  rw [ha] at r
  exact r
theorem env_pure {t1 t2 : TypeId} {Z : Act → World → Prop} {i : Nat} {oi : Oper} {N : Option Tmp} {v : Value} {a : Act} {w : World} {r : List Stp} (hi : ops[i]? = some oi) (hN : oi.dst = N) (hy : Yields P ops oi v a) {a' : Act} (ha : a.put N v = a') (h : EnvW P ops Q S t1 t2 Z r a' w) : EnvW P ops Q S t1 t2 Z (.pure i :: r) a w := by
  subst hN
  subst ha
  exact ⟨oi, v, hi, hy, h⟩
theorem env_call {t1 t2 : TypeId} {Z : Act → World → Prop} {i : Nat} {oi : Oper} {N : Option Tmp} {a : Act} {w : World} {r : List Stp} (hi : ops[i]? = some oi) (hN : oi.dst = N)
    (h : ∀ w', Below w.heap.size w w' → S w' → ∀ K : Act → World → Prop, Shut (∀ a' w'', S w'' → (∀ (g : Nat) (cs : Array Value) (t : TypeId), (t = t1 ∨ t = t2) → w'.heap[g]? = some (.cells cs t (0, 0)) → w''.heap[g]? = w'.heap[g]?) → (w'.heap.size ≤ w''.heap.size) → (S w'' → EnvW P ops Q S t1 t2 Z r a' w'') → K a' w'') →
      if Region.wanted oi (yielded ops a.tmps) = true then Oper.wp P oi a w' K Q else K (a.put N undef) w') : EnvW P ops Q S t1 t2 Z (.call i :: r) a w := by
  subst hN
  exact ⟨oi, hi, h⟩
theorem env_norm {t1 t2 : TypeId} {Z : Act → World → Prop} {a a' : Act} {w : World} {r : List Stp} (ha : a = a') (h : EnvW P ops Q S t1 t2 Z r a' w) : EnvW P ops Q S t1 t2 Z r a w := by
  subst ha
  exact h
theorem keep_b {w w' : World} (hb : Below w.heap.size w w') {t1 t2 : TypeId} : (∀ (g : Nat) (cs : Array Value) (t : TypeId), (t = t1 ∨ t = t2) → w.heap[g]? = some (.cells cs t (0, 0)) → w'.heap[g]? = w.heap[g]?) := fun g _ _ _ h => hb.block g (Array.getElem?_eq_some_iff.1 h).1
theorem keep_k {w w' : World} {X : Nat → Prop} (hk : Kept w w' X) {t1 t2 : TypeId} (hX : ∀ k, X k → ∃ cs t, t ≠ t1 ∧ t ≠ t2 ∧ w.heap[k]? = some (.cells cs t (0, 0))) : (∀ (g : Nat) (cs : Array Value) (t : TypeId), (t = t1 ∨ t = t2) → w.heap[g]? = some (.cells cs t (0, 0)) → w'.heap[g]? = w.heap[g]?) := fun g cs t ht h => hk.2 g (Array.getElem?_eq_some_iff.1 h).1 (fun hx => by
  obtain ⟨cs', t', n1, n2, h'⟩ := hX g hx
  rw [h] at h'
  injection h' with h'
  injection h' with _ h'
  subst h'
  rcases ht with rfl | rfl
  · exact n1 rfl
  · exact n2 rfl)
end
end Go.Proofs.Ytodhogegjkfemaa.Bx
