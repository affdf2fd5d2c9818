/- Proved: RunSwitches of the program and of the reference answer alike at all arguments, and the answer owns its memory. Conditions: those of the given statement alone. -/
import Derived.Test.YtbjoddpaefecmaaPFnExactRunSwitchesx7
import Derived.Test.YtbjoddpaefecmaaBase
set_option linter.unusedVariables false
set_option linter.unusedSimpArgs false
namespace Go.Proofs.Ytbjoddpaefecmaa.Pure
open Go.RowKit Go.Proofs.Ytbjoddpaefecmaa.PFnExactRunSwitches Go.Proofs.Ytbjoddpaefecmaa.Base Go.Proofs.YtbjoddpaefecmaaW.PrintWords Go.Proofs.YtbjoddpaefecmaaW.PrintLast Go.Proofs.YtbjoddpaefecmaaW.PrintMore Go.Proofs.Ytbjoddpaefecmaa

theorem rdStr (l : List ByteArray) (i : Nat) (h : i < l.length) : rdOf ByteArray.empty l (i : Int) = l[i] := by
  unfold rdOf
  rw [Int.toNat_natCast]
  exact getDin l _ i h

set_option maxHeartbeats 2000000
theorem rdBl (l : List Bool) (i : Nat) : rdOf false l (i : Int) = l.getD i false := by
  unfold rdOf
  rw [Int.toNat_natCast]
/-- How many switches so many ports want. -/
def cntS (n : Nat) : Nat := if n = 8 then 20 else if n = 4 then 6 else if n = 2 then 1 else 0
theorem cnt_tot (n : Nat) (hn : n = 1 ∨ n = 2 ∨ n = 4 ∨ n = 8) : Tot (fun k => spec_l9Count.f k (n : Int)) (fun y => y = (cntS n : Int)) ∧ Tot (fun k => impl_switches.f k (n : Int)) (fun y => y = (cntS n : Int)) := by
  have h : ∀ j, spec_l9Count.f (j + 4) (n : Int) = some (cntS n : Int) ∧ impl_switches.f (j + 4) (n : Int) = some (cntS n : Int) := by
    intro j
    rcases hn with rfl | rfl | rfl | rfl <;> exact ⟨by simp [spec_l9Count.f, cntS, wrap64], by simp [impl_switches.f, cntS, wrap64]⟩
  refine ⟨Tot.at_ 4 rfl (fun k hk => ?_), Tot.at_ 4 rfl (fun k hk => ?_)⟩
  · obtain ⟨j, rfl⟩ : ∃ j, k = j + 4 := ⟨k - 4, by omega⟩
    exact (h j).1
  · obtain ⟨j, rfl⟩ : ∃ j, k = j + 4 := ⟨k - 4, by omega⟩
    exact (h j).2
theorem run_out (sw : List Bool) (m c : Nat) (hm : m ≤ 4) (hc : c ≤ 20) (hsw : sw.length = 2 * m + 2 * c) (T B : List ByteArray) (hT : T.length = m) (hB : B.length = m) : ∀ (d i : Nat) (o : List ByteArray), m - i = d → i ≤ m → o.length = 2 * i →
    ∃ y : List ByteArray, y.length = 2 * m ∧ Tot (fun k => spec_l9Run.l1 k sw (m : Int) (c : Int) T B o (i : Int)) (fun z => z = y) ∧ Tot (fun k => impl_run.l1 k (sw.drop (m + 2 * c)) T B o (m : Int) (i : Int)) (fun z => z = y) := by
  intro d
  induction d with
  | zero =>
    intro i o hd hi ho
    refine ⟨o, by omega, Tot.up ?_, Tot.up ?_⟩
    · simp only [spec_l9Run.l1]
      exact Tot.neg (by omega) (Tot.some_ rfl)
    · simp only [impl_run.l1]
      exact Tot.neg (by omega) (Tot.some_ rfl)
  | succ d ih =>
    intro i o hd hi ho
    have e1 := Aside0.mk (show wrap64 ((i : Int) + 1) = ((i + 1 : Nat) : Int) from by rw [w64 (by omega) (by omega)]; omega)
    have e2 := Aside0.mk (show wrap64 (wrap64 ((m : Int) + wrap64 (2 * (c : Int))) + (i : Int)) = ((m + 2 * c + i : Nat) : Int) from by
      rw [w64 (n := 2 * (c : Int)) (by omega) (by omega), w64 (n := (m : Int) + 2 * (c : Int)) (by omega) (by omega), w64 (by omega) (by omega)]
      omega)
    have e3 : (sw.drop (m + 2 * c)).getD i false = sw.getD (m + 2 * c + i) false := by
      simp only [List.getD_eq_getElem?_getD, List.getElem?_drop]
    have hdl : (sw.drop (m + 2 * c)).length = m := by rw [List.length_drop]; omega
    by_cases hs : sw.getD (m + 2 * c + i) false = true
    · obtain ⟨y, hy, h1, h2⟩ := ih (i + 1) (o ++ [B[i], T[i]]) (by omega) (by omega) (by simp; omega)
      refine ⟨y, hy, Tot.up ?_, Tot.up ?_⟩
      · simp only [spec_l9Run.l1, spec_l9Cross.f]
        rw [e2.out, e1.out, rdBl, rdStr T i (by omega), rdStr B i (by omega), hs]
        refine Tot.pos (by omega) (Tot.pos (by omega) (Tot.pos (by omega) (Tot.pos (by omega) (Tot.pos (by omega) (Tot.pos (by omega) ?_)))))
        refine Tot.bind (Q := fun z => z = (B[i], T[i])) (Tot.pos rfl (Tot.some_ rfl)) (fun z hz => Tot.bind (Tot.some_ rfl) (fun v hv => ?_))
        rw [← hv, hz]
        exact Tot.pos (by simp; omega) h1
      · simp only [impl_run.l1]
        rw [e1.out, rdBl, e3, rdStr T i (by omega), rdStr B i (by omega), hs, hdl]
        refine Tot.pos (by omega) (Tot.pos (by omega) (Tot.pos (by omega) (Tot.pos (by omega) (Tot.pos (by omega) (Tot.pos rfl ?_)))))
        refine Tot.bind (Tot.some_ rfl) (fun v hv => ?_)
        rw [← hv]
        exact Tot.pos (by simp; omega) h2
    · obtain ⟨y, hy, h1, h2⟩ := ih (i + 1) (o ++ [T[i], B[i]]) (by omega) (by omega) (by simp; omega)
      refine ⟨y, hy, Tot.up ?_, Tot.up ?_⟩
      · simp only [spec_l9Run.l1, spec_l9Cross.f]
        rw [e2.out, e1.out, rdBl, rdStr T i (by omega), rdStr B i (by omega)]
        refine Tot.pos (by omega) (Tot.pos (by omega) (Tot.pos (by omega) (Tot.pos (by omega) (Tot.pos (by omega) (Tot.pos (by omega) ?_)))))
        refine Tot.bind (Q := fun z => z = (T[i], B[i])) (Tot.neg hs (Tot.some_ rfl)) (fun z hz => Tot.bind (Tot.some_ rfl) (fun v hv => ?_))
        rw [← hv, hz]
        exact Tot.pos (by simp; omega) h1
      · simp only [impl_run.l1]
        rw [e1.out, rdBl, e3, rdStr T i (by omega), rdStr B i (by omega), hdl]
        refine Tot.pos (by omega) (Tot.pos (by omega) (Tot.pos (by omega) (Tot.pos (by omega) (Tot.pos (by omega) (Tot.neg hs ?_)))))
        refine Tot.bind (Tot.some_ rfl) (fun v hv => ?_)
        rw [← hv]
        exact Tot.pos (by simp; omega) h2
theorem swRun (sw : List Bool) (l : List ByteArray) (m c : Nat) (hm : m ≤ 4) (hl : l.length = 2 * m) (hsw : sw.length = 2 * m + 2 * c) : ∀ (d i : Nat) (t b : List ByteArray), m - i = d → i ≤ m → t.length = i → b.length = i →
    ∃ T B : List ByteArray, T.length = m ∧ B.length = m ∧ (∀ Q, Tot (fun k => spec_l9Run.l0 k sw l (m : Int) (c : Int) T B (m : Int)) Q → Tot (fun k => spec_l9Run.l0 k sw l (m : Int) (c : Int) t b (i : Int)) Q) ∧ (∀ Q, Tot (fun k => impl_run.l0 k sw l ((2 * m : Nat) : Int) T B (m : Int) (m : Int)) Q → Tot (fun k => impl_run.l0 k sw l ((2 * m : Nat) : Int) t b (m : Int) (i : Int)) Q) := by
  intro d
  induction d with
  | zero =>
    intro i t b hd hi ht hb
    have : i = m := by omega
    subst this
    exact ⟨t, b, ht, hb, fun Q h => h, fun Q h => h⟩
  | succ d ih =>
    intro i t b hd hi ht hb
    have e1 := Aside0.mk (show wrap64 ((i : Int) + 1) = ((i + 1 : Nat) : Int) from by rw [w64 (by omega) (by omega)]; omega)
    have e2 := Aside0.mk (show wrap64 (2 * (i : Int)) = ((2 * i : Nat) : Int) from by rw [w64 (by omega) (by omega)]; omega)
    have e3 := Aside0.mk (show wrap64 (((2 * i : Nat) : Int) + 1) = ((2 * i + 1 : Nat) : Int) from by rw [w64 (by omega) (by omega)]; omega)
    by_cases hs : sw.getD i false = true
    · obtain ⟨T, B, hT, hB, h1, h2⟩ := ih (i + 1) (t ++ [l[2 * i + 1]]) (b ++ [l[2 * i]]) (by omega) (by omega) (by simp; omega) (by simp; omega)
      refine ⟨T, B, hT, hB, fun Q hQ => Tot.up ?_, fun Q hQ => Tot.up ?_⟩
      · simp only [spec_l9Run.l0, spec_l9Cross.f]
        rw [e2.out, e3.out, e1.out, rdBl, rdStr l (2 * i) (by omega), rdStr l (2 * i + 1) (by omega)]
        refine Tot.pos (by omega) (Tot.pos (by omega) (Tot.pos (by omega) (Tot.pos (by omega) (Tot.pos (by omega) (Tot.pos (by omega) (Tot.pos (by omega) ?_))))))
        refine Tot.bind (Q := fun z => z = (l[2 * i + 1], l[2 * i])) (Tot.pos hs (Tot.some_ rfl)) (fun z hz => ?_)
        rw [hz]
        exact Tot.pos (by omega) (Tot.pos (by omega) (h1 Q hQ))
      · simp only [impl_run.l0]
        rw [e2.out, e3.out, e1.out, rdBl, rdStr l (2 * i) (by omega), rdStr l (2 * i + 1) (by omega)]
        exact Tot.pos (by omega) (Tot.pos (by omega) (Tot.pos (by omega) (Tot.pos (by omega) (Tot.pos (by omega) (Tot.pos (by omega) (Tot.pos (by omega) (Tot.pos hs (Tot.pos (by omega) (Tot.pos (by omega) (h2 Q hQ))))))))))
    · obtain ⟨T, B, hT, hB, h1, h2⟩ := ih (i + 1) (t ++ [l[2 * i]]) (b ++ [l[2 * i + 1]]) (by omega) (by omega) (by simp; omega) (by simp; omega)
      refine ⟨T, B, hT, hB, fun Q hQ => Tot.up ?_, fun Q hQ => Tot.up ?_⟩
      · simp only [spec_l9Run.l0, spec_l9Cross.f]
        rw [e2.out, e3.out, e1.out, rdBl, rdStr l (2 * i) (by omega), rdStr l (2 * i + 1) (by omega)]
        refine Tot.pos (by omega) (Tot.pos (by omega) (Tot.pos (by omega) (Tot.pos (by omega) (Tot.pos (by omega) (Tot.pos (by omega) (Tot.pos (by omega) ?_))))))
        refine Tot.bind (Q := fun z => z = (l[2 * i], l[2 * i + 1])) (Tot.neg hs (Tot.some_ rfl)) (fun z hz => ?_)
        rw [hz]
        exact Tot.pos (by omega) (Tot.pos (by omega) (h1 Q hQ))
      · simp only [impl_run.l0]
        rw [e2.out, e3.out, e1.out, rdBl, rdStr l (2 * i) (by omega), rdStr l (2 * i + 1) (by omega)]
        exact Tot.pos (by omega) (Tot.pos (by omega) (Tot.pos (by omega) (Tot.pos (by omega) (Tot.pos (by omega) (Tot.pos (by omega) (Tot.pos (by omega) (Tot.neg hs (Tot.pos (by omega) (Tot.pos (by omega) (h2 Q hQ))))))))))
def RunOk (n : Nat) : Prop := ∀ (sw : List Bool) (l : List ByteArray), l.length = n → sw.length = cntS n → ∃ y : List ByteArray, y.length = n ∧ Tot (fun k => spec_l9Run.f k sw l) (fun z => z = y) ∧ Tot (fun k => impl_run.f k sw l) (fun z => z = y)
theorem run_one : RunOk 1 := by
  intro sw l hl hs
  refine ⟨l, hl, Tot.up ?_, Tot.up ?_⟩
  · simp only [spec_l9Run.f]
    refine Tot.pos (by omega) (Tot.bind (Tot.some_ rfl) (fun z hz => ?_))
    rw [← hz]
    exact Tot.pos (by simp only [List.length_nil]; omega) (Tot.some_ rfl)
  · simp only [impl_run.f, slices_Clone_string_string.f]
    refine Tot.pos (by omega) (Tot.bind (Q := fun z => z = l) (Tot.pos (by omega) (Tot.some_ rfl)) (fun z hz => Tot.some_ hz))
theorem run_two : RunOk 2 := by
  intro sw l hl hs
  have hs1 : sw.length = 1 := hs
  have r0 : rdOf ByteArray.empty l 0 = l[0] := rdStr l 0 (by omega)
  have r1 : rdOf ByteArray.empty l 1 = l[1] := rdStr l 1 (by omega)
  have el : l = [l[0], l[1]] := by
    match l, hl with
    | [a, b], _ => rfl
  by_cases h : rdOf false sw 0 = true
  · refine ⟨[l[1], l[0]], rfl, Tot.up ?_, Tot.up ?_⟩
    · simp only [spec_l9Run.f, spec_l9Cross.f]
      rw [r0, r1]
      refine Tot.neg (by omega) (Tot.pos (by omega) (Tot.pos (by omega) (Tot.pos (by omega) (Tot.pos (by omega) (Tot.bind (Q := fun z => z = (l[1], l[0])) (Tot.pos h (Tot.some_ rfl)) (fun z hz => Tot.some_ (by rw [hz])))))))
    · simp only [impl_run.f]
      refine Tot.neg (by omega) (Tot.pos (by omega) (Tot.pos (by omega) (Tot.up ?_)))
      simp only [impl_run.j0]
      rw [r0, r1]
      exact Tot.pos h (Tot.pos (by omega) (Tot.pos (by omega) (Tot.some_ rfl)))
  · refine ⟨[l[0], l[1]], rfl, Tot.up ?_, Tot.up ?_⟩
    · simp only [spec_l9Run.f, spec_l9Cross.f]
      rw [r0, r1]
      refine Tot.neg (by omega) (Tot.pos (by omega) (Tot.pos (by omega) (Tot.pos (by omega) (Tot.pos (by omega) (Tot.bind (Q := fun z => z = (l[0], l[1])) (Tot.neg h (Tot.some_ rfl)) (fun z hz => Tot.some_ (by rw [hz])))))))
    · simp only [impl_run.f]
      refine Tot.neg (by omega) (Tot.pos (by omega) (Tot.pos (by omega) (Tot.up ?_)))
      simp only [impl_run.j0, slices_Clone_string_string.f]
      exact Tot.neg h (Tot.pos (by omega) (Tot.bind (Q := fun z => z = l) (Tot.pos (by omega) (Tot.some_ rfl)) (fun z hz => Tot.some_ (hz.trans el))))
theorem run_more (m : Nat) (hm : m = 2 ∨ m = 4) (hr : RunOk m) : RunOk (2 * m) := by
  intro sw l hl hs
  obtain ⟨c, hc⟩ : ∃ c, c = cntS m := ⟨_, rfl⟩
  have hc2 : cntS (2 * m) = 2 * m + 2 * c ∧ c ≤ 20 := by
    rw [hc]
    rcases hm with rfl | rfl <;> decide
  have hsw : sw.length = 2 * m + 2 * c := by omega
  have hm4 : m ≤ 4 ∧ 2 ≤ m := by omega
  have hcnt := cnt_tot m (by omega)
  rw [← hc] at hcnt
  obtain ⟨T, B, hT, hB, h1, h2⟩ := swRun sw l m c hm4.1 hl hsw m 0 [] [] (by omega) (by omega) rfl rfl
  obtain ⟨t, ht, t1, t2⟩ := hr ((sw.take (m + c)).drop m) T hT (by rw [List.length_drop, List.length_take, ← hc]; omega)
  obtain ⟨b, hb, b1, b2⟩ := hr ((sw.take (m + 2 * c)).drop (m + c)) B hB (by rw [List.length_drop, List.length_take, ← hc]; omega)
  obtain ⟨y, hy, y1, y2⟩ := run_out sw m c hm4.1 hc2.2 hsw t b ht hb m 0 [] (by omega) (by omega) rfl
  have w2 := Aside0.mk (show wrap64 (2 * (c : Int)) = ((2 * c : Nat) : Int) from by rw [w64 (by omega) (by omega)]; omega)
  have wmc := Aside0.mk (show wrap64 ((m : Int) + (c : Int)) = ((m + c : Nat) : Int) from by rw [w64 (by omega) (by omega)]; omega)
  have wm2 := Aside0.mk (show wrap64 ((m : Int) + ((2 * c : Nat) : Int)) = ((m + 2 * c : Nat) : Int) from by rw [w64 (by omega) (by omega)]; omega)
  have wh := Aside0.mk (show wrap64 (((2 * m : Nat) : Int) / 2) = (m : Int) from by rw [w64 (by omega) (by omega)]; omega)
  have wt := Aside0.mk (show wrap64 (Int.tdiv ((2 * m : Nat) : Int) 2) = (m : Int) from by rw [Int.tdiv_eq_ediv_of_nonneg (by omega)]; exact wh.out)
  refine ⟨y, hy, Tot.up ?_, Tot.up ?_⟩
  · simp only [spec_l9Run.f]
    rw [hl, wh.out]
    refine Tot.neg (by omega) (Tot.neg (by omega) (Tot.bind hcnt.1 (fun z hz => ?_)))
    rw [hz]
    refine h1 _ (Tot.up ?_)
    simp only [spec_l9Run.l0]
    rw [w2.out, wmc.out, wm2.out, Int.toNat_natCast, Int.toNat_natCast, Int.toNat_natCast]
    refine Tot.neg (by omega) (Tot.pos (by omega) (Tot.pos (by omega) (Tot.pos (by omega) (Tot.bind t1 (fun u hu => ?_)))))
    rw [hu]
    refine Tot.pos (by omega) (Tot.pos (by omega) (Tot.pos (by omega) (Tot.bind b1 (fun v hv => ?_))))
    rw [hv]
    exact y1
  · simp only [impl_run.f]
    rw [hl]
    refine Tot.neg (by omega) (Tot.neg (by omega) (Tot.up ?_))
    simp only [impl_run.j0]
    rw [wt.out]
    refine Tot.neg (by simp) (Tot.neg (by omega) ?_)
    refine h2 _ (Tot.up ?_)
    simp only [impl_run.l0]
    rw [wt.out]
    refine Tot.neg (by omega) (Tot.pos (by omega) (Tot.pos (by omega) (Tot.bind (Tot.some_ rfl) (fun z hz => ?_))))
    rw [← hz, Int.toNat_natCast]
    refine Tot.bind hcnt.2 (fun u hu => ?_)
    rw [hu, w2.out, Int.toNat_natCast, Int.toNat_natCast]
    have hdl : (sw.drop m).length = m + 2 * c := by rw [List.length_drop]; omega
    refine Tot.pos (by omega) (Tot.pos (by omega) ?_)
    rw [List.take_drop]
    refine Tot.bind t2 (fun p hp => ?_)
    rw [hp, hdl]
    refine Tot.pos (by omega) (Tot.pos (by omega) ?_)
    rw [List.take_drop, List.drop_drop]
    refine Tot.bind b2 (fun q hq => ?_)
    rw [hq, List.drop_drop]
    exact Tot.pos (by omega) y2
theorem run_all (n : Nat) (hn : n = 1 ∨ n = 2 ∨ n = 4 ∨ n = 8) : RunOk n := by
  rcases hn with rfl | rfl | rfl | rfl
  · exact run_one
  · exact run_two
  · exact run_more 2 (.inl rfl) run_two
  · exact run_more 4 (.inr rfl) (run_more 2 (.inl rfl) run_two)

theorem toBoolS_tot (l : List Bool) (hl : l.length ≤ 1048576) : Tot (fun k => laws_toBoolS.f k l) (fun y => y = l) := by
  have hz : l.length = (List.replicate l.length false).length := by simp
  have h := fun k hk => loop_up (fun k (x : List Bool × Int) => laws_toBoolS.l0 k l x.1 x.2) l.length 0 (fun i => (mixed l (List.replicate l.length false) i, (i : Int))) l (fun i k hi _ => by
    have e2 := mixed_length l (List.replicate l.length false) i hz
    have e3 := mixed_set l (List.replicate l.length false) i (rdOf false l (i : Int)) hz (by omega) (by unfold rdOf; rw [Int.toNat_natCast, getDin _ _ i hi, getDin _ _ i hi])
    simp only [laws_toBoolS.l0, Int.toNat_natCast]
    rw [if_pos (by omega), if_pos (by omega), if_pos (by rw [e2]; omega), w64 (by omega) (by omega), e3]
    rfl) (fun k _ => by
    simp only [laws_toBoolS.l0]
    rw [if_neg (by omega), mixed_end _ _ _ (by omega) (by omega)]) k hk
  rw [mixed_zero] at h
  simp only [laws_toBoolS.f]
  exact Tot.pos (by omega) (Tot.pos (by omega) (Tot.at_ (l.length + 1) rfl (fun k hk => h k (by omega))))

def bz (m : Int) : Bool := Int.tmod m 3 == 0
def mbs (m : Int) (n : Nat) : List Bool := (List.range n).map fun (i : Nat) => bz (m + (i : Int))
theorem mbs_length (m : Int) (n : Nat) : (mbs m n).length = n := by simp [mbs]
theorem mbs_get (m : Int) (n i : Nat) (h : i < n) (d : Bool) : (mbs m n).getD i d = bz (m + (i : Int)) := by
  rw [getDin _ d i (by rw [mbs_length]; exact h)]
  simp [mbs]
theorem rdB (l : List Bool) (i : Nat) (d : Bool) : rdOf d l (i : Int) = l.getD i d := by
  unfold rdOf
  rw [Int.toNat_natCast]
theorem eqBoolS_tot (l : List Bool) (hl : l.length ≤ 1048576) : Tot (fun k => laws_eqBoolS.f k l l) (fun y => y = true) := by
  have h := fun k hk => loop_up (fun k (x : Int) => laws_eqBoolS.l0 k l l x) l.length 0 (fun i => (i : Int)) true (fun i k hi _ => by
    simp only [laws_eqBoolS.l0, bne_self_eq_false]
    rw [if_pos (by omega), if_pos (by omega), if_pos (by omega), if_neg (by simp), w64 (by omega) (by omega)]
    rfl) (fun k _ => by
    simp only [laws_eqBoolS.l0]
    rw [if_neg (by omega)]) k hk
  simp only [laws_eqBoolS.f]
  exact Tot.pos trivial (Tot.at_ (l.length + 1) rfl (fun k hk => h k (by omega)))
theorem markBoolS_tot (l : List Bool) (hl : l.length ≤ 1048576) (m : Int) (h0 : 0 ≤ m) (h1 : m ≤ 4294967296) : Tot (fun k => laws_markBoolS.f k l m) (fun y => y = (m + (l.length : Int), mbs m l.length)) := by
  have hz := mbs_length m l.length
  have h := fun k hk => loop_up (fun k (x : List Bool × Int × Int) => laws_markBoolS.l0 k x.1 x.2.1 x.2.2) l.length 0 (fun i => (mixed (mbs m l.length) l i, m + (i : Int), (i : Int))) (m + (l.length : Int), mbs m l.length) (fun i k hi _ => by
    have e2 := mixed_length (mbs m l.length) l i hz
    have e3 := mixed_set (mbs m l.length) l i (bz (m + (i : Int))) hz hi (mbs_get m l.length i hi _)
    simp only [laws_markBoolS.l0, Int.toNat_natCast]
    rw [if_pos (by rw [e2]; omega), if_pos (by omega), w64 (n := m + (i : Int) + 1) (by omega) (by omega), w64 (n := (i : Int) + 1) (by omega) (by omega)]
    unfold bz at e3
    rw [e3, show m + (i : Int) + 1 = m + ((i + 1 : Nat) : Int) by omega]
    rfl) (fun k _ => by
    simp only [laws_markBoolS.l0]
    rw [if_neg (by rw [mixed_length _ _ _ hz]; omega), mixed_end _ _ _ (by omega) (by omega)]) k hk
  rw [mixed_zero] at h
  simp only [laws_markBoolS.f]
  refine Tot.at_ (l.length + 1) rfl (fun k hk => ?_)
  have h2 := h k (by omega)
  simpa using h2

/-- What the texts weigh together. -/
def weight (l : List ByteArray) : Nat := (l.map fun x => x.size).sum
theorem szStringS_tot (l : List ByteArray) (hl : l.length ≤ maxLen) (hs : ∀ x ∈ l, x.size ≤ maxLen) (a : Int) (ha : 0 ≤ a ∧ a ≤ 1048576) : Tot (fun k => laws_szStringS.f k l a) (fun y => y ≤ a ∧ (0 ≤ y → y = a - (l.length : Int) - (weight l : Int)) ∧ -1 ≤ y) := by
  have hmx : maxLen = 9223372036854775807 := rfl
  have key : ∀ (d i : Nat) (b : Int), l.length - i = d → i ≤ l.length → 0 ≤ b ∧ b ≤ 1048576 → l.length ≤ 1048576 → Tot (fun k => laws_szStringS.l0 k l b (i : Int)) (fun y => y ≤ b ∧ (0 ≤ y → y = b - (weight (l.drop i) : Int)) ∧ -1 ≤ y) := by
    intro d
    induction d with
    | zero =>
      intro i b hd hi hb hll
      refine Tot.up ?_
      simp only [laws_szStringS.l0]
      refine Tot.neg (by omega) (Tot.some_ ?_)
      rw [List.drop_of_length_le (by omega)]
      simp [weight]
      omega
    | succ d ih =>
      intro i b hd hi hb hll
      have hlt : i < l.length := by omega
      have hx := hs _ (List.getElem_mem hlt)
      refine Tot.up ?_
      simp only [laws_szStringS.l0]
      refine Tot.pos (by omega) (Tot.pos (by omega) ?_)
      rw [rdStr l i hlt, w64 (n := b - (l[i].size : Int)) (by omega) (by omega), w64 (n := (i : Int) + 1) (by omega) (by omega)]
      refine Tot.ite (fun h => Tot.some_ ⟨by omega, fun h => by omega, by omega⟩) (fun h => ?_)
      refine (ih (i + 1) _ (by omega) (by omega) (by omega) hll).imp (fun y hy => ⟨by omega, fun h0 => ?_, hy.2.2⟩)
      rw [hy.2.1 h0, List.drop_eq_getElem_cons hlt]
      simp only [weight, List.map_cons, List.sum_cons]
      omega
  simp only [laws_szStringS.f]
  rw [w64 (n := a - (l.length : Int)) (by omega) (by omega)]
  refine Tot.ite (fun h => Tot.some_ ⟨by omega, fun h => by omega, by omega⟩) (fun h => ?_)
  refine (key l.length 0 _ (by omega) (by omega) (by omega) (by omega)).imp (fun y hy => ⟨by omega, fun h0 => ?_, hy.2.2⟩)
  rw [hy.2.1 h0, List.drop_zero]
theorem weight_le (l : List ByteArray) (x : ByteArray) (h : x ∈ l) : x.size ≤ weight l := by
  induction l with
  | nil => simp at h
  | cons a t ih =>
    simp only [weight, List.map_cons, List.sum_cons]
    rcases List.mem_cons.1 h with rfl | h
    · omega
    · have := ih h
      unfold weight at this
      omega

theorem toStringS_tot (l : List ByteArray) (hl : l.length ≤ 1048576) : Tot (fun k => laws_toStringS.f k l) (fun y => y = l) := by
  have hz : (List.replicate l.length (⟨#[]⟩ : ByteArray)).length = l.length := by simp
  have h := fun k hk => loop_up (fun k (x : List ByteArray × Int) => laws_toStringS.l0 k l x.1 x.2) l.length 0 (fun i => (mixed l (List.replicate l.length (⟨#[]⟩ : ByteArray)) i, (i : Int))) l (fun i k hi _ => by
    have e2 := mixed_length l (List.replicate l.length (⟨#[]⟩ : ByteArray)) i hz.symm
    have e3 := mixed_set l (List.replicate l.length (⟨#[]⟩ : ByteArray)) i l[i] hz.symm (by omega) (getDin l _ i hi)
    simp only [laws_toStringS.l0, Int.toNat_natCast]
    rw [if_pos (by omega), if_pos (by omega), if_pos (by rw [e2, hz]; omega), w64 (by omega) (by omega), rdStr l i hi, e3]
    rfl) (fun k _ => by
    simp only [laws_toStringS.l0]
    rw [if_neg (by omega), mixed_end _ _ _ (by omega) (by rw [hz]; omega)]) k hk
  rw [mixed_zero] at h
  simp only [laws_toStringS.f]
  refine Tot.pos (by omega) (Tot.pos (by omega) (Tot.at_ (l.length + 1) rfl (fun k hk => h k (by omega))))

theorem eqStringS_tot (l : List ByteArray) (hl : l.length ≤ 1048576) : Tot (fun k => laws_eqStringS.f k l l) (fun y => y = true) := by
  have h := fun k hk => loop_up (fun k (x : Int) => laws_eqStringS.l0 k l l x) l.length 0 (fun i => (i : Int)) true (fun i k hi _ => by
    simp only [laws_eqStringS.l0]
    rw [if_pos (by omega), if_pos (by omega), if_pos (by omega), if_pos trivial, w64 (by omega) (by omega)]
    rfl) (fun k _ => by
    simp only [laws_eqStringS.l0]
    rw [if_neg (by omega)]) k hk
  simp only [laws_eqStringS.f]
  exact Tot.pos trivial (Tot.at_ (l.length + 1) rfl (fun k hk => h k (by omega)))

theorem markText_l0 : ∀ (n : Nat) (m : Nat) (x : ByteArray), m < 10 ^ n → x.size + n + 1 ≤ 1000 → m ≤ 1099511627776 → Tot (fun k => laws_markText.l0 k (m : Int) x) (fun y => y.size ≤ x.size + n + 1) := by
  intro n
  induction n with
  | zero =>
    intro m x hm hx hle
    refine Tot.up ?_
    simp only [laws_markText.l0]
    refine Tot.neg (by omega) (Tot.pos (by omega) (Tot.some_ ?_))
    rw [ByteArray.size_append]
    show 1 + x.size ≤ _
    omega
  | succ n ih =>
    intro m x hm hx hle
    refine Tot.up ?_
    simp only [laws_markText.l0]
    refine Tot.ite (fun h0 => ?_) (fun h0 => Tot.pos (by omega) (Tot.some_ (by
      rw [ByteArray.size_append]
      show 1 + x.size ≤ _
      omega)))
    simp only [Option.bind_some]
    have h1 : (strOfNums [wrap64 (48 + Int.tmod (m : Int) 10) % 256]).size = 1 := rfl
    rw [show (10 : Int) = ((10 : Nat) : Int) from rfl, tdiv_nat, wnat (m / 10) (by omega)]
    refine Tot.pos (by rw [show ((10 : Nat) : Int) = (10 : Int) from rfl, h1]; omega) ?_
    have hp : 10 ^ (n + 1) = 10 * 10 ^ n := by rw [Nat.pow_succ, Nat.mul_comm]
    have h2 : (strOfNums [wrap64 (48 + Int.tmod (m : Int) ((10 : Nat) : Int)) % 256] ++ x).size = 1 + x.size := by rw [ByteArray.size_append]; rfl
    refine (ih (m / 10) _ (by omega) (by rw [h2]; omega) (by omega)).imp (fun y hy => ?_)
    rw [h2] at hy
    omega
theorem markText_tot (m : Int) (h0 : 0 ≤ m) (h1 : m ≤ 1099511627776) : Tot (fun k => laws_markText.f k m) (fun y => y.size ≤ 64) := by
  obtain ⟨m, rfl⟩ := Int.eq_ofNat_of_zero_le h0
  simp only [laws_markText.f]
  refine Tot.ite (fun _ => Tot.some_ (show 2 ≤ 64 by omega)) (fun _ => ?_)
  refine (markText_l0 13 m _ (by omega) (by show 0 + 13 + 1 ≤ 1000; omega) (by omega)).imp (fun y hy => ?_)
  have h2 : (⟨#[]⟩ : ByteArray).size = 0 := rfl
  omega
/-- The mark of a number. -/
noncomputable def mt (m : Int) : ByteArray := Classical.epsilon fun y => Tot (fun k => laws_markText.f k m) (fun z => z = y)
theorem mt_tot (m : Int) (h0 : 0 ≤ m) (h1 : m ≤ 1099511627776) : Tot (fun k => laws_markText.f k m) (fun z => z = mt m) := by
  obtain ⟨y, _, h⟩ := (markText_tot m h0 h1).val
  exact Classical.epsilon_spec (p := fun y => Tot (fun k => laws_markText.f k m) (fun z => z = y)) ⟨y, h⟩

noncomputable def mts (m : Int) (n : Nat) : List ByteArray := (List.range n).map fun (i : Nat) => mt (m + (i : Int))
theorem mts_length (m : Int) (n : Nat) : (mts m n).length = n := by simp [mts]
theorem mts_get (m : Int) (n i : Nat) (h : i < n) : (mts m n)[i]'(by rw [mts_length]; exact h) = mt (m + (i : Int)) := by simp [mts]
theorem markStringS_tot (l : List ByteArray) (hl : l.length ≤ 1048576) (m : Int) (h0 : 0 ≤ m) (h1 : m ≤ 4294967296) : Tot (fun k => laws_markStringS.f k l m) (fun y => y = (m + (l.length : Int), mts m l.length)) := by
  have hz := mts_length m l.length
  have key : ∀ (d i : Nat), l.length - i = d → i ≤ l.length → Tot (fun k => laws_markStringS.l0 k (mixed (mts m l.length) l i) (m + (i : Int)) (i : Int)) (fun y => y = (m + (l.length : Int), mts m l.length)) := by
    intro d
    induction d with
    | zero =>
      intro i hd hi
      refine Tot.up ?_
      have e : i = l.length := by omega
      subst e
      simp only [laws_markStringS.l0]
      refine Tot.neg (by rw [mixed_length _ _ _ hz]; omega) (Tot.some_ ?_)
      rw [mixed_end _ _ _ (by omega) (by omega)]
    | succ d ih =>
      intro i hd hi
      refine Tot.up ?_
      simp only [laws_markStringS.l0]
      refine Tot.pos (by rw [mixed_length _ _ _ hz]; omega) (Tot.bind (mt_tot _ (by omega) (by omega)) (fun y hy => Tot.pos (by omega) ?_))
      rw [hy, Int.toNat_natCast, mixed_set _ _ i _ hz (by omega) (by rw [getDin _ _ i (by omega), mts_get m _ i (by omega)]), w64 (n := m + (i : Int) + 1) (by omega) (by omega), w64 (n := (i : Int) + 1) (by omega) (by omega), show m + (i : Int) + 1 = m + ((i + 1 : Nat) : Int) by omega]
      exact ih (i + 1) (by omega) (by omega)
  have h := key l.length 0 (by omega) (by omega)
  rw [mixed_zero, show m + ((0 : Nat) : Int) = m by omega] at h
  exact h
theorem heldStringS_tot (n : Nat) (hn : n ≤ 1048576) (m : Int) (h0 : 0 ≤ m) (h1 : m ≤ 4294967296) : Tot (fun k => laws_heldStringS.f k (mts m n) m) (fun y => y = m + (n : Int)) := by
  have hz := mts_length m n
  have key : ∀ (d i : Nat), n - i = d → i ≤ n → Tot (fun k => laws_heldStringS.l0 k (mts m n) (m + (i : Int)) (i : Int)) (fun y => y = m + (n : Int)) := by
    intro d
    induction d with
    | zero =>
      intro i hd hi
      refine Tot.up ?_
      simp only [laws_heldStringS.l0]
      refine Tot.neg (by rw [hz]; omega) (Tot.some_ (by omega))
    | succ d ih =>
      intro i hd hi
      refine Tot.up ?_
      simp only [laws_heldStringS.l0]
      refine Tot.pos (by rw [hz]; omega) (Tot.pos (by omega) (Tot.bind (mt_tot _ (by omega) (by omega)) (fun y hy => ?_)))
      rw [hy, rdStr _ i (by omega), mts_get m n i (by omega), w64 (n := m + (i : Int) + 1) (by omega) (by omega), w64 (n := (i : Int) + 1) (by omega) (by omega), show m + (i : Int) + 1 = m + ((i + 1 : Nat) : Int) by omega]
      exact Tot.pos rfl (ih (i + 1) (by omega) (by omega))
  have h := key n 0 (by omega) (by omega)
  rw [show m + ((0 : Nat) : Int) = m by omega] at h
  exact h

theorem switches_same (a : Int) (sw : List Bool) (l : List ByteArray) : ∃ r : List ByteArray × Bool, r.1.length ≤ 8 ∧ Tot (fun k => spec_RunSwitches.f k a sw l) (fun z => z = r) ∧ Tot (fun k => impl_RunSwitches.f k a sw l) (fun z => z = r) := by
  have hp : ∃ b : Bool, spec_l9Ports.f a = some b ∧ impl_arePorts.f a = some b ∧ (b = true → a = 1 ∨ a = 2 ∨ a = 4 ∨ a = 8) := by
    unfold spec_l9Ports.f impl_arePorts.f
    by_cases h1 : a = 1
    · exact ⟨true, by rw [if_pos h1], by rw [if_pos h1], fun _ => .inl h1⟩
    by_cases h2 : a = 2
    · exact ⟨true, by rw [if_neg h1, if_pos h2], by rw [if_neg h1, if_pos h2], fun _ => .inr (.inl h2)⟩
    by_cases h4 : a = 4
    · exact ⟨true, by rw [if_neg h1, if_neg h2, if_pos h4], by rw [if_neg h1, if_neg h2, if_pos h4], fun _ => .inr (.inr (.inl h4))⟩
    · exact ⟨a == 8, by rw [if_neg h1, if_neg h2, if_neg h4], by rw [if_neg h1, if_neg h2, if_neg h4], fun h => .inr (.inr (.inr (beq_iff_eq.1 h)))⟩
  obtain ⟨b, hb1, hb2, hb3⟩ := hp
  simp only [spec_RunSwitches.f, impl_RunSwitches.f, hb1, hb2, Option.bind_some]
  have none_ : ∃ r : List ByteArray × Bool, r = (([] : List ByteArray), false) ∧ r.1.length ≤ 8 := ⟨_, rfl, by simp⟩
  by_cases hb : b = true
  · by_cases hl : (l.length : Int) = a
    · have hn := hb3 hb
      have hcnt := cnt_tot l.length (by omega)
      by_cases hs : (sw.length : Int) = (cntS l.length : Int)
      · obtain ⟨y, hy, h1, h2⟩ := run_all l.length (by omega) sw l rfl (by omega)
        refine ⟨(y, true), by simp only; omega, ?_, ?_⟩
        · refine Tot.pos hb (Tot.pos hl ?_)
          rw [← hl]
          refine Tot.bind hcnt.1 (fun z hz => Tot.pos (hs.trans hz.symm) (Tot.bind h1 (fun u hu => Tot.some_ (by rw [hu]))))
        · refine Tot.pos hb (Tot.pos hl ?_)
          rw [← hl]
          refine Tot.bind hcnt.2 (fun z hz => Tot.pos (hs.trans hz.symm) (Tot.bind h2 (fun u hu => Tot.some_ (by rw [hu]))))
      · refine ⟨([], false), by simp, ?_, ?_⟩
        · refine Tot.pos hb (Tot.pos hl ?_)
          rw [← hl]
          exact Tot.bind hcnt.1 (fun z hz => Tot.neg (fun h => hs (h.trans hz)) (Tot.some_ rfl))
        · refine Tot.pos hb (Tot.pos hl ?_)
          rw [← hl]
          exact Tot.bind hcnt.2 (fun z hz => Tot.neg (fun h => hs (h.trans hz)) (Tot.some_ rfl))
    · exact ⟨([], false), by simp, Tot.pos hb (Tot.neg hl (Tot.some_ rfl)), Tot.pos hb (Tot.neg hl (Tot.some_ rfl))⟩
  · exact ⟨([], false), by simp, Tot.neg hb (Tot.some_ rfl), Tot.neg hb (Tot.some_ rfl)⟩
theorem FnExactRunSwitches : laws_FnExactRunSwitches.Pure := by
  intro a sw l ha hsw hl
  have hmx : maxLen = 9223372036854775807 := rfl
  refine Tot.ex ?_
  simp only [laws_FnExactRunSwitches.f]
  refine Tot.ite (fun _ => Tot.some_ rfl) (fun hs1 => ?_)
  have hs : sw.length ≤ 1048576 := by omega
  refine Tot.bind (szStringS_tot l hl.1 hl.2 1048576 (by omega)) (fun y0 h0 => Tot.ite (fun _ => Tot.some_ rfl) (fun hy0 => ?_))
  have hll : l.length ≤ 1048576 := by have := h0.2.1 (by omega); omega
  obtain ⟨⟨r, ok⟩, hr, h1, h2⟩ := switches_same a sw l
  simp only at hr
  have tB := toBoolS_tot sw hs
  have tS := toStringS_tot l hll
  have eR := eqStringS_tot r (by omega)
  refine Tot.bind tB (fun y1 e1 => Tot.bind tS (fun y2 e2 => ?_))
  rw [e1, e2]
  refine Tot.bind h1 (fun y3 e3 => Tot.bind tB (fun y4 e4 => Tot.bind tS (fun y5 e5 => ?_)))
  rw [e3, e4, e5]
  refine Tot.bind h2 (fun y6 e6 => ?_)
  rw [e6]
  refine Tot.bind eR (fun y7 e7 => Tot.pos e7 (Tot.up ?_))
  simp only [laws_FnExactRunSwitches.j0, bne_self_eq_false]
  refine Tot.neg (by simp) (Tot.bind tB (fun y8 e8 => ?_))
  rw [e8]
  refine Tot.bind (eqBoolS_tot sw hs) (fun y9 e9 => Tot.pos e9 (Tot.bind tS (fun y10 e10 => ?_)))
  rw [e10]
  refine Tot.bind (eqStringS_tot l hll) (fun y11 e11 => Tot.pos e11 (Tot.bind (markBoolS_tot sw hs 1 (by omega) (by omega)) (fun y12 e12 => ?_)))
  rw [e12]
  simp only
  refine Tot.bind (markStringS_tot l hll _ (by omega) (by omega)) (fun y13 e13 => ?_)
  rw [e13]
  refine Tot.neg (by simp only; omega) (Tot.bind eR (fun y14 e14 => Tot.pos e14 (Tot.up ?_)))
  simp only [laws_FnExactRunSwitches.j1]
  have hH := heldStringS_tot r.length (by omega) 1 (by omega) (by omega)
  refine Tot.neg (by simp) (Tot.bind (markStringS_tot r (by omega) 1 (by omega) (by omega)) (fun y15 e15 => ?_))
  rw [e15]
  simp only
  refine Tot.bind hH (fun y16 e16 => Tot.neg (by omega) (Tot.pos e16 (Tot.bind tB (fun y17 e17 => Tot.bind tS (fun y18 e18 => ?_)))))
  rw [e17, e18]
  refine Tot.bind h2 (fun y19 e19 => ?_)
  rw [e19]
  refine Tot.bind eR (fun y20 e20 => Tot.pos e20 (Tot.up ?_))
  simp only [laws_FnExactRunSwitches.j2, bne_self_eq_false]
  exact Tot.neg (by simp) (Tot.bind hH (fun y21 e21 => Tot.neg (by omega) (Tot.pos e21 (Tot.some_ rfl))))

end Go.Proofs.Ytbjoddpaefecmaa.Pure
