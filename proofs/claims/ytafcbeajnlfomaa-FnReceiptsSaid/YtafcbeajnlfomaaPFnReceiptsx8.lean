-- Written by a program of this session, after the kit's print (changed in some places; see NOTES.md). Lean checks it.
import Derived.Test.YtafcbeajnlfomaaPFnReceiptsx0
import Derived.Test.YtafcbeajnlfomaaPFnReceiptsx1
import Derived.Test.YtafcbeajnlfomaaPFnReceiptsx2
import Derived.Test.YtafcbeajnlfomaaPFnReceiptsx3
import Derived.Test.YtafcbeajnlfomaaPFnReceiptsx4
import Derived.Test.YtafcbeajnlfomaaPFnReceiptsx5
import Derived.Test.YtafcbeajnlfomaaPFnReceiptsx7
namespace Go.Proofs.Ytafcbeajnlfomaa.PFnReceipts
open Go.RowKit Go.Proofs.YtafcbeajnlfomaaW.PrintWords Go.Proofs.YtafcbeajnlfomaaW.PrintLast Go.Proofs.YtafcbeajnlfomaaW.PrintMore
attribute [local go_sem] max2_int min2_int max_two min_two max_three min_three max_four min_four   -- for this text's walks alone
set_option linter.unusedVariables false
set_option linter.unusedSimpArgs false

attribute [local go_sem high] eqA36
/-! ### laws_FnReceipts: function 10 -/
mutual
def laws_FnReceipts.j0 : Nat → List Int → Int → Bool → Bool → Int → Int → Int → Int → Option (Bool)
  | 0, _, _, _, _, _, _, _, _ => none
  | k + 1, x1, x5, x10, x67, x353000, x353001, x353002, x353003 => if x67 = true then (some false) else (if x10 = true then ((impl_PublicFor.f k x5).bind fun bt359 => ((impl_CheckReceipt.f k bt359.1 x353000 x353001 x353002 x353003).bind fun bt361 => (if bt359.2 = true then (if bt361.2 = true then (if bt361.1 = true then (laws_FnReceipts.j1 k x1 bt359.1 (x353001 != (wrap64 (x353000 + 1))) x353000 x353001 x353002 x353003) else (laws_FnReceipts.j1 k x1 bt359.1 true x353000 x353001 x353002 x353003)) else (laws_FnReceipts.j1 k x1 bt359.1 true x353000 x353001 x353002 x353003)) else (laws_FnReceipts.j1 k x1 bt359.1 true x353000 x353001 x353002 x353003)))) else (laws_FnReceipts.j2 k x1))
def laws_FnReceipts.j2 : Nat → List Int → Option (Bool)
  | 0, _ => none
  | k + 1, x1 => (spec_DrawCheckReceipt.f k x1).bind fun bt366 => ((impl_CheckReceipt.f k bt366.1 bt366.2.1 bt366.2.2.1 bt366.2.2.2.1 bt366.2.2.2.2).bind fun bt372 => ((spec_CheckReceipt.f k bt366.1 bt366.2.1 bt366.2.2.1 bt366.2.2.2.1 bt366.2.2.2.2).bind fun bt374 => ((spec_DrawProofFor.f k x1).bind fun bt376 => ((impl_ProofFor.f k bt376.1 bt376.2.1 bt376.2.2.1 bt376.2.2.2.1 bt376.2.2.2.2.1 bt376.2.2.2.2.2).bind fun bt387 => ((spec_ProofFor.f k bt376.1 bt376.2.1 bt376.2.2.1 bt376.2.2.2.1 bt376.2.2.2.2.1 bt376.2.2.2.2.2).bind fun bt391 => (if (bt372.2 == bt374.2) = true then (if (bt372.1 == bt374.1) = true then (if (bt387.2 == bt391.2) = true then ((laws_sameReceipts.f k bt387.1 bt391.1).bind fun t395 => (some t395)) else (some false)) else (some false)) else (some false)))))))
def laws_FnReceipts.j1 : Nat → List Int → Int → Bool → Int → Int → Int → Int → Option (Bool)
  | 0, _, _, _, _, _, _, _ => none
  | k + 1, x1, x13, x97, x353000, x353001, x353002, x353003 => if x97 = true then (some false) else ((laws_numberOf.f k x1).bind fun t363 => ((impl_CheckReceipt.f k x13 x353000 x353001 x353002 (Int.tmod (wrap64 ((wrap64 (x353003 + 1)) + (Int.tmod t363 1498))) 1499)).bind fun bt364 => (if bt364.2 = true then (if bt364.1 = true then (some false) else (laws_FnReceipts.j2 k x1)) else (some false))))
end
def laws_FnReceipts.f (k : Nat) (l0 : List Int) (l1 : List Int) : Option (Bool) := if (wrap64 ((l0.length : Int) + (l1.length : Int))) > 1048576 then (some true) else ((spec_DrawSignFor.f l0).bind fun bt343 => ((impl_SignFor.f bt343.1 bt343.2.1 bt343.2.2.1 bt343.2.2.2).bind fun bt347 => ((spec_SignFor.f bt343.1 bt343.2.1 bt343.2.2.1 bt343.2.2.2).bind fun bt353 => (if (bt347.2.2.2.2 != bt353.2.2.2.2) = true then (laws_FnReceipts.j0 k l1 bt343.1 bt347.2.2.2.2 true bt347.1 bt347.2.1 bt347.2.2.1 bt347.2.2.2.1) else (laws_FnReceipts.j0 k l1 bt343.1 bt347.2.2.2.2 (!(bt347.1 == bt353.1) || (!(bt347.2.1 == bt353.2.1) || (!(bt347.2.2.1 == bt353.2.2.1) || (!(bt347.2.2.2.1 == bt353.2.2.2.1))))) bt347.1 bt347.2.1 bt347.2.2.1 bt347.2.2.2.1)))))
theorem laws_FnReceipts.mono_l : ∀ k, (∀ y0 y1 y2 y3 y4 y5 y6 y7, LeO (laws_FnReceipts.j0 k y0 y1 y2 y3 y4 y5 y6 y7) (laws_FnReceipts.j0 (k + 1) y0 y1 y2 y3 y4 y5 y6 y7)) ∧ (∀ y0, LeO (laws_FnReceipts.j2 k y0) (laws_FnReceipts.j2 (k + 1) y0)) ∧ (∀ y0 y1 y2 y3 y4 y5 y6, LeO (laws_FnReceipts.j1 k y0 y1 y2 y3 y4 y5 y6) (laws_FnReceipts.j1 (k + 1) y0 y1 y2 y3 y4 y5 y6))
  | 0 => ⟨fun _ _ _ _ _ _ _ _ r h => by simp [laws_FnReceipts.j0] at h, fun _ r h => by simp [laws_FnReceipts.j2] at h, fun _ _ _ _ _ _ _ r h => by simp [laws_FnReceipts.j1] at h⟩
  | k + 1 => by
    obtain ⟨ih0, ih1, ih2⟩ := laws_FnReceipts.mono_l k
    refine ⟨?_, ?_, ?_⟩
    · intro y0 y1 y2 y3 y4 y5 y6 y7
      unfold laws_FnReceipts.j0
      repeat' first
      | (with_reducible exact ih0 _ _ _ _ _ _ _ _)
      | (with_reducible exact ih1 _)
      | (with_reducible exact ih2 _ _ _ _ _ _ _)
      | (with_reducible exact impl_CheckReceipt.mono _ _ _ _ _ _)
      | (with_reducible exact impl_ProofFor.mono _ _ _ _ _ _ _)
      | (with_reducible exact impl_PublicFor.mono _ _)
      | (with_reducible exact laws_numberOf.mono _ _)
      | (with_reducible exact laws_sameReceipts.mono _ _ _)
      | (with_reducible exact spec_CheckReceipt.mono _ _ _ _ _ _)
      | (with_reducible exact spec_DrawCheckReceipt.mono _ _)
      | (with_reducible exact spec_DrawProofFor.mono _ _)
      | (with_reducible exact spec_ProofFor.mono _ _ _ _ _ _ _)
      | (with_reducible exact LeO.refl _)
      | (with_reducible exact LeO.none _)
      | (with_reducible refine LeO.ite ?_ ?_)
      | (with_reducible refine LeO.bind ?_ (fun _ => ?_))
      | exact ih0 _ _ _ _ _ _ _ _
      | exact ih1 _
      | exact ih2 _ _ _ _ _ _ _
      | exact impl_CheckReceipt.mono _ _ _ _ _ _
      | exact impl_ProofFor.mono _ _ _ _ _ _ _
      | exact impl_PublicFor.mono _ _
      | exact laws_numberOf.mono _ _
      | exact laws_sameReceipts.mono _ _ _
      | exact spec_CheckReceipt.mono _ _ _ _ _ _
      | exact spec_DrawCheckReceipt.mono _ _
      | exact spec_DrawProofFor.mono _ _
      | exact spec_ProofFor.mono _ _ _ _ _ _ _
      | exact LeO.none _
      | refine LeO.ite ?_ ?_
      | refine LeO.bind ?_ (fun _ => ?_)
    · intro y0
      unfold laws_FnReceipts.j2
      repeat' first
      | (with_reducible exact ih0 _ _ _ _ _ _ _ _)
      | (with_reducible exact ih1 _)
      | (with_reducible exact ih2 _ _ _ _ _ _ _)
      | (with_reducible exact impl_CheckReceipt.mono _ _ _ _ _ _)
      | (with_reducible exact impl_ProofFor.mono _ _ _ _ _ _ _)
      | (with_reducible exact impl_PublicFor.mono _ _)
      | (with_reducible exact laws_numberOf.mono _ _)
      | (with_reducible exact laws_sameReceipts.mono _ _ _)
      | (with_reducible exact spec_CheckReceipt.mono _ _ _ _ _ _)
      | (with_reducible exact spec_DrawCheckReceipt.mono _ _)
      | (with_reducible exact spec_DrawProofFor.mono _ _)
      | (with_reducible exact spec_ProofFor.mono _ _ _ _ _ _ _)
      | (with_reducible exact LeO.refl _)
      | (with_reducible exact LeO.none _)
      | (with_reducible refine LeO.ite ?_ ?_)
      | (with_reducible refine LeO.bind ?_ (fun _ => ?_))
      | exact ih0 _ _ _ _ _ _ _ _
      | exact ih1 _
      | exact ih2 _ _ _ _ _ _ _
      | exact impl_CheckReceipt.mono _ _ _ _ _ _
      | exact impl_ProofFor.mono _ _ _ _ _ _ _
      | exact impl_PublicFor.mono _ _
      | exact laws_numberOf.mono _ _
      | exact laws_sameReceipts.mono _ _ _
      | exact spec_CheckReceipt.mono _ _ _ _ _ _
      | exact spec_DrawCheckReceipt.mono _ _
      | exact spec_DrawProofFor.mono _ _
      | exact spec_ProofFor.mono _ _ _ _ _ _ _
      | exact LeO.none _
      | refine LeO.ite ?_ ?_
      | refine LeO.bind ?_ (fun _ => ?_)
    · intro y0 y1 y2 y3 y4 y5 y6
      unfold laws_FnReceipts.j1
      repeat' first
      | (with_reducible exact ih0 _ _ _ _ _ _ _ _)
      | (with_reducible exact ih1 _)
      | (with_reducible exact ih2 _ _ _ _ _ _ _)
      | (with_reducible exact impl_CheckReceipt.mono _ _ _ _ _ _)
      | (with_reducible exact impl_ProofFor.mono _ _ _ _ _ _ _)
      | (with_reducible exact impl_PublicFor.mono _ _)
      | (with_reducible exact laws_numberOf.mono _ _)
      | (with_reducible exact laws_sameReceipts.mono _ _ _)
      | (with_reducible exact spec_CheckReceipt.mono _ _ _ _ _ _)
      | (with_reducible exact spec_DrawCheckReceipt.mono _ _)
      | (with_reducible exact spec_DrawProofFor.mono _ _)
      | (with_reducible exact spec_ProofFor.mono _ _ _ _ _ _ _)
      | (with_reducible exact LeO.refl _)
      | (with_reducible exact LeO.none _)
      | (with_reducible refine LeO.ite ?_ ?_)
      | (with_reducible refine LeO.bind ?_ (fun _ => ?_))
      | exact ih0 _ _ _ _ _ _ _ _
      | exact ih1 _
      | exact ih2 _ _ _ _ _ _ _
      | exact impl_CheckReceipt.mono _ _ _ _ _ _
      | exact impl_ProofFor.mono _ _ _ _ _ _ _
      | exact impl_PublicFor.mono _ _
      | exact laws_numberOf.mono _ _
      | exact laws_sameReceipts.mono _ _ _
      | exact spec_CheckReceipt.mono _ _ _ _ _ _
      | exact spec_DrawCheckReceipt.mono _ _
      | exact spec_DrawProofFor.mono _ _
      | exact spec_ProofFor.mono _ _ _ _ _ _ _
      | exact LeO.none _
      | refine LeO.ite ?_ ?_
      | refine LeO.bind ?_ (fun _ => ?_)
theorem laws_FnReceipts.mono : ∀ a0 a1 k, LeO (laws_FnReceipts.f k a0 a1) (laws_FnReceipts.f (k + 1) a0 a1) := by
  intro a0 a1 k
  obtain ⟨ih0, ih1, ih2⟩ := laws_FnReceipts.mono_l k
  unfold laws_FnReceipts.f
  repeat' first
      | (with_reducible exact ih0 _ _ _ _ _ _ _ _)
      | (with_reducible exact ih1 _)
      | (with_reducible exact ih2 _ _ _ _ _ _ _)
      | (with_reducible exact impl_CheckReceipt.mono _ _ _ _ _ _)
      | (with_reducible exact impl_ProofFor.mono _ _ _ _ _ _ _)
      | (with_reducible exact impl_PublicFor.mono _ _)
      | (with_reducible exact laws_numberOf.mono _ _)
      | (with_reducible exact laws_sameReceipts.mono _ _ _)
      | (with_reducible exact spec_CheckReceipt.mono _ _ _ _ _ _)
      | (with_reducible exact spec_DrawCheckReceipt.mono _ _)
      | (with_reducible exact spec_DrawProofFor.mono _ _)
      | (with_reducible exact spec_ProofFor.mono _ _ _ _ _ _ _)
      | (with_reducible exact LeO.refl _)
      | (with_reducible exact LeO.none _)
      | (with_reducible refine LeO.ite ?_ ?_)
      | (with_reducible refine LeO.bind ?_ (fun _ => ?_))
      | exact ih0 _ _ _ _ _ _ _ _
      | exact ih1 _
      | exact ih2 _ _ _ _ _ _ _
      | exact impl_CheckReceipt.mono _ _ _ _ _ _
      | exact impl_ProofFor.mono _ _ _ _ _ _ _
      | exact impl_PublicFor.mono _ _
      | exact laws_numberOf.mono _ _
      | exact laws_sameReceipts.mono _ _ _
      | exact spec_CheckReceipt.mono _ _ _ _ _ _
      | exact spec_DrawCheckReceipt.mono _ _
      | exact spec_DrawProofFor.mono _ _
      | exact spec_ProofFor.mono _ _ _ _ _ _ _
      | exact LeO.none _
      | refine LeO.ite ?_ ?_
      | refine LeO.bind ?_ (fun _ => ?_)
def laws_FnReceipts.T13 : Bool × List (List Nat × List Nat) := (true, [([], []), ([0], [0]), ([1], [1]), ([], []), ([3], [3]), ([4], [4]), ([2, 5], [2, 5]), ([6], [6]), ([0, 1, 2, 3, 4, 5, 6, 7], []), ([8, 7, 4, 0, 1, 2, 3, 4, 5, 6, 7], [7, 8])])
def laws_FnReceipts.B13 : List Nat := [0, 1, 3, 0, 8, 24, 63, 127, 255, 511]
theorem laws_FnReceipts.tab13 : rtab .any (opsOf Try.f10 13) = laws_FnReceipts.T13 := by kernel_rfl
theorem laws_FnReceipts.bits13 : waitsOk laws_FnReceipts.T13.2 laws_FnReceipts.B13 = true := by kernel_rfl
set_option maxHeartbeats 8000000 in
set_option maxRecDepth 100000 in
theorem laws_FnReceipts.calls (k : Nat) (A0 : Option Addr) (c0 : Nat) (l0 : List Int) (A1 : Option Addr) (c1 : Nat) (l1 : List Int) (r : Bool) (w : World) (hr0 : Kd.C (Kd.int .u8) w A0 l0.length l0) (hc0 : l0.length ≤ c0) (hr1 : Kd.C (Kd.int .u8) w A1 l1.length l1) (hc1 : l1.length ≤ c1) (h : laws_FnReceipts.f k l0 l1 = some r) (hr_ : Aside0 (r = true)) :
    Calls Try.prog 10 #[.slice A0 l0.length c0, .slice A1 l1.length c1] w fun e w' => e = .returned (.bool r) ∧ Below w.heap.size w w' := by
  have hu36 := Try.underlying36
  have hu56 := Try.underlying56
  have HR0 := Aside0.mk hr0
  have HC0 := Aside0.mk hc0
  clear hr0 hc0
  have HR1 := Aside0.mk hr1
  have HC1 := Aside0.mk hc1
  clear hr1 hc1
  have HB := Aside0.mk (Below.refl w.heap.size w)
  have H : (if (wrap64 ((l0.length : Int) + (l1.length : Int))) > 1048576 then (some true) else ((spec_DrawSignFor.f l0).bind fun bt343 => ((impl_SignFor.f bt343.1 bt343.2.1 bt343.2.2.1 bt343.2.2.2).bind fun bt347 => ((spec_SignFor.f bt343.1 bt343.2.1 bt343.2.2.1 bt343.2.2.2).bind fun bt353 => (if (bt347.2.2.2.2 != bt353.2.2.2.2) = true then (laws_FnReceipts.j0 k l1 bt343.1 bt347.2.2.2.2 true bt347.1 bt347.2.1 bt347.2.2.1 bt347.2.2.2.1) else (laws_FnReceipts.j0 k l1 bt343.1 bt347.2.2.2.2 (!(bt347.1 == bt353.1) || (!(bt347.2.1 == bt353.2.1) || (!(bt347.2.2.1 == bt353.2.2.1) || (!(bt347.2.2.2.1 == bt353.2.2.2.1))))) bt347.1 bt347.2.1 bt347.2.2.1 bt347.2.2.2.1)))))) = some r := h
  clear h
  by_cases c3 : (wrap64 ((l0.length : Int) + (l1.length : Int))) > 1048576
  · rw [if_pos c3] at H
    have c3b0 : decide (1048576 < (wrap64 ((l0.length : Int) + (l1.length : Int)))) = true := decide_eq_true c3
    clear c3
    obtain rfl := Option.some.inj H
    simp only [Option.some.injEq, Prod.mk.injEq] at H
    obtain ⟨rfl⟩ := H
    go_enter Try.func10, Try.ntmps10
    go_wp2
    go_ret
    exact ⟨by first | rfl | (simp [errW_none, errW_some] <;> rfl) | (simp [*, errW_none, errW_some] <;> rfl), by repeat (first | (with_reducible first | exact HB.out | apply below_alloc | apply pw_below_drewN | apply below_drew1) | exact HB.out)⟩
  · rw [if_neg c3] at H
    have c3b0 : decide (1048576 < (wrap64 ((l0.length : Int) + (l1.length : Int)))) = false := decide_eq_false c3
    clear c3
    replace H := Option.bind_eq_some_iff.mp H
    obtain ⟨⟨t343, t344, t345, t346⟩, A40, H⟩ := H
    replace H : ((impl_SignFor.f t343 t344 t345 t346).bind fun bt347 => ((spec_SignFor.f t343 t344 t345 t346).bind fun bt353 => (if (bt347.2.2.2.2 != bt353.2.2.2.2) = true then (laws_FnReceipts.j0 k l1 t343 bt347.2.2.2.2 true bt347.1 bt347.2.1 bt347.2.2.1 bt347.2.2.2.1) else (laws_FnReceipts.j0 k l1 t343 bt347.2.2.2.2 (!(bt347.1 == bt353.1) || (!(bt347.2.1 == bt353.2.1) || (!(bt347.2.2.1 == bt353.2.2.1) || (!(bt347.2.2.2.1 == bt353.2.2.2.1))))) bt347.1 bt347.2.1 bt347.2.2.1 bt347.2.2.2.1)))) = some r := H
    have A4 := Aside0.mk A40
    clear A40
    replace H := Option.bind_eq_some_iff.mp H
    obtain ⟨⟨t347, t348, t349, t350, t351⟩, A50, H⟩ := H
    replace H : ((spec_SignFor.f t343 t344 t345 t346).bind fun bt353 => (if (t351 != bt353.2.2.2.2) = true then (laws_FnReceipts.j0 k l1 t343 t351 true t347 t348 t349 t350) else (laws_FnReceipts.j0 k l1 t343 t351 (!(t347 == bt353.1) || (!(t348 == bt353.2.1) || (!(t349 == bt353.2.2.1) || (!(t350 == bt353.2.2.2.1))))) t347 t348 t349 t350))) = some r := H
    have A5 := Aside0.mk A50
    clear A50
    replace H := Option.bind_eq_some_iff.mp H
    obtain ⟨⟨t353, t354, t355, t356, t357⟩, A60, H⟩ := H
    replace H : (if (t351 != t357) = true then (laws_FnReceipts.j0 k l1 t343 t351 true t347 t348 t349 t350) else (laws_FnReceipts.j0 k l1 t343 t351 (!(t347 == t353) || (!(t348 == t354) || (!(t349 == t355) || (!(t350 == t356))))) t347 t348 t349 t350)) = some r := H
    have A6 := Aside0.mk A60
    clear A60
    have HC7 := Aside0.mk H
    clear H
    go_enter Try.func10, Try.ntmps10
    go_upto_region 6 with (first | ((with_reducible refine gate_callee (f := 43) rfl ?_); refine goesL_ (some 39) rfl rfl Try.func43 (by kernel_rfl) rfl #[.slice A0 l0.length c0] rfl (by (try simp only [List.map_toArray, List.map_cons, List.map_nil]); first | done | rfl | (simp only [List.length_drop, List.length_take]; rfl)) ?_; (with_reducible refine (spec_DrawSignFor.calls _ _ l0 t343 t344 t345 t346 _ ?side1 ?side2 A4.out).mono ?_); (case side1 => repeat (first | exact HR0.out | (with_reducible refine Kd.C_alloc ?_ _) | (with_reducible refine Kd.C_drewN ?_ _) | (with_reducible refine Kd.C_drew ?_))); (case side2 => exact HC0.out); rintro e w8 ⟨rfl, hb⟩; refine ⟨_, rfl, ?_⟩; have n0_ := Aside0.mk (below_step (by repeat (first | (with_reducible first | exact HB.out | apply below_alloc | apply pw_below_drewN | apply below_drew1) | exact HB.out)) hb); clear HB; have HB := n0_; clear n0_; (try clear hb); (try clear hb2); (try clear hk); (try clear hi)) | ((with_reducible refine gate_callee (f := 44) rfl ?_); refine goesL_ (some 49) rfl rfl Try.func44 (by kernel_rfl) rfl #[.int .i64 t343, .int .i64 t344, .int .i64 t345, .int .i64 t346] rfl (by (try simp only [List.map_toArray, List.map_cons, List.map_nil]); first | done | rfl | (simp only [List.length_drop, List.length_take]; rfl)) ?_; (with_reducible refine (impl_SignFor.calls t343 t344 t345 t346 t347 t348 t349 t350 t351 _ A5.out).mono ?_); rintro e w9 ⟨rfl, hb⟩; refine ⟨_, rfl, ?_⟩; have n0_ := Aside0.mk (below_step (by repeat (first | (with_reducible first | exact HB.out | apply below_alloc | apply pw_below_drewN | apply below_drew1) | exact HB.out)) hb); clear HB; have HB := n0_; clear n0_; (try clear hb); (try clear hb2); (try clear hk); (try clear hi)) | ((with_reducible refine gate_dst (N := 9) rfl ?_); refine box_event ?hg (N := 9) ?hd (cs := #[.int .i64 0, .int .i64 0, .int .i64 0, .int .i64 0]) (t := 36) ?hr ?_; (case hd => rfl); (case hg => rfl); (case hr => first | (go_simp; done) | (go_simp; rfl)); intro gb352 hg w10 hbox hb; have n0_ := Aside0.mk (below_step (by repeat (first | (with_reducible first | exact HB.out | apply below_alloc | apply pw_below_drewN | apply below_drew1) | exact HB.out)) hb); have n1_ := Aside0.mk (hbox); have n2_ := Aside0.mk ((by rw [hg]; exact (below_size (by repeat (first | (with_reducible first | exact HB.out | apply below_alloc | apply pw_below_drewN | apply below_drew1) | exact HB.out))) : w.heap.size ≤ gb352)); have n3_ := Aside0.mk ((by rw [hg]; exact (below_size (by repeat (first | (with_reducible first | exact HB.out | apply below_alloc | apply pw_below_drewN | apply below_drew1) | exact HB.out))) : w.heap.size ≤ gb352)); clear HB; have HB := n0_; have BK352 := n1_; have GW352 := n2_; have GE352 := n3_; clear n0_ n1_ n2_ n3_; clear hb hbox hg; have hcz11_0 : w10.cell? ⟨gb352, 0, none⟩ = some (.int .i64 0) := (blk_cell BK352.out 0).trans rfl; have hcz11_1 : w10.cell? ⟨gb352, 1, none⟩ = some (.int .i64 0) := (blk_cell BK352.out 1).trans rfl; have hcz11_2 : w10.cell? ⟨gb352, 2, none⟩ = some (.int .i64 0) := (blk_cell BK352.out 2).trans rfl; have hcz11_3 : w10.cell? ⟨gb352, 3, none⟩ = some (.int .i64 0) := (blk_cell BK352.out 3).trans rfl; have hfz11_0 := blk_frozen BK352.out 0; have hfz11_1 := blk_frozen BK352.out 1; have hfz11_2 := blk_frozen BK352.out 2; have hfz11_3 := blk_frozen BK352.out 3) | ((with_reducible refine gate_callee (f := 45) rfl ?_); refine goesL_ (some 57) rfl rfl Try.func45 (by kernel_rfl) rfl #[.int .i64 t343, .int .i64 t344, .int .i64 t345, .int .i64 t346] rfl (by (try simp only [List.map_toArray, List.map_cons, List.map_nil]); first | done | rfl | (simp only [List.length_drop, List.length_take]; rfl)) ?_; (with_reducible refine (spec_SignFor.calls t343 t344 t345 t346 t353 t354 t355 t356 t357 _ A6.out).mono ?_); rintro e w12 ⟨rfl, hb⟩; refine ⟨_, rfl, ?_⟩; have n0_ := Aside0.mk (blk_below (g := gb352) (o := .cells #[.int .i64 t347, .int .i64 t348, .int .i64 t349, .int .i64 t350] 36 (0, 0)) (by (with_reducible repeat (first | refine blk_drewN ?_ _ | refine blk_drew ?_ | refine blk_alloc ?_ _)); refine blk_put (cs := #[.int .i64 t347, .int .i64 t348, .int .i64 t349, .int .i64 0]) ?_ 3 _ rfl; (with_reducible repeat (first | refine blk_drewN ?_ _ | refine blk_drew ?_ | refine blk_alloc ?_ _)); refine blk_put (cs := #[.int .i64 t347, .int .i64 t348, .int .i64 0, .int .i64 0]) ?_ 2 _ rfl; (with_reducible repeat (first | refine blk_drewN ?_ _ | refine blk_drew ?_ | refine blk_alloc ?_ _)); refine blk_put (cs := #[.int .i64 t347, .int .i64 0, .int .i64 0, .int .i64 0]) ?_ 1 _ rfl; (with_reducible repeat (first | refine blk_drewN ?_ _ | refine blk_drew ?_ | refine blk_alloc ?_ _)); refine blk_put (cs := #[.int .i64 0, .int .i64 0, .int .i64 0, .int .i64 0]) ?_ 0 _ rfl; (with_reducible repeat (first | refine blk_drewN ?_ _ | refine blk_drew ?_ | refine blk_alloc ?_ _)); exact BK352.out) hb); have n1_ := Aside0.mk (below_step (by repeat (first | (with_reducible first | exact HB.out | apply below_alloc | apply pw_below_drewN | apply below_drew1 | refine below_set ?_ GE352.out) | exact HB.out)) hb); clear BK352; clear HB; have BK352 := n0_; have HB := n1_; clear n0_ n1_; (try clear hb); (try clear hb2); (try clear hk); (try clear hi)) | ((with_reducible refine gate_dst (N := 11) rfl ?_); refine box_event ?hg (N := 11) ?hd (cs := #[.int .i64 0, .int .i64 0, .int .i64 0, .int .i64 0]) (t := 36) ?hr ?_; (case hd => rfl); (case hg => rfl); (case hr => first | (go_simp; done) | (go_simp; rfl)); intro gb358 hg w13 hbox hb; have n0_ := Aside0.mk (blk_below (g := gb352) (o := .cells #[.int .i64 t347, .int .i64 t348, .int .i64 t349, .int .i64 t350] 36 (0, 0)) (by (with_reducible repeat (first | refine blk_drewN ?_ _ | refine blk_drew ?_ | refine blk_alloc ?_ _)); exact BK352.out) hb); have n1_ := Aside0.mk (below_step (by repeat (first | (with_reducible first | exact HB.out | apply below_alloc | apply pw_below_drewN | apply below_drew1 | refine below_set ?_ GE352.out) | exact HB.out)) hb); have n2_ := Aside0.mk (hbox); have n3_ := Aside0.mk ((by rw [hg]; exact (below_size (by repeat (first | (with_reducible first | exact HB.out | apply below_alloc | apply pw_below_drewN | apply below_drew1 | refine below_set ?_ GE352.out) | exact HB.out))) : w.heap.size ≤ gb358)); have n4_ := Aside0.mk ((by rw [hg]; exact (below_size (by repeat (first | (with_reducible first | exact HB.out | apply below_alloc | apply pw_below_drewN | apply below_drew1 | refine below_set ?_ GE352.out) | exact HB.out))) : w.heap.size ≤ gb358)); have n5_ := Aside0.mk ((by rw [hg]; exact Nat.ne_of_lt (blk_lt (g := gb352) (o := .cells #[.int .i64 t347, .int .i64 t348, .int .i64 t349, .int .i64 t350] 36 (0, 0)) (by (with_reducible repeat (first | refine blk_drewN ?_ _ | refine blk_drew ?_ | refine blk_alloc ?_ _)); exact BK352.out)) : gb352 ≠ gb358)); have n6_ := Aside0.mk ((by rw [hg]; exact Nat.ne_of_gt (blk_lt (g := gb352) (o := .cells #[.int .i64 t347, .int .i64 t348, .int .i64 t349, .int .i64 t350] 36 (0, 0)) (by (with_reducible repeat (first | refine blk_drewN ?_ _ | refine blk_drew ?_ | refine blk_alloc ?_ _)); exact BK352.out)) : gb358 ≠ gb352)); clear BK352; clear HB; have BK352 := n0_; have HB := n1_; have BK358 := n2_; have GW358 := n3_; have GE358 := n4_; have NB352_358 := n5_; have NB358_352 := n6_; clear n0_ n1_ n2_ n3_ n4_ n5_ n6_; clear hb hbox hg; have hnb14 := NB358_352.out; have hnc14 := NB352_358.out; have hcz15_0 : w13.cell? ⟨gb358, 0, none⟩ = some (.int .i64 0) := (blk_cell BK358.out 0).trans rfl; have hcz15_1 : w13.cell? ⟨gb358, 1, none⟩ = some (.int .i64 0) := (blk_cell BK358.out 1).trans rfl; have hcz15_2 : w13.cell? ⟨gb358, 2, none⟩ = some (.int .i64 0) := (blk_cell BK358.out 2).trans rfl; have hcz15_3 : w13.cell? ⟨gb358, 3, none⟩ = some (.int .i64 0) := (blk_cell BK358.out 3).trans rfl; have hfz15_0 := blk_frozen BK358.out 0; have hfz15_1 := blk_frozen BK358.out 1; have hfz15_2 := blk_frozen BK358.out 2; have hfz15_3 := blk_frozen BK358.out 3))
    (try simp only [Act.put, List.setIfInBounds_toArray, List.set_cons_zero, List.set_cons_succ])
    go_cut [67] (fun v67 wc => ∃ (kq : Nat) (x67_6 : Bool), v67 = .bool x67_6 ∧ Aside0 (laws_FnReceipts.j0 kq l1 t343 t351 x67_6 t347 t348 t349 t350 = some r) ∧ Aside0 (kq ≤ k) ∧ Aside0 (wc.heap[gb352]? = some (.cells #[.int .i64 t347, .int .i64 t348, .int .i64 t349, .int .i64 t350] 36 (0, 0))) ∧ Aside0 (wc.heap[gb358]? = some (.cells #[.int .i64 t353, .int .i64 t354, .int .i64 t355, .int .i64 t356] 36 (0, 0))) ∧ Aside0 (Below w.heap.size w wc))
    case first =>
      have H := HC7.out
      clear HC7
      by_cases c16 : (t351 != t357) = true
      · rw [if_pos c16] at H
        have c16b0 : (t351 != t357) = true := c16
        (try (have c16b1 : decide (t351 = t357) = false := by simpa using c16))
        (try (have c16b2 : (t351 == t357) = false := by simpa using c16))
        (try (have c16b3 : ¬ (t351 = t357) := by simpa using c16))
        clear c16
        (first | rw [c16b0] | (simp only [i64_w, i32_w]; rw [c16b0]) | skip)
        have H' := Aside0.mk H
        clear H
        go_wp2
        go_meet
        case rel => exact ⟨_, (true), (by first | rfl | (simp; done) | (simp [*]; done)), H', ⟨by first | omega | exact Nat.le_refl _⟩, ⟨by (with_reducible repeat (first | refine blk_drewN ?_ _ | refine blk_drew ?_ | refine blk_alloc ?_ _)); refine blk_far ?_ NB352_358.out _; (with_reducible repeat (first | refine blk_drewN ?_ _ | refine blk_drew ?_ | refine blk_alloc ?_ _)); refine blk_far ?_ NB352_358.out _; (with_reducible repeat (first | refine blk_drewN ?_ _ | refine blk_drew ?_ | refine blk_alloc ?_ _)); refine blk_far ?_ NB352_358.out _; (with_reducible repeat (first | refine blk_drewN ?_ _ | refine blk_drew ?_ | refine blk_alloc ?_ _)); refine blk_far ?_ NB352_358.out _; (with_reducible repeat (first | refine blk_drewN ?_ _ | refine blk_drew ?_ | refine blk_alloc ?_ _)); exact BK352.out⟩, ⟨by (with_reducible repeat (first | refine blk_drewN ?_ _ | refine blk_drew ?_ | refine blk_alloc ?_ _)); refine blk_put (cs := #[.int .i64 t353, .int .i64 t354, .int .i64 t355, .int .i64 0]) ?_ 3 _ rfl; (with_reducible repeat (first | refine blk_drewN ?_ _ | refine blk_drew ?_ | refine blk_alloc ?_ _)); refine blk_put (cs := #[.int .i64 t353, .int .i64 t354, .int .i64 0, .int .i64 0]) ?_ 2 _ rfl; (with_reducible repeat (first | refine blk_drewN ?_ _ | refine blk_drew ?_ | refine blk_alloc ?_ _)); refine blk_put (cs := #[.int .i64 t353, .int .i64 0, .int .i64 0, .int .i64 0]) ?_ 1 _ rfl; (with_reducible repeat (first | refine blk_drewN ?_ _ | refine blk_drew ?_ | refine blk_alloc ?_ _)); refine blk_put (cs := #[.int .i64 0, .int .i64 0, .int .i64 0, .int .i64 0]) ?_ 0 _ rfl; (with_reducible repeat (first | refine blk_drewN ?_ _ | refine blk_drew ?_ | refine blk_alloc ?_ _)); exact BK358.out⟩, ⟨by repeat (first | (with_reducible first | exact HB.out | apply below_alloc | apply pw_below_drewN | apply below_drew1 | refine below_set ?_ GE352.out | refine below_set ?_ GE358.out) | exact HB.out)⟩⟩
      · rw [if_neg c16] at H
        have c16b0 : (t351 != t357) = false := by simpa using c16
        (try (have c16b1 : decide (t351 = t357) = true := by simpa using c16))
        (try (have c16b2 : (t351 == t357) = true := by simpa using c16))
        clear c16
        (first | rw [c16b0] | (simp only [i64_w, i32_w]; rw [c16b0]) | skip)
        have H' := Aside0.mk H
        clear H
        have hnb17 := NB352_358.out
        have hnc17 := NB358_352.out
        have hcz18_0 : w13.cell? ⟨gb352, 0, none⟩ = some (.int .i64 t347) := (blk_cell BK352.out 0).trans rfl
        have hcz18_1 : w13.cell? ⟨gb352, 1, none⟩ = some (.int .i64 t348) := (blk_cell BK352.out 1).trans rfl
        have hcz18_2 : w13.cell? ⟨gb352, 2, none⟩ = some (.int .i64 t349) := (blk_cell BK352.out 2).trans rfl
        have hcz18_3 : w13.cell? ⟨gb352, 3, none⟩ = some (.int .i64 t350) := (blk_cell BK352.out 3).trans rfl
        have hfz18_0 := blk_frozen BK352.out 0
        have hfz18_1 := blk_frozen BK352.out 1
        have hfz18_2 := blk_frozen BK352.out 2
        have hfz18_3 := blk_frozen BK352.out 3
        have hcz19_0 : w13.cell? ⟨gb358, 0, none⟩ = some (.int .i64 0) := (blk_cell BK358.out 0).trans rfl
        have hcz19_1 : w13.cell? ⟨gb358, 1, none⟩ = some (.int .i64 0) := (blk_cell BK358.out 1).trans rfl
        have hcz19_2 : w13.cell? ⟨gb358, 2, none⟩ = some (.int .i64 0) := (blk_cell BK358.out 2).trans rfl
        have hcz19_3 : w13.cell? ⟨gb358, 3, none⟩ = some (.int .i64 0) := (blk_cell BK358.out 3).trans rfl
        have hfz19_0 := blk_frozen BK358.out 0
        have hfz19_1 := blk_frozen BK358.out 1
        have hfz19_2 := blk_frozen BK358.out 2
        have hfz19_3 := blk_frozen BK358.out 3
        go_wp2
        go_meet
        case rel => exact ⟨_, ((!(t347 == t353) || (!(t348 == t354) || (!(t349 == t355) || (!(t350 == t356)))))), (by first | rfl | (simp; done) | (simp [*]; done)), H', ⟨by first | omega | exact Nat.le_refl _⟩, ⟨by (with_reducible repeat (first | refine blk_drewN ?_ _ | refine blk_drew ?_ | refine blk_alloc ?_ _)); refine blk_far ?_ NB352_358.out _; (with_reducible repeat (first | refine blk_drewN ?_ _ | refine blk_drew ?_ | refine blk_alloc ?_ _)); refine blk_far ?_ NB352_358.out _; (with_reducible repeat (first | refine blk_drewN ?_ _ | refine blk_drew ?_ | refine blk_alloc ?_ _)); refine blk_far ?_ NB352_358.out _; (with_reducible repeat (first | refine blk_drewN ?_ _ | refine blk_drew ?_ | refine blk_alloc ?_ _)); refine blk_far ?_ NB352_358.out _; (with_reducible repeat (first | refine blk_drewN ?_ _ | refine blk_drew ?_ | refine blk_alloc ?_ _)); exact BK352.out⟩, ⟨by (with_reducible repeat (first | refine blk_drewN ?_ _ | refine blk_drew ?_ | refine blk_alloc ?_ _)); refine blk_put (cs := #[.int .i64 t353, .int .i64 t354, .int .i64 t355, .int .i64 0]) ?_ 3 _ rfl; (with_reducible repeat (first | refine blk_drewN ?_ _ | refine blk_drew ?_ | refine blk_alloc ?_ _)); refine blk_put (cs := #[.int .i64 t353, .int .i64 t354, .int .i64 0, .int .i64 0]) ?_ 2 _ rfl; (with_reducible repeat (first | refine blk_drewN ?_ _ | refine blk_drew ?_ | refine blk_alloc ?_ _)); refine blk_put (cs := #[.int .i64 t353, .int .i64 0, .int .i64 0, .int .i64 0]) ?_ 1 _ rfl; (with_reducible repeat (first | refine blk_drewN ?_ _ | refine blk_drew ?_ | refine blk_alloc ?_ _)); refine blk_put (cs := #[.int .i64 0, .int .i64 0, .int .i64 0, .int .i64 0]) ?_ 0 _ rfl; (with_reducible repeat (first | refine blk_drewN ?_ _ | refine blk_drew ?_ | refine blk_alloc ?_ _)); exact BK358.out⟩, ⟨by repeat (first | (with_reducible first | exact HB.out | apply below_alloc | apply pw_below_drewN | apply below_drew1 | refine below_set ?_ GE352.out | refine below_set ?_ GE358.out) | exact HB.out)⟩⟩
    case rest =>
      clear HC7
      try clear c1
      try clear p2
      try clear c3
      try clear c3b0
      try clear c4
      try clear p6
      try clear c10
      try clear c14
      try clear c16
      try clear c16b0
      try clear c16b1
      try clear c16b2
      try clear c17
      try clear hcz11_0
      try clear hcz11_1
      try clear hcz11_2
      try clear hcz11_3
      try clear hcz15_0
      try clear hcz15_1
      try clear hcz15_2
      try clear hcz15_3
      try clear hcz18_0
      try clear hcz18_1
      try clear hcz18_2
      try clear hcz18_3
      try clear hcz19_0
      try clear hcz19_1
      try clear hcz19_2
      try clear hcz19_3
      try clear hfz11_0
      try clear hfz11_1
      try clear hfz11_2
      try clear hfz11_3
      try clear hfz15_0
      try clear hfz15_1
      try clear hfz15_2
      try clear hfz15_3
      try clear hfz18_0
      try clear hfz18_1
      try clear hfz18_2
      try clear hfz18_3
      try clear hfz19_0
      try clear hfz19_1
      try clear hfz19_2
      try clear hfz19_3
      obtain ⟨kq, x67_6, rfl, HA, HJ6, BK352, BK358, HB⟩ := hcut
      cases kq with
      | zero => exact absurd HA.out (by simp [laws_FnReceipts.j0])
      | succ kj6 =>
        have H := HA.out
        clear HA
        simp only [laws_FnReceipts.j0] at H
        by_cases c20 : x67_6 = true
        · subst c20
          have H1 : (some false) = some r := by rw [if_pos rfl] at H; exact H
          clear H
          have H := H1
          clear H1
          obtain rfl := Option.some.inj H
          exact absurd hr_.out (by simp)
        · replace c20 := Bool.eq_false_iff.mpr c20
          subst c20
          have H1 : (if t351 = true then ((impl_PublicFor.f kj6 t343).bind fun bt359 => ((impl_CheckReceipt.f kj6 bt359.1 t347 t348 t349 t350).bind fun bt361 => (if bt359.2 = true then (if bt361.2 = true then (if bt361.1 = true then (laws_FnReceipts.j1 kj6 l1 bt359.1 (t348 != (wrap64 (t347 + 1))) t347 t348 t349 t350) else (laws_FnReceipts.j1 kj6 l1 bt359.1 true t347 t348 t349 t350)) else (laws_FnReceipts.j1 kj6 l1 bt359.1 true t347 t348 t349 t350)) else (laws_FnReceipts.j1 kj6 l1 bt359.1 true t347 t348 t349 t350)))) else (laws_FnReceipts.j2 kj6 l1)) = some r := by rw [if_neg (show ¬ (false = true) by decide)] at H; exact H
          clear H
          have H := H1
          clear H1
          have HC21 := Aside0.mk H
          clear H
          go_upto_if 68 with (fail)
          go_cut [] (fun wc => ∃ (kq : Nat) (x353003_20 : Int), Aside0 (laws_FnReceipts.j2 kq l1 = some r) ∧ Aside0 (kq ≤ kj6) ∧ Aside0 (wc.heap[gb352]? = some (.cells #[.int .i64 t347, .int .i64 t348, .int .i64 t349, .int .i64 x353003_20] 36 (0, 0))) ∧ Aside0 (wc.heap[gb358]? = some (.cells #[.int .i64 t353, .int .i64 t354, .int .i64 t355, .int .i64 t356] 36 (0, 0))) ∧ Aside0 (Below w.heap.size w wc))
          case first =>
            have H := HC21.out
            clear HC21
            by_cases c22 : t351 = true
            · subst c22
              have H1 : ((impl_PublicFor.f kj6 t343).bind fun bt359 => ((impl_CheckReceipt.f kj6 bt359.1 t347 t348 t349 t350).bind fun bt361 => (if bt359.2 = true then (if bt361.2 = true then (if bt361.1 = true then (laws_FnReceipts.j1 kj6 l1 bt359.1 (t348 != (wrap64 (t347 + 1))) t347 t348 t349 t350) else (laws_FnReceipts.j1 kj6 l1 bt359.1 true t347 t348 t349 t350)) else (laws_FnReceipts.j1 kj6 l1 bt359.1 true t347 t348 t349 t350)) else (laws_FnReceipts.j1 kj6 l1 bt359.1 true t347 t348 t349 t350)))) = some r := by rw [if_pos rfl] at H; exact H
              clear H
              have H := H1
              clear H1
              replace H := Option.bind_eq_some_iff.mp H
              obtain ⟨⟨t359, t360⟩, A230, H⟩ := H
              replace H : ((impl_CheckReceipt.f kj6 t359 t347 t348 t349 t350).bind fun bt361 => (if t360 = true then (if bt361.2 = true then (if bt361.1 = true then (laws_FnReceipts.j1 kj6 l1 t359 (t348 != (wrap64 (t347 + 1))) t347 t348 t349 t350) else (laws_FnReceipts.j1 kj6 l1 t359 true t347 t348 t349 t350)) else (laws_FnReceipts.j1 kj6 l1 t359 true t347 t348 t349 t350)) else (laws_FnReceipts.j1 kj6 l1 t359 true t347 t348 t349 t350))) = some r := H
              have A23 := Aside0.mk A230
              clear A230
              replace H := Option.bind_eq_some_iff.mp H
              obtain ⟨⟨t361, t362⟩, A240, H⟩ := H
              replace H : (if t360 = true then (if t362 = true then (if t361 = true then (laws_FnReceipts.j1 kj6 l1 t359 (t348 != (wrap64 (t347 + 1))) t347 t348 t349 t350) else (laws_FnReceipts.j1 kj6 l1 t359 true t347 t348 t349 t350)) else (laws_FnReceipts.j1 kj6 l1 t359 true t347 t348 t349 t350)) else (laws_FnReceipts.j1 kj6 l1 t359 true t347 t348 t349 t350)) = some r := H
              have A24 := Aside0.mk A240
              clear A240
              have HC25 := Aside0.mk H
              clear H
              go_upto_region 11 with (first | ((with_reducible refine gate_callee (f := 46) rfl ?_); refine goesL_ (some 71) rfl rfl Try.func46 (by kernel_rfl) rfl #[.int .i64 t343] rfl (by (try simp only [List.map_toArray, List.map_cons, List.map_nil]); first | done | rfl | (simp only [List.length_drop, List.length_take]; rfl)) ?_; (with_reducible refine (impl_PublicFor.calls kj6 t343 t359 t360 _ A23.out).mono ?_); rintro e w' ⟨rfl, ⟨nd, rfl⟩⟩; refine ⟨_, rfl, ?_⟩; have hnb26 := NB352_358.out; have hnc26 := NB358_352.out; have hcz27_0 : wc.cell? ⟨gb352, 0, none⟩ = some (.int .i64 t347) := (blk_cell BK352.out 0).trans rfl; have hcz27_1 : wc.cell? ⟨gb352, 1, none⟩ = some (.int .i64 t348) := (blk_cell BK352.out 1).trans rfl; have hcz27_2 : wc.cell? ⟨gb352, 2, none⟩ = some (.int .i64 t349) := (blk_cell BK352.out 2).trans rfl; have hcz27_3 : wc.cell? ⟨gb352, 3, none⟩ = some (.int .i64 t350) := (blk_cell BK352.out 3).trans rfl; have hfz27_0 := blk_frozen BK352.out 0; have hfz27_1 := blk_frozen BK352.out 1; have hfz27_2 := blk_frozen BK352.out 2; have hfz27_3 := blk_frozen BK352.out 3) | ((with_reducible refine gate_callee (f := 18) rfl ?_); refine goesL_ (some 77) rfl rfl Try.func18 (by kernel_rfl) rfl #[.int .i64 t359, .agg #[.int .i64 t347, .int .i64 t348, .int .i64 t349, .int .i64 t350]] rfl (by (try simp only [List.map_toArray, List.map_cons, List.map_nil]); first | done | rfl | (simp only [List.length_drop, List.length_take]; rfl)) ?_; (with_reducible refine (impl_CheckReceipt.calls kj6 t359 t347 t348 t349 t350 t361 t362 _ A24.out).mono ?_); rintro e w28 ⟨rfl, hb⟩; refine ⟨_, rfl, ?_⟩; have n0_ := Aside0.mk (blk_below (g := gb352) (o := .cells #[.int .i64 t347, .int .i64 t348, .int .i64 t349, .int .i64 t350] 36 (0, 0)) (by (with_reducible repeat (first | refine blk_drewN ?_ _ | refine blk_drew ?_ | refine blk_alloc ?_ _)); exact BK352.out) hb); have n1_ := Aside0.mk (blk_below (g := gb358) (o := .cells #[.int .i64 t353, .int .i64 t354, .int .i64 t355, .int .i64 t356] 36 (0, 0)) (by (with_reducible repeat (first | refine blk_drewN ?_ _ | refine blk_drew ?_ | refine blk_alloc ?_ _)); exact BK358.out) hb); have n2_ := Aside0.mk (below_step (by repeat (first | (with_reducible first | exact HB.out | apply below_alloc | apply pw_below_drewN | apply below_drew1 | refine below_set ?_ GE352.out | refine below_set ?_ GE358.out) | exact HB.out)) hb); clear BK352; clear BK358; clear HB; have BK352 := n0_; have BK358 := n1_; have HB := n2_; clear n0_ n1_ n2_; (try clear hb); (try clear hb2); (try clear hk); (try clear hi)))
              (try simp only [Act.put, List.setIfInBounds_toArray, List.set_cons_zero, List.set_cons_succ])
              go_cut [97] (fun v97 wc => ∃ (kq : Nat) (x97_24 : Bool), v97 = .bool x97_24 ∧ Aside0 (laws_FnReceipts.j1 kq l1 t359 x97_24 t347 t348 t349 t350 = some r) ∧ Aside0 (kq ≤ kj6) ∧ Aside0 (wc.heap[gb352]? = some (.cells #[.int .i64 t347, .int .i64 t348, .int .i64 t349, .int .i64 t350] 36 (0, 0))) ∧ Aside0 (wc.heap[gb358]? = some (.cells #[.int .i64 t353, .int .i64 t354, .int .i64 t355, .int .i64 t356] 36 (0, 0))) ∧ Aside0 (Below w.heap.size w wc))
              case first =>
                have H := HC25.out
                clear HC25
                by_cases c29 : t360 = true
                · subst c29
                  have H1 : (if t362 = true then (if t361 = true then (laws_FnReceipts.j1 kj6 l1 t359 (t348 != (wrap64 (t347 + 1))) t347 t348 t349 t350) else (laws_FnReceipts.j1 kj6 l1 t359 true t347 t348 t349 t350)) else (laws_FnReceipts.j1 kj6 l1 t359 true t347 t348 t349 t350)) = some r := by rw [if_pos rfl] at H; exact H
                  clear H
                  have H := H1
                  clear H1
                  by_cases c30 : t362 = true
                  · subst c30
                    have H1 : (if t361 = true then (laws_FnReceipts.j1 kj6 l1 t359 (t348 != (wrap64 (t347 + 1))) t347 t348 t349 t350) else (laws_FnReceipts.j1 kj6 l1 t359 true t347 t348 t349 t350)) = some r := by rw [if_pos rfl] at H; exact H
                    clear H
                    have H := H1
                    clear H1
                    by_cases c31 : t361 = true
                    · subst c31
                      have H1 : (laws_FnReceipts.j1 kj6 l1 t359 (t348 != (wrap64 (t347 + 1))) t347 t348 t349 t350) = some r := by rw [if_pos rfl] at H; exact H
                      clear H
                      have H := H1
                      clear H1
                      have H' := Aside0.mk H
                      clear H
                      have hnb32 := NB352_358.out
                      have hnc32 := NB358_352.out
                      have hcz33_0 : w28.cell? ⟨gb352, 0, none⟩ = some (.int .i64 t347) := (blk_cell BK352.out 0).trans rfl
                      have hcz33_1 : w28.cell? ⟨gb352, 1, none⟩ = some (.int .i64 t348) := (blk_cell BK352.out 1).trans rfl
                      have hcz33_2 : w28.cell? ⟨gb352, 2, none⟩ = some (.int .i64 t349) := (blk_cell BK352.out 2).trans rfl
                      have hcz33_3 : w28.cell? ⟨gb352, 3, none⟩ = some (.int .i64 t350) := (blk_cell BK352.out 3).trans rfl
                      have hfz33_0 := blk_frozen BK352.out 0
                      have hfz33_1 := blk_frozen BK352.out 1
                      have hfz33_2 := blk_frozen BK352.out 2
                      have hfz33_3 := blk_frozen BK352.out 3
                      go_wp2
                      go_meet
                      case rel => exact ⟨_, ((t348 != (wrap64 (t347 + 1)))), (by first | rfl | (simp; done) | (simp [*]; done)), H', ⟨by have := HJ6.out; first | omega | exact Nat.le_refl _⟩, ⟨by (with_reducible repeat (first | refine blk_drewN ?_ _ | refine blk_drew ?_ | refine blk_alloc ?_ _)); exact BK352.out⟩, ⟨by (with_reducible repeat (first | refine blk_drewN ?_ _ | refine blk_drew ?_ | refine blk_alloc ?_ _)); exact BK358.out⟩, ⟨by repeat (first | (with_reducible first | exact HB.out | apply below_alloc | apply pw_below_drewN | apply below_drew1 | refine below_set ?_ GE352.out | refine below_set ?_ GE358.out) | exact HB.out)⟩⟩
                    · replace c31 := Bool.eq_false_iff.mpr c31
                      subst c31
                      have H1 : (laws_FnReceipts.j1 kj6 l1 t359 true t347 t348 t349 t350) = some r := by rw [if_neg (show ¬ (false = true) by decide)] at H; exact H
                      clear H
                      have H := H1
                      clear H1
                      have H' := Aside0.mk H
                      clear H
                      go_wp2
                      go_meet
                      case rel => exact ⟨_, (true), (by first | rfl | (simp; done) | (simp [*]; done)), H', ⟨by have := HJ6.out; first | omega | exact Nat.le_refl _⟩, ⟨by (with_reducible repeat (first | refine blk_drewN ?_ _ | refine blk_drew ?_ | refine blk_alloc ?_ _)); exact BK352.out⟩, ⟨by (with_reducible repeat (first | refine blk_drewN ?_ _ | refine blk_drew ?_ | refine blk_alloc ?_ _)); exact BK358.out⟩, ⟨by repeat (first | (with_reducible first | exact HB.out | apply below_alloc | apply pw_below_drewN | apply below_drew1 | refine below_set ?_ GE352.out | refine below_set ?_ GE358.out) | exact HB.out)⟩⟩
                  · replace c30 := Bool.eq_false_iff.mpr c30
                    subst c30
                    have H1 : (laws_FnReceipts.j1 kj6 l1 t359 true t347 t348 t349 t350) = some r := by rw [if_neg (show ¬ (false = true) by decide)] at H; exact H
                    clear H
                    have H := H1
                    clear H1
                    have H' := Aside0.mk H
                    clear H
                    go_wp2
                    go_meet
                    case rel => exact ⟨_, (true), (by first | rfl | (simp; done) | (simp [*]; done)), H', ⟨by have := HJ6.out; first | omega | exact Nat.le_refl _⟩, ⟨by (with_reducible repeat (first | refine blk_drewN ?_ _ | refine blk_drew ?_ | refine blk_alloc ?_ _)); exact BK352.out⟩, ⟨by (with_reducible repeat (first | refine blk_drewN ?_ _ | refine blk_drew ?_ | refine blk_alloc ?_ _)); exact BK358.out⟩, ⟨by repeat (first | (with_reducible first | exact HB.out | apply below_alloc | apply pw_below_drewN | apply below_drew1 | refine below_set ?_ GE352.out | refine below_set ?_ GE358.out) | exact HB.out)⟩⟩
                · replace c29 := Bool.eq_false_iff.mpr c29
                  subst c29
                  have H1 : (laws_FnReceipts.j1 kj6 l1 t359 true t347 t348 t349 t350) = some r := by rw [if_neg (show ¬ (false = true) by decide)] at H; exact H
                  clear H
                  have H := H1
                  clear H1
                  have H' := Aside0.mk H
                  clear H
                  go_wp2
                  go_meet
                  case rel => exact ⟨_, (true), (by first | rfl | (simp; done) | (simp [*]; done)), H', ⟨by have := HJ6.out; first | omega | exact Nat.le_refl _⟩, ⟨by (with_reducible repeat (first | refine blk_drewN ?_ _ | refine blk_drew ?_ | refine blk_alloc ?_ _)); exact BK352.out⟩, ⟨by (with_reducible repeat (first | refine blk_drewN ?_ _ | refine blk_drew ?_ | refine blk_alloc ?_ _)); exact BK358.out⟩, ⟨by repeat (first | (with_reducible first | exact HB.out | apply below_alloc | apply pw_below_drewN | apply below_drew1 | refine below_set ?_ GE352.out | refine below_set ?_ GE358.out) | exact HB.out)⟩⟩
              case rest =>
                clear HC25
                try clear c1
                try clear c2
                try clear p2
                try clear c3
                try clear c3b0
                try clear c4
                try clear p6
                try clear c10
                try clear c14
                try clear c16
                try clear c16b0
                try clear c16b1
                try clear c16b2
                try clear c17
                try clear c18
                try clear c20
                try clear c22
                try clear c26
                try clear c29
                try clear c30
                try clear c31
                try clear c32
                try clear hcz11_0
                try clear hcz11_1
                try clear hcz11_2
                try clear hcz11_3
                try clear hcz15_0
                try clear hcz15_1
                try clear hcz15_2
                try clear hcz15_3
                try clear hcz18_0
                try clear hcz18_1
                try clear hcz18_2
                try clear hcz18_3
                try clear hcz19_0
                try clear hcz19_1
                try clear hcz19_2
                try clear hcz19_3
                try clear hcz27_0
                try clear hcz27_1
                try clear hcz27_2
                try clear hcz27_3
                try clear hcz33_0
                try clear hcz33_1
                try clear hcz33_2
                try clear hcz33_3
                try clear hfz11_0
                try clear hfz11_1
                try clear hfz11_2
                try clear hfz11_3
                try clear hfz15_0
                try clear hfz15_1
                try clear hfz15_2
                try clear hfz15_3
                try clear hfz18_0
                try clear hfz18_1
                try clear hfz18_2
                try clear hfz18_3
                try clear hfz19_0
                try clear hfz19_1
                try clear hfz19_2
                try clear hfz19_3
                try clear hfz27_0
                try clear hfz27_1
                try clear hfz27_2
                try clear hfz27_3
                try clear hfz33_0
                try clear hfz33_1
                try clear hfz33_2
                try clear hfz33_3
                try clear p2
                try clear p6
                obtain ⟨kq, x97_24, rfl, HA, HJ24, BK352, BK358, HB⟩ := hcut
                cases kq with
                | zero => exact absurd HA.out (by simp [laws_FnReceipts.j1])
                | succ kj24 =>
                  have H := HA.out
                  clear HA
                  simp only [laws_FnReceipts.j1] at H
                  by_cases c34 : x97_24 = true
                  · subst c34
                    have H1 : (some false) = some r := by rw [if_pos rfl] at H; exact H
                    clear H
                    have H := H1
                    clear H1
                    obtain rfl := Option.some.inj H
                    exact absurd hr_.out (by simp)
                  · replace c34 := Bool.eq_false_iff.mpr c34
                    subst c34
                    have H1 : ((laws_numberOf.f kj24 l1).bind fun t363 => ((impl_CheckReceipt.f kj24 t359 t347 t348 t349 (Int.tmod (wrap64 ((wrap64 (t350 + 1)) + (Int.tmod t363 1498))) 1499)).bind fun bt364 => (if bt364.2 = true then (if bt364.1 = true then (some false) else (laws_FnReceipts.j2 kj24 l1)) else (some false)))) = some r := by rw [if_neg (show ¬ (false = true) by decide)] at H; exact H
                    clear H
                    have H := H1
                    clear H1
                    replace H := Option.bind_eq_some_iff.mp H
                    obtain ⟨t363, A350, H⟩ := H
                    replace H : ((impl_CheckReceipt.f kj24 t359 t347 t348 t349 (Int.tmod (wrap64 ((wrap64 (t350 + 1)) + (Int.tmod t363 1498))) 1499)).bind fun bt364 => (if bt364.2 = true then (if bt364.1 = true then (some false) else (laws_FnReceipts.j2 kj24 l1)) else (some false))) = some r := H
                    have A35 := Aside0.mk A350
                    clear A350
                    replace H := Option.bind_eq_some_iff.mp H
                    obtain ⟨⟨t364, t365⟩, A360, H⟩ := H
                    replace H : (if t365 = true then (if t364 = true then (some false) else (laws_FnReceipts.j2 kj24 l1)) else (some false)) = some r := H
                    have A36 := Aside0.mk A360
                    clear A360
                    by_cases c37 : t365 = true
                    · subst c37
                      have H1 : (if t364 = true then (some false) else (laws_FnReceipts.j2 kj24 l1)) = some r := by rw [if_pos rfl] at H; exact H
                      clear H
                      have H := H1
                      clear H1
                      by_cases c38 : t364 = true
                      · subst c38
                        have H1 : (some false) = some r := by rw [if_pos rfl] at H; exact H
                        clear H
                        have H := H1
                        clear H1
                        obtain rfl := Option.some.inj H
                        exact absurd hr_.out (by simp)
                      · replace c38 := Bool.eq_false_iff.mpr c38
                        subst c38
                        have H1 : (laws_FnReceipts.j2 kj24 l1) = some r := by rw [if_neg (show ¬ (false = true) by decide)] at H; exact H
                        clear H
                        have H := H1
                        clear H1
                        have H' := Aside0.mk H
                        clear H
                        try go_wp2
                        have n0_ := Aside0.mk (blk_drew BK352.out)
                        have n1_ := Aside0.mk (blk_drew BK358.out)
                        have n2_ := Aside0.mk (below_drew1 HB.out)
                        clear BK352
                        clear BK358
                        clear HB
                        have BK352 := n0_
                        have BK358 := n1_
                        have HB := n2_
                        clear n0_ n1_ n2_
                        refine start_ (n := 10) (S := fun w' => w'.cell? ⟨gb352, 0, none⟩ = some (.int .i64 t347) ∧ w'.cell? ⟨gb352, 1, none⟩ = some (.int .i64 t348) ∧ w'.cell? ⟨gb352, 2, none⟩ = some (.int .i64 t349) ∧ w'.cell? ⟨gb352, 3, none⟩ = some (.int .i64 t350)) (ds := [9]) #[false, false, false, false, false, false, false, false, false, false] (by kernel_rfl) rfl rfl ⟨(blk_cell BK352.out 0).trans rfl, (blk_cell BK352.out 1).trans rfl, (blk_cell BK352.out 2).trans rfl, (blk_cell BK352.out 3).trans rfl⟩ (fun hHeld => ?_); refine with_tabW laws_FnReceipts.tab13 laws_FnReceipts.bits13 (fun HT_ HW_ => ?_)
                        generalize wc.drew = w39 at BK352 BK358 HB hHeld ⊢
                        refine pure_ (i := 0) (N := some 98) (v := ?_) (a' := ?_) #[true, false, false, false, false, false, false, false, false, false] rfl rfl (any_of HT_.out (by kernel_rfl)) (fun _ _ _ h => h) (Or.inl ⟨by rfl, ?_⟩) ?_ ?_
                        rotate_left
                        · intro w'
                          go_simp
                          with_reducible rfl
                        rotate_left
                        · simp only [Act.put, List.setIfInBounds_toArray, List.set_cons_zero, List.set_cons_succ, i64_w, i32_w]
                          rfl
                        refine pure_ (i := 3) (N := some 101) (v := ?_) (a' := ?_) #[true, false, false, true, false, false, false, false, false, false] rfl rfl (any_of HT_.out (by kernel_rfl)) (fun _ _ _ h => h) (Or.inl ⟨by rfl, ?_⟩) ?_ ?_
                        rotate_left
                        · intro w'
                          go_simp
                          with_reducible rfl
                        rotate_left
                        · simp only [Act.put, List.setIfInBounds_toArray, List.set_cons_zero, List.set_cons_succ, i64_w, i32_w]
                          rfl
                        refine take_ (i := 1) (N := some 99) (v := ?_) (a' := ?_) #[true, true, false, true, false, false, false, false, false, false] rfl rfl (take_ofW HT_.out HW_.out (by kernel_rfl)) (fun _ _ _ h => h) (Or.inl ⟨by rfl, ?_⟩) hHeld ?_ ?_
                        rotate_left
                        · rintro w' ⟨s0, s1, s2, s3⟩
                          go_simp
                          with_reducible rfl
                        rotate_left
                        · simp only [Act.put, List.setIfInBounds_toArray, List.set_cons_zero, List.set_cons_succ, i64_w, i32_w]
                          rfl
                        refine pure_ (i := 2) (N := some 100) (v := ?_) (a' := ?_) #[true, true, true, true, false, false, false, false, false, false] rfl rfl (any_of HT_.out (by kernel_rfl)) (fun _ _ _ h => h) (Or.inl ⟨by rfl, ?_⟩) ?_ ?_
                        rotate_left
                        · intro w'
                          go_simp
                          with_reducible rfl
                        rotate_left
                        · simp only [Act.put, List.setIfInBounds_toArray, List.set_cons_zero, List.set_cons_succ, i64_w, i32_w]
                          rfl
                        refine one_ (i := 4) (N := some 102) #[true, true, true, true, true, false, false, false, false, false] rfl rfl (one_of HT_.out (by kernel_rfl)) (by decide) (fun K hK => ?_)
                        refine goes_ Try.func47 (by kernel_rfl) rfl #[.slice A1 l1.length c1] (by rfl) rfl rfl (by (try simp only [List.map_toArray, List.map_cons, List.map_nil]); first | done | rfl | (simp only [List.length_drop, List.length_take]; rfl)) ?_
                        with_reducible refine (laws_numberOf.calls kj24 _ _ l1 t363 _ ?side1 ?side2 A35.out).mono ?_
                        (case side1 => repeat (first | exact (Kd.C_below HR1.out HB.out) | (with_reducible refine Kd.C_alloc ?_ _) | (with_reducible refine Kd.C_drewN ?_ _) | (with_reducible refine Kd.C_drew ?_)))
                        (case side2 => exact HC1.out)
                        rintro e w' ⟨rfl, ⟨nd, rfl⟩⟩
                        refine ⟨_, rfl, ?_⟩
                        refine hK.out _ _ ⟨(blk_cell BK352.out 0).trans rfl, (blk_cell BK352.out 1).trans rfl, (blk_cell BK352.out 2).trans rfl, (blk_cell BK352.out 3).trans rfl⟩ (fun hHeld => ?_)
                        clear hK K
                        refine norm_ (a' := ?_) ?_ ?_
                        rotate_left
                        · show Act.put _ (some 102) _ = _
                          simp only [Act.put, List.setIfInBounds_toArray, List.set_cons_zero, List.set_cons_succ, i64_w, i32_w]
                          rfl
                        refine pure_ (i := 5) (N := some 103) (v := ?_) (a' := ?_) #[true, true, true, true, true, true, false, false, false, false] rfl rfl (any_of HT_.out (by kernel_rfl)) (fun _ _ _ h => h) (Or.inl ⟨by rfl, ?_⟩) ?_ ?_
                        rotate_left
                        · intro w'
                          go_simp
                          with_reducible rfl
                        rotate_left
                        · simp only [Act.put, List.setIfInBounds_toArray, List.set_cons_zero, List.set_cons_succ, i64_w, i32_w]
                          rfl
                        refine pure_ (i := 6) (N := some 104) (v := ?_) (a' := ?_) #[true, true, true, true, true, true, true, false, false, false] rfl rfl (any_of HT_.out (by kernel_rfl)) (fun _ _ _ h => h) (Or.inl ⟨by rfl, ?_⟩) ?_ ?_
                        rotate_left
                        · intro w'
                          go_simp
                          with_reducible rfl
                        rotate_left
                        · simp only [Act.put, List.setIfInBounds_toArray, List.set_cons_zero, List.set_cons_succ, i64_w, i32_w]
                          rfl
                        refine pure_ (i := 7) (N := some 105) (v := ?_) (a' := ?_) #[true, true, true, true, true, true, true, true, false, false] rfl rfl (any_of HT_.out (by kernel_rfl)) (fun _ _ _ h => h) (Or.inl ⟨by rfl, ?_⟩) ?_ ?_
                        rotate_left
                        · intro w'
                          go_simp
                          with_reducible rfl
                        rotate_left
                        · simp only [Act.put, List.setIfInBounds_toArray, List.set_cons_zero, List.set_cons_succ, i64_w, i32_w]
                          rfl
                        refine pure_ (i := 8) (N := some 106) (v := ?_) (a' := ?_) #[true, true, true, true, true, true, true, true, true, false] rfl rfl (any_of HT_.out (by kernel_rfl)) (fun _ _ _ h => h) (Or.inl ⟨by rfl, ?_⟩) ?_ ?_
                        rotate_left
                        · intro w'
                          go_simp
                          with_reducible rfl
                        rotate_left
                        · simp only [Act.put, List.setIfInBounds_toArray, List.set_cons_zero, List.set_cons_succ, i64_w, i32_w]
                          rfl
                        refine last_ (i := 9) (N := none) #[true, true, true, true, true, true, true, true, true, true] rfl rfl (one_of HT_.out (by kernel_rfl)) (by decide) (fun K hK => ?_)
                        have hs40 : w39.cell? ⟨gb352, 3, none⟩ = some (.int .i64 t350) := (blk_cell BK352.out 3).trans rfl
                        have hfs40 := blk_frozen BK352.out 3
                        have hns40_1 := NB358_352.out
                        have hms40_1 := NB352_358.out
                        refine skip_ (w1 := ?_) (by rfl) rfl ?_ ?_
                        rotate_left
                        · go_simp
                          rfl
                        refine hK.out _ _ ?_
                        clear hK K
                        refine done_ (done_of HT_.out (by kernel_rfl)) ?_
                        have hnb41 := NB352_358.out
                        have hnc41 := NB358_352.out
                        have hcz42_0 : w39.cell? ⟨gb352, 0, none⟩ = some (.int .i64 t347) := (blk_cell BK352.out 0).trans rfl
                        have hcz42_1 : w39.cell? ⟨gb352, 1, none⟩ = some (.int .i64 t348) := (blk_cell BK352.out 1).trans rfl
                        have hcz42_2 : w39.cell? ⟨gb352, 2, none⟩ = some (.int .i64 t349) := (blk_cell BK352.out 2).trans rfl
                        have hcz42_3 : w39.cell? ⟨gb352, 3, none⟩ = some (.int .i64 t350) := (blk_cell BK352.out 3).trans rfl
                        have hfz42_0 := blk_frozen BK352.out 0
                        have hfz42_1 := blk_frozen BK352.out 1
                        have hfz42_2 := blk_frozen BK352.out 2
                        have hfz42_3 := blk_frozen BK352.out 3
                        try go_wp2_with (first | ((with_reducible refine gate_callee (f := 18) rfl ?_); refine goesL_ (some 110) rfl rfl Try.func18 (by kernel_rfl) rfl #[.int .i64 t359, .agg #[.int .i64 t347, .int .i64 t348, .int .i64 t349, .int .i64 (Int.tmod (wrap64 ((wrap64 (t350 + 1)) + (Int.tmod t363 1498))) 1499)]] rfl (by (try simp only [List.map_toArray, List.map_cons, List.map_nil]); first | done | rfl | (simp only [List.length_drop, List.length_take]; rfl)) ?_; (with_reducible refine (impl_CheckReceipt.calls kj24 t359 t347 t348 t349 (Int.tmod (wrap64 ((wrap64 (t350 + 1)) + (Int.tmod t363 1498))) 1499) false true _ A36.out).mono ?_); rintro e w43 ⟨rfl, hb⟩; refine ⟨_, rfl, ?_⟩; have n0_ := Aside0.mk (blk_below (g := gb352) (o := .cells #[.int .i64 t347, .int .i64 t348, .int .i64 t349, .int .i64 (Int.tmod (wrap64 ((wrap64 (t350 + 1)) + (Int.tmod t363 1498))) 1499)] 36 (0, 0)) (by (with_reducible repeat (first | refine blk_drewN ?_ _ | refine blk_drew ?_ | refine blk_alloc ?_ _)); refine blk_put (cs := #[.int .i64 t347, .int .i64 t348, .int .i64 t349, .int .i64 t350]) ?_ 3 _ rfl; (with_reducible repeat (first | refine blk_drewN ?_ _ | refine blk_drew ?_ | refine blk_alloc ?_ _)); exact BK352.out) hb); have n1_ := Aside0.mk (blk_below (g := gb358) (o := .cells #[.int .i64 t353, .int .i64 t354, .int .i64 t355, .int .i64 t356] 36 (0, 0)) (by (with_reducible repeat (first | refine blk_drewN ?_ _ | refine blk_drew ?_ | refine blk_alloc ?_ _)); refine blk_far ?_ NB358_352.out _; (with_reducible repeat (first | refine blk_drewN ?_ _ | refine blk_drew ?_ | refine blk_alloc ?_ _)); exact BK358.out) hb); have n2_ := Aside0.mk (below_step (by repeat (first | (with_reducible first | exact HB.out | apply below_alloc | apply pw_below_drewN | apply below_drew1 | refine below_set ?_ GE352.out | refine below_set ?_ GE358.out) | exact HB.out)) hb); clear BK352; clear BK358; clear HB; have BK352 := n0_; have BK358 := n1_; have HB := n2_; clear n0_ n1_ n2_; (try clear hb); (try clear hb2); (try clear hk); (try clear hi)))
                        go_meet
                        case rel => exact ⟨_, (Int.tmod (wrap64 ((wrap64 (t350 + 1)) + (Int.tmod t363 1498))) 1499), H', ⟨by have := HJ6.out; have := HJ24.out; first | omega | exact Nat.le_refl _⟩, ⟨by (with_reducible repeat (first | refine blk_drewN ?_ _ | refine blk_drew ?_ | refine blk_alloc ?_ _)); exact BK352.out⟩, ⟨by (with_reducible repeat (first | refine blk_drewN ?_ _ | refine blk_drew ?_ | refine blk_alloc ?_ _)); exact BK358.out⟩, ⟨by repeat (first | (with_reducible first | exact HB.out | apply below_alloc | apply pw_below_drewN | apply below_drew1 | refine below_set ?_ GE352.out | refine below_set ?_ GE358.out) | exact HB.out)⟩⟩
                    · replace c37 := Bool.eq_false_iff.mpr c37
                      subst c37
                      have H1 : (some false) = some r := by rw [if_neg (show ¬ (false = true) by decide)] at H; exact H
                      clear H
                      have H := H1
                      clear H1
                      obtain rfl := Option.some.inj H
                      exact absurd hr_.out (by simp)
            · replace c22 := Bool.eq_false_iff.mpr c22
              subst c22
              have H1 : (laws_FnReceipts.j2 kj6 l1) = some r := by rw [if_neg (show ¬ (false = true) by decide)] at H; exact H
              clear H
              have H := H1
              clear H1
              have H' := Aside0.mk H
              clear H
              go_wp2
              go_meet
              case rel => exact ⟨_, (t350), H', ⟨by have := HJ6.out; first | omega | exact Nat.le_refl _⟩, ⟨by (with_reducible repeat (first | refine blk_drewN ?_ _ | refine blk_drew ?_ | refine blk_alloc ?_ _)); exact BK352.out⟩, ⟨by (with_reducible repeat (first | refine blk_drewN ?_ _ | refine blk_drew ?_ | refine blk_alloc ?_ _)); exact BK358.out⟩, ⟨by repeat (first | (with_reducible first | exact HB.out | apply below_alloc | apply pw_below_drewN | apply below_drew1 | refine below_set ?_ GE352.out | refine below_set ?_ GE358.out) | exact HB.out)⟩⟩
          case rest =>
            clear HC21
            try clear c1
            try clear c2
            try clear p2
            try clear c3
            try clear c3b0
            try clear c4
            try clear p6
            try clear c10
            try clear c14
            try clear c16
            try clear c16b0
            try clear c16b1
            try clear c16b2
            try clear c17
            try clear c18
            try clear c20
            try clear c22
            try clear c26
            try clear c29
            try clear c30
            try clear c31
            try clear c32
            try clear c34
            try clear c37
            try clear c38
            try clear c41
            try clear c43
            try clear hcz11_0
            try clear hcz11_1
            try clear hcz11_2
            try clear hcz11_3
            try clear hcz15_0
            try clear hcz15_1
            try clear hcz15_2
            try clear hcz15_3
            try clear hcz18_0
            try clear hcz18_1
            try clear hcz18_2
            try clear hcz18_3
            try clear hcz19_0
            try clear hcz19_1
            try clear hcz19_2
            try clear hcz19_3
            try clear hcz27_0
            try clear hcz27_1
            try clear hcz27_2
            try clear hcz27_3
            try clear hcz33_0
            try clear hcz33_1
            try clear hcz33_2
            try clear hcz33_3
            try clear hcz42_0
            try clear hcz42_1
            try clear hcz42_2
            try clear hcz42_3
            try clear hfz11_0
            try clear hfz11_1
            try clear hfz11_2
            try clear hfz11_3
            try clear hfz15_0
            try clear hfz15_1
            try clear hfz15_2
            try clear hfz15_3
            try clear hfz18_0
            try clear hfz18_1
            try clear hfz18_2
            try clear hfz18_3
            try clear hfz19_0
            try clear hfz19_1
            try clear hfz19_2
            try clear hfz19_3
            try clear hfz27_0
            try clear hfz27_1
            try clear hfz27_2
            try clear hfz27_3
            try clear hfz33_0
            try clear hfz33_1
            try clear hfz33_2
            try clear hfz33_3
            try clear hfz42_0
            try clear hfz42_1
            try clear hfz42_2
            try clear hfz42_3
            try clear p2
            try clear p6
            obtain ⟨kq, x353003_20, HA, HJ20, BK352, BK358, HB⟩ := hcut
            cases kq with
            | zero => exact absurd HA.out (by simp [laws_FnReceipts.j2])
            | succ kj20 =>
              have H := HA.out
              clear HA
              simp only [laws_FnReceipts.j2] at H
              replace H := Option.bind_eq_some_iff.mp H
              obtain ⟨⟨t366, t367, t368, t369, t370⟩, A440, H⟩ := H
              replace H : ((impl_CheckReceipt.f kj20 t366 t367 t368 t369 t370).bind fun bt372 => ((spec_CheckReceipt.f kj20 t366 t367 t368 t369 t370).bind fun bt374 => ((spec_DrawProofFor.f kj20 l1).bind fun bt376 => ((impl_ProofFor.f kj20 bt376.1 bt376.2.1 bt376.2.2.1 bt376.2.2.2.1 bt376.2.2.2.2.1 bt376.2.2.2.2.2).bind fun bt387 => ((spec_ProofFor.f kj20 bt376.1 bt376.2.1 bt376.2.2.1 bt376.2.2.2.1 bt376.2.2.2.2.1 bt376.2.2.2.2.2).bind fun bt391 => (if (bt372.2 == bt374.2) = true then (if (bt372.1 == bt374.1) = true then (if (bt387.2 == bt391.2) = true then ((laws_sameReceipts.f kj20 bt387.1 bt391.1).bind fun t395 => (some t395)) else (some false)) else (some false)) else (some false))))))) = some r := H
              have A44 := Aside0.mk A440
              clear A440
              replace H := Option.bind_eq_some_iff.mp H
              obtain ⟨⟨t372, t373⟩, A450, H⟩ := H
              replace H : ((spec_CheckReceipt.f kj20 t366 t367 t368 t369 t370).bind fun bt374 => ((spec_DrawProofFor.f kj20 l1).bind fun bt376 => ((impl_ProofFor.f kj20 bt376.1 bt376.2.1 bt376.2.2.1 bt376.2.2.2.1 bt376.2.2.2.2.1 bt376.2.2.2.2.2).bind fun bt387 => ((spec_ProofFor.f kj20 bt376.1 bt376.2.1 bt376.2.2.1 bt376.2.2.2.1 bt376.2.2.2.2.1 bt376.2.2.2.2.2).bind fun bt391 => (if (t373 == bt374.2) = true then (if (t372 == bt374.1) = true then (if (bt387.2 == bt391.2) = true then ((laws_sameReceipts.f kj20 bt387.1 bt391.1).bind fun t395 => (some t395)) else (some false)) else (some false)) else (some false)))))) = some r := H
              have A45 := Aside0.mk A450
              clear A450
              replace H := Option.bind_eq_some_iff.mp H
              obtain ⟨⟨t374, t375⟩, A460, H⟩ := H
              replace H : ((spec_DrawProofFor.f kj20 l1).bind fun bt376 => ((impl_ProofFor.f kj20 bt376.1 bt376.2.1 bt376.2.2.1 bt376.2.2.2.1 bt376.2.2.2.2.1 bt376.2.2.2.2.2).bind fun bt387 => ((spec_ProofFor.f kj20 bt376.1 bt376.2.1 bt376.2.2.1 bt376.2.2.2.1 bt376.2.2.2.2.1 bt376.2.2.2.2.2).bind fun bt391 => (if (t373 == t375) = true then (if (t372 == t374) = true then (if (bt387.2 == bt391.2) = true then ((laws_sameReceipts.f kj20 bt387.1 bt391.1).bind fun t395 => (some t395)) else (some false)) else (some false)) else (some false))))) = some r := H
              have A46 := Aside0.mk A460
              clear A460
              replace H := Option.bind_eq_some_iff.mp H
              obtain ⟨⟨t376, t379, t380, t381, t384, t385⟩, A470, H⟩ := H
              replace H : ((impl_ProofFor.f kj20 t376 t379 t380 t381 t384 t385).bind fun bt387 => ((spec_ProofFor.f kj20 t376 t379 t380 t381 t384 t385).bind fun bt391 => (if (t373 == t375) = true then (if (t372 == t374) = true then (if (bt387.2 == bt391.2) = true then ((laws_sameReceipts.f kj20 bt387.1 bt391.1).bind fun t395 => (some t395)) else (some false)) else (some false)) else (some false)))) = some r := H
              have A47 := Aside0.mk A470
              clear A470
              replace H := Option.bind_eq_some_iff.mp H
              obtain ⟨⟨t387, t390⟩, A480, H⟩ := H
              replace H : ((spec_ProofFor.f kj20 t376 t379 t380 t381 t384 t385).bind fun bt391 => (if (t373 == t375) = true then (if (t372 == t374) = true then (if (t390 == bt391.2) = true then ((laws_sameReceipts.f kj20 t387 bt391.1).bind fun t395 => (some t395)) else (some false)) else (some false)) else (some false))) = some r := H
              have A48 := Aside0.mk A480
              clear A480
              replace H := Option.bind_eq_some_iff.mp H
              obtain ⟨⟨t391, t394⟩, A490, H⟩ := H
              replace H : (if (t373 == t375) = true then (if (t372 == t374) = true then (if (t390 == t394) = true then ((laws_sameReceipts.f kj20 t387 t391).bind fun t395 => (some t395)) else (some false)) else (some false)) else (some false)) = some r := H
              have A49 := Aside0.mk A490
              clear A490
              by_cases c50 : (t373 == t375) = true
              · rw [if_pos c50] at H
                have c50b0 : (t373 == t375) = true := c50
                (try (have c50b1 : decide (t373 = t375) = true := by simpa using c50))
                (try (have c50b2 : (t373 == t375) = true := by simpa using c50))
                clear c50
                by_cases c51 : (t372 == t374) = true
                · rw [if_pos c51] at H
                  have c51b0 : (t372 == t374) = true := c51
                  (try (have c51b1 : decide (t372 = t374) = true := by simpa using c51))
                  (try (have c51b2 : (t372 == t374) = true := by simpa using c51))
                  clear c51
                  by_cases c52 : (t390 == t394) = true
                  · rw [if_pos c52] at H
                    have c52b0 : (t390 == t394) = true := c52
                    (try (have c52b1 : decide (t390 = t394) = true := by simpa using c52))
                    (try (have c52b2 : (t390 == t394) = true := by simpa using c52))
                    clear c52
                    replace H := Option.bind_eq_some_iff.mp H
                    obtain ⟨t395, A530, H⟩ := H
                    replace H : (some t395) = some r := H
                    have A53 := Aside0.mk A530
                    clear A530
                    obtain rfl := Option.some.inj H
                    simp only [Option.some.injEq, Prod.mk.injEq] at H
                    obtain ⟨rfl⟩ := H
                    go_wp2_with (first | ((with_reducible refine gate_callee (f := 48) rfl ?_); refine goesL_ (some 120) rfl rfl Try.func48 (by kernel_rfl) rfl #[.slice A1 l1.length c1] rfl (by (try simp only [List.map_toArray, List.map_cons, List.map_nil]); first | done | rfl | (simp only [List.length_drop, List.length_take]; rfl)) ?_; (with_reducible refine (spec_DrawCheckReceipt.calls kj20 _ _ l1 t366 t367 t368 t369 t370 _ ?side1 ?side2 A44.out).mono ?_); (case side1 => repeat (first | exact (Kd.C_below HR1.out HB.out) | (with_reducible refine Kd.C_alloc ?_ _) | (with_reducible refine Kd.C_drewN ?_ _) | (with_reducible refine Kd.C_drew ?_))); (case side2 => exact HC1.out); rintro e w54 ⟨rfl, hb⟩; refine ⟨_, rfl, ?_⟩; have n0_ := Aside0.mk (blk_below (g := gb352) (o := .cells #[.int .i64 t347, .int .i64 t348, .int .i64 t349, .int .i64 x353003_20] 36 (0, 0)) (by (with_reducible repeat (first | refine blk_drewN ?_ _ | refine blk_drew ?_ | refine blk_alloc ?_ _)); exact BK352.out) hb); have n1_ := Aside0.mk (blk_below (g := gb358) (o := .cells #[.int .i64 t353, .int .i64 t354, .int .i64 t355, .int .i64 t356] 36 (0, 0)) (by (with_reducible repeat (first | refine blk_drewN ?_ _ | refine blk_drew ?_ | refine blk_alloc ?_ _)); exact BK358.out) hb); have n2_ := Aside0.mk (below_step (by repeat (first | (with_reducible first | exact HB.out | apply below_alloc | apply pw_below_drewN | apply below_drew1 | refine below_set ?_ GE352.out | refine below_set ?_ GE358.out) | exact HB.out)) hb); clear BK352; clear BK358; clear HB; have BK352 := n0_; have BK358 := n1_; have HB := n2_; clear n0_ n1_ n2_; (try clear hb); (try clear hb2); (try clear hk); (try clear hi)) | ((with_reducible refine gate_dst (N := 20) rfl ?_); refine box_event ?hg (N := 20) ?hd (cs := #[.int .i64 0, .int .i64 0, .int .i64 0, .int .i64 0]) (t := 36) ?hr ?_; (case hd => rfl); (case hg => rfl); (case hr => first | (go_simp; done) | (go_simp; rfl)); intro gb371 hg w55 hbox hb; have n0_ := Aside0.mk (blk_below (g := gb352) (o := .cells #[.int .i64 t347, .int .i64 t348, .int .i64 t349, .int .i64 x353003_20] 36 (0, 0)) (by (with_reducible repeat (first | refine blk_drewN ?_ _ | refine blk_drew ?_ | refine blk_alloc ?_ _)); exact BK352.out) hb); have n1_ := Aside0.mk (blk_below (g := gb358) (o := .cells #[.int .i64 t353, .int .i64 t354, .int .i64 t355, .int .i64 t356] 36 (0, 0)) (by (with_reducible repeat (first | refine blk_drewN ?_ _ | refine blk_drew ?_ | refine blk_alloc ?_ _)); exact BK358.out) hb); have n2_ := Aside0.mk (below_step (by repeat (first | (with_reducible first | exact HB.out | apply below_alloc | apply pw_below_drewN | apply below_drew1 | refine below_set ?_ GE352.out | refine below_set ?_ GE358.out) | exact HB.out)) hb); have n3_ := Aside0.mk (hbox); have n4_ := Aside0.mk ((by rw [hg]; exact (below_size (by repeat (first | (with_reducible first | exact HB.out | apply below_alloc | apply pw_below_drewN | apply below_drew1 | refine below_set ?_ GE352.out | refine below_set ?_ GE358.out) | exact HB.out))) : w.heap.size ≤ gb371)); have n5_ := Aside0.mk ((by rw [hg]; exact (below_size (by repeat (first | (with_reducible first | exact HB.out | apply below_alloc | apply pw_below_drewN | apply below_drew1 | refine below_set ?_ GE352.out | refine below_set ?_ GE358.out) | exact HB.out))) : w.heap.size ≤ gb371)); have n6_ := Aside0.mk ((by rw [hg]; exact Nat.ne_of_lt (blk_lt (g := gb352) (o := .cells #[.int .i64 t347, .int .i64 t348, .int .i64 t349, .int .i64 x353003_20] 36 (0, 0)) (by (with_reducible repeat (first | refine blk_drewN ?_ _ | refine blk_drew ?_ | refine blk_alloc ?_ _)); exact BK352.out)) : gb352 ≠ gb371)); have n7_ := Aside0.mk ((by rw [hg]; exact Nat.ne_of_gt (blk_lt (g := gb352) (o := .cells #[.int .i64 t347, .int .i64 t348, .int .i64 t349, .int .i64 x353003_20] 36 (0, 0)) (by (with_reducible repeat (first | refine blk_drewN ?_ _ | refine blk_drew ?_ | refine blk_alloc ?_ _)); exact BK352.out)) : gb371 ≠ gb352)); have n8_ := Aside0.mk ((by rw [hg]; exact Nat.ne_of_lt (blk_lt (g := gb358) (o := .cells #[.int .i64 t353, .int .i64 t354, .int .i64 t355, .int .i64 t356] 36 (0, 0)) (by (with_reducible repeat (first | refine blk_drewN ?_ _ | refine blk_drew ?_ | refine blk_alloc ?_ _)); exact BK358.out)) : gb358 ≠ gb371)); have n9_ := Aside0.mk ((by rw [hg]; exact Nat.ne_of_gt (blk_lt (g := gb358) (o := .cells #[.int .i64 t353, .int .i64 t354, .int .i64 t355, .int .i64 t356] 36 (0, 0)) (by (with_reducible repeat (first | refine blk_drewN ?_ _ | refine blk_drew ?_ | refine blk_alloc ?_ _)); exact BK358.out)) : gb371 ≠ gb358)); clear BK352; clear BK358; clear HB; have BK352 := n0_; have BK358 := n1_; have HB := n2_; have BK371 := n3_; have GW371 := n4_; have GE371 := n5_; have NB352_371 := n6_; have NB371_352 := n7_; have NB358_371 := n8_; have NB371_358 := n9_; clear n0_ n1_ n2_ n3_ n4_ n5_ n6_ n7_ n8_ n9_; clear hb hbox hg; have hnb56 := NB371_352.out; have hnc56 := NB352_371.out; have hnb57 := NB371_358.out; have hnc57 := NB358_371.out; have hcz58_0 : w55.cell? ⟨gb371, 0, none⟩ = some (.int .i64 0) := (blk_cell BK371.out 0).trans rfl; have hcz58_1 : w55.cell? ⟨gb371, 1, none⟩ = some (.int .i64 0) := (blk_cell BK371.out 1).trans rfl; have hcz58_2 : w55.cell? ⟨gb371, 2, none⟩ = some (.int .i64 0) := (blk_cell BK371.out 2).trans rfl; have hcz58_3 : w55.cell? ⟨gb371, 3, none⟩ = some (.int .i64 0) := (blk_cell BK371.out 3).trans rfl; have hfz58_0 := blk_frozen BK371.out 0; have hfz58_1 := blk_frozen BK371.out 1; have hfz58_2 := blk_frozen BK371.out 2; have hfz58_3 := blk_frozen BK371.out 3) | ((with_reducible refine gate_callee (f := 18) rfl ?_); refine goesL_ (some 126) rfl rfl Try.func18 (by kernel_rfl) rfl #[.int .i64 t366, .agg #[.int .i64 t367, .int .i64 t368, .int .i64 t369, .int .i64 t370]] rfl (by (try simp only [List.map_toArray, List.map_cons, List.map_nil]); first | done | rfl | (simp only [List.length_drop, List.length_take]; rfl)) ?_; (with_reducible refine (impl_CheckReceipt.calls kj20 t366 t367 t368 t369 t370 t372 t373 _ A45.out).mono ?_); rintro e w59 ⟨rfl, hb⟩; refine ⟨_, rfl, ?_⟩; have n0_ := Aside0.mk (blk_below (g := gb352) (o := .cells #[.int .i64 t347, .int .i64 t348, .int .i64 t349, .int .i64 x353003_20] 36 (0, 0)) (by (with_reducible repeat (first | refine blk_drewN ?_ _ | refine blk_drew ?_ | refine blk_alloc ?_ _)); refine blk_far ?_ NB352_371.out _; (with_reducible repeat (first | refine blk_drewN ?_ _ | refine blk_drew ?_ | refine blk_alloc ?_ _)); refine blk_far ?_ NB352_371.out _; (with_reducible repeat (first | refine blk_drewN ?_ _ | refine blk_drew ?_ | refine blk_alloc ?_ _)); refine blk_far ?_ NB352_371.out _; (with_reducible repeat (first | refine blk_drewN ?_ _ | refine blk_drew ?_ | refine blk_alloc ?_ _)); refine blk_far ?_ NB352_371.out _; (with_reducible repeat (first | refine blk_drewN ?_ _ | refine blk_drew ?_ | refine blk_alloc ?_ _)); exact BK352.out) hb); have n1_ := Aside0.mk (blk_below (g := gb358) (o := .cells #[.int .i64 t353, .int .i64 t354, .int .i64 t355, .int .i64 t356] 36 (0, 0)) (by (with_reducible repeat (first | refine blk_drewN ?_ _ | refine blk_drew ?_ | refine blk_alloc ?_ _)); refine blk_far ?_ NB358_371.out _; (with_reducible repeat (first | refine blk_drewN ?_ _ | refine blk_drew ?_ | refine blk_alloc ?_ _)); refine blk_far ?_ NB358_371.out _; (with_reducible repeat (first | refine blk_drewN ?_ _ | refine blk_drew ?_ | refine blk_alloc ?_ _)); refine blk_far ?_ NB358_371.out _; (with_reducible repeat (first | refine blk_drewN ?_ _ | refine blk_drew ?_ | refine blk_alloc ?_ _)); refine blk_far ?_ NB358_371.out _; (with_reducible repeat (first | refine blk_drewN ?_ _ | refine blk_drew ?_ | refine blk_alloc ?_ _)); exact BK358.out) hb); have n2_ := Aside0.mk (blk_below (g := gb371) (o := .cells #[.int .i64 t367, .int .i64 t368, .int .i64 t369, .int .i64 t370] 36 (0, 0)) (by (with_reducible repeat (first | refine blk_drewN ?_ _ | refine blk_drew ?_ | refine blk_alloc ?_ _)); refine blk_put (cs := #[.int .i64 t367, .int .i64 t368, .int .i64 t369, .int .i64 0]) ?_ 3 _ rfl; (with_reducible repeat (first | refine blk_drewN ?_ _ | refine blk_drew ?_ | refine blk_alloc ?_ _)); refine blk_put (cs := #[.int .i64 t367, .int .i64 t368, .int .i64 0, .int .i64 0]) ?_ 2 _ rfl; (with_reducible repeat (first | refine blk_drewN ?_ _ | refine blk_drew ?_ | refine blk_alloc ?_ _)); refine blk_put (cs := #[.int .i64 t367, .int .i64 0, .int .i64 0, .int .i64 0]) ?_ 1 _ rfl; (with_reducible repeat (first | refine blk_drewN ?_ _ | refine blk_drew ?_ | refine blk_alloc ?_ _)); refine blk_put (cs := #[.int .i64 0, .int .i64 0, .int .i64 0, .int .i64 0]) ?_ 0 _ rfl; (with_reducible repeat (first | refine blk_drewN ?_ _ | refine blk_drew ?_ | refine blk_alloc ?_ _)); exact BK371.out) hb); have n3_ := Aside0.mk (below_step (by repeat (first | (with_reducible first | exact HB.out | apply below_alloc | apply pw_below_drewN | apply below_drew1 | refine below_set ?_ GE352.out | refine below_set ?_ GE358.out | refine below_set ?_ GE371.out) | exact HB.out)) hb); clear BK352; clear BK358; clear BK371; clear HB; have BK352 := n0_; have BK358 := n1_; have BK371 := n2_; have HB := n3_; clear n0_ n1_ n2_ n3_; (try clear hb); (try clear hb2); (try clear hk); (try clear hi); have hcz60_0 : w59.cell? ⟨gb371, 0, none⟩ = some (.int .i64 t367) := (blk_cell BK371.out 0).trans rfl; have hcz60_1 : w59.cell? ⟨gb371, 1, none⟩ = some (.int .i64 t368) := (blk_cell BK371.out 1).trans rfl; have hcz60_2 : w59.cell? ⟨gb371, 2, none⟩ = some (.int .i64 t369) := (blk_cell BK371.out 2).trans rfl; have hcz60_3 : w59.cell? ⟨gb371, 3, none⟩ = some (.int .i64 t370) := (blk_cell BK371.out 3).trans rfl; have hfz60_0 := blk_frozen BK371.out 0; have hfz60_1 := blk_frozen BK371.out 1; have hfz60_2 := blk_frozen BK371.out 2; have hfz60_3 := blk_frozen BK371.out 3) | ((with_reducible refine gate_callee (f := 16) rfl ?_); refine goesL_ (some 132) rfl rfl Try.func16 (by kernel_rfl) rfl #[.int .i64 t366, .agg #[.int .i64 t367, .int .i64 t368, .int .i64 t369, .int .i64 t370]] rfl (by (try simp only [List.map_toArray, List.map_cons, List.map_nil]); first | done | rfl | (simp only [List.length_drop, List.length_take]; rfl)) ?_; (with_reducible refine (spec_CheckReceipt.calls kj20 t366 t367 t368 t369 t370 t374 t375 _ A46.out).mono ?_); rintro e w61 ⟨rfl, hb⟩; refine ⟨_, rfl, ?_⟩; have n0_ := Aside0.mk (blk_below (g := gb352) (o := .cells #[.int .i64 t347, .int .i64 t348, .int .i64 t349, .int .i64 x353003_20] 36 (0, 0)) (by (with_reducible repeat (first | refine blk_drewN ?_ _ | refine blk_drew ?_ | refine blk_alloc ?_ _)); exact BK352.out) hb); have n1_ := Aside0.mk (blk_below (g := gb358) (o := .cells #[.int .i64 t353, .int .i64 t354, .int .i64 t355, .int .i64 t356] 36 (0, 0)) (by (with_reducible repeat (first | refine blk_drewN ?_ _ | refine blk_drew ?_ | refine blk_alloc ?_ _)); exact BK358.out) hb); have n2_ := Aside0.mk (blk_below (g := gb371) (o := .cells #[.int .i64 t367, .int .i64 t368, .int .i64 t369, .int .i64 t370] 36 (0, 0)) (by (with_reducible repeat (first | refine blk_drewN ?_ _ | refine blk_drew ?_ | refine blk_alloc ?_ _)); exact BK371.out) hb); have n3_ := Aside0.mk (below_step (by repeat (first | (with_reducible first | exact HB.out | apply below_alloc | apply pw_below_drewN | apply below_drew1 | refine below_set ?_ GE352.out | refine below_set ?_ GE358.out | refine below_set ?_ GE371.out) | exact HB.out)) hb); clear BK352; clear BK358; clear BK371; clear HB; have BK352 := n0_; have BK358 := n1_; have BK371 := n2_; have HB := n3_; clear n0_ n1_ n2_ n3_; (try clear hb); (try clear hb2); (try clear hk); (try clear hi)) | ((with_reducible refine gate_callee (f := 49) rfl ?_); refine goesL_ (some 137) rfl rfl Try.func49 (by kernel_rfl) rfl #[.slice A1 l1.length c1] rfl (by (try simp only [List.map_toArray, List.map_cons, List.map_nil]); first | done | rfl | (simp only [List.length_drop, List.length_take]; rfl)) ?_; (with_reducible refine (spec_DrawProofFor.calls kj20 _ _ l1 t376 t379 t380 t381 t384 t385 _ ?side1 ?side2 A47.out).mono ?_); (case side1 => repeat (first | exact (Kd.C_below HR1.out HB.out) | (with_reducible refine Kd.C_alloc ?_ _) | (with_reducible refine Kd.C_drewN ?_ _) | (with_reducible refine Kd.C_drew ?_))); (case side2 => exact HC1.out); rintro e w62 ⟨v377, v382, rfl, ho0, ho1, hb⟩; refine ⟨_, rfl, ?_⟩; have n0_ := Aside0.mk (Kd.R_lower ho0 (below_size (by repeat (first | (with_reducible first | exact HB.out | apply below_alloc | apply pw_below_drewN | apply below_drew1 | refine below_set ?_ GE352.out | refine below_set ?_ GE358.out | refine below_set ?_ GE371.out) | exact HB.out)))); have n1_ := Aside0.mk (Kd.R_lower (Kd.R_newB (Kd.R_newB (Kd.R_newB ho1 (g := gb352) (o := .cells #[.int .i64 t347, .int .i64 t348, .int .i64 t349, .int .i64 x353003_20] 36 (0, 0)) (by (with_reducible repeat (first | refine blk_drewN ?_ _ | refine blk_drew ?_ | refine blk_alloc ?_ _)); exact BK352.out)) (g := gb358) (o := .cells #[.int .i64 t353, .int .i64 t354, .int .i64 t355, .int .i64 t356] 36 (0, 0)) (by (with_reducible repeat (first | refine blk_drewN ?_ _ | refine blk_drew ?_ | refine blk_alloc ?_ _)); exact BK358.out)) (g := gb371) (o := .cells #[.int .i64 t367, .int .i64 t368, .int .i64 t369, .int .i64 t370] 36 (0, 0)) (by (with_reducible repeat (first | refine blk_drewN ?_ _ | refine blk_drew ?_ | refine blk_alloc ?_ _)); exact BK371.out)) (below_size (by repeat (first | (with_reducible first | exact HB.out | apply below_alloc | apply pw_below_drewN | apply below_drew1 | refine below_set ?_ GE352.out | refine below_set ?_ GE358.out | refine below_set ?_ GE371.out) | exact HB.out)))); have n2_ := Aside0.mk (blk_below (g := gb352) (o := .cells #[.int .i64 t347, .int .i64 t348, .int .i64 t349, .int .i64 x353003_20] 36 (0, 0)) (by (with_reducible repeat (first | refine blk_drewN ?_ _ | refine blk_drew ?_ | refine blk_alloc ?_ _)); exact BK352.out) hb); have n3_ := Aside0.mk (blk_below (g := gb358) (o := .cells #[.int .i64 t353, .int .i64 t354, .int .i64 t355, .int .i64 t356] 36 (0, 0)) (by (with_reducible repeat (first | refine blk_drewN ?_ _ | refine blk_drew ?_ | refine blk_alloc ?_ _)); exact BK358.out) hb); have n4_ := Aside0.mk (blk_below (g := gb371) (o := .cells #[.int .i64 t367, .int .i64 t368, .int .i64 t369, .int .i64 t370] 36 (0, 0)) (by (with_reducible repeat (first | refine blk_drewN ?_ _ | refine blk_drew ?_ | refine blk_alloc ?_ _)); exact BK371.out) hb); have n5_ := Aside0.mk (below_step (by repeat (first | (with_reducible first | exact HB.out | apply below_alloc | apply pw_below_drewN | apply below_drew1 | refine below_set ?_ GE352.out | refine below_set ?_ GE358.out | refine below_set ?_ GE371.out) | exact HB.out)) hb); clear BK352; clear BK358; clear BK371; clear HB; have HO378 := n0_; have HO383 := n1_; have BK352 := n2_; have BK358 := n3_; have BK371 := n4_; have HB := n5_; clear n0_ n1_ n2_ n3_ n4_ n5_; (try clear hb); (try clear hb2); (try clear hk); (try clear hi); (try clear ho0); (try clear ho1)) | ((with_reducible refine gate_dst (N := 25) rfl ?_); refine box_event ?hg (N := 25) ?hd (cs := #[.slice none 0 0, .int .i64 0, .int .i64 0, .slice none 0 0, .int .i64 0]) (t := 56) ?hr ?_; (case hd => rfl); (case hg => rfl); (case hr => first | (go_simp; done) | (go_simp; rfl)); intro gb386 hg w63 hbox hb; have n0_ := Aside0.mk (Kd.R_below (by (with_reducible repeat (first | apply Kd.R_alloc | apply Kd.R_drewN | apply Kd.R_drew)); exact HO378.out) hb); have n1_ := Aside0.mk (Kd.R_below (by (with_reducible repeat (first | apply Kd.R_alloc | apply Kd.R_drewN | apply Kd.R_drew)); exact HO383.out) hb); have n2_ := Aside0.mk (blk_below (g := gb352) (o := .cells #[.int .i64 t347, .int .i64 t348, .int .i64 t349, .int .i64 x353003_20] 36 (0, 0)) (by (with_reducible repeat (first | refine blk_drewN ?_ _ | refine blk_drew ?_ | refine blk_alloc ?_ _)); exact BK352.out) hb); have n3_ := Aside0.mk (blk_below (g := gb358) (o := .cells #[.int .i64 t353, .int .i64 t354, .int .i64 t355, .int .i64 t356] 36 (0, 0)) (by (with_reducible repeat (first | refine blk_drewN ?_ _ | refine blk_drew ?_ | refine blk_alloc ?_ _)); exact BK358.out) hb); have n4_ := Aside0.mk (blk_below (g := gb371) (o := .cells #[.int .i64 t367, .int .i64 t368, .int .i64 t369, .int .i64 t370] 36 (0, 0)) (by (with_reducible repeat (first | refine blk_drewN ?_ _ | refine blk_drew ?_ | refine blk_alloc ?_ _)); exact BK371.out) hb); have n5_ := Aside0.mk (below_step (by repeat (first | (with_reducible first | exact HB.out | apply below_alloc | apply pw_below_drewN | apply below_drew1 | refine below_set ?_ GE352.out | refine below_set ?_ GE358.out | refine below_set ?_ GE371.out) | exact HB.out)) hb); have n6_ := Aside0.mk (hbox); have n7_ := Aside0.mk ((by rw [hg]; exact (below_size (by repeat (first | (with_reducible first | exact HB.out | apply below_alloc | apply pw_below_drewN | apply below_drew1 | refine below_set ?_ GE352.out | refine below_set ?_ GE358.out | refine below_set ?_ GE371.out) | exact HB.out))) : w.heap.size ≤ gb386)); have n8_ := Aside0.mk ((by rw [hg]; exact (below_size (by repeat (first | (with_reducible first | exact HB.out | apply below_alloc | apply pw_below_drewN | apply below_drew1 | refine below_set ?_ GE352.out | refine below_set ?_ GE358.out | refine below_set ?_ GE371.out) | exact HB.out))) : w.heap.size ≤ gb386)); have n9_ := Aside0.mk ((by rw [hg]; exact Nat.ne_of_lt (blk_lt (g := gb352) (o := .cells #[.int .i64 t347, .int .i64 t348, .int .i64 t349, .int .i64 x353003_20] 36 (0, 0)) (by (with_reducible repeat (first | refine blk_drewN ?_ _ | refine blk_drew ?_ | refine blk_alloc ?_ _)); exact BK352.out)) : gb352 ≠ gb386)); have n10_ := Aside0.mk ((by rw [hg]; exact Nat.ne_of_gt (blk_lt (g := gb352) (o := .cells #[.int .i64 t347, .int .i64 t348, .int .i64 t349, .int .i64 x353003_20] 36 (0, 0)) (by (with_reducible repeat (first | refine blk_drewN ?_ _ | refine blk_drew ?_ | refine blk_alloc ?_ _)); exact BK352.out)) : gb386 ≠ gb352)); have n11_ := Aside0.mk ((by rw [hg]; exact Nat.ne_of_lt (blk_lt (g := gb358) (o := .cells #[.int .i64 t353, .int .i64 t354, .int .i64 t355, .int .i64 t356] 36 (0, 0)) (by (with_reducible repeat (first | refine blk_drewN ?_ _ | refine blk_drew ?_ | refine blk_alloc ?_ _)); exact BK358.out)) : gb358 ≠ gb386)); have n12_ := Aside0.mk ((by rw [hg]; exact Nat.ne_of_gt (blk_lt (g := gb358) (o := .cells #[.int .i64 t353, .int .i64 t354, .int .i64 t355, .int .i64 t356] 36 (0, 0)) (by (with_reducible repeat (first | refine blk_drewN ?_ _ | refine blk_drew ?_ | refine blk_alloc ?_ _)); exact BK358.out)) : gb386 ≠ gb358)); have n13_ := Aside0.mk ((by rw [hg]; exact Nat.ne_of_lt (blk_lt (g := gb371) (o := .cells #[.int .i64 t367, .int .i64 t368, .int .i64 t369, .int .i64 t370] 36 (0, 0)) (by (with_reducible repeat (first | refine blk_drewN ?_ _ | refine blk_drew ?_ | refine blk_alloc ?_ _)); exact BK371.out)) : gb371 ≠ gb386)); have n14_ := Aside0.mk ((by rw [hg]; exact Nat.ne_of_gt (blk_lt (g := gb371) (o := .cells #[.int .i64 t367, .int .i64 t368, .int .i64 t369, .int .i64 t370] 36 (0, 0)) (by (with_reducible repeat (first | refine blk_drewN ?_ _ | refine blk_drew ?_ | refine blk_alloc ?_ _)); exact BK371.out)) : gb386 ≠ gb371)); clear HO378; clear HO383; clear BK352; clear BK358; clear BK371; clear HB; have HO378 := n0_; have HO383 := n1_; have BK352 := n2_; have BK358 := n3_; have BK371 := n4_; have HB := n5_; have BK386 := n6_; have GW386 := n7_; have GE386 := n8_; have NB352_386 := n9_; have NB386_352 := n10_; have NB358_386 := n11_; have NB386_358 := n12_; have NB371_386 := n13_; have NB386_371 := n14_; clear n0_ n1_ n2_ n3_ n4_ n5_ n6_ n7_ n8_ n9_ n10_ n11_ n12_ n13_ n14_; clear hb hbox hg; obtain ⟨Ao64, co64, eo64⟩ := Kd.R_slice HO378.out; subst eo64; have hnb65 := NB386_352.out; have hnc65 := NB352_386.out; have hnb66 := NB386_358.out; have hnc66 := NB358_386.out; have hnb67 := NB386_371.out; have hnc67 := NB371_386.out; have hcz68_0 : w63.cell? ⟨gb386, 0, none⟩ = some (.slice none 0 0) := (blk_cell BK386.out 0).trans rfl; have hcz68_1 : w63.cell? ⟨gb386, 1, none⟩ = some (.int .i64 0) := (blk_cell BK386.out 1).trans rfl; have hcz68_2 : w63.cell? ⟨gb386, 2, none⟩ = some (.int .i64 0) := (blk_cell BK386.out 2).trans rfl; have hcz68_3 : w63.cell? ⟨gb386, 3, none⟩ = some (.slice none 0 0) := (blk_cell BK386.out 3).trans rfl; have hcz68_4 : w63.cell? ⟨gb386, 4, none⟩ = some (.int .i64 0) := (blk_cell BK386.out 4).trans rfl; have hfz68_0 := blk_frozen BK386.out 0; have hfz68_1 := blk_frozen BK386.out 1; have hfz68_2 := blk_frozen BK386.out 2; have hfz68_3 := blk_frozen BK386.out 3; have hfz68_4 := blk_frozen BK386.out 4; obtain ⟨Ao69, co69, eo69⟩ := Kd.R_slice HO383.out; subst eo69) | ((with_reducible refine gate_callee (f := 40) rfl ?_); refine goesL_ (some 143) rfl rfl Try.func40 (by kernel_rfl) rfl #[.agg #[.slice Ao64 t376.length co64, .int .i64 t379, .int .i64 t380, .slice Ao69 t381.length co69, .int .i64 t384], .int .i64 t385] rfl (by (try simp only [List.map_toArray, List.map_cons, List.map_nil]); first | done | rfl | (simp only [List.length_drop, List.length_take]; rfl)) ?_; (with_reducible refine (impl_ProofFor.calls kj20 _ _ t376 t379 t380 _ _ t381 t384 t385 t387 t390 _ ?side1 ?side2 ?side3 ?side4 A48.out).mono ?_); (case side1 => refine (Kd.R_reads' (e := 3) (base := w.heap.size) (ok := fun k_ => True) (n := t376.length) (c := co64) ?_).2.2; exact (by (with_reducible repeat (first | apply Kd.R_alloc | apply Kd.R_drewN | apply Kd.R_drew)); exact (Kd.R_mono (Kd.R_far (p := ⟨gb386, 4, none⟩) (Kd.R_far (p := ⟨gb386, 3, none⟩) (Kd.R_far (p := ⟨gb386, 2, none⟩) (Kd.R_far (p := ⟨gb386, 1, none⟩) (Kd.R_far (p := ⟨gb386, 0, none⟩) (Kd.R_types HO378.out BK386.out (by decide)) (fun _ hk => hk.2) (.slice Ao64 t376.length co64)) (fun _ hk => hk.2) (.int .i64 t379)) (fun _ hk => hk.2) (.int .i64 t380)) (fun _ hk => hk.2) (.slice Ao69 t381.length co69)) (fun _ hk => hk.2) (.int .i64 t384)) (fun _ h_ => h_.1)))); (case side2 => exact (Kd.R_reads' HO378.out).2.1); (case side3 => refine (Kd.R_reads' (e := 36) (base := w.heap.size) (ok := fun k_ => (((True ∧ k_ ≠ gb352) ∧ k_ ≠ gb358) ∧ k_ ≠ gb371)) (n := t381.length) (c := co69) ?_).2.2; exact (by (with_reducible repeat (first | apply Kd.R_alloc | apply Kd.R_drewN | apply Kd.R_drew)); exact (Kd.R_mono (Kd.R_far (p := ⟨gb386, 4, none⟩) (Kd.R_far (p := ⟨gb386, 3, none⟩) (Kd.R_far (p := ⟨gb386, 2, none⟩) (Kd.R_far (p := ⟨gb386, 1, none⟩) (Kd.R_far (p := ⟨gb386, 0, none⟩) (Kd.R_types HO383.out BK386.out (by decide)) (fun _ hk => hk.2) (.slice Ao64 t376.length co64)) (fun _ hk => hk.2) (.int .i64 t379)) (fun _ hk => hk.2) (.int .i64 t380)) (fun _ hk => hk.2) (.slice Ao69 t381.length co69)) (fun _ hk => hk.2) (.int .i64 t384)) (fun _ h_ => h_.1)))); (case side4 => exact (Kd.R_reads' HO383.out).2.1); rintro e w70 ⟨v388, rfl, ho0, hb⟩; refine ⟨_, rfl, ?_⟩; have n0_ := Aside0.mk (Kd.R_below (by (with_reducible repeat (first | apply Kd.R_alloc | apply Kd.R_drewN | apply Kd.R_drew)); exact (Kd.R_mono (Kd.R_far (p := ⟨gb386, 4, none⟩) (Kd.R_far (p := ⟨gb386, 3, none⟩) (Kd.R_far (p := ⟨gb386, 2, none⟩) (Kd.R_far (p := ⟨gb386, 1, none⟩) (Kd.R_far (p := ⟨gb386, 0, none⟩) (Kd.R_types HO378.out BK386.out (by decide)) (fun _ hk => hk.2) (.slice Ao64 t376.length co64)) (fun _ hk => hk.2) (.int .i64 t379)) (fun _ hk => hk.2) (.int .i64 t380)) (fun _ hk => hk.2) (.slice Ao69 t381.length co69)) (fun _ hk => hk.2) (.int .i64 t384)) (fun _ h_ => h_.1))) hb); have n1_ := Aside0.mk (Kd.R_elder' (by (with_reducible repeat (first | apply Kd.R_alloc | apply Kd.R_drewN | apply Kd.R_drew)); exact (Kd.R_mono (Kd.R_far (p := ⟨gb386, 4, none⟩) (Kd.R_far (p := ⟨gb386, 3, none⟩) (Kd.R_far (p := ⟨gb386, 2, none⟩) (Kd.R_far (p := ⟨gb386, 1, none⟩) (Kd.R_far (p := ⟨gb386, 0, none⟩) (Kd.R_types HO383.out BK386.out (by decide)) (fun _ hk => hk.2) (.slice Ao64 t376.length co64)) (fun _ hk => hk.2) (.int .i64 t379)) (fun _ hk => hk.2) (.int .i64 t380)) (fun _ hk => hk.2) (.slice Ao69 t381.length co69)) (fun _ hk => hk.2) (.int .i64 t384)) (fun _ h_ => h_.1))) (Kd.R_base ho0) hb); have n2_ := Aside0.mk (Kd.R_lower (Kd.R_newB (Kd.R_newB (Kd.R_newB (Kd.R_new' ho0 (Kd.R_lt (by (with_reducible repeat (first | apply Kd.R_alloc | apply Kd.R_drewN | apply Kd.R_drew)); exact (Kd.R_mono (Kd.R_far (p := ⟨gb386, 4, none⟩) (Kd.R_far (p := ⟨gb386, 3, none⟩) (Kd.R_far (p := ⟨gb386, 2, none⟩) (Kd.R_far (p := ⟨gb386, 1, none⟩) (Kd.R_far (p := ⟨gb386, 0, none⟩) (Kd.R_types HO383.out BK386.out (by decide)) (fun _ hk => hk.2) (.slice Ao64 t376.length co64)) (fun _ hk => hk.2) (.int .i64 t379)) (fun _ hk => hk.2) (.int .i64 t380)) (fun _ hk => hk.2) (.slice Ao69 t381.length co69)) (fun _ hk => hk.2) (.int .i64 t384)) (fun _ h_ => h_.1))))) (g := gb352) (o := .cells #[.int .i64 t347, .int .i64 t348, .int .i64 t349, .int .i64 x353003_20] 36 (0, 0)) (by (with_reducible repeat (first | refine blk_drewN ?_ _ | refine blk_drew ?_ | refine blk_alloc ?_ _)); refine blk_far ?_ NB352_386.out _; (with_reducible repeat (first | refine blk_drewN ?_ _ | refine blk_drew ?_ | refine blk_alloc ?_ _)); refine blk_far ?_ NB352_386.out _; (with_reducible repeat (first | refine blk_drewN ?_ _ | refine blk_drew ?_ | refine blk_alloc ?_ _)); refine blk_far ?_ NB352_386.out _; (with_reducible repeat (first | refine blk_drewN ?_ _ | refine blk_drew ?_ | refine blk_alloc ?_ _)); refine blk_far ?_ NB352_386.out _; (with_reducible repeat (first | refine blk_drewN ?_ _ | refine blk_drew ?_ | refine blk_alloc ?_ _)); refine blk_far ?_ NB352_386.out _; (with_reducible repeat (first | refine blk_drewN ?_ _ | refine blk_drew ?_ | refine blk_alloc ?_ _)); exact BK352.out)) (g := gb358) (o := .cells #[.int .i64 t353, .int .i64 t354, .int .i64 t355, .int .i64 t356] 36 (0, 0)) (by (with_reducible repeat (first | refine blk_drewN ?_ _ | refine blk_drew ?_ | refine blk_alloc ?_ _)); refine blk_far ?_ NB358_386.out _; (with_reducible repeat (first | refine blk_drewN ?_ _ | refine blk_drew ?_ | refine blk_alloc ?_ _)); refine blk_far ?_ NB358_386.out _; (with_reducible repeat (first | refine blk_drewN ?_ _ | refine blk_drew ?_ | refine blk_alloc ?_ _)); refine blk_far ?_ NB358_386.out _; (with_reducible repeat (first | refine blk_drewN ?_ _ | refine blk_drew ?_ | refine blk_alloc ?_ _)); refine blk_far ?_ NB358_386.out _; (with_reducible repeat (first | refine blk_drewN ?_ _ | refine blk_drew ?_ | refine blk_alloc ?_ _)); refine blk_far ?_ NB358_386.out _; (with_reducible repeat (first | refine blk_drewN ?_ _ | refine blk_drew ?_ | refine blk_alloc ?_ _)); exact BK358.out)) (g := gb371) (o := .cells #[.int .i64 t367, .int .i64 t368, .int .i64 t369, .int .i64 t370] 36 (0, 0)) (by (with_reducible repeat (first | refine blk_drewN ?_ _ | refine blk_drew ?_ | refine blk_alloc ?_ _)); refine blk_far ?_ NB371_386.out _; (with_reducible repeat (first | refine blk_drewN ?_ _ | refine blk_drew ?_ | refine blk_alloc ?_ _)); refine blk_far ?_ NB371_386.out _; (with_reducible repeat (first | refine blk_drewN ?_ _ | refine blk_drew ?_ | refine blk_alloc ?_ _)); refine blk_far ?_ NB371_386.out _; (with_reducible repeat (first | refine blk_drewN ?_ _ | refine blk_drew ?_ | refine blk_alloc ?_ _)); refine blk_far ?_ NB371_386.out _; (with_reducible repeat (first | refine blk_drewN ?_ _ | refine blk_drew ?_ | refine blk_alloc ?_ _)); refine blk_far ?_ NB371_386.out _; (with_reducible repeat (first | refine blk_drewN ?_ _ | refine blk_drew ?_ | refine blk_alloc ?_ _)); exact BK371.out)) (below_size (by repeat (first | (with_reducible first | exact HB.out | apply below_alloc | apply pw_below_drewN | apply below_drew1 | refine below_set ?_ GE352.out | refine below_set ?_ GE358.out | refine below_set ?_ GE371.out | refine below_set ?_ GE386.out) | exact HB.out)))); have n3_ := Aside0.mk (blk_below (g := gb352) (o := .cells #[.int .i64 t347, .int .i64 t348, .int .i64 t349, .int .i64 x353003_20] 36 (0, 0)) (by (with_reducible repeat (first | refine blk_drewN ?_ _ | refine blk_drew ?_ | refine blk_alloc ?_ _)); refine blk_far ?_ NB352_386.out _; (with_reducible repeat (first | refine blk_drewN ?_ _ | refine blk_drew ?_ | refine blk_alloc ?_ _)); refine blk_far ?_ NB352_386.out _; (with_reducible repeat (first | refine blk_drewN ?_ _ | refine blk_drew ?_ | refine blk_alloc ?_ _)); refine blk_far ?_ NB352_386.out _; (with_reducible repeat (first | refine blk_drewN ?_ _ | refine blk_drew ?_ | refine blk_alloc ?_ _)); refine blk_far ?_ NB352_386.out _; (with_reducible repeat (first | refine blk_drewN ?_ _ | refine blk_drew ?_ | refine blk_alloc ?_ _)); refine blk_far ?_ NB352_386.out _; (with_reducible repeat (first | refine blk_drewN ?_ _ | refine blk_drew ?_ | refine blk_alloc ?_ _)); exact BK352.out) hb); have n4_ := Aside0.mk (blk_below (g := gb358) (o := .cells #[.int .i64 t353, .int .i64 t354, .int .i64 t355, .int .i64 t356] 36 (0, 0)) (by (with_reducible repeat (first | refine blk_drewN ?_ _ | refine blk_drew ?_ | refine blk_alloc ?_ _)); refine blk_far ?_ NB358_386.out _; (with_reducible repeat (first | refine blk_drewN ?_ _ | refine blk_drew ?_ | refine blk_alloc ?_ _)); refine blk_far ?_ NB358_386.out _; (with_reducible repeat (first | refine blk_drewN ?_ _ | refine blk_drew ?_ | refine blk_alloc ?_ _)); refine blk_far ?_ NB358_386.out _; (with_reducible repeat (first | refine blk_drewN ?_ _ | refine blk_drew ?_ | refine blk_alloc ?_ _)); refine blk_far ?_ NB358_386.out _; (with_reducible repeat (first | refine blk_drewN ?_ _ | refine blk_drew ?_ | refine blk_alloc ?_ _)); refine blk_far ?_ NB358_386.out _; (with_reducible repeat (first | refine blk_drewN ?_ _ | refine blk_drew ?_ | refine blk_alloc ?_ _)); exact BK358.out) hb); have n5_ := Aside0.mk (blk_below (g := gb371) (o := .cells #[.int .i64 t367, .int .i64 t368, .int .i64 t369, .int .i64 t370] 36 (0, 0)) (by (with_reducible repeat (first | refine blk_drewN ?_ _ | refine blk_drew ?_ | refine blk_alloc ?_ _)); refine blk_far ?_ NB371_386.out _; (with_reducible repeat (first | refine blk_drewN ?_ _ | refine blk_drew ?_ | refine blk_alloc ?_ _)); refine blk_far ?_ NB371_386.out _; (with_reducible repeat (first | refine blk_drewN ?_ _ | refine blk_drew ?_ | refine blk_alloc ?_ _)); refine blk_far ?_ NB371_386.out _; (with_reducible repeat (first | refine blk_drewN ?_ _ | refine blk_drew ?_ | refine blk_alloc ?_ _)); refine blk_far ?_ NB371_386.out _; (with_reducible repeat (first | refine blk_drewN ?_ _ | refine blk_drew ?_ | refine blk_alloc ?_ _)); refine blk_far ?_ NB371_386.out _; (with_reducible repeat (first | refine blk_drewN ?_ _ | refine blk_drew ?_ | refine blk_alloc ?_ _)); exact BK371.out) hb); have n6_ := Aside0.mk (blk_below (g := gb386) (o := .cells #[.slice Ao64 t376.length co64, .int .i64 t379, .int .i64 t380, .slice Ao69 t381.length co69, .int .i64 t384] 56 (0, 0)) (by (with_reducible repeat (first | refine blk_drewN ?_ _ | refine blk_drew ?_ | refine blk_alloc ?_ _)); refine blk_put (cs := #[.slice Ao64 t376.length co64, .int .i64 t379, .int .i64 t380, .slice Ao69 t381.length co69, .int .i64 0]) ?_ 4 _ rfl; (with_reducible repeat (first | refine blk_drewN ?_ _ | refine blk_drew ?_ | refine blk_alloc ?_ _)); refine blk_put (cs := #[.slice Ao64 t376.length co64, .int .i64 t379, .int .i64 t380, .slice none 0 0, .int .i64 0]) ?_ 3 _ rfl; (with_reducible repeat (first | refine blk_drewN ?_ _ | refine blk_drew ?_ | refine blk_alloc ?_ _)); refine blk_put (cs := #[.slice Ao64 t376.length co64, .int .i64 t379, .int .i64 0, .slice none 0 0, .int .i64 0]) ?_ 2 _ rfl; (with_reducible repeat (first | refine blk_drewN ?_ _ | refine blk_drew ?_ | refine blk_alloc ?_ _)); refine blk_put (cs := #[.slice Ao64 t376.length co64, .int .i64 0, .int .i64 0, .slice none 0 0, .int .i64 0]) ?_ 1 _ rfl; (with_reducible repeat (first | refine blk_drewN ?_ _ | refine blk_drew ?_ | refine blk_alloc ?_ _)); refine blk_put (cs := #[.slice none 0 0, .int .i64 0, .int .i64 0, .slice none 0 0, .int .i64 0]) ?_ 0 _ rfl; (with_reducible repeat (first | refine blk_drewN ?_ _ | refine blk_drew ?_ | refine blk_alloc ?_ _)); exact BK386.out) hb); have n7_ := Aside0.mk (below_step (by repeat (first | (with_reducible first | exact HB.out | apply below_alloc | apply pw_below_drewN | apply below_drew1 | refine below_set ?_ GE352.out | refine below_set ?_ GE358.out | refine below_set ?_ GE371.out | refine below_set ?_ GE386.out) | exact HB.out)) hb); clear HO378; clear HO383; clear BK352; clear BK358; clear BK371; clear BK386; clear HB; have HO378 := n0_; have HO383 := n1_; have HO389 := n2_; have BK352 := n3_; have BK358 := n4_; have BK371 := n5_; have BK386 := n6_; have HB := n7_; clear n0_ n1_ n2_ n3_ n4_ n5_ n6_ n7_; (try clear hb); (try clear hb2); (try clear hk); (try clear hi); (try clear ho0); have hcz71_0 : w70.cell? ⟨gb386, 0, none⟩ = some (.slice Ao64 t376.length co64) := (blk_cell BK386.out 0).trans rfl; have hcz71_1 : w70.cell? ⟨gb386, 1, none⟩ = some (.int .i64 t379) := (blk_cell BK386.out 1).trans rfl; have hcz71_2 : w70.cell? ⟨gb386, 2, none⟩ = some (.int .i64 t380) := (blk_cell BK386.out 2).trans rfl; have hcz71_3 : w70.cell? ⟨gb386, 3, none⟩ = some (.slice Ao69 t381.length co69) := (blk_cell BK386.out 3).trans rfl; have hcz71_4 : w70.cell? ⟨gb386, 4, none⟩ = some (.int .i64 t384) := (blk_cell BK386.out 4).trans rfl; have hfz71_0 := blk_frozen BK386.out 0; have hfz71_1 := blk_frozen BK386.out 1; have hfz71_2 := blk_frozen BK386.out 2; have hfz71_3 := blk_frozen BK386.out 3; have hfz71_4 := blk_frozen BK386.out 4) | ((with_reducible refine gate_callee (f := 38) rfl ?_); refine goesL_ (some 149) rfl rfl Try.func38 (by kernel_rfl) rfl #[.agg #[.slice Ao64 t376.length co64, .int .i64 t379, .int .i64 t380, .slice Ao69 t381.length co69, .int .i64 t384], .int .i64 t385] rfl (by (try simp only [List.map_toArray, List.map_cons, List.map_nil]); first | done | rfl | (simp only [List.length_drop, List.length_take]; rfl)) ?_; (with_reducible refine (spec_ProofFor.calls kj20 _ _ t376 t379 t380 _ _ t381 t384 t385 t391 t394 _ ?side1 ?side2 ?side3 ?side4 A49.out).mono ?_); (case side1 => repeat (first | exact (Kd.R_reads' HO378.out).2.2 | (with_reducible refine Kd.C_alloc ?_ _) | (with_reducible refine Kd.C_drewN ?_ _) | (with_reducible refine Kd.C_drew ?_))); (case side2 => exact (Kd.R_reads' HO378.out).2.1); (case side3 => repeat (first | exact (Kd.R_reads' HO383.out).2.2 | (with_reducible refine Kd.C_alloc ?_ _) | (with_reducible refine Kd.C_drewN ?_ _) | (with_reducible refine Kd.C_drew ?_))); (case side4 => exact (Kd.R_reads' HO383.out).2.1); rintro e w72 ⟨v392, rfl, ho0, hb⟩; refine ⟨_, rfl, ?_⟩; have n0_ := Aside0.mk (Kd.R_below (by (with_reducible repeat (first | apply Kd.R_alloc | apply Kd.R_drewN | apply Kd.R_drew)); exact HO378.out) hb); have n1_ := Aside0.mk (Kd.R_elder' (by (with_reducible repeat (first | apply Kd.R_alloc | apply Kd.R_drewN | apply Kd.R_drew)); exact HO383.out) (Kd.R_base ho0) hb); have n2_ := Aside0.mk (Kd.R_elder' (by (with_reducible repeat (first | apply Kd.R_alloc | apply Kd.R_drewN | apply Kd.R_drew)); exact HO389.out) (Kd.R_base ho0) hb); have n3_ := Aside0.mk (Kd.R_lower (Kd.R_newB (Kd.R_newB (Kd.R_newB (Kd.R_new' (Kd.R_new' ho0 (Kd.R_lt (by (with_reducible repeat (first | apply Kd.R_alloc | apply Kd.R_drewN | apply Kd.R_drew)); exact HO383.out))) (Kd.R_lt (by (with_reducible repeat (first | apply Kd.R_alloc | apply Kd.R_drewN | apply Kd.R_drew)); exact HO389.out))) (g := gb352) (o := .cells #[.int .i64 t347, .int .i64 t348, .int .i64 t349, .int .i64 x353003_20] 36 (0, 0)) (by (with_reducible repeat (first | refine blk_drewN ?_ _ | refine blk_drew ?_ | refine blk_alloc ?_ _)); exact BK352.out)) (g := gb358) (o := .cells #[.int .i64 t353, .int .i64 t354, .int .i64 t355, .int .i64 t356] 36 (0, 0)) (by (with_reducible repeat (first | refine blk_drewN ?_ _ | refine blk_drew ?_ | refine blk_alloc ?_ _)); exact BK358.out)) (g := gb371) (o := .cells #[.int .i64 t367, .int .i64 t368, .int .i64 t369, .int .i64 t370] 36 (0, 0)) (by (with_reducible repeat (first | refine blk_drewN ?_ _ | refine blk_drew ?_ | refine blk_alloc ?_ _)); exact BK371.out)) (below_size (by repeat (first | (with_reducible first | exact HB.out | apply below_alloc | apply pw_below_drewN | apply below_drew1 | refine below_set ?_ GE352.out | refine below_set ?_ GE358.out | refine below_set ?_ GE371.out | refine below_set ?_ GE386.out) | exact HB.out)))); have n4_ := Aside0.mk (blk_below (g := gb352) (o := .cells #[.int .i64 t347, .int .i64 t348, .int .i64 t349, .int .i64 x353003_20] 36 (0, 0)) (by (with_reducible repeat (first | refine blk_drewN ?_ _ | refine blk_drew ?_ | refine blk_alloc ?_ _)); exact BK352.out) hb); have n5_ := Aside0.mk (blk_below (g := gb358) (o := .cells #[.int .i64 t353, .int .i64 t354, .int .i64 t355, .int .i64 t356] 36 (0, 0)) (by (with_reducible repeat (first | refine blk_drewN ?_ _ | refine blk_drew ?_ | refine blk_alloc ?_ _)); exact BK358.out) hb); have n6_ := Aside0.mk (blk_below (g := gb371) (o := .cells #[.int .i64 t367, .int .i64 t368, .int .i64 t369, .int .i64 t370] 36 (0, 0)) (by (with_reducible repeat (first | refine blk_drewN ?_ _ | refine blk_drew ?_ | refine blk_alloc ?_ _)); exact BK371.out) hb); have n7_ := Aside0.mk (blk_below (g := gb386) (o := .cells #[.slice Ao64 t376.length co64, .int .i64 t379, .int .i64 t380, .slice Ao69 t381.length co69, .int .i64 t384] 56 (0, 0)) (by (with_reducible repeat (first | refine blk_drewN ?_ _ | refine blk_drew ?_ | refine blk_alloc ?_ _)); exact BK386.out) hb); have n8_ := Aside0.mk (below_step (by repeat (first | (with_reducible first | exact HB.out | apply below_alloc | apply pw_below_drewN | apply below_drew1 | refine below_set ?_ GE352.out | refine below_set ?_ GE358.out | refine below_set ?_ GE371.out | refine below_set ?_ GE386.out) | exact HB.out)) hb); clear HO378; clear HO383; clear HO389; clear BK352; clear BK358; clear BK371; clear BK386; clear HB; have HO378 := n0_; have HO383 := n1_; have HO389 := n2_; have HO393 := n3_; have BK352 := n4_; have BK358 := n5_; have BK371 := n6_; have BK386 := n7_; have HB := n8_; clear n0_ n1_ n2_ n3_ n4_ n5_ n6_ n7_ n8_; (try clear hb); (try clear hb2); (try clear hk); (try clear hi); (try clear ho0); obtain ⟨Ao73, co73, eo73⟩ := Kd.R_slice HO389.out; subst eo73; obtain ⟨Ao74, co74, eo74⟩ := Kd.R_slice HO393.out; subst eo74) | (go_at_call 50; (with_reducible refine (laws_sameReceipts.calls kj20 _ _ t387 _ _ t391 t395 _ ?side1 ?side2 ?side3 ?side4 A53.out).mono ?_); (case side1 => repeat (first | exact (Kd.R_reads' HO389.out).2.2 | (with_reducible refine Kd.C_alloc ?_ _) | (with_reducible refine Kd.C_drewN ?_ _) | (with_reducible refine Kd.C_drew ?_))); (case side2 => exact (Kd.R_reads' HO389.out).2.1); (case side3 => repeat (first | exact (Kd.R_reads' HO393.out).2.2 | (with_reducible refine Kd.C_alloc ?_ _) | (with_reducible refine Kd.C_drewN ?_ _) | (with_reducible refine Kd.C_drew ?_))); (case side4 => exact (Kd.R_reads' HO393.out).2.1); rintro e w' ⟨rfl, ⟨nd, rfl⟩⟩))
                    go_ret
                    exact ⟨by first | rfl | (simp [errW_none, errW_some] <;> rfl) | (simp [*, errW_none, errW_some] <;> rfl), by repeat (first | (with_reducible first | exact HB.out | apply below_alloc | apply pw_below_drewN | apply below_drew1 | refine below_set ?_ GE352.out | refine below_set ?_ GE358.out | refine below_set ?_ GE371.out | refine below_set ?_ GE386.out) | exact HB.out)⟩
                  · rw [if_neg c52] at H
                    have c52b0 : (t390 == t394) = false := by simpa using c52
                    (try (have c52b1 : decide (t390 = t394) = false := by simpa using c52))
                    (try (have c52b2 : (t390 == t394) = false := by simpa using c52))
                    (try (have c52b3 : ¬ (t390 = t394) := by simpa using c52))
                    clear c52
                    obtain rfl := Option.some.inj H
                    exact absurd hr_.out (by simp)
                · rw [if_neg c51] at H
                  have c51b0 : (t372 == t374) = false := by simpa using c51
                  (try (have c51b1 : decide (t372 = t374) = false := by simpa using c51))
                  (try (have c51b2 : (t372 == t374) = false := by simpa using c51))
                  (try (have c51b3 : ¬ (t372 = t374) := by simpa using c51))
                  clear c51
                  obtain rfl := Option.some.inj H
                  exact absurd hr_.out (by simp)
              · rw [if_neg c50] at H
                have c50b0 : (t373 == t375) = false := by simpa using c50
                (try (have c50b1 : decide (t373 = t375) = false := by simpa using c50))
                (try (have c50b2 : (t373 == t375) = false := by simpa using c50))
                (try (have c50b3 : ¬ (t373 = t375) := by simpa using c50))
                clear c50
                obtain rfl := Option.some.inj H
                exact absurd hr_.out (by simp)

/-- THE ONE PURE STATEMENT of laws_FnReceipts: yours. -/
def laws_FnReceipts.Pure : Prop := ∀ (l0 : List Int) (l1 : List Int), l0.length ≤ maxLen → l0.length * 1 ≤ 140737488351232 → (∀ x ∈ l0, (Lit.int .u8 x).wf = true) → l1.length ≤ maxLen → l1.length * 1 ≤ 140737488351232 → (∀ x ∈ l1, (Lit.int .u8 x).wf = true) → ∃ k, laws_FnReceipts.f k l0 l1 = some true
theorem laws_FnReceipts.walk (P : laws_FnReceipts.Pure) (a0 : Option Addr) (len0 cap0 : Nat) (z0 : List Int) (a1 : Option Addr) (len1 cap1 : Nat) (z1 : List Int) (w : World) (w0 : (a0 = none ∧ len0 = 0 ∧ cap0 = 0 ∧ z0 = []) ∨ ∃ x, a0 = some x ∧ len0 ≤ cap0 ∧ cap0 ≤ maxLen ∧ z0.length = cap0 ∧ (∀ i, i < z0.length → w.cell? (x.add i) = some (.int .u8 (z0.getD i 0))) ∧ ∀ n ∈ z0, (Lit.int .u8 n).wf = true) (y0 : len0 * 1 ≤ 140737488351232) (w1 : (a1 = none ∧ len1 = 0 ∧ cap1 = 0 ∧ z1 = []) ∨ ∃ x, a1 = some x ∧ len1 ≤ cap1 ∧ cap1 ≤ maxLen ∧ z1.length = cap1 ∧ (∀ i, i < z1.length → w.cell? (x.add i) = some (.int .u8 (z1.getD i 0))) ∧ ∀ n ∈ z1, (Lit.int .u8 n).wf = true) (y1 : len1 * 1 ≤ 140737488351232) :
    Calls Try.prog 10 #[.slice a0 len0 cap0, .slice a1 len1 cap1] w fun e w' => e = .returned (.bool true) ∧ Below w.heap.size w w' := by
  obtain ⟨l0, rfl, hr0, hm0, hw0, hc0⟩ := ReadsInt.ofRowC w0
  obtain ⟨l1, rfl, hr1, hm1, hw1, hc1⟩ := ReadsInt.ofRowC w1
  obtain ⟨k, h⟩ := P l0 l1 hm0 y0 hw0 hm1 y1 hw1
  refine (laws_FnReceipts.calls k _ _ l0 _ _ l1 true w (Kd.C_of_reads (d := (0 : Int)) (h1 := fun _ => rfl) hr0) hc0 (Kd.C_of_reads (d := (0 : Int)) (h1 := fun _ => rfl) hr1) hc1 h ⟨rfl⟩).mono ?_
  rintro e w' ⟨rfl, hd⟩
  exact ⟨rfl, hd⟩

end Go.Proofs.Ytafcbeajnlfomaa.PFnReceipts
