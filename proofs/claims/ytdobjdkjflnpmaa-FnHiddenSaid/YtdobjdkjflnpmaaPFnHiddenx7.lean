-- Written by a program of this session, after the kit's print (changed in some places; see NOTES.md). Lean checks it.
import Derived.Test.YtdobjdkjflnpmaaPFnHiddenx0
import Derived.Test.YtdobjdkjflnpmaaPFnHiddenx6
namespace Go.Proofs.Ytdobjdkjflnpmaa.PFnHidden
open Go.RowKit Go.Proofs.YtdobjdkjflnpmaaW.PrintWords Go.Proofs.YtdobjdkjflnpmaaW.PrintLast Go.Proofs.YtdobjdkjflnpmaaW.PrintMore
attribute [local go_sem] max2_int min2_int max_two min_two max_three min_three max_four min_four   -- for this text's walks alone
set_option linter.unusedVariables false
set_option linter.unusedSimpArgs false

/-! ### spec_l1Cur_parts: function 45 -/
mutual
def spec_l1Cur_parts.l0 : Nat → List (S46) → Int → List Int → Int → Int → Option ((List (S46)) × Int × Int)
  | 0, _, _, _, _, _ => none
  | k + 1, x3, x5, x1000, x1001, x1002 => if x5 > 0 then (spec_l1Cur_parts.j1 k x3 x5 (decide ((x3.length : Int) > 1)) x1000 x1001 x1002) else (spec_l1Cur_parts.j1 k x3 x5 false x1000 x1001 x1002)
def spec_l1Cur_parts.j1 : Nat → List (S46) → Int → Bool → List Int → Int → Int → Option ((List (S46)) × Int × Int)
  | 0, _, _, _, _, _, _ => none
  | k + 1, x3, x5, x26, x1000, x1001, x1002 => if x26 = true then ((spec_l1Cur_pick.f x1000 x1001 x1002 (x3.length : Int)).bind fun bt252 => ((spec_l1Cur_pick.f x1000 bt252.2.1 bt252.2.2 (x3.length : Int)).bind fun bt255 => (if 0 ≤ bt252.1 then (if bt252.1 < (x3.length : Int) then (if 0 ≤ bt255.1 then (if bt255.1 < (x3.length : Int) then (spec_l1Cur_parts.l0 k ((x3.set (bt252.1 : Int).toNat (⟨(rd_T46 x3 bt255.1).f0, (rd_T46 x3 bt255.1).f1⟩ : S46)).set (bt255.1 : Int).toNat (⟨(rd_T46 x3 bt252.1).f0, (rd_T46 x3 bt252.1).f1⟩ : S46)) (wrap64 (x5 - 1)) x1000 bt255.2.1 bt255.2.2) else (none)) else (none)) else (none)) else (none)))) else (if (x3.length : Int) > 1 then ((spec_l1Cur_one.f x1000 x1001 x1002 3).bind fun bt263 => (spec_l1Cur_parts.j2 k x3 bt263.1 x1000 bt263.2.1 bt263.2.2)) else (spec_l1Cur_parts.j2 k x3 false x1000 x1001 x1002))
def spec_l1Cur_parts.j2 : Nat → List (S46) → Bool → List Int → Int → Int → Option ((List (S46)) × Int × Int)
  | 0, _, _, _, _, _ => none
  | k + 1, x3, x58, x1000, x1001, x1002 => if x58 = true then (if 1 ≤ (x3.length : Int) then (spec_l1Cur_parts.j3 k (x3.drop (1 : Int).toNat) x1000 x1001 x1002) else (none)) else (spec_l1Cur_parts.j3 k x3 x1000 x1001 x1002)
def spec_l1Cur_parts.j3 : Nat → List (S46) → List Int → Int → Int → Option ((List (S46)) × Int × Int)
  | 0, _, _, _, _ => none
  | k + 1, x3, x1000, x1001, x1002 => if (x3.length : Int) > 0 then ((spec_l1Cur_one.f x1000 x1001 x1002 12).bind fun bt269 => (spec_l1Cur_parts.j4 k x3 bt269.1 x1000 bt269.2.1 bt269.2.2)) else (spec_l1Cur_parts.j4 k x3 false x1000 x1001 x1002)
def spec_l1Cur_parts.j4 : Nat → List (S46) → Bool → List Int → Int → Int → Option ((List (S46)) × Int × Int)
  | 0, _, _, _, _, _ => none
  | k + 1, x3, x67, x1000, x1001, x1002 => if x67 = true then ((spec_l1Cur_among.f x1000 x1001 x1002 (([0, 2, 1498, 1499] : List Int))).bind fun bt275 => ((spec_l1Cur_among.f x1000 bt275.2.1 bt275.2.2 (([0, 1498, 1499] : List Int))).bind fun bt281 => (if 0 < (x3.length : Int) then (some ((x3.set (0 : Int).toNat (⟨bt275.1, bt281.1⟩ : S46)), bt281.2.1, bt281.2.2)) else (none)))) else (some (x3, x1001, x1002))
end
def spec_l1Cur_parts.f (k : Nat) (s0_0 : List Int) (s0_1 : Int) (s0_2 : Int) : Option ((List (S46)) × Int × Int) := (spec_l1Cur_poly.f k s0_0 s0_1 s0_2).bind fun bt237 => ((spec_l1Cur_pick.f s0_0 bt237.2.1 bt237.2.2 7).bind fun bt242 => ((spec_SplitSecret.f k bt237.1 (wrap64 (1 + bt242.1))).bind fun bt245 => ((spec_l1Cur_pick.f s0_0 bt242.2.1 bt242.2.2 4).bind fun bt249 => (spec_l1Cur_parts.l0 k bt245.1 bt249.1 s0_0 bt249.2.1 bt249.2.2))))
theorem spec_l1Cur_parts.mono_l : ∀ k, (∀ y0 y1 y2 y3 y4, LeO (spec_l1Cur_parts.l0 k y0 y1 y2 y3 y4) (spec_l1Cur_parts.l0 (k + 1) y0 y1 y2 y3 y4)) ∧ (∀ y0 y1 y2 y3 y4 y5, LeO (spec_l1Cur_parts.j1 k y0 y1 y2 y3 y4 y5) (spec_l1Cur_parts.j1 (k + 1) y0 y1 y2 y3 y4 y5)) ∧ (∀ y0 y1 y2 y3 y4, LeO (spec_l1Cur_parts.j2 k y0 y1 y2 y3 y4) (spec_l1Cur_parts.j2 (k + 1) y0 y1 y2 y3 y4)) ∧ (∀ y0 y1 y2 y3, LeO (spec_l1Cur_parts.j3 k y0 y1 y2 y3) (spec_l1Cur_parts.j3 (k + 1) y0 y1 y2 y3)) ∧ (∀ y0 y1 y2 y3 y4, LeO (spec_l1Cur_parts.j4 k y0 y1 y2 y3 y4) (spec_l1Cur_parts.j4 (k + 1) y0 y1 y2 y3 y4))
  | 0 => ⟨fun _ _ _ _ _ r h => by simp [spec_l1Cur_parts.l0] at h, fun _ _ _ _ _ _ r h => by simp [spec_l1Cur_parts.j1] at h, fun _ _ _ _ _ r h => by simp [spec_l1Cur_parts.j2] at h, fun _ _ _ _ r h => by simp [spec_l1Cur_parts.j3] at h, fun _ _ _ _ _ r h => by simp [spec_l1Cur_parts.j4] at h⟩
  | k + 1 => by
    obtain ⟨ih0, ih1, ih2, ih3, ih4⟩ := spec_l1Cur_parts.mono_l k
    refine ⟨?_, ?_, ?_, ?_, ?_⟩
    · intro y0 y1 y2 y3 y4
      unfold spec_l1Cur_parts.l0
      repeat' first
      | (with_reducible exact ih0 _ _ _ _ _)
      | (with_reducible exact ih1 _ _ _ _ _ _)
      | (with_reducible exact ih2 _ _ _ _ _)
      | (with_reducible exact ih3 _ _ _ _)
      | (with_reducible exact ih4 _ _ _ _ _)
      | (with_reducible exact spec_SplitSecret.mono _ _ _)
      | (with_reducible exact spec_l1Cur_poly.mono _ _ _ _)
      | (with_reducible exact LeO.refl _)
      | (with_reducible exact LeO.none _)
      | (with_reducible refine LeO.ite ?_ ?_)
      | (with_reducible refine LeO.bind ?_ (fun _ => ?_))
      | exact ih0 _ _ _ _ _
      | exact ih1 _ _ _ _ _ _
      | exact ih2 _ _ _ _ _
      | exact ih3 _ _ _ _
      | exact ih4 _ _ _ _ _
      | exact spec_SplitSecret.mono _ _ _
      | exact spec_l1Cur_poly.mono _ _ _ _
      | exact LeO.none _
      | refine LeO.ite ?_ ?_
      | refine LeO.bind ?_ (fun _ => ?_)
    · intro y0 y1 y2 y3 y4 y5
      unfold spec_l1Cur_parts.j1
      repeat' first
      | (with_reducible exact ih0 _ _ _ _ _)
      | (with_reducible exact ih1 _ _ _ _ _ _)
      | (with_reducible exact ih2 _ _ _ _ _)
      | (with_reducible exact ih3 _ _ _ _)
      | (with_reducible exact ih4 _ _ _ _ _)
      | (with_reducible exact spec_SplitSecret.mono _ _ _)
      | (with_reducible exact spec_l1Cur_poly.mono _ _ _ _)
      | (with_reducible exact LeO.refl _)
      | (with_reducible exact LeO.none _)
      | (with_reducible refine LeO.ite ?_ ?_)
      | (with_reducible refine LeO.bind ?_ (fun _ => ?_))
      | exact ih0 _ _ _ _ _
      | exact ih1 _ _ _ _ _ _
      | exact ih2 _ _ _ _ _
      | exact ih3 _ _ _ _
      | exact ih4 _ _ _ _ _
      | exact spec_SplitSecret.mono _ _ _
      | exact spec_l1Cur_poly.mono _ _ _ _
      | exact LeO.none _
      | refine LeO.ite ?_ ?_
      | refine LeO.bind ?_ (fun _ => ?_)
    · intro y0 y1 y2 y3 y4
      unfold spec_l1Cur_parts.j2
      repeat' first
      | (with_reducible exact ih0 _ _ _ _ _)
      | (with_reducible exact ih1 _ _ _ _ _ _)
      | (with_reducible exact ih2 _ _ _ _ _)
      | (with_reducible exact ih3 _ _ _ _)
      | (with_reducible exact ih4 _ _ _ _ _)
      | (with_reducible exact spec_SplitSecret.mono _ _ _)
      | (with_reducible exact spec_l1Cur_poly.mono _ _ _ _)
      | (with_reducible exact LeO.refl _)
      | (with_reducible exact LeO.none _)
      | (with_reducible refine LeO.ite ?_ ?_)
      | (with_reducible refine LeO.bind ?_ (fun _ => ?_))
      | exact ih0 _ _ _ _ _
      | exact ih1 _ _ _ _ _ _
      | exact ih2 _ _ _ _ _
      | exact ih3 _ _ _ _
      | exact ih4 _ _ _ _ _
      | exact spec_SplitSecret.mono _ _ _
      | exact spec_l1Cur_poly.mono _ _ _ _
      | exact LeO.none _
      | refine LeO.ite ?_ ?_
      | refine LeO.bind ?_ (fun _ => ?_)
    · intro y0 y1 y2 y3
      unfold spec_l1Cur_parts.j3
      repeat' first
      | (with_reducible exact ih0 _ _ _ _ _)
      | (with_reducible exact ih1 _ _ _ _ _ _)
      | (with_reducible exact ih2 _ _ _ _ _)
      | (with_reducible exact ih3 _ _ _ _)
      | (with_reducible exact ih4 _ _ _ _ _)
      | (with_reducible exact spec_SplitSecret.mono _ _ _)
      | (with_reducible exact spec_l1Cur_poly.mono _ _ _ _)
      | (with_reducible exact LeO.refl _)
      | (with_reducible exact LeO.none _)
      | (with_reducible refine LeO.ite ?_ ?_)
      | (with_reducible refine LeO.bind ?_ (fun _ => ?_))
      | exact ih0 _ _ _ _ _
      | exact ih1 _ _ _ _ _ _
      | exact ih2 _ _ _ _ _
      | exact ih3 _ _ _ _
      | exact ih4 _ _ _ _ _
      | exact spec_SplitSecret.mono _ _ _
      | exact spec_l1Cur_poly.mono _ _ _ _
      | exact LeO.none _
      | refine LeO.ite ?_ ?_
      | refine LeO.bind ?_ (fun _ => ?_)
    · intro y0 y1 y2 y3 y4
      unfold spec_l1Cur_parts.j4
      repeat' first
      | (with_reducible exact ih0 _ _ _ _ _)
      | (with_reducible exact ih1 _ _ _ _ _ _)
      | (with_reducible exact ih2 _ _ _ _ _)
      | (with_reducible exact ih3 _ _ _ _)
      | (with_reducible exact ih4 _ _ _ _ _)
      | (with_reducible exact spec_SplitSecret.mono _ _ _)
      | (with_reducible exact spec_l1Cur_poly.mono _ _ _ _)
      | (with_reducible exact LeO.refl _)
      | (with_reducible exact LeO.none _)
      | (with_reducible refine LeO.ite ?_ ?_)
      | (with_reducible refine LeO.bind ?_ (fun _ => ?_))
      | exact ih0 _ _ _ _ _
      | exact ih1 _ _ _ _ _ _
      | exact ih2 _ _ _ _ _
      | exact ih3 _ _ _ _
      | exact ih4 _ _ _ _ _
      | exact spec_SplitSecret.mono _ _ _
      | exact spec_l1Cur_poly.mono _ _ _ _
      | exact LeO.none _
      | refine LeO.ite ?_ ?_
      | refine LeO.bind ?_ (fun _ => ?_)
theorem spec_l1Cur_parts.mono : ∀ a0 a1 a2 k, LeO (spec_l1Cur_parts.f k a0 a1 a2) (spec_l1Cur_parts.f (k + 1) a0 a1 a2) := by
  intro a0 a1 a2 k
  obtain ⟨ih0, ih1, ih2, ih3, ih4⟩ := spec_l1Cur_parts.mono_l k
  unfold spec_l1Cur_parts.f
  repeat' first
      | (with_reducible exact ih0 _ _ _ _ _)
      | (with_reducible exact ih1 _ _ _ _ _ _)
      | (with_reducible exact ih2 _ _ _ _ _)
      | (with_reducible exact ih3 _ _ _ _)
      | (with_reducible exact ih4 _ _ _ _ _)
      | (with_reducible exact spec_SplitSecret.mono _ _ _)
      | (with_reducible exact spec_l1Cur_poly.mono _ _ _ _)
      | (with_reducible exact LeO.refl _)
      | (with_reducible exact LeO.none _)
      | (with_reducible refine LeO.ite ?_ ?_)
      | (with_reducible refine LeO.bind ?_ (fun _ => ?_))
      | exact ih0 _ _ _ _ _
      | exact ih1 _ _ _ _ _ _
      | exact ih2 _ _ _ _ _
      | exact ih3 _ _ _ _
      | exact ih4 _ _ _ _ _
      | exact spec_SplitSecret.mono _ _ _
      | exact spec_l1Cur_poly.mono _ _ _ _
      | exact LeO.none _
      | refine LeO.ite ?_ ?_
      | refine LeO.bind ?_ (fun _ => ?_)
set_option maxHeartbeats 8000000 in
set_option maxRecDepth 100000 in
theorem spec_l1Cur_parts.calls (k : Nat) (g : Nat) (s0_0 : List Int) (s0_1 : Int) (s0_2 : Int) (r1 : List (S46)) (r2 : Int) (r3 : Int) (w0 w : World) (hI : IsS54 w0 w g s0_0 s0_1 s0_2) (hB : Below w0.heap.size w0 w) (h : spec_l1Cur_parts.f k s0_0 s0_1 s0_2 = some (r1, r2, r3)) :
    Calls Try.prog 45 #[.pointer (some ⟨g, 0, none⟩)] w fun e w' => ∃ v0_ : Value, e = .returned (v0_) ∧ Kd.Q k46 46 w' w.heap.size (fun _ => True) v0_ r1 ∧ IsS54 w0 w' g s0_0 r2 r3 ∧ Below w0.heap.size w0 w' ∧ KeepBut w w' g none := by
  have hu46 := Try.underlying46
  have HI0 := Aside0.mk hI
  have HK := Aside0.mk (KeepBut.refl w g none)
  have HL := Aside0.mk hB.size
  clear hI
  have HW0 := Aside0.mk hB.size
  have HB := Aside0.mk hB
  clear hB
  have H : ((spec_l1Cur_poly.f k s0_0 s0_1 s0_2).bind fun bt237 => ((spec_l1Cur_pick.f s0_0 bt237.2.1 bt237.2.2 7).bind fun bt242 => ((spec_SplitSecret.f k bt237.1 (wrap64 (1 + bt242.1))).bind fun bt245 => ((spec_l1Cur_pick.f s0_0 bt242.2.1 bt242.2.2 4).bind fun bt249 => (spec_l1Cur_parts.l0 k bt245.1 bt249.1 s0_0 bt249.2.1 bt249.2.2))))) = some (r1, r2, r3) := h
  clear h
  replace H := Option.bind_eq_some_iff.mp H
  obtain ⟨⟨t237, t240, t241⟩, A20, H⟩ := H
  replace H : ((spec_l1Cur_pick.f s0_0 t240 t241 7).bind fun bt242 => ((spec_SplitSecret.f k t237 (wrap64 (1 + bt242.1))).bind fun bt245 => ((spec_l1Cur_pick.f s0_0 bt242.2.1 bt242.2.2 4).bind fun bt249 => (spec_l1Cur_parts.l0 k bt245.1 bt249.1 s0_0 bt249.2.1 bt249.2.2)))) = some (r1, r2, r3) := H
  have A2 := Aside0.mk A20
  clear A20
  replace H := Option.bind_eq_some_iff.mp H
  obtain ⟨⟨t242, t243, t244⟩, A30, H⟩ := H
  replace H : ((spec_SplitSecret.f k t237 (wrap64 (1 + t242))).bind fun bt245 => ((spec_l1Cur_pick.f s0_0 t243 t244 4).bind fun bt249 => (spec_l1Cur_parts.l0 k bt245.1 bt249.1 s0_0 bt249.2.1 bt249.2.2))) = some (r1, r2, r3) := H
  have A3 := Aside0.mk A30
  clear A30
  replace H := Option.bind_eq_some_iff.mp H
  obtain ⟨⟨t245, t246⟩, A40, H⟩ := H
  replace H : ((spec_l1Cur_pick.f s0_0 t243 t244 4).bind fun bt249 => (spec_l1Cur_parts.l0 k t245 bt249.1 s0_0 bt249.2.1 bt249.2.2)) = some (r1, r2, r3) := H
  have A4 := Aside0.mk A40
  clear A40
  replace H := Option.bind_eq_some_iff.mp H
  obtain ⟨⟨t249, t250, t251⟩, A50, H⟩ := H
  replace H : (spec_l1Cur_parts.l0 k t245 t249 s0_0 t250 t251) = some (r1, r2, r3) := H
  have A5 := Aside0.mk A50
  clear A50
  have H' := Aside0.mk H
  clear H
  go_enter Try.func45, Try.ntmps45
  go_wp2_with (first | ((with_reducible refine gate_callee (f := 32) rfl ?_); refine goesL_ (some 11) rfl rfl Try.func32 (by kernel_rfl) rfl #[.pointer (some ⟨g, 0, none⟩)] rfl (by (try simp only [List.map_toArray, List.map_cons, List.map_nil]); first | done | rfl | (simp only [List.length_drop, List.length_take]; rfl)) ?_; (with_reducible refine (spec_l1Cur_poly.calls k g s0_0 s0_1 s0_2 t237 t240 t241 w0 _ ?side1 ?side2 A2.out).mono ?_); (case side1 => first | ((repeat (first | (with_reducible first | exact HI0.out | apply IsS54.alloc | apply IsS54.drewN | apply IsS54.drew | apply IsS54.set_1 | apply IsS54.set_2) | exact HI0.out)); done) | (simp only [Int.add_zero]; repeat (first | (with_reducible first | exact HI0.out | apply IsS54.alloc | apply IsS54.drewN | apply IsS54.drew | apply IsS54.set_1 | apply IsS54.set_2) | exact HI0.out))); (case side2 => repeat (first | (with_reducible first | exact HB.out | apply below_alloc | apply pw_below_drewN | apply below_drew1 | refine below_set ?_ (IsS54.ge HI0.out)) | exact HB.out)); rintro e w6 ⟨v238, rfl, ho0, hi, hb, hk⟩; refine ⟨_, rfl, ?_⟩; have n0_ := Aside0.mk (Kd.R_lower ho0 (keep_size (w := w) (g := g) (row := none) (by repeat (first | (with_reducible first | exact HK.out | apply KeepBut.set_ | apply keep_drewN | apply keep_drew | apply keep_alloc) | exact HK.out)))); have n1_ := Aside0.mk (KeepBut.trans (by repeat (first | (with_reducible first | exact HK.out | apply KeepBut.set_ | apply keep_drewN | apply keep_drew | apply keep_alloc) | exact HK.out)) hk (.inl rfl)); have n2_ := Aside0.mk (hb); have n3_ := Aside0.mk (hi); clear HK; clear HB; clear HI0; have HO239 := n0_; have HK := n1_; have HB := n2_; have HI0 := n3_; clear n0_ n1_ n2_ n3_; (try clear hb); (try clear hb2); (try clear hk); (try clear hi); (try clear ho0)) | ((with_reducible refine gate_callee (f := 33) rfl ?_); refine goesL_ (some 13) rfl rfl Try.func33 (by kernel_rfl) rfl #[.pointer (some ⟨g, 0, none⟩), .int .i64 7] rfl (by (try simp only [List.map_toArray, List.map_cons, List.map_nil]); first | done | rfl | (simp only [List.length_drop, List.length_take]; rfl)) ?_; (with_reducible refine (spec_l1Cur_pick.calls g s0_0 t240 t241 7 t242 t243 t244 w0 _ ?side1 ?side2 A3.out).mono ?_); (case side1 => first | ((repeat (first | (with_reducible first | exact HI0.out | apply IsS54.alloc | apply IsS54.drewN | apply IsS54.drew | apply IsS54.set_1 | apply IsS54.set_2) | exact HI0.out)); done) | (simp only [Int.add_zero]; repeat (first | (with_reducible first | exact HI0.out | apply IsS54.alloc | apply IsS54.drewN | apply IsS54.drew | apply IsS54.set_1 | apply IsS54.set_2) | exact HI0.out))); (case side2 => repeat (first | (with_reducible first | exact HB.out | apply below_alloc | apply pw_below_drewN | apply below_drew1 | refine below_set ?_ (IsS54.ge HI0.out)) | exact HB.out)); rintro e w7 ⟨rfl, hi, hb, hk⟩; refine ⟨_, rfl, ?_⟩; have n0_ := Aside0.mk (Kd.R_mono (Kd.R_keep (IsS54.apart (show IsS54 w0 _ g s0_0 t240 t241 from by first | ((repeat (first | (with_reducible first | exact HI0.out | apply IsS54.alloc | apply IsS54.drewN | apply IsS54.drew | apply IsS54.set_1 | apply IsS54.set_2) | exact HI0.out)); done) | (simp only [Int.add_zero]; repeat (first | (with_reducible first | exact HI0.out | apply IsS54.alloc | apply IsS54.drewN | apply IsS54.drew | apply IsS54.set_1 | apply IsS54.set_2) | exact HI0.out))) (by (with_reducible repeat (first | apply Kd.R_alloc | apply Kd.R_drewN | apply Kd.R_drew)); exact HO239.out) (by decide)) hk (fun _ h => h.2)) (fun _ h => h.1)); have n1_ := Aside0.mk (KeepBut.trans (by repeat (first | (with_reducible first | exact HK.out | apply KeepBut.set_ | apply keep_drewN | apply keep_drew | apply keep_alloc) | exact HK.out)) hk (.inl rfl)); have n2_ := Aside0.mk (hb); have n3_ := Aside0.mk (hi); clear HO239; clear HK; clear HB; clear HI0; have HO239 := n0_; have HK := n1_; have HB := n2_; have HI0 := n3_; clear n0_ n1_ n2_ n3_; (try clear hb); (try clear hb2); (try clear hk); (try clear hi); obtain ⟨Ao8, co8, eo8⟩ := Kd.R_slice HO239.out; subst eo8) | ((with_reducible refine gate_callee (f := 7) rfl ?_); refine goesL_ (some 15) rfl rfl Try.func7 (by kernel_rfl) rfl #[.slice Ao8 t237.length co8, .int .i64 (wrap64 (1 + t242))] rfl (by (try simp only [List.map_toArray, List.map_cons, List.map_nil]); first | done | rfl | (simp only [List.length_drop, List.length_take]; rfl)) ?_; (with_reducible refine (spec_SplitSecret.calls k _ _ t237 (wrap64 (1 + t242)) t245 t246 _ ?side1 ?side2 A4.out).mono ?_); (case side1 => repeat (first | exact (Kd.R_reads' HO239.out).2.2 | (with_reducible refine Kd.C_alloc ?_ _) | (with_reducible refine Kd.C_drewN ?_ _) | (with_reducible refine Kd.C_drew ?_))); (case side2 => exact (Kd.R_reads' HO239.out).2.1); rintro e w9 ⟨v247, rfl, ho0, hb⟩; refine ⟨_, rfl, ?_⟩; have n0_ := Aside0.mk (Kd.R_below (by (with_reducible repeat (first | apply Kd.R_alloc | apply Kd.R_drewN | apply Kd.R_drew)); exact HO239.out) hb); have n1_ := Aside0.mk (Kd.R_lower ho0 (keep_size (w := w) (g := g) (row := none) (by repeat (first | (with_reducible first | exact HK.out | apply KeepBut.set_ | apply keep_drewN | apply keep_drew | apply keep_alloc) | exact HK.out)))); have n2_ := Aside0.mk (IsS54.below (by first | ((repeat (first | (with_reducible first | exact HI0.out | apply IsS54.alloc | apply IsS54.drewN | apply IsS54.drew | apply IsS54.set_1 | apply IsS54.set_2) | exact HI0.out)); done) | (simp only [Int.add_zero]; repeat (first | (with_reducible first | exact HI0.out | apply IsS54.alloc | apply IsS54.drewN | apply IsS54.drew | apply IsS54.set_1 | apply IsS54.set_2) | exact HI0.out))) hb); have n3_ := Aside0.mk (KeepBut.trans (by repeat (first | (with_reducible first | exact HK.out | apply KeepBut.set_ | apply keep_drewN | apply keep_drew | apply keep_alloc) | exact HK.out)) (KeepBut.of_below hb g none) (.inl rfl)); have n4_ := Aside0.mk (below_step (by repeat (first | (with_reducible first | exact HB.out | apply below_alloc | apply pw_below_drewN | apply below_drew1 | refine below_set ?_ (IsS54.ge HI0.out)) | exact HB.out)) hb); clear HO239; clear HI0; clear HK; clear HB; have HO239 := n0_; have HO248 := n1_; have HI0 := n2_; have HK := n3_; have HB := n4_; clear n0_ n1_ n2_ n3_ n4_; (try clear hb); (try clear hb2); (try clear hk); (try clear hi); (try clear ho0)) | ((with_reducible refine gate_callee (f := 33) rfl ?_); refine goesL_ (some 19) rfl rfl Try.func33 (by kernel_rfl) rfl #[.pointer (some ⟨g, 0, none⟩), .int .i64 4] rfl (by (try simp only [List.map_toArray, List.map_cons, List.map_nil]); first | done | rfl | (simp only [List.length_drop, List.length_take]; rfl)) ?_; (with_reducible refine (spec_l1Cur_pick.calls g s0_0 t243 t244 4 t249 t250 t251 w0 _ ?side1 ?side2 A5.out).mono ?_); (case side1 => first | ((repeat (first | (with_reducible first | exact HI0.out | apply IsS54.alloc | apply IsS54.drewN | apply IsS54.drew | apply IsS54.set_1 | apply IsS54.set_2) | exact HI0.out)); done) | (simp only [Int.add_zero]; repeat (first | (with_reducible first | exact HI0.out | apply IsS54.alloc | apply IsS54.drewN | apply IsS54.drew | apply IsS54.set_1 | apply IsS54.set_2) | exact HI0.out))); (case side2 => repeat (first | (with_reducible first | exact HB.out | apply below_alloc | apply pw_below_drewN | apply below_drew1 | refine below_set ?_ (IsS54.ge HI0.out)) | exact HB.out)); rintro e w10 ⟨rfl, hi, hb, hk⟩; refine ⟨_, rfl, ?_⟩; have n0_ := Aside0.mk (Kd.R_mono (Kd.R_keep (IsS54.apart (show IsS54 w0 _ g s0_0 t243 t244 from by first | ((repeat (first | (with_reducible first | exact HI0.out | apply IsS54.alloc | apply IsS54.drewN | apply IsS54.drew | apply IsS54.set_1 | apply IsS54.set_2) | exact HI0.out)); done) | (simp only [Int.add_zero]; repeat (first | (with_reducible first | exact HI0.out | apply IsS54.alloc | apply IsS54.drewN | apply IsS54.drew | apply IsS54.set_1 | apply IsS54.set_2) | exact HI0.out))) (by (with_reducible repeat (first | apply Kd.R_alloc | apply Kd.R_drewN | apply Kd.R_drew)); exact HO239.out) (by decide)) hk (fun _ h => h.2)) (fun _ h => h.1)); have n1_ := Aside0.mk (Kd.R_mono (Kd.R_keep (IsS54.apart (show IsS54 w0 _ g s0_0 t243 t244 from by first | ((repeat (first | (with_reducible first | exact HI0.out | apply IsS54.alloc | apply IsS54.drewN | apply IsS54.drew | apply IsS54.set_1 | apply IsS54.set_2) | exact HI0.out)); done) | (simp only [Int.add_zero]; repeat (first | (with_reducible first | exact HI0.out | apply IsS54.alloc | apply IsS54.drewN | apply IsS54.drew | apply IsS54.set_1 | apply IsS54.set_2) | exact HI0.out))) (by (with_reducible repeat (first | apply Kd.R_alloc | apply Kd.R_drewN | apply Kd.R_drew)); exact HO248.out) (by decide)) hk (fun _ h => h.2)) (fun _ h => h.1)); have n2_ := Aside0.mk (KeepBut.trans (by repeat (first | (with_reducible first | exact HK.out | apply KeepBut.set_ | apply keep_drewN | apply keep_drew | apply keep_alloc) | exact HK.out)) hk (.inl rfl)); have n3_ := Aside0.mk (hb); have n4_ := Aside0.mk (hi); clear HO239; clear HO248; clear HK; clear HB; clear HI0; have HO239 := n0_; have HO248 := n1_; have HK := n2_; have HB := n3_; have HI0 := n4_; clear n0_ n1_ n2_ n3_ n4_; (try clear hb); (try clear hb2); (try clear hk); (try clear hi)))
  go_loopg [5] k (fun kq v5 w' => ∃ (x3_1 : List (S46)) (x5_1 : Int) (x1001_1 : Int) (x1002_1 : Int), v5 = .int .i64 x5_1 ∧ Aside0 (spec_l1Cur_parts.l0 kq x3_1 x5_1 s0_0 x1001_1 x1002_1 = some (r1, r2, r3)) ∧ Aside0 (kq ≤ k) ∧ Aside0 (Kd.Q k46 46 w' w.heap.size (fun _ => True) v247 x3_1) ∧ Aside0 (IsS54 w0 w' g s0_0 x1001_1 x1002_1) ∧ Aside0 (KeepBut w w' g none) ∧ Aside0 (Below w0.heap.size w0 w'))
  case atStart => exact ⟨(t245), (t249), (t250), (t251), (by first | rfl | (simp; done) | (simp [*]; done)), H', ⟨Nat.le_refl _⟩, ⟨Kd.Q_of_R (by (with_reducible repeat (first | apply Kd.R_alloc | apply Kd.R_drewN | apply Kd.R_drew)); exact HO248.out)⟩, ⟨by first | ((repeat (first | (with_reducible first | exact HI0.out | apply IsS54.alloc | apply IsS54.drewN | apply IsS54.drew | apply IsS54.set_1 | apply IsS54.set_2) | exact HI0.out)); done) | (simp only [Int.add_zero]; repeat (first | (with_reducible first | exact HI0.out | apply IsS54.alloc | apply IsS54.drewN | apply IsS54.drew | apply IsS54.set_1 | apply IsS54.set_2) | exact HI0.out))⟩, ⟨by repeat (first | (with_reducible first | exact HK.out | apply KeepBut.set_ | apply keep_drewN | apply keep_drew | apply keep_alloc) | exact HK.out)⟩, ⟨by repeat (first | (with_reducible first | exact HB.out | apply below_alloc | apply pw_below_drewN | apply below_drew1 | refine below_set ?_ (IsS54.ge HI0.out)) | exact HB.out)⟩⟩
  case round =>
    clear H'
    try clear p2
    try clear c3
    try clear c4
    try clear p6
    try clear c7
    obtain ⟨x3_1, x5_1, x1001_1, x1002_1, rfl, HA, HK1, HO_3, HI0, HK, HB⟩ := hrel
    cases gk with
    | zero => exact absurd HA.out (by simp [spec_l1Cur_parts.l0])
    | succ k1 =>
      have H := HA.out
      clear HA
      simp only [spec_l1Cur_parts.l0] at H
      have HC11 := Aside0.mk H
      clear H
      go_upto_region 3 with (fail)
      go_cut [26] (fun v26 wc => ∃ (kq : Nat) (x26_10 : Bool), v26 = .bool x26_10 ∧ Aside0 (spec_l1Cur_parts.j1 kq x3_1 x5_1 x26_10 s0_0 x1001_1 x1002_1 = some (r1, r2, r3)) ∧ Aside0 (kq ≤ k1) ∧ Aside0 (Kd.Q k46 46 wc w.heap.size (fun _ => True) v247 x3_1) ∧ Aside0 (IsS54 w0 wc g s0_0 x1001_1 x1002_1) ∧ Aside0 (KeepBut w wc g none) ∧ Aside0 (Below w0.heap.size w0 wc))
      case first =>
        have H := HC11.out
        clear HC11
        by_cases c12 : x5_1 > 0
        · rw [if_pos c12] at H
          have c12b0 : decide (0 < x5_1) = true := decide_eq_true c12
          clear c12
          (first | rw [c12b0] | (simp only [i64_w, i32_w]; rw [c12b0]) | skip)
          have H' := Aside0.mk H
          clear H
          obtain ⟨Ao13, co13, eo13, _⟩ := Kd.Q_slice HO_3.out
          subst eo13
          go_wp2
          go_meet
          case rel => exact ⟨_, (decide ((x3_1.length : Int) > 1)), (by first | rfl | (simp; done) | (simp [*]; done)), H', ⟨by have := HK1.out; first | omega | exact Nat.le_refl _⟩, ⟨by (with_reducible repeat (first | apply Kd.Q_alloc | apply Kd.Q_drewN | apply Kd.Q_drew)); exact HO_3.out⟩, ⟨by first | ((repeat (first | (with_reducible first | exact HI0.out | apply IsS54.alloc | apply IsS54.drewN | apply IsS54.drew | apply IsS54.set_1 | apply IsS54.set_2) | exact HI0.out)); done) | (simp only [Int.add_zero]; repeat (first | (with_reducible first | exact HI0.out | apply IsS54.alloc | apply IsS54.drewN | apply IsS54.drew | apply IsS54.set_1 | apply IsS54.set_2) | exact HI0.out))⟩, ⟨by repeat (first | (with_reducible first | exact HK.out | apply KeepBut.set_ | apply keep_drewN | apply keep_drew | apply keep_alloc) | exact HK.out)⟩, ⟨by repeat (first | (with_reducible first | exact HB.out | apply below_alloc | apply pw_below_drewN | apply below_drew1 | refine below_set ?_ (IsS54.ge HI0.out)) | exact HB.out)⟩⟩
        · rw [if_neg c12] at H
          have c12b0 : decide (0 < x5_1) = false := decide_eq_false c12
          clear c12
          (first | rw [c12b0] | (simp only [i64_w, i32_w]; rw [c12b0]) | skip)
          have H' := Aside0.mk H
          clear H
          go_wp2
          go_meet
          case rel => exact ⟨_, (false), (by first | rfl | (simp; done) | (simp [*]; done)), H', ⟨by have := HK1.out; first | omega | exact Nat.le_refl _⟩, ⟨by (with_reducible repeat (first | apply Kd.Q_alloc | apply Kd.Q_drewN | apply Kd.Q_drew)); exact HO_3.out⟩, ⟨by first | ((repeat (first | (with_reducible first | exact HI0.out | apply IsS54.alloc | apply IsS54.drewN | apply IsS54.drew | apply IsS54.set_1 | apply IsS54.set_2) | exact HI0.out)); done) | (simp only [Int.add_zero]; repeat (first | (with_reducible first | exact HI0.out | apply IsS54.alloc | apply IsS54.drewN | apply IsS54.drew | apply IsS54.set_1 | apply IsS54.set_2) | exact HI0.out))⟩, ⟨by repeat (first | (with_reducible first | exact HK.out | apply KeepBut.set_ | apply keep_drewN | apply keep_drew | apply keep_alloc) | exact HK.out)⟩, ⟨by repeat (first | (with_reducible first | exact HB.out | apply below_alloc | apply pw_below_drewN | apply below_drew1 | refine below_set ?_ (IsS54.ge HI0.out)) | exact HB.out)⟩⟩
      case rest =>
        clear HC11
        try clear c1
        try clear p2
        try clear c3
        try clear c4
        try clear p6
        try clear c7
        try clear c12
        try clear c12b0
        try clear p2
        try clear p6
        obtain ⟨kq, x26_10, rfl, HA, HJ10, HO_3, HI0, HK, HB⟩ := hcut
        cases kq with
        | zero => exact absurd HA.out (by simp [spec_l1Cur_parts.j1])
        | succ kj10 =>
          have H := HA.out
          clear HA
          simp only [spec_l1Cur_parts.j1] at H
          by_cases c14 : x26_10 = true
          · subst c14
            have H1 : ((spec_l1Cur_pick.f s0_0 x1001_1 x1002_1 (x3_1.length : Int)).bind fun bt252 => ((spec_l1Cur_pick.f s0_0 bt252.2.1 bt252.2.2 (x3_1.length : Int)).bind fun bt255 => (if 0 ≤ bt252.1 then (if bt252.1 < (x3_1.length : Int) then (if 0 ≤ bt255.1 then (if bt255.1 < (x3_1.length : Int) then (spec_l1Cur_parts.l0 kj10 ((x3_1.set (bt252.1 : Int).toNat (⟨(rd_T46 x3_1 bt255.1).f0, (rd_T46 x3_1 bt255.1).f1⟩ : S46)).set (bt255.1 : Int).toNat (⟨(rd_T46 x3_1 bt252.1).f0, (rd_T46 x3_1 bt252.1).f1⟩ : S46)) (wrap64 (x5_1 - 1)) s0_0 bt255.2.1 bt255.2.2) else (none)) else (none)) else (none)) else (none)))) = some (r1, r2, r3) := by rw [if_pos rfl] at H; exact H
            clear H
            have H := H1
            clear H1
            replace H := Option.bind_eq_some_iff.mp H
            obtain ⟨⟨t252, t253, t254⟩, A150, H⟩ := H
            replace H : ((spec_l1Cur_pick.f s0_0 t253 t254 (x3_1.length : Int)).bind fun bt255 => (if 0 ≤ t252 then (if t252 < (x3_1.length : Int) then (if 0 ≤ bt255.1 then (if bt255.1 < (x3_1.length : Int) then (spec_l1Cur_parts.l0 kj10 ((x3_1.set (t252 : Int).toNat (⟨(rd_T46 x3_1 bt255.1).f0, (rd_T46 x3_1 bt255.1).f1⟩ : S46)).set (bt255.1 : Int).toNat (⟨(rd_T46 x3_1 t252).f0, (rd_T46 x3_1 t252).f1⟩ : S46)) (wrap64 (x5_1 - 1)) s0_0 bt255.2.1 bt255.2.2) else (none)) else (none)) else (none)) else (none))) = some (r1, r2, r3) := H
            have A15 := Aside0.mk A150
            clear A150
            replace H := Option.bind_eq_some_iff.mp H
            obtain ⟨⟨t255, t256, t257⟩, A160, H⟩ := H
            replace H : (if 0 ≤ t252 then (if t252 < (x3_1.length : Int) then (if 0 ≤ t255 then (if t255 < (x3_1.length : Int) then (spec_l1Cur_parts.l0 kj10 ((x3_1.set (t252 : Int).toNat (⟨(rd_T46 x3_1 t255).f0, (rd_T46 x3_1 t255).f1⟩ : S46)).set (t255 : Int).toNat (⟨(rd_T46 x3_1 t252).f0, (rd_T46 x3_1 t252).f1⟩ : S46)) (wrap64 (x5_1 - 1)) s0_0 t256 t257) else (none)) else (none)) else (none)) else (none)) = some (r1, r2, r3) := H
            have A16 := Aside0.mk A160
            clear A160
            by_cases c17 : 0 ≤ t252
            · rw [if_pos c17] at H
              have c17b0 : decide (0 ≤ t252) = true := decide_eq_true c17
              clear c17
              by_cases c18 : t252 < (x3_1.length : Int)
              · rw [if_pos c18] at H
                have c18b0 : decide (t252 < (x3_1.length : Int)) = true := decide_eq_true c18
                clear c18
                by_cases c19 : 0 ≤ t255
                · rw [if_pos c19] at H
                  have c19b0 : decide (0 ≤ t255) = true := decide_eq_true c19
                  clear c19
                  by_cases c20 : t255 < (x3_1.length : Int)
                  · rw [if_pos c20] at H
                    have c20b0 : decide (t255 < (x3_1.length : Int)) = true := decide_eq_true c20
                    clear c20
                    obtain ⟨y261, hy261⟩ : ∃ y_ : List (S46), y_ = (x3_1.set (t252 : Int).toNat (⟨(rd_T46 x3_1 t255).f0, (rd_T46 x3_1 t255).f1⟩ : S46)) := ⟨_, rfl⟩
                    replace H : (spec_l1Cur_parts.l0 kj10 (y261.set (t255 : Int).toNat (⟨(rd_T46 x3_1 t252).f0, (rd_T46 x3_1 t252).f1⟩ : S46)) (wrap64 (x5_1 - 1)) s0_0 t256 t257) = some (r1, r2, r3) := by first | (rw [hy261]; with_reducible exact H) | (have H2_ := (Option.bind_some _ _).symm.trans H; rw [hy261]; with_reducible exact H2_) | (have H2_ := (Option.bind_some _ _).symm.trans H; with_reducible exact H2_) | with_reducible exact H | (rw [hy261]; exact H) | exact H
                    have Ny261 := Aside0.mk hy261
                    clear hy261
                    obtain ⟨y262, hy262⟩ : ∃ y_ : List (S46), y_ = (y261.set (t255 : Int).toNat (⟨(rd_T46 x3_1 t252).f0, (rd_T46 x3_1 t252).f1⟩ : S46)) := ⟨_, rfl⟩
                    replace H : (spec_l1Cur_parts.l0 kj10 y262 (wrap64 (x5_1 - 1)) s0_0 t256 t257) = some (r1, r2, r3) := by first | (rw [hy262]; with_reducible exact H) | (have H2_ := (Option.bind_some _ _).symm.trans H; rw [hy262]; with_reducible exact H2_) | (have H2_ := (Option.bind_some _ _).symm.trans H; with_reducible exact H2_) | with_reducible exact H | (rw [hy262]; exact H) | exact H
                    have Ny262 := Aside0.mk hy262
                    clear hy262
                    have H' := Aside0.mk H
                    clear H
                    obtain ⟨Ao23, co23, eo23, _⟩ := Kd.Q_slice HO_3.out
                    subst eo23
                    go_wp2_with (first | ((with_reducible refine gate_callee (f := 33) rfl ?_); refine goesL_ (some 32) rfl rfl Try.func33 (by kernel_rfl) rfl #[.pointer (some ⟨g, 0, none⟩), .int .i64 (x3_1.length : Int)] rfl (by (try simp only [List.map_toArray, List.map_cons, List.map_nil]); first | done | rfl | (simp only [List.length_drop, List.length_take]; rfl)) ?_; (with_reducible refine (spec_l1Cur_pick.calls g s0_0 x1001_1 x1002_1 (x3_1.length : Int) t252 t253 t254 w0 _ ?side1 ?side2 A15.out).mono ?_); (case side1 => first | ((repeat (first | (with_reducible first | exact HI0.out | apply IsS54.alloc | apply IsS54.drewN | apply IsS54.drew | apply IsS54.set_1 | apply IsS54.set_2) | exact HI0.out)); done) | (simp only [Int.add_zero]; repeat (first | (with_reducible first | exact HI0.out | apply IsS54.alloc | apply IsS54.drewN | apply IsS54.drew | apply IsS54.set_1 | apply IsS54.set_2) | exact HI0.out))); (case side2 => repeat (first | (with_reducible first | exact HB.out | apply below_alloc | apply pw_below_drewN | apply below_drew1 | refine below_set ?_ (IsS54.ge HI0.out)) | exact HB.out)); rintro e w24 ⟨rfl, hi, hb, hk⟩; refine ⟨_, rfl, ?_⟩; have n0_ := Aside0.mk (Kd.Q_mono (Kd.Q_keep (IsS54.apartQ (show IsS54 w0 _ g s0_0 x1001_1 x1002_1 from by first | ((repeat (first | (with_reducible first | exact HI0.out | apply IsS54.alloc | apply IsS54.drewN | apply IsS54.drew | apply IsS54.set_1 | apply IsS54.set_2) | exact HI0.out)); done) | (simp only [Int.add_zero]; repeat (first | (with_reducible first | exact HI0.out | apply IsS54.alloc | apply IsS54.drewN | apply IsS54.drew | apply IsS54.set_1 | apply IsS54.set_2) | exact HI0.out))) (by (with_reducible repeat (first | apply Kd.Q_alloc | apply Kd.Q_drewN | apply Kd.Q_drew)); exact HO_3.out) (by decide)) hk (fun _ h => h.2)) (fun _ h => h.1)); have n1_ := Aside0.mk (KeepBut.trans (by repeat (first | (with_reducible first | exact HK.out | apply KeepBut.set_ | apply keep_drewN | apply keep_drew | apply keep_alloc) | exact HK.out)) hk (.inl rfl)); have n2_ := Aside0.mk (hb); have n3_ := Aside0.mk (hi); clear HO_3; clear HK; clear HB; clear HI0; have HO_3 := n0_; have HK := n1_; have HB := n2_; have HI0 := n3_; clear n0_ n1_ n2_ n3_; (try clear hb); (try clear hb2); (try clear hk); (try clear hi)) | ((with_reducible refine gate_callee (f := 33) rfl ?_); refine goesL_ (some 36) rfl rfl Try.func33 (by kernel_rfl) rfl #[.pointer (some ⟨g, 0, none⟩), .int .i64 (x3_1.length : Int)] rfl (by (try simp only [List.map_toArray, List.map_cons, List.map_nil]); first | done | rfl | (simp only [List.length_drop, List.length_take]; rfl)) ?_; (with_reducible refine (spec_l1Cur_pick.calls g s0_0 t253 t254 (x3_1.length : Int) t255 t256 t257 w0 _ ?side1 ?side2 A16.out).mono ?_); (case side1 => first | ((repeat (first | (with_reducible first | exact HI0.out | apply IsS54.alloc | apply IsS54.drewN | apply IsS54.drew | apply IsS54.set_1 | apply IsS54.set_2) | exact HI0.out)); done) | (simp only [Int.add_zero]; repeat (first | (with_reducible first | exact HI0.out | apply IsS54.alloc | apply IsS54.drewN | apply IsS54.drew | apply IsS54.set_1 | apply IsS54.set_2) | exact HI0.out))); (case side2 => repeat (first | (with_reducible first | exact HB.out | apply below_alloc | apply pw_below_drewN | apply below_drew1 | refine below_set ?_ (IsS54.ge HI0.out)) | exact HB.out)); rintro e w25 ⟨rfl, hi, hb, hk⟩; refine ⟨_, rfl, ?_⟩; have n0_ := Aside0.mk (Kd.Q_mono (Kd.Q_keep (IsS54.apartQ (show IsS54 w0 _ g s0_0 t253 t254 from by first | ((repeat (first | (with_reducible first | exact HI0.out | apply IsS54.alloc | apply IsS54.drewN | apply IsS54.drew | apply IsS54.set_1 | apply IsS54.set_2) | exact HI0.out)); done) | (simp only [Int.add_zero]; repeat (first | (with_reducible first | exact HI0.out | apply IsS54.alloc | apply IsS54.drewN | apply IsS54.drew | apply IsS54.set_1 | apply IsS54.set_2) | exact HI0.out))) (by (with_reducible repeat (first | apply Kd.Q_alloc | apply Kd.Q_drewN | apply Kd.Q_drew)); exact HO_3.out) (by decide)) hk (fun _ h => h.2)) (fun _ h => h.1)); have n1_ := Aside0.mk (KeepBut.trans (by repeat (first | (with_reducible first | exact HK.out | apply KeepBut.set_ | apply keep_drewN | apply keep_drew | apply keep_alloc) | exact HK.out)) hk (.inl rfl)); have n2_ := Aside0.mk (hb); have n3_ := Aside0.mk (hi); clear HO_3; clear HK; clear HB; clear HI0; have HO_3 := n0_; have HK := n1_; have HB := n2_; have HI0 := n3_; clear n0_ n1_ n2_ n3_; (try clear hb); (try clear hb2); (try clear hk); (try clear hi); have p258 : 0 ≤ (t252 : Int) := of_decide_eq_true (by first | (with_reducible assumption) | assumption); have q258 : t252 < (x3_1.length : Int) := of_decide_eq_true (by first | (with_reducible assumption) | assumption); obtain ⟨ad258, e258, hx258_0, hx258_1⟩ := at_T46 (Kd.Q_reads' HO_3.out).2.2 t252 p258 q258; cases e258; replace p258 := eq_true p258; replace q258 := eq_true q258) | ((with_reducible refine gate_dst (N := 8) rfl ?_); (try (refine gate_guard (by rfl) ?_; dsimp only)); refine box_event ?hg (N := 8) ?hd (cs := #[.int .i64 0, .int .i64 0]) (t := 46) ?hr ?_; (case hd => rfl); (case hg => rfl); (case hr => first | (go_simp; done) | (go_simp; rfl)); intro gb259 hg w26 hbox hb; have n0_ := Aside0.mk (Kd.Q_below (Kd.Q_elderB (by (with_reducible repeat (first | apply Kd.Q_alloc | apply Kd.Q_drewN | apply Kd.Q_drew)); exact HO_3.out) gb259 (Nat.le_of_eq hg.symm)) hb); have n1_ := Aside0.mk (IsS54.below (by first | ((repeat (first | (with_reducible first | exact HI0.out | apply IsS54.alloc | apply IsS54.drewN | apply IsS54.drew | apply IsS54.set_1 | apply IsS54.set_2) | exact HI0.out)); done) | (simp only [Int.add_zero]; repeat (first | (with_reducible first | exact HI0.out | apply IsS54.alloc | apply IsS54.drewN | apply IsS54.drew | apply IsS54.set_1 | apply IsS54.set_2) | exact HI0.out))) hb); have n2_ := Aside0.mk (KeepBut.trans (by repeat (first | (with_reducible first | exact HK.out | apply KeepBut.set_ | apply keep_drewN | apply keep_drew | apply keep_alloc) | exact HK.out)) (KeepBut.of_below hb g none) (.inl rfl)); have n3_ := Aside0.mk (below_step (by repeat (first | (with_reducible first | exact HB.out | apply below_alloc | apply pw_below_drewN | apply below_drew1 | refine below_set ?_ (IsS54.ge HI0.out)) | exact HB.out)) hb); have n4_ := Aside0.mk (hbox); have n5_ := Aside0.mk ((by rw [hg]; exact (keep_size (w := w) (g := g) (row := none) (by repeat (first | (with_reducible first | exact HK.out | apply KeepBut.set_ | apply keep_drewN | apply keep_drew | apply keep_alloc) | exact HK.out))) : w.heap.size ≤ gb259)); have n6_ := Aside0.mk ((Nat.le_trans HW0.out (by rw [hg]; exact (keep_size (w := w) (g := g) (row := none) (by repeat (first | (with_reducible first | exact HK.out | apply KeepBut.set_ | apply keep_drewN | apply keep_drew | apply keep_alloc) | exact HK.out))) : w.heap.size ≤ gb259) : w0.heap.size ≤ gb259)); have n7_ := Aside0.mk ((by rw [hg]; exact Nat.ne_of_lt (IsS54.lt (show IsS54 w0 _ g s0_0 t256 t257 from by first | ((repeat (first | (with_reducible first | exact HI0.out | apply IsS54.alloc | apply IsS54.drewN | apply IsS54.drew | apply IsS54.set_1 | apply IsS54.set_2) | exact HI0.out)); done) | (simp only [Int.add_zero]; repeat (first | (with_reducible first | exact HI0.out | apply IsS54.alloc | apply IsS54.drewN | apply IsS54.drew | apply IsS54.set_1 | apply IsS54.set_2) | exact HI0.out)))) : g ≠ gb259)); have n8_ := Aside0.mk ((by rw [hg]; exact Nat.ne_of_gt (IsS54.lt (show IsS54 w0 _ g s0_0 t256 t257 from by first | ((repeat (first | (with_reducible first | exact HI0.out | apply IsS54.alloc | apply IsS54.drewN | apply IsS54.drew | apply IsS54.set_1 | apply IsS54.set_2) | exact HI0.out)); done) | (simp only [Int.add_zero]; repeat (first | (with_reducible first | exact HI0.out | apply IsS54.alloc | apply IsS54.drewN | apply IsS54.drew | apply IsS54.set_1 | apply IsS54.set_2) | exact HI0.out)))) : gb259 ≠ g)); clear HO_3; clear HI0; clear HK; clear HB; have HO_3 := n0_; have HI0 := n1_; have HK := n2_; have HB := n3_; have BK259 := n4_; have GW259 := n5_; have GE259 := n6_; have NB0_259 := n7_; have NB259_0 := n8_; clear n0_ n1_ n2_ n3_ n4_ n5_ n6_ n7_ n8_; clear hb hbox hg; have hnb27 := NB259_0.out; have hnc27 := NB0_259.out; have hcz28_0 : w26.cell? ⟨gb259, 0, none⟩ = some (.int .i64 0) := (blk_cell BK259.out 0).trans rfl; have hcz28_1 : w26.cell? ⟨gb259, 1, none⟩ = some (.int .i64 0) := (blk_cell BK259.out 1).trans rfl; have hfz28_0 := blk_frozen BK259.out 0; have hfz28_1 := blk_frozen BK259.out 1) | ((with_reducible refine gate_store (t := 46) (p := 8) rfl ?_); refine store_event (t := 46) (p := 8) (v := ?vo_w29) (w1 := ((w26.setCell ⟨gb259, 0, none⟩ (.int .i64 ((rd_T46 x3_1 t252).f0))).setCell ⟨gb259, 1, none⟩ (.int .i64 ((rd_T46 x3_1 t252).f1)))) ?hg ?ho ?hn ?hr ?_; (case ho => rfl); (case hg => rfl); (case hn => rfl); (case hr => first | (go_simp; done) | (go_simp; rfl)); intro w29 hw; have n0_ : Aside0 (Kd.Q k46 46 w29 w.heap.size (fun k_ => k_ ≠ gb259) (.slice (some ad258) x3_1.length co23) x3_1) := ⟨(by rw [hw]; exact (by (with_reducible repeat (first | apply Kd.Q_alloc | apply Kd.Q_drewN | apply Kd.Q_drew)); exact Kd.Q_mono (Kd.Q_far (p := ⟨gb259, 1, none⟩) (Kd.Q_far (p := ⟨gb259, 0, none⟩) (Kd.Q_mono HO_3.out (fun k_ hk => (⟨hk, hk.2⟩ : _ ∧ k_ ≠ gb259))) (fun _ hk => hk.2) (.int .i64 ((rd_T46 x3_1 t252).f0))) (fun _ hk => hk.2) (.int .i64 ((rd_T46 x3_1 t252).f1))) (fun _ hk => hk.1.2)))⟩; have n1_ : Aside0 (w29.heap[gb259]? = some (.cells #[.int .i64 ((rd_T46 x3_1 t252).f0), .int .i64 ((rd_T46 x3_1 t252).f1)] 46 (0, 0))) := ⟨(by rw [hw]; exact (by (with_reducible repeat (first | refine blk_drewN ?_ _ | refine blk_drew ?_ | refine blk_alloc ?_ _)); refine blk_put (cs := #[.int .i64 ((rd_T46 x3_1 t252).f0), .int .i64 0]) ?_ 1 _ rfl; (with_reducible repeat (first | refine blk_drewN ?_ _ | refine blk_drew ?_ | refine blk_alloc ?_ _)); refine blk_put (cs := #[.int .i64 0, .int .i64 0]) ?_ 0 _ rfl; (with_reducible repeat (first | refine blk_drewN ?_ _ | refine blk_drew ?_ | refine blk_alloc ?_ _)); exact BK259.out))⟩; have n2_ : Aside0 (IsS54 w0 w29 g s0_0 t256 t257) := ⟨(by rw [hw]; exact (by first | ((repeat (first | (with_reducible first | exact HI0.out | apply IsS54.alloc | apply IsS54.drewN | apply IsS54.drew | apply IsS54.set_1 | apply IsS54.set_2 | refine IsS54.far ?_ NB0_259.out _ | refine IsS54.far (p := ⟨gb259, _, _⟩) ?_ NB0_259.out _) | exact HI0.out)); done) | (simp only [Int.add_zero]; repeat (first | (with_reducible first | exact HI0.out | apply IsS54.alloc | apply IsS54.drewN | apply IsS54.drew | apply IsS54.set_1 | apply IsS54.set_2 | refine IsS54.far ?_ NB0_259.out _ | refine IsS54.far (p := ⟨gb259, _, _⟩) ?_ NB0_259.out _) | exact HI0.out))))⟩; have n3_ : Aside0 (KeepBut w w29 g none) := ⟨(by rw [hw]; exact (by repeat (first | (with_reducible first | exact HK.out | apply KeepBut.set_ | apply keep_drewN | apply keep_drew | apply keep_alloc | refine keep_far ?_ GW259.out _) | exact HK.out)))⟩; have n4_ : Aside0 (Below w0.heap.size w0 w29) := ⟨(by rw [hw]; exact (by repeat (first | (with_reducible first | exact HB.out | apply below_alloc | apply pw_below_drewN | apply below_drew1 | refine below_set ?_ (IsS54.ge HI0.out) | refine below_set ?_ GE259.out) | exact HB.out)))⟩; clear hw; clear HO_3; clear BK259; clear HI0; clear HK; clear HB; have HO_3 := n0_; have BK259 := n1_; have HI0 := n2_; have HK := n3_; have HB := n4_; clear n0_ n1_ n2_ n3_ n4_; have p260 : 0 ≤ (t255 : Int) := of_decide_eq_true (by first | (with_reducible assumption) | assumption); have q260 : t255 < (x3_1.length : Int) := of_decide_eq_true (by first | (with_reducible assumption) | assumption); obtain ⟨ad260, e260, hx260_0, hx260_1⟩ := at_T46 (Kd.Q_reads' HO_3.out).2.2 t255 p260 q260; obtain rfl : ad258 = ad260 := (by injection e260); replace p260 := eq_true p260; replace q260 := eq_true q260; have p21 : 0 ≤ (t252 : Int) := of_decide_eq_true (by first | (with_reducible assumption) | assumption); have q21 : (t252 : Int) < ((x3_1.length : Int) : Int) := of_decide_eq_true (by first | (with_reducible assumption) | assumption); obtain ⟨go21, oo21, co21, eo21, gb21, gl21, cl21, HG21⟩ := Kd.Q_form HO_3.out (by omega); (first | cases eo21 | (injection eo21 with ea_ en_ ec_; (first | subst ea_ | (injection ea_ with ea_; subst ea_)); subst ec_; clear en_)); have GB21 := Aside0.mk gb21; have GG21 := Aside0.mk HG21; clear gb21 gl21 HG21; (first | simp only [add_at] at hx258_0 | skip); (first | simp only [add_at] at hx258_1 | skip); (first | simp only [add_at] at hx260_0 | skip); (first | simp only [add_at] at hx260_1 | skip); obtain ⟨ce21, hcl21, hM21, hcc21, hfr21⟩ := Kd.Q_elem HO_3.out z46 (t252 : Int) p21 q21; obtain rfl := k46_openM hM21; have hx21_0 : w29.cell? ⟨go21, oo21 + (t252 : Int).toNat * 2, none⟩ = some (.int .i64 ((rd_T46 x3_1 t252).f0)) := hcc21 0 _ rfl; have hx21_1 : w29.cell? ⟨go21, oo21 + (t252 : Int).toNat * 2 + 1, none⟩ = some (.int .i64 ((rd_T46 x3_1 t252).f1)) := hcc21 1 _ rfl; have hf21_0 : w29.frozen? ⟨go21, oo21 + (t252 : Int).toNat * 2, none⟩ = false := hfr21 0; have hf21_1 : w29.frozen? ⟨go21, oo21 + (t252 : Int).toNat * 2 + 1, none⟩ = false := hfr21 1; (clear hcl21 hcc21 hfr21; (try clear hM21)); replace p21 := eq_true p21; replace q21 := eq_true q21; have HX30 := Aside0.mk (show Kd.Q k46 46 w29 w.heap.size (fun k_ => k_ ≠ gb259) (.slice (some ⟨go21, oo21, none⟩) x3_1.length co23) x3_1 from (by (with_reducible repeat (first | apply Kd.Q_alloc | apply Kd.Q_drewN | apply Kd.Q_drew)); exact HO_3.out)); obtain ⟨ce30, hcl30, hM30, hcc30, hfr30⟩ := Kd.Q_elem HX30.out z46 (t252 : Int) (of_decide_eq_true (by first | (with_reducible assumption) | assumption)) (by have h_ : (t252 : Int) < ((x3_1.length : Int) : Int) := of_decide_eq_true (by first | (with_reducible assumption) | assumption); first | exact h_ | (have e_ := (Kd.Q_reads' HO_3.out).1; omega) | simpa using h_); obtain rfl := k46_openM hM30; have HP30 := Kd.Q_seg HX30.out (t252 : Int) (of_decide_eq_true (by first | (with_reducible assumption) | assumption)) (by have h_ : (t252 : Int) < ((x3_1.length : Int) : Int) := of_decide_eq_true (by first | (with_reducible assumption) | assumption); first | exact h_ | (have e_ := (Kd.Q_reads' HO_3.out).1; omega) | simpa using h_) (seg := [.int .i64 ((rd_T46 x3_1 t255).f0), .int .i64 ((rd_T46 x3_1 t255).f1)]) (j := 0) hcl30 hcc30 (show 2 ≤ 2 from by decide) (x' := (⟨(rd_T46 x3_1 t255).f0, (rd_T46 x3_1 t255).f1⟩ : S46)) (k46_mkM _ _ _ (⟨(rd_T46 x3_1 t255).f0, (rd_T46 x3_1 t255).f1⟩ : S46) ) (fun _ hk => hk); have hx30_0 := hcc30 0 _ rfl; (try simp only [show (k46).sz = 2 from rfl, Nat.mul_one, Nat.add_zero] at hx30_0); have hf30_0 := hfr30 0; (try simp only [show (k46).sz = 2 from rfl, Nat.mul_one, Nat.add_zero] at hf30_0); have hx30_1 := hcc30 1 _ rfl; (try simp only [show (k46).sz = 2 from rfl, Nat.mul_one, Nat.add_zero] at hx30_1); have hf30_1 := hfr30 1; (try simp only [show (k46).sz = 2 from rfl, Nat.mul_one, Nat.add_zero] at hf30_1); (clear hcl30 hcc30 hfr30; (try clear hM30))) | ((with_reducible refine gate_store (t := 46) (p := 47) rfl ?_); refine store_event (t := 46) (p := 47) (v := ?vo_w31) (w1 := ((w29.setCell ⟨go21, oo21 + (t252 : Int).toNat * 2, none⟩ (.int .i64 ((rd_T46 x3_1 t255).f0))).setCell ⟨go21, oo21 + (t252 : Int).toNat * 2 + 1, none⟩ (.int .i64 ((rd_T46 x3_1 t255).f1)))) ?hg ?ho ?hn ?hr ?_; (case ho => rfl); (case hg => rfl); (case hn => rfl); (case hr => first | (go_simp; done) | (go_simp; rfl)); intro w31 hw; have hg : w29.grownBy w31 (some go21) := (by rw [hw]; exact HP30.2); have hp_ : Kd.Q k46 46 w31 w.heap.size (fun k_ => k_ ≠ gb259) (.slice (some ⟨go21, oo21, none⟩) x3_1.length co23) y261 := (by rw [hw, Ny261.out]; exact HP30.1); clear HP30; have n0_ := Aside0.mk (hp_); have n1_ := Aside0.mk ((show IsS54 w0 _ g s0_0 t256 t257 from IsS54.grown (by first | ((repeat (first | (with_reducible first | exact HI0.out | apply IsS54.alloc | apply IsS54.drewN | apply IsS54.drew | apply IsS54.set_1 | apply IsS54.set_2 | refine IsS54.far ?_ NB0_259.out _ | refine IsS54.far (p := ⟨gb259, _, _⟩) ?_ NB0_259.out _) | exact HI0.out)); done) | (simp only [Int.add_zero]; repeat (first | (with_reducible first | exact HI0.out | apply IsS54.alloc | apply IsS54.drewN | apply IsS54.drew | apply IsS54.set_1 | apply IsS54.set_2 | refine IsS54.far ?_ NB0_259.out _ | refine IsS54.far (p := ⟨gb259, _, _⟩) ?_ NB0_259.out _) | exact HI0.out))) hg (IsS54.own_neQ HI0.out HO_3.out (by decide)))); have n2_ := Aside0.mk (blk_grown (g := gb259) (o := .cells #[.int .i64 ((rd_T46 x3_1 t252).f0), .int .i64 ((rd_T46 x3_1 t252).f1)] 46 (0, 0)) (by (with_reducible repeat (first | refine blk_drewN ?_ _ | refine blk_drew ?_ | refine blk_alloc ?_ _)); exact BK259.out) hg (Kd.Q_away HO_3.out (fun _ hk => hk))); have n3_ := Aside0.mk ((by rw [hw]; exact below_set (below_set (HB.out) (Nat.le_trans HL.out GB21.out)) (Nat.le_trans HL.out GB21.out) : Below w0.heap.size w0 w31)); have n4_ := Aside0.mk (KeepBut.trans (by repeat (first | (with_reducible first | exact HK.out | apply KeepBut.set_ | apply keep_drewN | apply keep_drew | apply keep_alloc | refine keep_far ?_ GW259.out _) | exact HK.out)) (KeepBut.of_grown hg g) (Kd.Q_base2 HO_3.out)); clear HO_3; clear HI0; clear BK259; clear HB; clear HK; have HO_3 := n0_; have HI0 := n1_; have BK259 := n2_; have HB := n3_; have HK := n4_; clear n0_ n1_ n2_ n3_ n4_; clear hg hw hp_; have hcz32_0 : w31.cell? ⟨gb259, 0, none⟩ = some (.int .i64 ((rd_T46 x3_1 t252).f0)) := (blk_cell BK259.out 0).trans rfl; have hcz32_1 : w31.cell? ⟨gb259, 1, none⟩ = some (.int .i64 ((rd_T46 x3_1 t252).f1)) := (blk_cell BK259.out 1).trans rfl; have hfz32_0 := blk_frozen BK259.out 0; have hfz32_1 := blk_frozen BK259.out 1; have p22 : 0 ≤ (t255 : Int) := of_decide_eq_true (by first | (with_reducible assumption) | assumption); have q22 : (t255 : Int) < ((x3_1.length : Int) : Int) := of_decide_eq_true (by first | (with_reducible assumption) | assumption); obtain ⟨ce22, hcl22, hM22, hcc22, hfr22⟩ := Kd.Q_elem HO_3.out z46 (t255 : Int) p22 q22; obtain rfl := k46_openM hM22; have hx22_0 : w31.cell? ⟨go21, oo21 + (t255 : Int).toNat * 2, none⟩ = some (.int .i64 ((rd_T46 y261 t255).f0)) := hcc22 0 _ rfl; have hx22_1 : w31.cell? ⟨go21, oo21 + (t255 : Int).toNat * 2 + 1, none⟩ = some (.int .i64 ((rd_T46 y261 t255).f1)) := hcc22 1 _ rfl; have hf22_0 : w31.frozen? ⟨go21, oo21 + (t255 : Int).toNat * 2, none⟩ = false := hfr22 0; have hf22_1 : w31.frozen? ⟨go21, oo21 + (t255 : Int).toNat * 2 + 1, none⟩ = false := hfr22 1; (clear hcl22 hcc22 hfr22; (try clear hM22)); replace p22 := eq_true p22; replace q22 := eq_true q22; have HX33 := Aside0.mk (show Kd.Q k46 46 w31 w.heap.size (fun k_ => k_ ≠ gb259) (.slice (some ⟨go21, oo21, none⟩) x3_1.length co23) y261 from (by (with_reducible repeat (first | apply Kd.Q_alloc | apply Kd.Q_drewN | apply Kd.Q_drew)); exact HO_3.out)); obtain ⟨ce33, hcl33, hM33, hcc33, hfr33⟩ := Kd.Q_elem HX33.out z46 (t255 : Int) (of_decide_eq_true (by first | (with_reducible assumption) | assumption)) (by have h_ : (t255 : Int) < ((x3_1.length : Int) : Int) := of_decide_eq_true (by first | (with_reducible assumption) | assumption); first | exact h_ | (have e_ := (Kd.Q_reads' HO_3.out).1; omega) | simpa using h_); obtain rfl := k46_openM hM33; have HP33 := Kd.Q_seg HX33.out (t255 : Int) (of_decide_eq_true (by first | (with_reducible assumption) | assumption)) (by have h_ : (t255 : Int) < ((x3_1.length : Int) : Int) := of_decide_eq_true (by first | (with_reducible assumption) | assumption); first | exact h_ | (have e_ := (Kd.Q_reads' HO_3.out).1; omega) | simpa using h_) (seg := [.int .i64 ((rd_T46 x3_1 t252).f0), .int .i64 ((rd_T46 x3_1 t252).f1)]) (j := 0) hcl33 hcc33 (show 2 ≤ 2 from by decide) (x' := (⟨(rd_T46 x3_1 t252).f0, (rd_T46 x3_1 t252).f1⟩ : S46)) (k46_mkM _ _ _ (⟨(rd_T46 x3_1 t252).f0, (rd_T46 x3_1 t252).f1⟩ : S46) ) (fun _ hk => hk); have hx33_0 := hcc33 0 _ rfl; (try simp only [show (k46).sz = 2 from rfl, Nat.mul_one, Nat.add_zero] at hx33_0); have hf33_0 := hfr33 0; (try simp only [show (k46).sz = 2 from rfl, Nat.mul_one, Nat.add_zero] at hf33_0); have hx33_1 := hcc33 1 _ rfl; (try simp only [show (k46).sz = 2 from rfl, Nat.mul_one, Nat.add_zero] at hx33_1); have hf33_1 := hfr33 1; (try simp only [show (k46).sz = 2 from rfl, Nat.mul_one, Nat.add_zero] at hf33_1); (clear hcl33 hcc33 hfr33; (try clear hM33))) | ((with_reducible refine gate_store (t := 46) (p := 51) rfl ?_); refine store_event (t := 46) (p := 51) (v := ?vo_w34) (w1 := ((w31.setCell ⟨go21, oo21 + (t255 : Int).toNat * 2, none⟩ (.int .i64 ((rd_T46 x3_1 t252).f0))).setCell ⟨go21, oo21 + (t255 : Int).toNat * 2 + 1, none⟩ (.int .i64 ((rd_T46 x3_1 t252).f1)))) ?hg ?ho ?hn ?hr ?_; (case ho => rfl); (case hg => rfl); (case hn => rfl); (case hr => first | (go_simp; done) | (go_simp; rfl)); intro w34 hw; have hg : w31.grownBy w34 (some go21) := (by rw [hw]; exact HP33.2); have hp_ : Kd.Q k46 46 w34 w.heap.size (fun k_ => k_ ≠ gb259) (.slice (some ⟨go21, oo21, none⟩) x3_1.length co23) y262 := (by rw [hw, Ny262.out]; exact HP33.1); clear HP33; have n0_ := Aside0.mk (hp_); have n1_ := Aside0.mk ((show IsS54 w0 _ g s0_0 t256 t257 from IsS54.grown (by first | ((repeat (first | (with_reducible first | exact HI0.out | apply IsS54.alloc | apply IsS54.drewN | apply IsS54.drew | apply IsS54.set_1 | apply IsS54.set_2 | refine IsS54.far ?_ NB0_259.out _ | refine IsS54.far (p := ⟨gb259, _, _⟩) ?_ NB0_259.out _) | exact HI0.out)); done) | (simp only [Int.add_zero]; repeat (first | (with_reducible first | exact HI0.out | apply IsS54.alloc | apply IsS54.drewN | apply IsS54.drew | apply IsS54.set_1 | apply IsS54.set_2 | refine IsS54.far ?_ NB0_259.out _ | refine IsS54.far (p := ⟨gb259, _, _⟩) ?_ NB0_259.out _) | exact HI0.out))) hg (IsS54.own_neQ HI0.out HO_3.out (by decide)))); have n2_ := Aside0.mk (blk_grown (g := gb259) (o := .cells #[.int .i64 ((rd_T46 x3_1 t252).f0), .int .i64 ((rd_T46 x3_1 t252).f1)] 46 (0, 0)) (by (with_reducible repeat (first | refine blk_drewN ?_ _ | refine blk_drew ?_ | refine blk_alloc ?_ _)); exact BK259.out) hg (Kd.Q_away HO_3.out (fun _ hk => hk))); have n3_ := Aside0.mk ((by rw [hw]; exact below_set (below_set (HB.out) (Nat.le_trans HL.out GB21.out)) (Nat.le_trans HL.out GB21.out) : Below w0.heap.size w0 w34)); have n4_ := Aside0.mk (KeepBut.trans (by repeat (first | (with_reducible first | exact HK.out | apply KeepBut.set_ | apply keep_drewN | apply keep_drew | apply keep_alloc | refine keep_far ?_ GW259.out _) | exact HK.out)) (KeepBut.of_grown hg g) (Kd.Q_base2 HO_3.out)); clear HO_3; clear HI0; clear BK259; clear HB; clear HK; have HO_3 := n0_; have HI0 := n1_; have BK259 := n2_; have HB := n3_; have HK := n4_; clear n0_ n1_ n2_ n3_ n4_; clear hg hw hp_))
                    go_roundg kj10
                    case measure => have := HK1.out; have := HJ10.out; omega
                    case rel => exact ⟨(y262), (wrap64 (x5_1 - 1)), (t256), (t257), (by first | rfl | (simp; done) | (simp [*]; done)), H', ⟨by have := HK1.out; have := HJ10.out; omega⟩, ⟨by (with_reducible repeat (first | apply Kd.Q_alloc | apply Kd.Q_drewN | apply Kd.Q_drew)); exact Kd.Q_mono HO_3.out (fun _ hk => trivial)⟩, ⟨by first | ((repeat (first | (with_reducible first | exact HI0.out | apply IsS54.alloc | apply IsS54.drewN | apply IsS54.drew | apply IsS54.set_1 | apply IsS54.set_2 | refine IsS54.far ?_ NB0_259.out _ | refine IsS54.far (p := ⟨gb259, _, _⟩) ?_ NB0_259.out _) | exact HI0.out)); done) | (simp only [Int.add_zero]; repeat (first | (with_reducible first | exact HI0.out | apply IsS54.alloc | apply IsS54.drewN | apply IsS54.drew | apply IsS54.set_1 | apply IsS54.set_2 | refine IsS54.far ?_ NB0_259.out _ | refine IsS54.far (p := ⟨gb259, _, _⟩) ?_ NB0_259.out _) | exact HI0.out))⟩, ⟨by repeat (first | (with_reducible first | exact HK.out | apply KeepBut.set_ | apply keep_drewN | apply keep_drew | apply keep_alloc | refine keep_far ?_ GW259.out _) | exact HK.out)⟩, ⟨by repeat (first | (with_reducible first | exact HB.out | apply below_alloc | apply pw_below_drewN | apply below_drew1 | refine below_set ?_ (IsS54.ge HI0.out) | refine below_set ?_ GE259.out) | exact HB.out)⟩⟩
                  · rw [if_neg c20] at H
                    exact absurd H (by simp)
                · rw [if_neg c19] at H
                  exact absurd H (by simp)
              · rw [if_neg c18] at H
                exact absurd H (by simp)
            · rw [if_neg c17] at H
              exact absurd H (by simp)
          · replace c14 := Bool.eq_false_iff.mpr c14
            subst c14
            have H1 : (if (x3_1.length : Int) > 1 then ((spec_l1Cur_one.f s0_0 x1001_1 x1002_1 3).bind fun bt263 => (spec_l1Cur_parts.j2 kj10 x3_1 bt263.1 s0_0 bt263.2.1 bt263.2.2)) else (spec_l1Cur_parts.j2 kj10 x3_1 false s0_0 x1001_1 x1002_1)) = some (r1, r2, r3) := by rw [if_neg (show ¬ (false = true) by decide)] at H; exact H
            clear H
            have H := H1
            clear H1
            have HC35 := Aside0.mk H
            clear H
            go_upto_region 10 with (fail)
            go_cut [58] (fun v58 wc => ∃ (kq : Nat) (x58_34 : Bool) (x1001_34 : Int) (x1002_34 : Int), v58 = .bool x58_34 ∧ Aside0 (spec_l1Cur_parts.j2 kq x3_1 x58_34 s0_0 x1001_34 x1002_34 = some (r1, r2, r3)) ∧ Aside0 (kq ≤ kj10) ∧ Aside0 (Kd.Q k46 46 wc w.heap.size (fun _ => True) v247 x3_1) ∧ Aside0 (IsS54 w0 wc g s0_0 x1001_34 x1002_34) ∧ Aside0 (KeepBut w wc g none) ∧ Aside0 (Below w0.heap.size w0 wc))
            case first =>
              have H := HC35.out
              clear HC35
              by_cases c36 : (x3_1.length : Int) > 1
              · rw [if_pos c36] at H
                have c36b0 : decide (1 < (x3_1.length : Int)) = true := decide_eq_true c36
                have c36b1 : decide (1 < x3_1.length) = true := decide_eq_true (by omega)
                clear c36
                (first | rw [c36b0] | (simp only [i64_w, i32_w]; rw [c36b0]) | skip)
                replace H := Option.bind_eq_some_iff.mp H
                obtain ⟨⟨t263, t264, t265⟩, A370, H⟩ := H
                replace H : (spec_l1Cur_parts.j2 kj10 x3_1 t263 s0_0 t264 t265) = some (r1, r2, r3) := H
                have A37 := Aside0.mk A370
                clear A370
                have H' := Aside0.mk H
                clear H
                obtain ⟨Ao38, co38, eo38, _⟩ := Kd.Q_slice HO_3.out
                subst eo38
                go_wp2_with (first | (go_at_call 46; (with_reducible refine (spec_l1Cur_one.calls g s0_0 x1001_1 x1002_1 3 t263 t264 t265 w0 _ ?side1 ?side2 A37.out).mono ?_); (case side1 => first | ((repeat (first | (with_reducible first | exact HI0.out | apply IsS54.alloc | apply IsS54.drewN | apply IsS54.drew | apply IsS54.set_1 | apply IsS54.set_2) | exact HI0.out)); done) | (simp only [Int.add_zero]; repeat (first | (with_reducible first | exact HI0.out | apply IsS54.alloc | apply IsS54.drewN | apply IsS54.drew | apply IsS54.set_1 | apply IsS54.set_2) | exact HI0.out))); (case side2 => repeat (first | (with_reducible first | exact HB.out | apply below_alloc | apply pw_below_drewN | apply below_drew1 | refine below_set ?_ (IsS54.ge HI0.out)) | exact HB.out)); rintro e w39 ⟨rfl, hi, hb, hk⟩; have n0_ := Aside0.mk (Kd.Q_mono (Kd.Q_keep (IsS54.apartQ (show IsS54 w0 _ g s0_0 x1001_1 x1002_1 from by first | ((repeat (first | (with_reducible first | exact HI0.out | apply IsS54.alloc | apply IsS54.drewN | apply IsS54.drew | apply IsS54.set_1 | apply IsS54.set_2) | exact HI0.out)); done) | (simp only [Int.add_zero]; repeat (first | (with_reducible first | exact HI0.out | apply IsS54.alloc | apply IsS54.drewN | apply IsS54.drew | apply IsS54.set_1 | apply IsS54.set_2) | exact HI0.out))) (by (with_reducible repeat (first | apply Kd.Q_alloc | apply Kd.Q_drewN | apply Kd.Q_drew)); exact HO_3.out) (by decide)) hk (fun _ h => h.2)) (fun _ h => h.1)); have n1_ := Aside0.mk (KeepBut.trans (by repeat (first | (with_reducible first | exact HK.out | apply KeepBut.set_ | apply keep_drewN | apply keep_drew | apply keep_alloc) | exact HK.out)) hk (.inl rfl)); have n2_ := Aside0.mk (hb); have n3_ := Aside0.mk (hi); clear HO_3; clear HK; clear HB; clear HI0; have HO_3 := n0_; have HK := n1_; have HB := n2_; have HI0 := n3_; clear n0_ n1_ n2_ n3_; (try clear hb); (try clear hb2); (try clear hk); (try clear hi)))
                go_meet
                case rel => exact ⟨_, (t263), (t264), (t265), (by first | rfl | (simp; done) | (simp [*]; done)), H', ⟨by have := HK1.out; have := HJ10.out; first | omega | exact Nat.le_refl _⟩, ⟨by (with_reducible repeat (first | apply Kd.Q_alloc | apply Kd.Q_drewN | apply Kd.Q_drew)); exact HO_3.out⟩, ⟨by first | ((repeat (first | (with_reducible first | exact HI0.out | apply IsS54.alloc | apply IsS54.drewN | apply IsS54.drew | apply IsS54.set_1 | apply IsS54.set_2) | exact HI0.out)); done) | (simp only [Int.add_zero]; repeat (first | (with_reducible first | exact HI0.out | apply IsS54.alloc | apply IsS54.drewN | apply IsS54.drew | apply IsS54.set_1 | apply IsS54.set_2) | exact HI0.out))⟩, ⟨by repeat (first | (with_reducible first | exact HK.out | apply KeepBut.set_ | apply keep_drewN | apply keep_drew | apply keep_alloc) | exact HK.out)⟩, ⟨by repeat (first | (with_reducible first | exact HB.out | apply below_alloc | apply pw_below_drewN | apply below_drew1 | refine below_set ?_ (IsS54.ge HI0.out)) | exact HB.out)⟩⟩
              · rw [if_neg c36] at H
                have c36b0 : decide (1 < (x3_1.length : Int)) = false := decide_eq_false c36
                have c36b1 : decide (1 < x3_1.length) = false := decide_eq_false (by omega)
                clear c36
                (first | rw [c36b0] | (simp only [i64_w, i32_w]; rw [c36b0]) | skip)
                have H' := Aside0.mk H
                clear H
                obtain ⟨Ao40, co40, eo40, _⟩ := Kd.Q_slice HO_3.out
                subst eo40
                go_wp2
                go_meet
                case rel => exact ⟨_, (false), (x1001_1), (x1002_1), (by first | rfl | (simp; done) | (simp [*]; done)), H', ⟨by have := HK1.out; have := HJ10.out; first | omega | exact Nat.le_refl _⟩, ⟨by (with_reducible repeat (first | apply Kd.Q_alloc | apply Kd.Q_drewN | apply Kd.Q_drew)); exact HO_3.out⟩, ⟨by first | ((repeat (first | (with_reducible first | exact HI0.out | apply IsS54.alloc | apply IsS54.drewN | apply IsS54.drew | apply IsS54.set_1 | apply IsS54.set_2) | exact HI0.out)); done) | (simp only [Int.add_zero]; repeat (first | (with_reducible first | exact HI0.out | apply IsS54.alloc | apply IsS54.drewN | apply IsS54.drew | apply IsS54.set_1 | apply IsS54.set_2) | exact HI0.out))⟩, ⟨by repeat (first | (with_reducible first | exact HK.out | apply KeepBut.set_ | apply keep_drewN | apply keep_drew | apply keep_alloc) | exact HK.out)⟩, ⟨by repeat (first | (with_reducible first | exact HB.out | apply below_alloc | apply pw_below_drewN | apply below_drew1 | refine below_set ?_ (IsS54.ge HI0.out)) | exact HB.out)⟩⟩
            case rest =>
              clear HC35
              try clear c1
              try clear c2
              try clear p2
              try clear q2
              try clear hx2
              try clear hf2
              try clear c3
              try clear hx3
              try clear hf3
              try clear c4
              try clear p6
              try clear c7
              try clear c12
              try clear c12b0
              try clear c14
              try clear c17
              try clear c17b0
              try clear c18
              try clear c18b0
              try clear c19
              try clear c19b0
              try clear c20
              try clear c20b0
              try clear c21
              try clear p21
              try clear q21
              try clear hx21
              try clear hf21
              try clear c22
              try clear p22
              try clear q22
              try clear hx22
              try clear hf22
              try clear p25
              try clear q25
              try clear hx25
              try clear p26
              try clear q26
              try clear hx26
              try clear c27
              try clear c30
              try clear hx30
              try clear hf30
              try clear c32
              try clear c33
              try clear hx33
              try clear hf33
              try clear c36
              try clear c36b0
              try clear c36b1
              try clear hcz28_0
              try clear hcz28_1
              try clear hcz32_0
              try clear hcz32_1
              try clear hfz28_0
              try clear hfz28_1
              try clear hfz32_0
              try clear hfz32_1
              try clear hx21_0
              try clear hx21_1
              try clear hx22_0
              try clear hx22_1
              try clear hx258_0
              try clear hx258_1
              try clear hx260_0
              try clear hx260_1
              try clear hx30_0
              try clear hx30_1
              try clear hx33_0
              try clear hx33_1
              try clear p2
              try clear p21
              try clear p22
              try clear p258
              try clear p260
              try clear p6
              try clear q21
              try clear q22
              try clear q258
              try clear q260
              obtain ⟨kq, x58_34, x1001_34, x1002_34, rfl, HA, HJ34, HO_3, HI0, HK, HB⟩ := hcut
              cases kq with
              | zero => exact absurd HA.out (by simp [spec_l1Cur_parts.j2])
              | succ kj34 =>
                have H := HA.out
                clear HA
                simp only [spec_l1Cur_parts.j2] at H
                have HC41 := Aside0.mk H
                clear H
                go_upto_if 58 with (fail)
                go_cut [3] (fun v3 wc => ∃ (kq : Nat) (x3_40 : List (S46)), Aside0 (spec_l1Cur_parts.j3 kq x3_40 s0_0 x1001_34 x1002_34 = some (r1, r2, r3)) ∧ Aside0 (kq ≤ kj34) ∧ Aside0 (Kd.Q k46 46 wc w.heap.size (fun _ => True) v3 x3_40) ∧ Aside0 (IsS54 w0 wc g s0_0 x1001_34 x1002_34) ∧ Aside0 (KeepBut w wc g none) ∧ Aside0 (Below w0.heap.size w0 wc))
                case first =>
                  have H := HC41.out
                  clear HC41
                  by_cases c42 : x58_34 = true
                  · subst c42
                    have H1 : (if 1 ≤ (x3_1.length : Int) then (spec_l1Cur_parts.j3 kj34 (x3_1.drop (1 : Int).toNat) s0_0 x1001_34 x1002_34) else (none)) = some (r1, r2, r3) := by rw [if_pos rfl] at H; exact H
                    clear H
                    have H := H1
                    clear H1
                    by_cases c43 : 1 ≤ (x3_1.length : Int)
                    · rw [if_pos c43] at H
                      have c43b0 := eq_true c43
                      have c43b1 : decide (1 ≤ (x3_1.length : Int)) = true := decide_eq_true c43
                      clear c43
                      obtain ⟨y266, hy266⟩ : ∃ y_ : List (S46), y_ = (x3_1.drop (1 : Int).toNat) := ⟨_, rfl⟩
                      replace H : (spec_l1Cur_parts.j3 kj34 y266 s0_0 x1001_34 x1002_34) = some (r1, r2, r3) := by first | (rw [hy266]; with_reducible exact H) | (have H2_ := (Option.bind_some _ _).symm.trans H; rw [hy266]; with_reducible exact H2_) | (have H2_ := (Option.bind_some _ _).symm.trans H; with_reducible exact H2_) | with_reducible exact H | (rw [hy266]; exact H) | exact H
                      have Ny266 := Aside0.mk hy266
                      clear hy266
                      have H' := Aside0.mk H
                      clear H
                      obtain ⟨Ao44, co44, eo44, _⟩ := Kd.Q_slice HO_3.out
                      subst eo44
                      have q45 : (1 : Int) ≤ ((x3_1.length : Int) : Int) := of_decide_eq_true (by first | (with_reducible assumption) | assumption)
                      obtain ⟨i045, hi045, _, hsz45, _⟩ := info_parts info46
                      have hcut45 := cut_from (P := Try.prog) 26 46 .i64 Try.underlying26 hi045 2 hsz45 Ao44 x3_1.length co44 1 (by omega) q45
                      have hr45 := Kd.Q_drop (k := (1 : Int).toNat) HO_3.out (by omega)
                      obtain ⟨A45, hA45⟩ : ∃ A1, A1 = (if co44 = (1 : Int).toNat then Ao44 else (Ao44 : Option Addr).map (·.add ((1 : Int).toNat * 2))) := ⟨_, rfl⟩
                      obtain ⟨c45, hc45⟩ : ∃ c1, c1 = co44 - (1 : Int).toNat := ⟨_, rfl⟩
                      have hy45 : y266.length = x3_1.length - (1 : Int).toNat := (by rw [Ny266.out, List.length_drop])
                      rw [← Ny266.out] at hr45
                      rw [← hy45, ← hA45, ← hc45] at hcut45
                      replace hr45 : Kd.Q k46 46 wc w.heap.size (fun _ => True) (.slice A45 y266.length c45) y266 := (by rw [hA45, hc45, hy45]; exact hr45)
                      have HE45 : Aside0 ((Value.slice A45 y266.length c45).ownBlock = (.slice Ao44 x3_1.length co44 : Value).ownBlock) := ⟨by rw [hA45]; split <;> (cases (Ao44 : Option Addr) <;> rfl)⟩
                      clear hy45 hi045 hsz45 HO_3 hA45 hc45
                      have HO268 := Aside0.mk hr45
                      clear hr45
                      replace q45 := eq_true q45
                      go_wp2
                      go_meet
                      case rel => exact ⟨_, (y266), H', ⟨by have := HK1.out; have := HJ10.out; have := HJ34.out; first | omega | exact Nat.le_refl _⟩, ⟨by (with_reducible repeat (first | apply Kd.Q_alloc | apply Kd.Q_drewN | apply Kd.Q_drew)); exact HO268.out⟩, ⟨by first | ((repeat (first | (with_reducible first | exact HI0.out | apply IsS54.alloc | apply IsS54.drewN | apply IsS54.drew | apply IsS54.set_1 | apply IsS54.set_2) | exact HI0.out)); done) | (simp only [Int.add_zero]; repeat (first | (with_reducible first | exact HI0.out | apply IsS54.alloc | apply IsS54.drewN | apply IsS54.drew | apply IsS54.set_1 | apply IsS54.set_2) | exact HI0.out))⟩, ⟨by repeat (first | (with_reducible first | exact HK.out | apply KeepBut.set_ | apply keep_drewN | apply keep_drew | apply keep_alloc) | exact HK.out)⟩, ⟨by repeat (first | (with_reducible first | exact HB.out | apply below_alloc | apply pw_below_drewN | apply below_drew1 | refine below_set ?_ (IsS54.ge HI0.out)) | exact HB.out)⟩⟩
                    · rw [if_neg c43] at H
                      exact absurd H (by simp)
                  · replace c42 := Bool.eq_false_iff.mpr c42
                    subst c42
                    have H1 : (spec_l1Cur_parts.j3 kj34 x3_1 s0_0 x1001_34 x1002_34) = some (r1, r2, r3) := by rw [if_neg (show ¬ (false = true) by decide)] at H; exact H
                    clear H
                    have H := H1
                    clear H1
                    have H' := Aside0.mk H
                    clear H
                    go_wp2
                    go_meet
                    case rel => exact ⟨_, (x3_1), H', ⟨by have := HK1.out; have := HJ10.out; have := HJ34.out; first | omega | exact Nat.le_refl _⟩, ⟨by (with_reducible repeat (first | apply Kd.Q_alloc | apply Kd.Q_drewN | apply Kd.Q_drew)); exact HO_3.out⟩, ⟨by first | ((repeat (first | (with_reducible first | exact HI0.out | apply IsS54.alloc | apply IsS54.drewN | apply IsS54.drew | apply IsS54.set_1 | apply IsS54.set_2) | exact HI0.out)); done) | (simp only [Int.add_zero]; repeat (first | (with_reducible first | exact HI0.out | apply IsS54.alloc | apply IsS54.drewN | apply IsS54.drew | apply IsS54.set_1 | apply IsS54.set_2) | exact HI0.out))⟩, ⟨by repeat (first | (with_reducible first | exact HK.out | apply KeepBut.set_ | apply keep_drewN | apply keep_drew | apply keep_alloc) | exact HK.out)⟩, ⟨by repeat (first | (with_reducible first | exact HB.out | apply below_alloc | apply pw_below_drewN | apply below_drew1 | refine below_set ?_ (IsS54.ge HI0.out)) | exact HB.out)⟩⟩
                case rest =>
                  clear HC41
                  try clear c1
                  try clear c2
                  try clear p2
                  try clear q2
                  try clear hx2
                  try clear hf2
                  try clear c3
                  try clear hx3
                  try clear hf3
                  try clear c4
                  try clear q4
                  try clear p6
                  try clear c7
                  try clear c12
                  try clear c12b0
                  try clear c14
                  try clear c17
                  try clear c17b0
                  try clear c18
                  try clear c18b0
                  try clear c19
                  try clear c19b0
                  try clear c20
                  try clear c20b0
                  try clear c21
                  try clear p21
                  try clear q21
                  try clear hx21
                  try clear hf21
                  try clear c22
                  try clear p22
                  try clear q22
                  try clear hx22
                  try clear hf22
                  try clear p25
                  try clear q25
                  try clear hx25
                  try clear p26
                  try clear q26
                  try clear hx26
                  try clear c27
                  try clear c30
                  try clear hx30
                  try clear hf30
                  try clear c32
                  try clear c33
                  try clear hx33
                  try clear hf33
                  try clear c36
                  try clear c36b0
                  try clear c36b1
                  try clear c42
                  try clear c43
                  try clear c43b0
                  try clear c43b1
                  try clear c45
                  try clear q45
                  try clear hcz28_0
                  try clear hcz28_1
                  try clear hcz32_0
                  try clear hcz32_1
                  try clear hfz28_0
                  try clear hfz28_1
                  try clear hfz32_0
                  try clear hfz32_1
                  try clear hx21_0
                  try clear hx21_1
                  try clear hx22_0
                  try clear hx22_1
                  try clear hx258_0
                  try clear hx258_1
                  try clear hx260_0
                  try clear hx260_1
                  try clear hx30_0
                  try clear hx30_1
                  try clear hx33_0
                  try clear hx33_1
                  try clear p2
                  try clear p21
                  try clear p22
                  try clear p25
                  try clear p258
                  try clear p26
                  try clear p260
                  try clear p6
                  try clear q2
                  try clear q21
                  try clear q22
                  try clear q25
                  try clear q258
                  try clear q26
                  try clear q260
                  try clear q45
                  obtain ⟨kq, x3_40, HA, HJ40, HO_3, HI0, HK, HB⟩ := hcut
                  cases kq with
                  | zero => exact absurd HA.out (by simp [spec_l1Cur_parts.j3])
                  | succ kj40 =>
                    have H := HA.out
                    clear HA
                    simp only [spec_l1Cur_parts.j3] at H
                    have HC46 := Aside0.mk H
                    clear H
                    go_upto_region 12 with (fail)
                    go_cut [67] (fun v67 wc => ∃ (kq : Nat) (x67_45 : Bool) (x1001_45 : Int) (x1002_45 : Int), v67 = .bool x67_45 ∧ Aside0 (spec_l1Cur_parts.j4 kq x3_40 x67_45 s0_0 x1001_45 x1002_45 = some (r1, r2, r3)) ∧ Aside0 (kq ≤ kj40) ∧ Aside0 (Kd.Q k46 46 wc w.heap.size (fun _ => True) u3 x3_40) ∧ Aside0 (IsS54 w0 wc g s0_0 x1001_45 x1002_45) ∧ Aside0 (KeepBut w wc g none) ∧ Aside0 (Below w0.heap.size w0 wc))
                    case first =>
                      have H := HC46.out
                      clear HC46
                      by_cases c47 : (x3_40.length : Int) > 0
                      · rw [if_pos c47] at H
                        have c47b0 : decide (0 < (x3_40.length : Int)) = true := decide_eq_true c47
                        have c47b1 : decide (0 < x3_40.length) = true := decide_eq_true (by omega)
                        clear c47
                        (first | rw [c47b0] | (simp only [i64_w, i32_w]; rw [c47b0]) | skip)
                        replace H := Option.bind_eq_some_iff.mp H
                        obtain ⟨⟨t269, t270, t271⟩, A480, H⟩ := H
                        replace H : (spec_l1Cur_parts.j4 kj40 x3_40 t269 s0_0 t270 t271) = some (r1, r2, r3) := H
                        have A48 := Aside0.mk A480
                        clear A480
                        have H' := Aside0.mk H
                        clear H
                        obtain ⟨Ao49, co49, eo49, _⟩ := Kd.Q_slice HO_3.out
                        subst eo49
                        go_wp2_with (first | (go_at_call 46; (with_reducible refine (spec_l1Cur_one.calls g s0_0 x1001_34 x1002_34 12 t269 t270 t271 w0 _ ?side1 ?side2 A48.out).mono ?_); (case side1 => first | ((repeat (first | (with_reducible first | exact HI0.out | apply IsS54.alloc | apply IsS54.drewN | apply IsS54.drew | apply IsS54.set_1 | apply IsS54.set_2) | exact HI0.out)); done) | (simp only [Int.add_zero]; repeat (first | (with_reducible first | exact HI0.out | apply IsS54.alloc | apply IsS54.drewN | apply IsS54.drew | apply IsS54.set_1 | apply IsS54.set_2) | exact HI0.out))); (case side2 => repeat (first | (with_reducible first | exact HB.out | apply below_alloc | apply pw_below_drewN | apply below_drew1 | refine below_set ?_ (IsS54.ge HI0.out)) | exact HB.out)); rintro e w50 ⟨rfl, hi, hb, hk⟩; have n0_ := Aside0.mk (Kd.Q_mono (Kd.Q_keep (IsS54.apartQ (show IsS54 w0 _ g s0_0 x1001_34 x1002_34 from by first | ((repeat (first | (with_reducible first | exact HI0.out | apply IsS54.alloc | apply IsS54.drewN | apply IsS54.drew | apply IsS54.set_1 | apply IsS54.set_2) | exact HI0.out)); done) | (simp only [Int.add_zero]; repeat (first | (with_reducible first | exact HI0.out | apply IsS54.alloc | apply IsS54.drewN | apply IsS54.drew | apply IsS54.set_1 | apply IsS54.set_2) | exact HI0.out))) (by (with_reducible repeat (first | apply Kd.Q_alloc | apply Kd.Q_drewN | apply Kd.Q_drew)); exact HO_3.out) (by decide)) hk (fun _ h => h.2)) (fun _ h => h.1)); have n1_ := Aside0.mk (KeepBut.trans (by repeat (first | (with_reducible first | exact HK.out | apply KeepBut.set_ | apply keep_drewN | apply keep_drew | apply keep_alloc) | exact HK.out)) hk (.inl rfl)); have n2_ := Aside0.mk (hb); have n3_ := Aside0.mk (hi); clear HO_3; clear HK; clear HB; clear HI0; have HO_3 := n0_; have HK := n1_; have HB := n2_; have HI0 := n3_; clear n0_ n1_ n2_ n3_; (try clear hb); (try clear hb2); (try clear hk); (try clear hi)))
                        go_meet
                        case rel => exact ⟨_, (t269), (t270), (t271), (by first | rfl | (simp; done) | (simp [*]; done)), H', ⟨by have := HK1.out; have := HJ10.out; have := HJ34.out; have := HJ40.out; first | omega | exact Nat.le_refl _⟩, ⟨by (with_reducible repeat (first | apply Kd.Q_alloc | apply Kd.Q_drewN | apply Kd.Q_drew)); exact HO_3.out⟩, ⟨by first | ((repeat (first | (with_reducible first | exact HI0.out | apply IsS54.alloc | apply IsS54.drewN | apply IsS54.drew | apply IsS54.set_1 | apply IsS54.set_2) | exact HI0.out)); done) | (simp only [Int.add_zero]; repeat (first | (with_reducible first | exact HI0.out | apply IsS54.alloc | apply IsS54.drewN | apply IsS54.drew | apply IsS54.set_1 | apply IsS54.set_2) | exact HI0.out))⟩, ⟨by repeat (first | (with_reducible first | exact HK.out | apply KeepBut.set_ | apply keep_drewN | apply keep_drew | apply keep_alloc) | exact HK.out)⟩, ⟨by repeat (first | (with_reducible first | exact HB.out | apply below_alloc | apply pw_below_drewN | apply below_drew1 | refine below_set ?_ (IsS54.ge HI0.out)) | exact HB.out)⟩⟩
                      · rw [if_neg c47] at H
                        have c47b0 : decide (0 < (x3_40.length : Int)) = false := decide_eq_false c47
                        have c47b1 : decide (0 < x3_40.length) = false := decide_eq_false (by omega)
                        clear c47
                        (first | rw [c47b0] | (simp only [i64_w, i32_w]; rw [c47b0]) | skip)
                        have H' := Aside0.mk H
                        clear H
                        obtain ⟨Ao51, co51, eo51, _⟩ := Kd.Q_slice HO_3.out
                        subst eo51
                        go_wp2
                        go_meet
                        case rel => exact ⟨_, (false), (x1001_34), (x1002_34), (by first | rfl | (simp; done) | (simp [*]; done)), H', ⟨by have := HK1.out; have := HJ10.out; have := HJ34.out; have := HJ40.out; first | omega | exact Nat.le_refl _⟩, ⟨by (with_reducible repeat (first | apply Kd.Q_alloc | apply Kd.Q_drewN | apply Kd.Q_drew)); exact HO_3.out⟩, ⟨by first | ((repeat (first | (with_reducible first | exact HI0.out | apply IsS54.alloc | apply IsS54.drewN | apply IsS54.drew | apply IsS54.set_1 | apply IsS54.set_2) | exact HI0.out)); done) | (simp only [Int.add_zero]; repeat (first | (with_reducible first | exact HI0.out | apply IsS54.alloc | apply IsS54.drewN | apply IsS54.drew | apply IsS54.set_1 | apply IsS54.set_2) | exact HI0.out))⟩, ⟨by repeat (first | (with_reducible first | exact HK.out | apply KeepBut.set_ | apply keep_drewN | apply keep_drew | apply keep_alloc) | exact HK.out)⟩, ⟨by repeat (first | (with_reducible first | exact HB.out | apply below_alloc | apply pw_below_drewN | apply below_drew1 | refine below_set ?_ (IsS54.ge HI0.out)) | exact HB.out)⟩⟩
                    case rest =>
                      clear HC46
                      try clear c1
                      try clear c2
                      try clear p2
                      try clear q2
                      try clear hx2
                      try clear hf2
                      try clear c3
                      try clear hx3
                      try clear hf3
                      try clear c4
                      try clear q4
                      try clear p6
                      try clear c7
                      try clear c12
                      try clear c12b0
                      try clear c14
                      try clear c17
                      try clear c17b0
                      try clear c18
                      try clear c18b0
                      try clear c19
                      try clear c19b0
                      try clear c20
                      try clear c20b0
                      try clear c21
                      try clear p21
                      try clear q21
                      try clear hx21
                      try clear hf21
                      try clear c22
                      try clear p22
                      try clear q22
                      try clear hx22
                      try clear hf22
                      try clear p25
                      try clear q25
                      try clear hx25
                      try clear p26
                      try clear q26
                      try clear hx26
                      try clear c27
                      try clear c30
                      try clear hx30
                      try clear hf30
                      try clear c32
                      try clear c33
                      try clear hx33
                      try clear hf33
                      try clear c36
                      try clear c36b0
                      try clear c36b1
                      try clear c42
                      try clear c43
                      try clear c43b0
                      try clear c43b1
                      try clear c45
                      try clear q45
                      try clear c47
                      try clear c47b0
                      try clear c47b1
                      try clear hcz28_0
                      try clear hcz28_1
                      try clear hcz32_0
                      try clear hcz32_1
                      try clear hfz28_0
                      try clear hfz28_1
                      try clear hfz32_0
                      try clear hfz32_1
                      try clear hx21_0
                      try clear hx21_1
                      try clear hx22_0
                      try clear hx22_1
                      try clear hx258_0
                      try clear hx258_1
                      try clear hx260_0
                      try clear hx260_1
                      try clear hx30_0
                      try clear hx30_1
                      try clear hx33_0
                      try clear hx33_1
                      try clear p2
                      try clear p21
                      try clear p22
                      try clear p25
                      try clear p258
                      try clear p26
                      try clear p260
                      try clear p6
                      try clear q2
                      try clear q21
                      try clear q22
                      try clear q25
                      try clear q258
                      try clear q26
                      try clear q260
                      try clear q4
                      try clear q45
                      obtain ⟨kq, x67_45, x1001_45, x1002_45, rfl, HA, HJ45, HO_3, HI0, HK, HB⟩ := hcut
                      cases kq with
                      | zero => exact absurd HA.out (by simp [spec_l1Cur_parts.j4])
                      | succ kj45 =>
                        have H := HA.out
                        clear HA
                        simp only [spec_l1Cur_parts.j4] at H
                        by_cases c52 : x67_45 = true
                        · subst c52
                          have H1 : ((spec_l1Cur_among.f s0_0 x1001_45 x1002_45 (([0, 2, 1498, 1499] : List Int))).bind fun bt275 => ((spec_l1Cur_among.f s0_0 bt275.2.1 bt275.2.2 (([0, 1498, 1499] : List Int))).bind fun bt281 => (if 0 < (x3_40.length : Int) then (some ((x3_40.set (0 : Int).toNat (⟨bt275.1, bt281.1⟩ : S46)), bt281.2.1, bt281.2.2)) else (none)))) = some (r1, r2, r3) := by rw [if_pos rfl] at H; exact H
                          clear H
                          have H := H1
                          clear H1
                          obtain ⟨y272, hy272⟩ : ∃ y_ : List Int, y_ = (([0, 2, 1498, 1499] : List Int)) := ⟨_, rfl⟩
                          replace H : ((spec_l1Cur_among.f s0_0 x1001_45 x1002_45 y272).bind fun bt275 => ((spec_l1Cur_among.f s0_0 bt275.2.1 bt275.2.2 (([0, 1498, 1499] : List Int))).bind fun bt281 => (if 0 < (x3_40.length : Int) then (some ((x3_40.set (0 : Int).toNat (⟨bt275.1, bt281.1⟩ : S46)), bt281.2.1, bt281.2.2)) else (none)))) = some (r1, r2, r3) := by first | (rw [hy272]; with_reducible exact H) | (have H2_ := (Option.bind_some _ _).symm.trans H; rw [hy272]; with_reducible exact H2_) | (have H2_ := (Option.bind_some _ _).symm.trans H; with_reducible exact H2_) | with_reducible exact H | (rw [hy272]; exact H) | exact H
                          have Ny272 := Aside0.mk hy272
                          clear hy272
                          replace H := Option.bind_eq_some_iff.mp H
                          obtain ⟨⟨t275, t276, t277⟩, A530, H⟩ := H
                          replace H : ((spec_l1Cur_among.f s0_0 t276 t277 (([0, 1498, 1499] : List Int))).bind fun bt281 => (if 0 < (x3_40.length : Int) then (some ((x3_40.set (0 : Int).toNat (⟨t275, bt281.1⟩ : S46)), bt281.2.1, bt281.2.2)) else (none))) = some (r1, r2, r3) := H
                          have A53 := Aside0.mk A530
                          clear A530
                          obtain ⟨y278, hy278⟩ : ∃ y_ : List Int, y_ = (([0, 1498, 1499] : List Int)) := ⟨_, rfl⟩
                          replace H : ((spec_l1Cur_among.f s0_0 t276 t277 y278).bind fun bt281 => (if 0 < (x3_40.length : Int) then (some ((x3_40.set (0 : Int).toNat (⟨t275, bt281.1⟩ : S46)), bt281.2.1, bt281.2.2)) else (none))) = some (r1, r2, r3) := by first | (rw [hy278]; with_reducible exact H) | (have H2_ := (Option.bind_some _ _).symm.trans H; rw [hy278]; with_reducible exact H2_) | (have H2_ := (Option.bind_some _ _).symm.trans H; with_reducible exact H2_) | with_reducible exact H | (rw [hy278]; exact H) | exact H
                          have Ny278 := Aside0.mk hy278
                          clear hy278
                          replace H := Option.bind_eq_some_iff.mp H
                          obtain ⟨⟨t281, t282, t283⟩, A540, H⟩ := H
                          replace H : (if 0 < (x3_40.length : Int) then (some ((x3_40.set (0 : Int).toNat (⟨t275, t281⟩ : S46)), t282, t283)) else (none)) = some (r1, r2, r3) := H
                          have A54 := Aside0.mk A540
                          clear A540
                          by_cases c55 : 0 < (x3_40.length : Int)
                          · rw [if_pos c55] at H
                            have c55b0 : decide (0 < (x3_40.length : Int)) = true := decide_eq_true c55
                            have c55b1 : decide (0 < x3_40.length) = true := decide_eq_true (by omega)
                            clear c55
                            obtain ⟨y284, hy284⟩ : ∃ y_ : List (S46), y_ = (x3_40.set (0 : Int).toNat (⟨t275, t281⟩ : S46)) := ⟨_, rfl⟩
                            replace H : (some (y284, t282, t283)) = some (r1, r2, r3) := by first | (rw [hy284]; with_reducible exact H) | (have H2_ := (Option.bind_some _ _).symm.trans H; rw [hy284]; with_reducible exact H2_) | (have H2_ := (Option.bind_some _ _).symm.trans H; with_reducible exact H2_) | with_reducible exact H | (rw [hy284]; exact H) | exact H
                            have Ny284 := Aside0.mk hy284
                            clear hy284
                            simp only [Option.some.injEq, Prod.mk.injEq] at H
                            obtain ⟨rfl, rfl, rfl⟩ := H
                            go_wp2_with (first | ((with_reducible refine gate_dst (N := 70) rfl ?_); (try (refine gate_guard (by rfl) ?_; dsimp only)); refine Kd.R_lit (Kd.int .i64) _ 3 ?hg (N := 70) ?hd (xs := ([0, 2, 1498, 1499] : List Int)) (inner := [.int .i64 0, .int .i64 2, .int .i64 1498, .int .i64 1499]) (ok := fun _ => True) (okp := fun _ => True) ?hr ?hp (fun _ hk => hk) trivial (Below.refl _ _) (Nat.le_refl _) (by simp) ?_; (case hd => rfl); (case hg => rfl); (case hr => first | (go_simp; done) | (go_simp; rfl)); (case hp => exact (Reps.one (show Kd.M (Kd.int .i64) _ _ _ 0 [.int .i64 0] from rfl) (Reps.one (show Kd.M (Kd.int .i64) _ _ _ 2 [.int .i64 2] from rfl) (Reps.one (show Kd.M (Kd.int .i64) _ _ _ 1498 [.int .i64 1498] from rfl) (Reps.one (show Kd.M (Kd.int .i64) _ _ _ 1499 [.int .i64 1499] from rfl) (Reps.none _ _)))))); intro v273 w57 ho58 hb hg_ hnew_; clear hg_ hnew_; (first | rw [← Ny272.out] at ho58 | (simp only [Int.reduceToNat] at ho58; rw [← Ny272.out] at ho58)); have n0_ := Aside0.mk (Kd.Q_below (by (with_reducible repeat (first | apply Kd.Q_alloc | apply Kd.Q_drewN | apply Kd.Q_drew)); exact HO_3.out) hb); have n1_ := Aside0.mk (Kd.R_lower ho58 (keep_size (w := w) (g := g) (row := none) (by repeat (first | (with_reducible first | exact HK.out | apply KeepBut.set_ | apply keep_drewN | apply keep_drew | apply keep_alloc) | exact HK.out)))); have n2_ := Aside0.mk (IsS54.below (by first | ((repeat (first | (with_reducible first | exact HI0.out | apply IsS54.alloc | apply IsS54.drewN | apply IsS54.drew | apply IsS54.set_1 | apply IsS54.set_2) | exact HI0.out)); done) | (simp only [Int.add_zero]; repeat (first | (with_reducible first | exact HI0.out | apply IsS54.alloc | apply IsS54.drewN | apply IsS54.drew | apply IsS54.set_1 | apply IsS54.set_2) | exact HI0.out))) hb); have n3_ := Aside0.mk (KeepBut.trans (by repeat (first | (with_reducible first | exact HK.out | apply KeepBut.set_ | apply keep_drewN | apply keep_drew | apply keep_alloc) | exact HK.out)) (KeepBut.of_below hb g none) (.inl rfl)); have n4_ := Aside0.mk (below_step (by repeat (first | (with_reducible first | exact HB.out | apply below_alloc | apply pw_below_drewN | apply below_drew1 | refine below_set ?_ (IsS54.ge HI0.out)) | exact HB.out)) hb); clear HO_3; clear HI0; clear HK; clear HB; have HO_3 := n0_; have HO274 := n1_; have HI0 := n2_; have HK := n3_; have HB := n4_; clear n0_ n1_ n2_ n3_ n4_; clear hb ho58; obtain ⟨Ao59, co59, eo59⟩ := Kd.R_slice HO274.out; subst eo59) | ((with_reducible refine gate_callee (f := 50) rfl ?_); refine goesL_ (some 71) rfl rfl Try.func50 (by kernel_rfl) rfl #[.pointer (some ⟨g, 0, none⟩), .slice Ao59 y272.length co59] rfl (by (try simp only [List.map_toArray, List.map_cons, List.map_nil]); first | done | rfl | (simp only [List.length_drop, List.length_take]; rfl)) ?_; (with_reducible refine (spec_l1Cur_among.calls g s0_0 x1001_45 x1002_45 _ _ y272 t275 t276 t277 w0 _ ?side1 ?side2 ?side3 ?side4 ?side5 A53.out).mono ?_); (case side1 => first | ((repeat (first | (with_reducible first | exact HI0.out | apply IsS54.alloc | apply IsS54.drewN | apply IsS54.drew | apply IsS54.set_1 | apply IsS54.set_2) | exact HI0.out)); done) | (simp only [Int.add_zero]; repeat (first | (with_reducible first | exact HI0.out | apply IsS54.alloc | apply IsS54.drewN | apply IsS54.drew | apply IsS54.set_1 | apply IsS54.set_2) | exact HI0.out))); (case side2 => repeat (first | (with_reducible first | exact HB.out | apply below_alloc | apply pw_below_drewN | apply below_drew1 | refine below_set ?_ (IsS54.ge HI0.out)) | exact HB.out)); (case side3 => repeat (first | exact (Kd.R_reads' HO274.out).2.2 | (with_reducible refine Kd.C_alloc ?_ _) | (with_reducible refine Kd.C_drewN ?_ _) | (with_reducible refine Kd.C_drew ?_))); (case side4 => exact (Kd.R_reads' HO274.out).2.1); (case side5 => exact far_slice (IsS54.own_ne HI0.out HO274.out (by decide))); rintro e w60 ⟨rfl, hi, hb, hk⟩; refine ⟨_, rfl, ?_⟩; have n0_ := Aside0.mk (Kd.Q_mono (Kd.Q_keep (IsS54.apartQ (show IsS54 w0 _ g s0_0 x1001_45 x1002_45 from by first | ((repeat (first | (with_reducible first | exact HI0.out | apply IsS54.alloc | apply IsS54.drewN | apply IsS54.drew | apply IsS54.set_1 | apply IsS54.set_2) | exact HI0.out)); done) | (simp only [Int.add_zero]; repeat (first | (with_reducible first | exact HI0.out | apply IsS54.alloc | apply IsS54.drewN | apply IsS54.drew | apply IsS54.set_1 | apply IsS54.set_2) | exact HI0.out))) (by (with_reducible repeat (first | apply Kd.Q_alloc | apply Kd.Q_drewN | apply Kd.Q_drew)); exact HO_3.out) (by decide)) hk (fun _ h => h.2)) (fun _ h => h.1)); have n1_ := Aside0.mk (Kd.R_mono (Kd.R_keep (IsS54.apart (show IsS54 w0 _ g s0_0 x1001_45 x1002_45 from by first | ((repeat (first | (with_reducible first | exact HI0.out | apply IsS54.alloc | apply IsS54.drewN | apply IsS54.drew | apply IsS54.set_1 | apply IsS54.set_2) | exact HI0.out)); done) | (simp only [Int.add_zero]; repeat (first | (with_reducible first | exact HI0.out | apply IsS54.alloc | apply IsS54.drewN | apply IsS54.drew | apply IsS54.set_1 | apply IsS54.set_2) | exact HI0.out))) (by (with_reducible repeat (first | apply Kd.R_alloc | apply Kd.R_drewN | apply Kd.R_drew)); exact HO274.out) (by decide)) hk (fun _ h => h.2)) (fun _ h => h.1)); have n2_ := Aside0.mk (KeepBut.trans (by repeat (first | (with_reducible first | exact HK.out | apply KeepBut.set_ | apply keep_drewN | apply keep_drew | apply keep_alloc) | exact HK.out)) hk (.inl rfl)); have n3_ := Aside0.mk (hb); have n4_ := Aside0.mk (hi); clear HO_3; clear HO274; clear HK; clear HB; clear HI0; have HO_3 := n0_; have HO274 := n1_; have HK := n2_; have HB := n3_; have HI0 := n4_; clear n0_ n1_ n2_ n3_ n4_; (try clear hb); (try clear hb2); (try clear hk); (try clear hi)) | ((with_reducible refine gate_dst (N := 73) rfl ?_); (try (refine gate_guard (by rfl) ?_; dsimp only)); refine Kd.R_lit (Kd.int .i64) _ 3 ?hg (N := 73) ?hd (xs := ([0, 1498, 1499] : List Int)) (inner := [.int .i64 0, .int .i64 1498, .int .i64 1499]) (ok := fun _ => True) (okp := fun _ => True) ?hr ?hp (fun _ hk => hk) trivial (Below.refl _ _) (Nat.le_refl _) (by simp) ?_; (case hd => rfl); (case hg => rfl); (case hr => first | (go_simp; done) | (go_simp; rfl)); (case hp => exact (Reps.one (show Kd.M (Kd.int .i64) _ _ _ 0 [.int .i64 0] from rfl) (Reps.one (show Kd.M (Kd.int .i64) _ _ _ 1498 [.int .i64 1498] from rfl) (Reps.one (show Kd.M (Kd.int .i64) _ _ _ 1499 [.int .i64 1499] from rfl) (Reps.none _ _))))); intro v279 w61 ho62 hb hg_ hnew_; clear hg_ hnew_; (first | rw [← Ny278.out] at ho62 | (simp only [Int.reduceToNat] at ho62; rw [← Ny278.out] at ho62)); have n0_ := Aside0.mk (Kd.Q_below (by (with_reducible repeat (first | apply Kd.Q_alloc | apply Kd.Q_drewN | apply Kd.Q_drew)); exact HO_3.out) hb); have n1_ := Aside0.mk (Kd.R_elder' (by (with_reducible repeat (first | apply Kd.R_alloc | apply Kd.R_drewN | apply Kd.R_drew)); exact HO274.out) (Kd.R_base ho62) hb); have n2_ := Aside0.mk (Kd.R_lower (Kd.R_new' ho62 (Kd.R_lt (by (with_reducible repeat (first | apply Kd.R_alloc | apply Kd.R_drewN | apply Kd.R_drew)); exact HO274.out))) (keep_size (w := w) (g := g) (row := none) (by repeat (first | (with_reducible first | exact HK.out | apply KeepBut.set_ | apply keep_drewN | apply keep_drew | apply keep_alloc) | exact HK.out)))); have n3_ := Aside0.mk (IsS54.below (by first | ((repeat (first | (with_reducible first | exact HI0.out | apply IsS54.alloc | apply IsS54.drewN | apply IsS54.drew | apply IsS54.set_1 | apply IsS54.set_2) | exact HI0.out)); done) | (simp only [Int.add_zero]; repeat (first | (with_reducible first | exact HI0.out | apply IsS54.alloc | apply IsS54.drewN | apply IsS54.drew | apply IsS54.set_1 | apply IsS54.set_2) | exact HI0.out))) hb); have n4_ := Aside0.mk (KeepBut.trans (by repeat (first | (with_reducible first | exact HK.out | apply KeepBut.set_ | apply keep_drewN | apply keep_drew | apply keep_alloc) | exact HK.out)) (KeepBut.of_below hb g none) (.inl rfl)); have n5_ := Aside0.mk (below_step (by repeat (first | (with_reducible first | exact HB.out | apply below_alloc | apply pw_below_drewN | apply below_drew1 | refine below_set ?_ (IsS54.ge HI0.out)) | exact HB.out)) hb); clear HO_3; clear HO274; clear HI0; clear HK; clear HB; have HO_3 := n0_; have HO274 := n1_; have HO280 := n2_; have HI0 := n3_; have HK := n4_; have HB := n5_; clear n0_ n1_ n2_ n3_ n4_ n5_; clear hb ho62; obtain ⟨Ao63, co63, eo63⟩ := Kd.R_slice HO280.out; subst eo63) | ((with_reducible refine gate_callee (f := 50) rfl ?_); refine goesL_ (some 74) rfl rfl Try.func50 (by kernel_rfl) rfl #[.pointer (some ⟨g, 0, none⟩), .slice Ao63 y278.length co63] rfl (by (try simp only [List.map_toArray, List.map_cons, List.map_nil]); first | done | rfl | (simp only [List.length_drop, List.length_take]; rfl)) ?_; (with_reducible refine (spec_l1Cur_among.calls g s0_0 t276 t277 _ _ y278 t281 t282 t283 w0 _ ?side1 ?side2 ?side3 ?side4 ?side5 A54.out).mono ?_); (case side1 => first | ((repeat (first | (with_reducible first | exact HI0.out | apply IsS54.alloc | apply IsS54.drewN | apply IsS54.drew | apply IsS54.set_1 | apply IsS54.set_2) | exact HI0.out)); done) | (simp only [Int.add_zero]; repeat (first | (with_reducible first | exact HI0.out | apply IsS54.alloc | apply IsS54.drewN | apply IsS54.drew | apply IsS54.set_1 | apply IsS54.set_2) | exact HI0.out))); (case side2 => repeat (first | (with_reducible first | exact HB.out | apply below_alloc | apply pw_below_drewN | apply below_drew1 | refine below_set ?_ (IsS54.ge HI0.out)) | exact HB.out)); (case side3 => repeat (first | exact (Kd.R_reads' HO280.out).2.2 | (with_reducible refine Kd.C_alloc ?_ _) | (with_reducible refine Kd.C_drewN ?_ _) | (with_reducible refine Kd.C_drew ?_))); (case side4 => exact (Kd.R_reads' HO280.out).2.1); (case side5 => exact far_slice (IsS54.own_ne HI0.out HO280.out (by decide))); rintro e w64 ⟨rfl, hi, hb, hk⟩; refine ⟨_, rfl, ?_⟩; have n0_ := Aside0.mk (Kd.Q_mono (Kd.Q_keep (IsS54.apartQ (show IsS54 w0 _ g s0_0 t276 t277 from by first | ((repeat (first | (with_reducible first | exact HI0.out | apply IsS54.alloc | apply IsS54.drewN | apply IsS54.drew | apply IsS54.set_1 | apply IsS54.set_2) | exact HI0.out)); done) | (simp only [Int.add_zero]; repeat (first | (with_reducible first | exact HI0.out | apply IsS54.alloc | apply IsS54.drewN | apply IsS54.drew | apply IsS54.set_1 | apply IsS54.set_2) | exact HI0.out))) (by (with_reducible repeat (first | apply Kd.Q_alloc | apply Kd.Q_drewN | apply Kd.Q_drew)); exact HO_3.out) (by decide)) hk (fun _ h => h.2)) (fun _ h => h.1)); have n1_ := Aside0.mk (Kd.R_mono (Kd.R_keep (IsS54.apart (show IsS54 w0 _ g s0_0 t276 t277 from by first | ((repeat (first | (with_reducible first | exact HI0.out | apply IsS54.alloc | apply IsS54.drewN | apply IsS54.drew | apply IsS54.set_1 | apply IsS54.set_2) | exact HI0.out)); done) | (simp only [Int.add_zero]; repeat (first | (with_reducible first | exact HI0.out | apply IsS54.alloc | apply IsS54.drewN | apply IsS54.drew | apply IsS54.set_1 | apply IsS54.set_2) | exact HI0.out))) (by (with_reducible repeat (first | apply Kd.R_alloc | apply Kd.R_drewN | apply Kd.R_drew)); exact HO274.out) (by decide)) hk (fun _ h => h.2)) (fun _ h => h.1)); have n2_ := Aside0.mk (Kd.R_mono (Kd.R_keep (IsS54.apart (show IsS54 w0 _ g s0_0 t276 t277 from by first | ((repeat (first | (with_reducible first | exact HI0.out | apply IsS54.alloc | apply IsS54.drewN | apply IsS54.drew | apply IsS54.set_1 | apply IsS54.set_2) | exact HI0.out)); done) | (simp only [Int.add_zero]; repeat (first | (with_reducible first | exact HI0.out | apply IsS54.alloc | apply IsS54.drewN | apply IsS54.drew | apply IsS54.set_1 | apply IsS54.set_2) | exact HI0.out))) (by (with_reducible repeat (first | apply Kd.R_alloc | apply Kd.R_drewN | apply Kd.R_drew)); exact HO280.out) (by decide)) hk (fun _ h => h.2)) (fun _ h => h.1)); have n3_ := Aside0.mk (KeepBut.trans (by repeat (first | (with_reducible first | exact HK.out | apply KeepBut.set_ | apply keep_drewN | apply keep_drew | apply keep_alloc) | exact HK.out)) hk (.inl rfl)); have n4_ := Aside0.mk (hb); have n5_ := Aside0.mk (hi); clear HO_3; clear HO274; clear HO280; clear HK; clear HB; clear HI0; have HO_3 := n0_; have HO274 := n1_; have HO280 := n2_; have HK := n3_; have HB := n4_; have HI0 := n5_; clear n0_ n1_ n2_ n3_ n4_ n5_; (try clear hb); (try clear hb2); (try clear hk); (try clear hi); have p56 : 0 ≤ (0 : Int) := (by omega); have q56 : (0 : Int) < ((x3_40.length : Int) : Int) := of_decide_eq_true (by first | (with_reducible assumption) | assumption); have qi56 : (0 < x3_40.length) = True := eq_true (by omega); obtain ⟨go56, oo56, co56, eo56, gb56, gl56, cl56, HG56⟩ := Kd.Q_form HO_3.out (by omega); (first | cases eo56 | (injection eo56 with ea_ en_ ec_; (first | subst ea_ | (injection ea_ with ea_; subst ea_)); subst ec_; clear en_)); have GB56 := Aside0.mk gb56; have GG56 := Aside0.mk HG56; clear gb56 gl56 HG56; obtain ⟨ce56, hcl56, hM56, hcc56, hfr56⟩ := Kd.Q_elem HO_3.out z46 (0 : Int) p56 q56; obtain rfl := k46_openM hM56; have hx56_0 : w64.cell? ⟨go56, oo56 + (0 : Int).toNat * 2, none⟩ = some (.int .i64 ((rd_T46 x3_40 0).f0)) := hcc56 0 _ rfl; have hx56_1 : w64.cell? ⟨go56, oo56 + (0 : Int).toNat * 2 + 1, none⟩ = some (.int .i64 ((rd_T46 x3_40 0).f1)) := hcc56 1 _ rfl; have hf56_0 : w64.frozen? ⟨go56, oo56 + (0 : Int).toNat * 2, none⟩ = false := hfr56 0; have hf56_1 : w64.frozen? ⟨go56, oo56 + (0 : Int).toNat * 2 + 1, none⟩ = false := hfr56 1; (clear hcl56 hcc56 hfr56; (try clear hM56)); (try rw [show ((0 : Int)).toNat = 0 from rfl] at hx56_0); (try simp only [Nat.reduceMul, Nat.zero_mul, Nat.zero_add, Nat.add_zero, Nat.reduceAdd] at hx56_0); (try rw [show ((0 : Int)).toNat = 0 from rfl] at hf56_0); (try simp only [Nat.reduceMul, Nat.zero_mul, Nat.zero_add, Nat.add_zero, Nat.reduceAdd] at hf56_0); (try rw [show ((0 : Int)).toNat = 0 from rfl] at hx56_1); (try simp only [Nat.reduceMul, Nat.zero_mul, Nat.zero_add, Nat.add_zero, Nat.reduceAdd] at hx56_1); (try rw [show ((0 : Int)).toNat = 0 from rfl] at hf56_1); (try simp only [Nat.reduceMul, Nat.zero_mul, Nat.zero_add, Nat.add_zero, Nat.reduceAdd] at hf56_1); replace p56 := eq_true p56; replace q56 := eq_true q56; have HX65 := Aside0.mk (show Kd.Q k46 46 w64 w.heap.size (fun _ => True) (.slice (some ⟨go56, oo56, none⟩) x3_40.length co56) x3_40 from (by (with_reducible repeat (first | apply Kd.Q_alloc | apply Kd.Q_drewN | apply Kd.Q_drew)); exact HO_3.out)); obtain ⟨ce65, hcl65, hM65, hcc65, hfr65⟩ := Kd.Q_elem HX65.out z46 (0 : Int) (by omega) (by have h_ : (0 : Int) < ((x3_40.length : Int) : Int) := of_decide_eq_true (by first | (with_reducible assumption) | assumption); first | exact h_ | (have e_ := (Kd.Q_reads' HO_3.out).1; omega) | simpa using h_); obtain rfl := k46_openM hM65; have HP65 := Kd.Q_seg HX65.out (0 : Int) (by omega) (by have h_ : (0 : Int) < ((x3_40.length : Int) : Int) := of_decide_eq_true (by first | (with_reducible assumption) | assumption); first | exact h_ | (have e_ := (Kd.Q_reads' HO_3.out).1; omega) | simpa using h_) (seg := [.int .i64 t275, .int .i64 t281]) (j := 0) hcl65 hcc65 (show 2 ≤ 2 from by decide) (x' := (⟨t275, t281⟩ : S46)) (k46_mkM _ _ _ (⟨t275, t281⟩ : S46) ) (fun _ hk => hk); have hx65_0 := hcc65 0 _ rfl; (try simp only [show (k46).sz = 2 from rfl, Nat.mul_one, Nat.add_zero] at hx65_0); (try rw [show ((0 : Int)).toNat = 0 from rfl] at hx65_0); (try simp only [Nat.reduceMul, Nat.zero_mul, Nat.zero_add, Nat.add_zero, Nat.reduceAdd] at hx65_0); have hf65_0 := hfr65 0; (try simp only [show (k46).sz = 2 from rfl, Nat.mul_one, Nat.add_zero] at hf65_0); (try rw [show ((0 : Int)).toNat = 0 from rfl] at hf65_0); (try simp only [Nat.reduceMul, Nat.zero_mul, Nat.zero_add, Nat.add_zero, Nat.reduceAdd] at hf65_0); have hx65_1 := hcc65 1 _ rfl; (try simp only [show (k46).sz = 2 from rfl, Nat.mul_one, Nat.add_zero] at hx65_1); (try rw [show ((0 : Int)).toNat = 0 from rfl] at hx65_1); (try simp only [Nat.reduceMul, Nat.zero_mul, Nat.zero_add, Nat.add_zero, Nat.reduceAdd] at hx65_1); have hf65_1 := hfr65 1; (try simp only [show (k46).sz = 2 from rfl, Nat.mul_one, Nat.add_zero] at hf65_1); (try rw [show ((0 : Int)).toNat = 0 from rfl] at hf65_1); (try simp only [Nat.reduceMul, Nat.zero_mul, Nat.zero_add, Nat.add_zero, Nat.reduceAdd] at hf65_1); (clear hcl65 hcc65 hfr65; (try clear hM65))) | ((with_reducible refine gate_store (t := 46) (p := 76) rfl ?_); refine store_event (t := 46) (p := 76) (v := ?vo_w66) (w1 := ((w64.setCell ⟨go56, oo56 + 0, none⟩ (.int .i64 t275)).setCell ⟨go56, oo56 + 1, none⟩ (.int .i64 t281))) ?hg ?ho ?hn ?hr ?_; (case ho => rfl); (case hg => rfl); (case hn => rfl); (case hr => first | (go_simp; done) | (go_simp; rfl)); intro w66 hw; have hg : w64.grownBy w66 (some go56) := (by rw [hw]; exact HP65.2); have hp_ : Kd.Q k46 46 w66 w.heap.size (fun _ => True) (.slice (some ⟨go56, oo56, none⟩) x3_40.length co56) y284 := (by rw [hw, Ny284.out]; exact HP65.1); clear HP65; have n0_ := Aside0.mk (hp_); have n1_ := Aside0.mk (IsS54.grown (by first | ((repeat (first | (with_reducible first | exact HI0.out | apply IsS54.alloc | apply IsS54.drewN | apply IsS54.drew | apply IsS54.set_1 | apply IsS54.set_2) | exact HI0.out)); done) | (simp only [Int.add_zero]; repeat (first | (with_reducible first | exact HI0.out | apply IsS54.alloc | apply IsS54.drewN | apply IsS54.drew | apply IsS54.set_1 | apply IsS54.set_2) | exact HI0.out))) hg (IsS54.own_neQ HI0.out HO_3.out (by decide))); have n2_ := Aside0.mk (Kd.R_over' (v := (.slice (some ⟨go56, oo56, none⟩) x3_40.length co56)) (by (with_reducible repeat (first | apply Kd.R_alloc | apply Kd.R_drewN | apply Kd.R_drew)); exact HO274.out) (Kd.Q_typed HO_3.out) (by decide) hg); have n3_ := Aside0.mk (Kd.R_over' (v := (.slice (some ⟨go56, oo56, none⟩) x3_40.length co56)) (by (with_reducible repeat (first | apply Kd.R_alloc | apply Kd.R_drewN | apply Kd.R_drew)); exact HO280.out) (Kd.Q_typed HO_3.out) (by decide) hg); have n4_ := Aside0.mk ((by rw [hw]; exact below_set (below_set (HB.out) (Nat.le_trans HL.out GB56.out)) (Nat.le_trans HL.out GB56.out) : Below w0.heap.size w0 w66)); have n5_ := Aside0.mk (KeepBut.trans (by repeat (first | (with_reducible first | exact HK.out | apply KeepBut.set_ | apply keep_drewN | apply keep_drew | apply keep_alloc) | exact HK.out)) (KeepBut.of_grown hg g) (Kd.Q_base2 HO_3.out)); clear HO_3; clear HI0; clear HO274; clear HO280; clear HB; clear HK; have HO_3 := n0_; have HI0 := n1_; have HO274 := n2_; have HO280 := n3_; have HB := n4_; have HK := n5_; clear n0_ n1_ n2_ n3_ n4_ n5_; clear hg hw hp_))
                            go_ret
                            exact ⟨_, by first | rfl | (simp [errW_none, errW_some] <;> rfl) | (simp [*, errW_none, errW_some] <;> rfl), by (with_reducible repeat (first | apply Kd.Q_alloc | apply Kd.Q_drewN | apply Kd.Q_drew)); exact HO_3.out, by first | ((repeat (first | (with_reducible first | exact HI0.out | apply IsS54.alloc | apply IsS54.drewN | apply IsS54.drew | apply IsS54.set_1 | apply IsS54.set_2) | exact HI0.out)); done) | (simp only [Int.add_zero]; repeat (first | (with_reducible first | exact HI0.out | apply IsS54.alloc | apply IsS54.drewN | apply IsS54.drew | apply IsS54.set_1 | apply IsS54.set_2) | exact HI0.out)), by repeat (first | (with_reducible first | exact HB.out | apply below_alloc | apply pw_below_drewN | apply below_drew1 | refine below_set ?_ (IsS54.ge HI0.out)) | exact HB.out), by repeat (first | (with_reducible first | exact HK.out | apply KeepBut.set_ | apply keep_drewN | apply keep_drew | apply keep_alloc) | exact HK.out)⟩
                          · rw [if_neg c55] at H
                            exact absurd H (by simp)
                        · replace c52 := Bool.eq_false_iff.mpr c52
                          subst c52
                          have H1 : (some (x3_40, x1001_45, x1002_45)) = some (r1, r2, r3) := by rw [if_neg (show ¬ (false = true) by decide)] at H; exact H
                          clear H
                          have H := H1
                          clear H1
                          simp only [Option.some.injEq, Prod.mk.injEq] at H
                          obtain ⟨rfl, rfl, rfl⟩ := H
                          go_wp2
                          go_ret
                          exact ⟨_, by first | rfl | (simp [errW_none, errW_some] <;> rfl) | (simp [*, errW_none, errW_some] <;> rfl), by (with_reducible repeat (first | apply Kd.Q_alloc | apply Kd.Q_drewN | apply Kd.Q_drew)); exact HO_3.out, by first | ((repeat (first | (with_reducible first | exact HI0.out | apply IsS54.alloc | apply IsS54.drewN | apply IsS54.drew | apply IsS54.set_1 | apply IsS54.set_2) | exact HI0.out)); done) | (simp only [Int.add_zero]; repeat (first | (with_reducible first | exact HI0.out | apply IsS54.alloc | apply IsS54.drewN | apply IsS54.drew | apply IsS54.set_1 | apply IsS54.set_2) | exact HI0.out)), by repeat (first | (with_reducible first | exact HB.out | apply below_alloc | apply pw_below_drewN | apply below_drew1 | refine below_set ?_ (IsS54.ge HI0.out)) | exact HB.out), by repeat (first | (with_reducible first | exact HK.out | apply KeepBut.set_ | apply keep_drewN | apply keep_drew | apply keep_alloc) | exact HK.out)⟩

/-! ### spec_DrawSecretFits: function 22 -/
def spec_DrawSecretFits.f (k : Nat) (l0 : List Int) : Option ((List (S46)) × Int) := (spec_l1Cur_parts.f k l0 0 0).bind fun bt286 => ((spec_l1Cur_among.f l0 bt286.2.1 bt286.2.2 (([(-1), 0, 7, 1498, 1499] : List Int))).bind fun bt294 => (some (bt286.1, bt294.1)))
theorem spec_DrawSecretFits.mono : ∀ a0 k, LeO (spec_DrawSecretFits.f k a0) (spec_DrawSecretFits.f (k + 1) a0) := by
  intro a0 k
  unfold spec_DrawSecretFits.f
  repeat' first
      | (with_reducible exact spec_l1Cur_parts.mono _ _ _ _)
      | (with_reducible exact LeO.refl _)
      | (with_reducible exact LeO.none _)
      | (with_reducible refine LeO.ite ?_ ?_)
      | (with_reducible refine LeO.bind ?_ (fun _ => ?_))
      | exact spec_l1Cur_parts.mono _ _ _ _
      | exact LeO.none _
      | refine LeO.ite ?_ ?_
      | refine LeO.bind ?_ (fun _ => ?_)
set_option maxHeartbeats 8000000 in
set_option maxRecDepth 100000 in
theorem spec_DrawSecretFits.calls (k : Nat) (A0 : Option Addr) (c0 : Nat) (l0 : List Int) (r1 : List (S46)) (r2 : Int) (w : World) (hr0 : Kd.C (Kd.int .u8) w A0 l0.length l0) (hc0 : l0.length ≤ c0) (h : spec_DrawSecretFits.f k l0 = some (r1, r2)) :
    Calls Try.prog 22 #[.slice A0 l0.length c0] w fun e w' => ∃ v0_ : Value, e = .returned (.tuple #[v0_, .int .i64 r2]) ∧ Kd.Q k46 46 w' w.heap.size (fun _ => True) v0_ r1 ∧ Below w.heap.size w w' := by
  have hu54 := Try.underlying54
  have HR0 := Aside0.mk hr0
  have HC0 := Aside0.mk hc0
  clear hr0 hc0
  have HB := Aside0.mk (Below.refl w.heap.size w)
  have H : ((spec_l1Cur_parts.f k l0 0 0).bind fun bt286 => ((spec_l1Cur_among.f l0 bt286.2.1 bt286.2.2 (([(-1), 0, 7, 1498, 1499] : List Int))).bind fun bt294 => (some (bt286.1, bt294.1)))) = some (r1, r2) := h
  clear h
  replace H := Option.bind_eq_some_iff.mp H
  obtain ⟨⟨t286, t289, t290⟩, A20, H⟩ := H
  replace H : ((spec_l1Cur_among.f l0 t289 t290 (([(-1), 0, 7, 1498, 1499] : List Int))).bind fun bt294 => (some (t286, bt294.1))) = some (r1, r2) := H
  have A2 := Aside0.mk A20
  clear A20
  obtain ⟨y291, hy291⟩ : ∃ y_ : List Int, y_ = (([(-1), 0, 7, 1498, 1499] : List Int)) := ⟨_, rfl⟩
  replace H : ((spec_l1Cur_among.f l0 t289 t290 y291).bind fun bt294 => (some (t286, bt294.1))) = some (r1, r2) := by first | (rw [hy291]; with_reducible exact H) | (have H2_ := (Option.bind_some _ _).symm.trans H; rw [hy291]; with_reducible exact H2_) | (have H2_ := (Option.bind_some _ _).symm.trans H; with_reducible exact H2_) | with_reducible exact H | (rw [hy291]; exact H) | exact H
  have Ny291 := Aside0.mk hy291
  clear hy291
  replace H := Option.bind_eq_some_iff.mp H
  obtain ⟨⟨t294, t295, t296⟩, A30, H⟩ := H
  replace H : (some (t286, t294)) = some (r1, r2) := H
  have A3 := Aside0.mk A30
  clear A30
  simp only [Option.some.injEq, Prod.mk.injEq] at H
  obtain ⟨rfl, rfl⟩ := H
  go_enter Try.func22, Try.ntmps22
  go_wp2_with (first | ((with_reducible refine gate_dst (N := 7) rfl ?_); refine box_event ?hg (N := 7) ?hd (cs := #[.slice A0 l0.length c0, .int .i64 0, .int .u64 0]) (t := 54) ?hr ?_; (case hd => rfl); (case hg => rfl); (case hr => first | (go_simp; done) | (go_simp; rfl)); intro gb285 hg w4 hbox hb; have n0_ := Aside0.mk (below_step (by repeat (first | (with_reducible first | exact HB.out | apply below_alloc | apply pw_below_drewN | apply below_drew1) | exact HB.out)) hb); have n1_ := Aside0.mk ((show IsS54 w w4 gb285 l0 0 0 from ⟨_, _, hbox, (by rw [hg]; exact (below_size (by repeat (first | (with_reducible first | exact HB.out | apply below_alloc | apply pw_below_drewN | apply below_drew1) | exact HB.out))) : w.heap.size ≤ gb285), HR0.out⟩)); clear HB; have HB := n0_; have HI285 := n1_; clear n0_ n1_; clear hb hbox hg) | ((with_reducible refine gate_callee (f := 45) rfl ?_); refine goesL_ (some 9) rfl rfl Try.func45 (by kernel_rfl) rfl #[.pointer (some ⟨gb285, 0, none⟩)] rfl (by (try simp only [List.map_toArray, List.map_cons, List.map_nil]); first | done | rfl | (simp only [List.length_drop, List.length_take]; rfl)) ?_; (with_reducible refine (spec_l1Cur_parts.calls k gb285 l0 0 0 t286 t289 t290 w _ ?side1 ?side2 A2.out).mono ?_); (case side1 => first | ((repeat (first | (with_reducible first | exact HI285.out | apply IsS54.alloc | apply IsS54.drewN | apply IsS54.drew | apply IsS54.set_1 | apply IsS54.set_2) | exact HI285.out)); done) | (simp only [Int.add_zero]; repeat (first | (with_reducible first | exact HI285.out | apply IsS54.alloc | apply IsS54.drewN | apply IsS54.drew | apply IsS54.set_1 | apply IsS54.set_2) | exact HI285.out))); (case side2 => repeat (first | (with_reducible first | exact HB.out | apply below_alloc | apply pw_below_drewN | apply below_drew1 | refine below_set ?_ (IsS54.ge HI285.out)) | exact HB.out)); rintro e w5 ⟨v287, rfl, ho0, hi, hb, hk⟩; refine ⟨_, rfl, ?_⟩; have n0_ := Aside0.mk (Kd.Q_lower ho0 (below_size (by repeat (first | (with_reducible first | exact HB.out | apply below_alloc | apply pw_below_drewN | apply below_drew1 | refine below_set ?_ (IsS54.ge HI285.out)) | exact HB.out)))); have n1_ := Aside0.mk (hb); have n2_ := Aside0.mk (hi); clear HB; clear HI285; have HO288 := n0_; have HB := n1_; have HI285 := n2_; clear n0_ n1_ n2_; (try clear hb); (try clear hb2); (try clear hk); (try clear hi); (try clear ho0)) | ((with_reducible refine gate_dst (N := 11) rfl ?_); refine Kd.R_lit (Kd.int .i64) _ 3 ?hg (N := 11) ?hd (xs := ([(-1), 0, 7, 1498, 1499] : List Int)) (inner := [.int .i64 (-1), .int .i64 0, .int .i64 7, .int .i64 1498, .int .i64 1499]) (ok := fun _ => True) (okp := fun _ => True) ?hr ?hp (fun _ hk => hk) trivial (Below.refl _ _) (Nat.le_refl _) (by simp) ?_; (case hd => rfl); (case hg => rfl); (case hr => first | (go_simp; done) | (go_simp; rfl)); (case hp => exact (Reps.one (show Kd.M (Kd.int .i64) _ _ _ (-1) [.int .i64 (-1)] from rfl) (Reps.one (show Kd.M (Kd.int .i64) _ _ _ 0 [.int .i64 0] from rfl) (Reps.one (show Kd.M (Kd.int .i64) _ _ _ 7 [.int .i64 7] from rfl) (Reps.one (show Kd.M (Kd.int .i64) _ _ _ 1498 [.int .i64 1498] from rfl) (Reps.one (show Kd.M (Kd.int .i64) _ _ _ 1499 [.int .i64 1499] from rfl) (Reps.none _ _))))))); intro v292 w6 ho7 hb hg_ hnew_; clear hg_ hnew_; (first | rw [← Ny291.out] at ho7 | (simp only [Int.reduceToNat] at ho7; rw [← Ny291.out] at ho7)); have n0_ := Aside0.mk (Kd.Q_below (by (with_reducible repeat (first | apply Kd.Q_alloc | apply Kd.Q_drewN | apply Kd.Q_drew)); exact HO288.out) hb); have n1_ := Aside0.mk (Kd.R_lower ho7 (below_size (by repeat (first | (with_reducible first | exact HB.out | apply below_alloc | apply pw_below_drewN | apply below_drew1 | refine below_set ?_ (IsS54.ge HI285.out)) | exact HB.out)))); have n2_ := Aside0.mk (IsS54.below (by first | ((repeat (first | (with_reducible first | exact HI285.out | apply IsS54.alloc | apply IsS54.drewN | apply IsS54.drew | apply IsS54.set_1 | apply IsS54.set_2) | exact HI285.out)); done) | (simp only [Int.add_zero]; repeat (first | (with_reducible first | exact HI285.out | apply IsS54.alloc | apply IsS54.drewN | apply IsS54.drew | apply IsS54.set_1 | apply IsS54.set_2) | exact HI285.out))) hb); have n3_ := Aside0.mk (below_step (by repeat (first | (with_reducible first | exact HB.out | apply below_alloc | apply pw_below_drewN | apply below_drew1 | refine below_set ?_ (IsS54.ge HI285.out)) | exact HB.out)) hb); clear HO288; clear HI285; clear HB; have HO288 := n0_; have HO293 := n1_; have HI285 := n2_; have HB := n3_; clear n0_ n1_ n2_ n3_; clear hb ho7; obtain ⟨Ao8, co8, eo8⟩ := Kd.R_slice HO293.out; subst eo8) | ((with_reducible refine gate_callee (f := 50) rfl ?_); refine goesL_ (some 12) rfl rfl Try.func50 (by kernel_rfl) rfl #[.pointer (some ⟨gb285, 0, none⟩), .slice Ao8 y291.length co8] rfl (by (try simp only [List.map_toArray, List.map_cons, List.map_nil]); first | done | rfl | (simp only [List.length_drop, List.length_take]; rfl)) ?_; (with_reducible refine (spec_l1Cur_among.calls gb285 l0 t289 t290 _ _ y291 t294 t295 t296 w _ ?side1 ?side2 ?side3 ?side4 ?side5 A3.out).mono ?_); (case side1 => first | ((repeat (first | (with_reducible first | exact HI285.out | apply IsS54.alloc | apply IsS54.drewN | apply IsS54.drew | apply IsS54.set_1 | apply IsS54.set_2) | exact HI285.out)); done) | (simp only [Int.add_zero]; repeat (first | (with_reducible first | exact HI285.out | apply IsS54.alloc | apply IsS54.drewN | apply IsS54.drew | apply IsS54.set_1 | apply IsS54.set_2) | exact HI285.out))); (case side2 => repeat (first | (with_reducible first | exact HB.out | apply below_alloc | apply pw_below_drewN | apply below_drew1 | refine below_set ?_ (IsS54.ge HI285.out)) | exact HB.out)); (case side3 => repeat (first | exact (Kd.R_reads' HO293.out).2.2 | (with_reducible refine Kd.C_alloc ?_ _) | (with_reducible refine Kd.C_drewN ?_ _) | (with_reducible refine Kd.C_drew ?_))); (case side4 => exact (Kd.R_reads' HO293.out).2.1); (case side5 => exact far_slice (IsS54.own_ne HI285.out HO293.out (by decide))); rintro e w9 ⟨rfl, hi, hb, hk⟩; refine ⟨_, rfl, ?_⟩; have n0_ := Aside0.mk (Kd.Q_mono (Kd.Q_keep (IsS54.apartQ (show IsS54 w _ gb285 l0 t289 t290 from by first | ((repeat (first | (with_reducible first | exact HI285.out | apply IsS54.alloc | apply IsS54.drewN | apply IsS54.drew | apply IsS54.set_1 | apply IsS54.set_2) | exact HI285.out)); done) | (simp only [Int.add_zero]; repeat (first | (with_reducible first | exact HI285.out | apply IsS54.alloc | apply IsS54.drewN | apply IsS54.drew | apply IsS54.set_1 | apply IsS54.set_2) | exact HI285.out))) (by (with_reducible repeat (first | apply Kd.Q_alloc | apply Kd.Q_drewN | apply Kd.Q_drew)); exact HO288.out) (by decide)) hk (fun _ h => h.2)) (fun _ h => h.1)); have n1_ := Aside0.mk (Kd.R_mono (Kd.R_keep (IsS54.apart (show IsS54 w _ gb285 l0 t289 t290 from by first | ((repeat (first | (with_reducible first | exact HI285.out | apply IsS54.alloc | apply IsS54.drewN | apply IsS54.drew | apply IsS54.set_1 | apply IsS54.set_2) | exact HI285.out)); done) | (simp only [Int.add_zero]; repeat (first | (with_reducible first | exact HI285.out | apply IsS54.alloc | apply IsS54.drewN | apply IsS54.drew | apply IsS54.set_1 | apply IsS54.set_2) | exact HI285.out))) (by (with_reducible repeat (first | apply Kd.R_alloc | apply Kd.R_drewN | apply Kd.R_drew)); exact HO293.out) (by decide)) hk (fun _ h => h.2)) (fun _ h => h.1)); have n2_ := Aside0.mk (hb); have n3_ := Aside0.mk (hi); clear HO288; clear HO293; clear HB; clear HI285; have HO288 := n0_; have HO293 := n1_; have HB := n2_; have HI285 := n3_; clear n0_ n1_ n2_ n3_; (try clear hb); (try clear hb2); (try clear hk); (try clear hi)))
  go_ret2
  exact ⟨_, by first | rfl | (simp [errW_none, errW_some] <;> rfl) | (simp [*, errW_none, errW_some] <;> rfl), by (with_reducible repeat (first | apply Kd.Q_alloc | apply Kd.Q_drewN | apply Kd.Q_drew)); exact HO288.out, by repeat (first | (with_reducible first | exact HB.out | apply below_alloc | apply pw_below_drewN | apply below_drew1 | refine below_set ?_ (IsS54.ge HI285.out)) | exact HB.out)⟩

/-! ### impl_Part_53: function 53 -/
def impl_Part_53.f (l0 : List (S46)) : Option (List (S46)) := if l0.length < 8796093022208 then some l0 else none
set_option maxHeartbeats 2000000 in
set_option maxRecDepth 100000 in
theorem impl_Part_53.calls (A0 : Option Addr) (c0 : Nat) (l0 : List (S46)) (r : List (S46)) (w : World) (hr0 : Kd.C k46 w A0 l0.length l0) (hc0 : l0.length ≤ c0) (h : impl_Part_53.f l0 = some r) :
    Calls Try.prog 53 #[.slice A0 l0.length c0] w fun e w' => ∃ v0_ : Value, e = .returned (v0_) ∧ Kd.R k46 46 w' w.heap.size (fun _ => True) v0_ r ∧ Below w.heap.size w w' := by
  unfold impl_Part_53.f at h
  split at h
  case isFalse => cases h
  case isTrue hlt =>
  obtain rfl := Option.some.inj h
  have q_ : ∀ (w : World) (a : Option Addr) (n c n' c' : Nat), (binOp .eql 26 (.slice a n c) (.slice none n' c')).run Try.prog w = .ok (.bool a.isNone) w := fun w a n c n' c' => Lib.run_eql_slice_nil w _ _ a n c n' c' Try.underlying26
  have HR := Aside0.mk hr0
  clear hr0
  rcases A0 with _ | ad
  · have e : l0 = [] := by
      rcases Nat.eq_zero_or_pos l0.length with h0 | h0
      · exact List.eq_nil_of_length_eq_zero h0
      · obtain ⟨_, h', _⟩ := HR.out.2.2 h0
        cases h'
    subst e
    go_enter Try.func53, Try.ntmps53
    go_wp2
    go_ret
    exact ⟨_, rfl, Kd.R_nil _ _ _ _ _, Below.refl _ _⟩
  · have HL := Aside0.mk hlt
    clear hlt
    go_enter Try.func53, Try.ntmps53
    go_wp2_with (first | (at_builtin; refine Kd.R_append_rows k46 (w0 := w) w.heap.size rfl (.tmp 5) (.tmp 6) 26 46 (.agg #[(.int .i64 0), (.int .i64 0)]) 16 rfl Try.underlying26 info46 rfl (by decide) (by omega) _ [] l0 _ _ _ (fun _ => True) (fun _ => False) rfl rfl ?aO ?aR (fun _ _ h => h) (fun _ h => h.elim) ?aF ?aB ?aS ?aL ?_; (case aO => exact Go.Proofs.Ytdobjdkjflnpmaa.Hand.R_made _ _ _); (case aR => exact Kd.C_below HR.out (below_alloc (Below.refl _ _) _)); (case aF => exact fun _ _ => trivial); (case aB => exact below_alloc (Below.refl _ _) _); (case aS => exact (below_alloc (Below.refl _ _) _).size); (case aL => have := HL.out; simp only [List.length_nil]; omega); intro v1_ w1_ hp_ hb_ hg_ ha_; have HP_ := Aside0.mk hp_; have HB_ := Aside0.mk hb_; clear hp_ hb_ hg_ ha_))
    go_wp2
    go_ret
    exact ⟨_, rfl, by simpa using HP_.out, HB_.out⟩

end Go.Proofs.Ytdobjdkjflnpmaa.PFnHidden
