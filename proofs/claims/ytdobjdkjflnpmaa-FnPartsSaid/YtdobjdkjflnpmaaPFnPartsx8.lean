-- Written by a program of this session, after the kit's print (changed in some places; see NOTES.md). Lean checks it.
import Derived.Test.YtdobjdkjflnpmaaPFnPartsx0
import Derived.Test.YtdobjdkjflnpmaaPFnPartsx2
import Derived.Test.YtdobjdkjflnpmaaPFnPartsx3
namespace Go.Proofs.Ytdobjdkjflnpmaa.PFnParts
open Go.RowKit Go.Proofs.YtdobjdkjflnpmaaW.PrintWords Go.Proofs.YtdobjdkjflnpmaaW.PrintLast Go.Proofs.YtdobjdkjflnpmaaW.PrintMore
attribute [local go_sem] max2_int min2_int max_two min_two max_three min_three max_four min_four   -- for this text's walks alone
set_option linter.unusedVariables false
set_option linter.unusedSimpArgs false

/-! ### spec_l1Cur_parts: function 45 -/
mutual
def spec_l1Cur_parts.l0 : Nat → List (S46) → Int → List Int → Int → Int → Option ((List (S46)) × Int × Int)
  | 0, _, _, _, _, _ => none
  | k + 1, x3, x5, x1000, x1001, x1002 => if x5 > 0 then (spec_l1Cur_parts.j1 k x3 x5 (decide ((x3.length : Int) > 1)) x1000 x1001 x1002) else (spec_l1Cur_parts.j1 k x3 x5 false x1000 x1001 x1002)
def spec_l1Cur_parts.j1 : Nat → List (S46) → Int → Bool → List Int → Int → Int → Option ((List (S46)) × Int × Int)
  | 0, _, _, _, _, _, _ => none
  | k + 1, x3, x5, x26, x1000, x1001, x1002 => if x26 = true then ((spec_l1Cur_pick.f x1000 x1001 x1002 (x3.length : Int)).bind fun bt272 => ((spec_l1Cur_pick.f x1000 bt272.2.1 bt272.2.2 (x3.length : Int)).bind fun bt275 => (if 0 ≤ bt272.1 then (if bt272.1 < (x3.length : Int) then (if 0 ≤ bt275.1 then (if bt275.1 < (x3.length : Int) then (spec_l1Cur_parts.l0 k ((x3.set (bt272.1 : Int).toNat (⟨(rd_T46 x3 bt275.1).f0, (rd_T46 x3 bt275.1).f1⟩ : S46)).set (bt275.1 : Int).toNat (⟨(rd_T46 x3 bt272.1).f0, (rd_T46 x3 bt272.1).f1⟩ : S46)) (wrap64 (x5 - 1)) x1000 bt275.2.1 bt275.2.2) else (none)) else (none)) else (none)) else (none)))) else (if (x3.length : Int) > 1 then ((spec_l1Cur_one.f x1000 x1001 x1002 3).bind fun bt283 => (spec_l1Cur_parts.j2 k x3 bt283.1 x1000 bt283.2.1 bt283.2.2)) else (spec_l1Cur_parts.j2 k x3 false x1000 x1001 x1002))
def spec_l1Cur_parts.j2 : Nat → List (S46) → Bool → List Int → Int → Int → Option ((List (S46)) × Int × Int)
  | 0, _, _, _, _, _ => none
  | k + 1, x3, x58, x1000, x1001, x1002 => if x58 = true then (if 1 ≤ (x3.length : Int) then (spec_l1Cur_parts.j3 k (x3.drop (1 : Int).toNat) x1000 x1001 x1002) else (none)) else (spec_l1Cur_parts.j3 k x3 x1000 x1001 x1002)
def spec_l1Cur_parts.j3 : Nat → List (S46) → List Int → Int → Int → Option ((List (S46)) × Int × Int)
  | 0, _, _, _, _ => none
  | k + 1, x3, x1000, x1001, x1002 => if (x3.length : Int) > 0 then ((spec_l1Cur_one.f x1000 x1001 x1002 12).bind fun bt289 => (spec_l1Cur_parts.j4 k x3 bt289.1 x1000 bt289.2.1 bt289.2.2)) else (spec_l1Cur_parts.j4 k x3 false x1000 x1001 x1002)
def spec_l1Cur_parts.j4 : Nat → List (S46) → Bool → List Int → Int → Int → Option ((List (S46)) × Int × Int)
  | 0, _, _, _, _, _ => none
  | k + 1, x3, x67, x1000, x1001, x1002 => if x67 = true then ((spec_l1Cur_among.f x1000 x1001 x1002 (([0, 2, 1498, 1499] : List Int))).bind fun bt295 => ((spec_l1Cur_among.f x1000 bt295.2.1 bt295.2.2 (([0, 1498, 1499] : List Int))).bind fun bt301 => (if 0 < (x3.length : Int) then (some ((x3.set (0 : Int).toNat (⟨bt295.1, bt301.1⟩ : S46)), bt301.2.1, bt301.2.2)) else (none)))) else (some (x3, x1001, x1002))
end
def spec_l1Cur_parts.f (k : Nat) (s0_0 : List Int) (s0_1 : Int) (s0_2 : Int) : Option ((List (S46)) × Int × Int) := (spec_l1Cur_poly.f k s0_0 s0_1 s0_2).bind fun bt257 => ((spec_l1Cur_pick.f s0_0 bt257.2.1 bt257.2.2 7).bind fun bt262 => ((spec_SplitSecret.f k bt257.1 (wrap64 (1 + bt262.1))).bind fun bt265 => ((spec_l1Cur_pick.f s0_0 bt262.2.1 bt262.2.2 4).bind fun bt269 => (spec_l1Cur_parts.l0 k bt265.1 bt269.1 s0_0 bt269.2.1 bt269.2.2))))
theorem spec_l1Cur_parts.mono_l : ∀ k, (∀ y0 y1 y2 y3 y4, LeO (spec_l1Cur_parts.l0 k y0 y1 y2 y3 y4) (spec_l1Cur_parts.l0 (k + 1) y0 y1 y2 y3 y4)) ∧ (∀ y0 y1 y2 y3 y4 y5, LeO (spec_l1Cur_parts.j1 k y0 y1 y2 y3 y4 y5) (spec_l1Cur_parts.j1 (k + 1) y0 y1 y2 y3 y4 y5)) ∧ (∀ y0 y1 y2 y3 y4, LeO (spec_l1Cur_parts.j2 k y0 y1 y2 y3 y4) (spec_l1Cur_parts.j2 (k + 1) y0 y1 y2 y3 y4)) ∧ (∀ y0 y1 y2 y3, LeO (spec_l1Cur_parts.j3 k y0 y1 y2 y3) (spec_l1Cur_parts.j3 (k + 1) y0 y1 y2 y3)) ∧ (∀ y0 y1 y2 y3 y4, LeO (spec_l1Cur_parts.j4 k y0 y1 y2 y3 y4) (spec_l1Cur_parts.j4 (k + 1) y0 y1 y2 y3 y4))
  | 0 => ⟨fun _ _ _ _ _ r h => by simp [spec_l1Cur_parts.l0] at h, fun _ _ _ _ _ _ r h => by simp [spec_l1Cur_parts.j1] at h, fun _ _ _ _ _ r h => by simp [spec_l1Cur_parts.j2] at h, fun _ _ _ _ r h => by simp [spec_l1Cur_parts.j3] at h, fun _ _ _ _ _ r h => by simp [spec_l1Cur_parts.j4] at h⟩
  | k + 1 => by
    obtain ⟨ih0, ih1, ih2, ih3, ih4⟩ := spec_l1Cur_parts.mono_l k
    refine ⟨?_, ?_, ?_, ?_, ?_⟩
    · intro y0 y1 y2 y3 y4
      unfold spec_l1Cur_parts.l0
      repeat' first
      | (with_reducible exact ih0 _ _ _ _ _)
      | (with_reducible exact ih1 _ _ _ _ _ _)
      | (with_reducible exact ih2 _ _ _ _ _)
      | (with_reducible exact ih3 _ _ _ _)
      | (with_reducible exact ih4 _ _ _ _ _)
      | (with_reducible exact spec_SplitSecret.mono _ _ _)
      | (with_reducible exact spec_l1Cur_poly.mono _ _ _ _)
      | (with_reducible exact LeO.refl _)
      | (with_reducible exact LeO.none _)
      | (with_reducible refine LeO.ite ?_ ?_)
      | (with_reducible refine LeO.bind ?_ (fun _ => ?_))
      | exact ih0 _ _ _ _ _
      | exact ih1 _ _ _ _ _ _
      | exact ih2 _ _ _ _ _
      | exact ih3 _ _ _ _
      | exact ih4 _ _ _ _ _
      | exact spec_SplitSecret.mono _ _ _
      | exact spec_l1Cur_poly.mono _ _ _ _
      | exact LeO.none _
      | refine LeO.ite ?_ ?_
      | refine LeO.bind ?_ (fun _ => ?_)
    · intro y0 y1 y2 y3 y4 y5
      unfold spec_l1Cur_parts.j1
      repeat' first
      | (with_reducible exact ih0 _ _ _ _ _)
      | (with_reducible exact ih1 _ _ _ _ _ _)
      | (with_reducible exact ih2 _ _ _ _ _)
      | (with_reducible exact ih3 _ _ _ _)
      | (with_reducible exact ih4 _ _ _ _ _)
      | (with_reducible exact spec_SplitSecret.mono _ _ _)
      | (with_reducible exact spec_l1Cur_poly.mono _ _ _ _)
      | (with_reducible exact LeO.refl _)
      | (with_reducible exact LeO.none _)
      | (with_reducible refine LeO.ite ?_ ?_)
      | (with_reducible refine LeO.bind ?_ (fun _ => ?_))
      | exact ih0 _ _ _ _ _
      | exact ih1 _ _ _ _ _ _
      | exact ih2 _ _ _ _ _
      | exact ih3 _ _ _ _
      | exact ih4 _ _ _ _ _
      | exact spec_SplitSecret.mono _ _ _
      | exact spec_l1Cur_poly.mono _ _ _ _
      | exact LeO.none _
      | refine LeO.ite ?_ ?_
      | refine LeO.bind ?_ (fun _ => ?_)
    · intro y0 y1 y2 y3 y4
      unfold spec_l1Cur_parts.j2
      repeat' first
      | (with_reducible exact ih0 _ _ _ _ _)
      | (with_reducible exact ih1 _ _ _ _ _ _)
      | (with_reducible exact ih2 _ _ _ _ _)
      | (with_reducible exact ih3 _ _ _ _)
      | (with_reducible exact ih4 _ _ _ _ _)
      | (with_reducible exact spec_SplitSecret.mono _ _ _)
      | (with_reducible exact spec_l1Cur_poly.mono _ _ _ _)
      | (with_reducible exact LeO.refl _)
      | (with_reducible exact LeO.none _)
      | (with_reducible refine LeO.ite ?_ ?_)
      | (with_reducible refine LeO.bind ?_ (fun _ => ?_))
      | exact ih0 _ _ _ _ _
      | exact ih1 _ _ _ _ _ _
      | exact ih2 _ _ _ _ _
      | exact ih3 _ _ _ _
      | exact ih4 _ _ _ _ _
      | exact spec_SplitSecret.mono _ _ _
      | exact spec_l1Cur_poly.mono _ _ _ _
      | exact LeO.none _
      | refine LeO.ite ?_ ?_
      | refine LeO.bind ?_ (fun _ => ?_)
    · intro y0 y1 y2 y3
      unfold spec_l1Cur_parts.j3
      repeat' first
      | (with_reducible exact ih0 _ _ _ _ _)
      | (with_reducible exact ih1 _ _ _ _ _ _)
      | (with_reducible exact ih2 _ _ _ _ _)
      | (with_reducible exact ih3 _ _ _ _)
      | (with_reducible exact ih4 _ _ _ _ _)
      | (with_reducible exact spec_SplitSecret.mono _ _ _)
      | (with_reducible exact spec_l1Cur_poly.mono _ _ _ _)
      | (with_reducible exact LeO.refl _)
      | (with_reducible exact LeO.none _)
      | (with_reducible refine LeO.ite ?_ ?_)
      | (with_reducible refine LeO.bind ?_ (fun _ => ?_))
      | exact ih0 _ _ _ _ _
      | exact ih1 _ _ _ _ _ _
      | exact ih2 _ _ _ _ _
      | exact ih3 _ _ _ _
      | exact ih4 _ _ _ _ _
      | exact spec_SplitSecret.mono _ _ _
      | exact spec_l1Cur_poly.mono _ _ _ _
      | exact LeO.none _
      | refine LeO.ite ?_ ?_
      | refine LeO.bind ?_ (fun _ => ?_)
    · intro y0 y1 y2 y3 y4
      unfold spec_l1Cur_parts.j4
      repeat' first
      | (with_reducible exact ih0 _ _ _ _ _)
      | (with_reducible exact ih1 _ _ _ _ _ _)
      | (with_reducible exact ih2 _ _ _ _ _)
      | (with_reducible exact ih3 _ _ _ _)
      | (with_reducible exact ih4 _ _ _ _ _)
      | (with_reducible exact spec_SplitSecret.mono _ _ _)
      | (with_reducible exact spec_l1Cur_poly.mono _ _ _ _)
      | (with_reducible exact LeO.refl _)
      | (with_reducible exact LeO.none _)
      | (with_reducible refine LeO.ite ?_ ?_)
      | (with_reducible refine LeO.bind ?_ (fun _ => ?_))
      | exact ih0 _ _ _ _ _
      | exact ih1 _ _ _ _ _ _
      | exact ih2 _ _ _ _ _
      | exact ih3 _ _ _ _
      | exact ih4 _ _ _ _ _
      | exact spec_SplitSecret.mono _ _ _
      | exact spec_l1Cur_poly.mono _ _ _ _
      | exact LeO.none _
      | refine LeO.ite ?_ ?_
      | refine LeO.bind ?_ (fun _ => ?_)
theorem spec_l1Cur_parts.mono : ∀ a0 a1 a2 k, LeO (spec_l1Cur_parts.f k a0 a1 a2) (spec_l1Cur_parts.f (k + 1) a0 a1 a2) := by
  intro a0 a1 a2 k
  obtain ⟨ih0, ih1, ih2, ih3, ih4⟩ := spec_l1Cur_parts.mono_l k
  unfold spec_l1Cur_parts.f
  repeat' first
      | (with_reducible exact ih0 _ _ _ _ _)
      | (with_reducible exact ih1 _ _ _ _ _ _)
      | (with_reducible exact ih2 _ _ _ _ _)
      | (with_reducible exact ih3 _ _ _ _)
      | (with_reducible exact ih4 _ _ _ _ _)
      | (with_reducible exact spec_SplitSecret.mono _ _ _)
      | (with_reducible exact spec_l1Cur_poly.mono _ _ _ _)
      | (with_reducible exact LeO.refl _)
      | (with_reducible exact LeO.none _)
      | (with_reducible refine LeO.ite ?_ ?_)
      | (with_reducible refine LeO.bind ?_ (fun _ => ?_))
      | exact ih0 _ _ _ _ _
      | exact ih1 _ _ _ _ _ _
      | exact ih2 _ _ _ _ _
      | exact ih3 _ _ _ _
      | exact ih4 _ _ _ _ _
      | exact spec_SplitSecret.mono _ _ _
      | exact spec_l1Cur_poly.mono _ _ _ _
      | exact LeO.none _
      | refine LeO.ite ?_ ?_
      | refine LeO.bind ?_ (fun _ => ?_)
set_option maxHeartbeats 8000000 in
set_option maxRecDepth 100000 in
theorem spec_l1Cur_parts.calls (k : Nat) (g : Nat) (s0_0 : List Int) (s0_1 : Int) (s0_2 : Int) (r1 : List (S46)) (r2 : Int) (r3 : Int) (w0 w : World) (hI : IsS54 w0 w g s0_0 s0_1 s0_2) (hB : Below w0.heap.size w0 w) (h : spec_l1Cur_parts.f k s0_0 s0_1 s0_2 = some (r1, r2, r3)) :
    Calls Try.prog 45 #[.pointer (some ⟨g, 0, none⟩)] w fun e w' => ∃ v0_ : Value, e = .returned (v0_) ∧ Kd.Q k46 46 w' w.heap.size (fun _ => True) v0_ r1 ∧ IsS54 w0 w' g s0_0 r2 r3 ∧ Below w0.heap.size w0 w' ∧ KeepBut w w' g none := by
  have hu46 := Try.underlying46
  have HI0 := Aside0.mk hI
  have HK := Aside0.mk (KeepBut.refl w g none)
  have HL := Aside0.mk hB.size
  clear hI
  have HW0 := Aside0.mk hB.size
  have HB := Aside0.mk hB
  clear hB
  have H : ((spec_l1Cur_poly.f k s0_0 s0_1 s0_2).bind fun bt257 => ((spec_l1Cur_pick.f s0_0 bt257.2.1 bt257.2.2 7).bind fun bt262 => ((spec_SplitSecret.f k bt257.1 (wrap64 (1 + bt262.1))).bind fun bt265 => ((spec_l1Cur_pick.f s0_0 bt262.2.1 bt262.2.2 4).bind fun bt269 => (spec_l1Cur_parts.l0 k bt265.1 bt269.1 s0_0 bt269.2.1 bt269.2.2))))) = some (r1, r2, r3) := h
  clear h
  replace H := Option.bind_eq_some_iff.mp H
  obtain ⟨⟨t257, t260, t261⟩, A20, H⟩ := H
  replace H : ((spec_l1Cur_pick.f s0_0 t260 t261 7).bind fun bt262 => ((spec_SplitSecret.f k t257 (wrap64 (1 + bt262.1))).bind fun bt265 => ((spec_l1Cur_pick.f s0_0 bt262.2.1 bt262.2.2 4).bind fun bt269 => (spec_l1Cur_parts.l0 k bt265.1 bt269.1 s0_0 bt269.2.1 bt269.2.2)))) = some (r1, r2, r3) := H
  have A2 := Aside0.mk A20
  clear A20
  replace H := Option.bind_eq_some_iff.mp H
  obtain ⟨⟨t262, t263, t264⟩, A30, H⟩ := H
  replace H : ((spec_SplitSecret.f k t257 (wrap64 (1 + t262))).bind fun bt265 => ((spec_l1Cur_pick.f s0_0 t263 t264 4).bind fun bt269 => (spec_l1Cur_parts.l0 k bt265.1 bt269.1 s0_0 bt269.2.1 bt269.2.2))) = some (r1, r2, r3) := H
  have A3 := Aside0.mk A30
  clear A30
  replace H := Option.bind_eq_some_iff.mp H
  obtain ⟨⟨t265, t266⟩, A40, H⟩ := H
  replace H : ((spec_l1Cur_pick.f s0_0 t263 t264 4).bind fun bt269 => (spec_l1Cur_parts.l0 k t265 bt269.1 s0_0 bt269.2.1 bt269.2.2)) = some (r1, r2, r3) := H
  have A4 := Aside0.mk A40
  clear A40
  replace H := Option.bind_eq_some_iff.mp H
  obtain ⟨⟨t269, t270, t271⟩, A50, H⟩ := H
  replace H : (spec_l1Cur_parts.l0 k t265 t269 s0_0 t270 t271) = some (r1, r2, r3) := H
  have A5 := Aside0.mk A50
  clear A50
  have H' := Aside0.mk H
  clear H
  go_enter Try.func45, Try.ntmps45
  go_wp2_with (first | ((with_reducible refine gate_callee (f := 32) rfl ?_); refine goesL_ (some 11) rfl rfl Try.func32 (by kernel_rfl) rfl #[.pointer (some ⟨g, 0, none⟩)] rfl (by (try simp only [List.map_toArray, List.map_cons, List.map_nil]); first | done | rfl | (simp only [List.length_drop, List.length_take]; rfl)) ?_; (with_reducible refine (spec_l1Cur_poly.calls k g s0_0 s0_1 s0_2 t257 t260 t261 w0 _ ?side1 ?side2 A2.out).mono ?_); (case side1 => first | ((repeat (first | (with_reducible first | exact HI0.out | apply IsS54.alloc | apply IsS54.drewN | apply IsS54.drew | apply IsS54.set_1 | apply IsS54.set_2) | exact HI0.out)); done) | (simp only [Int.add_zero]; repeat (first | (with_reducible first | exact HI0.out | apply IsS54.alloc | apply IsS54.drewN | apply IsS54.drew | apply IsS54.set_1 | apply IsS54.set_2) | exact HI0.out))); (case side2 => repeat (first | (with_reducible first | exact HB.out | apply below_alloc | apply pw_below_drewN | apply below_drew1 | refine below_set ?_ (IsS54.ge HI0.out)) | exact HB.out)); rintro e w6 ⟨v258, rfl, ho0, hi, hb, hk⟩; refine ⟨_, rfl, ?_⟩; have n0_ := Aside0.mk (Kd.R_lower ho0 (keep_size (w := w) (g := g) (row := none) (by repeat (first | (with_reducible first | exact HK.out | apply KeepBut.set_ | apply keep_drewN | apply keep_drew | apply keep_alloc) | exact HK.out)))); have n1_ := Aside0.mk (KeepBut.trans (by repeat (first | (with_reducible first | exact HK.out | apply KeepBut.set_ | apply keep_drewN | apply keep_drew | apply keep_alloc) | exact HK.out)) hk (.inl rfl)); have n2_ := Aside0.mk (hb); have n3_ := Aside0.mk (hi); clear HK; clear HB; clear HI0; have HO259 := n0_; have HK := n1_; have HB := n2_; have HI0 := n3_; clear n0_ n1_ n2_ n3_; (try clear hb); (try clear hb2); (try clear hk); (try clear hi); (try clear ho0)) | ((with_reducible refine gate_callee (f := 33) rfl ?_); refine goesL_ (some 13) rfl rfl Try.func33 (by kernel_rfl) rfl #[.pointer (some ⟨g, 0, none⟩), .int .i64 7] rfl (by (try simp only [List.map_toArray, List.map_cons, List.map_nil]); first | done | rfl | (simp only [List.length_drop, List.length_take]; rfl)) ?_; (with_reducible refine (spec_l1Cur_pick.calls g s0_0 t260 t261 7 t262 t263 t264 w0 _ ?side1 ?side2 A3.out).mono ?_); (case side1 => first | ((repeat (first | (with_reducible first | exact HI0.out | apply IsS54.alloc | apply IsS54.drewN | apply IsS54.drew | apply IsS54.set_1 | apply IsS54.set_2) | exact HI0.out)); done) | (simp only [Int.add_zero]; repeat (first | (with_reducible first | exact HI0.out | apply IsS54.alloc | apply IsS54.drewN | apply IsS54.drew | apply IsS54.set_1 | apply IsS54.set_2) | exact HI0.out))); (case side2 => repeat (first | (with_reducible first | exact HB.out | apply below_alloc | apply pw_below_drewN | apply below_drew1 | refine below_set ?_ (IsS54.ge HI0.out)) | exact HB.out)); rintro e w7 ⟨rfl, hi, hb, hk⟩; refine ⟨_, rfl, ?_⟩; have n0_ := Aside0.mk (Kd.R_mono (Kd.R_keep (IsS54.apart (show IsS54 w0 _ g s0_0 t260 t261 from by first | ((repeat (first | (with_reducible first | exact HI0.out | apply IsS54.alloc | apply IsS54.drewN | apply IsS54.drew | apply IsS54.set_1 | apply IsS54.set_2) | exact HI0.out)); done) | (simp only [Int.add_zero]; repeat (first | (with_reducible first | exact HI0.out | apply IsS54.alloc | apply IsS54.drewN | apply IsS54.drew | apply IsS54.set_1 | apply IsS54.set_2) | exact HI0.out))) (by (with_reducible repeat (first | apply Kd.R_alloc | apply Kd.R_drewN | apply Kd.R_drew)); exact HO259.out) (by decide)) hk (fun _ h => h.2)) (fun _ h => h.1)); have n1_ := Aside0.mk (KeepBut.trans (by repeat (first | (with_reducible first | exact HK.out | apply KeepBut.set_ | apply keep_drewN | apply keep_drew | apply keep_alloc) | exact HK.out)) hk (.inl rfl)); have n2_ := Aside0.mk (hb); have n3_ := Aside0.mk (hi); clear HO259; clear HK; clear HB; clear HI0; have HO259 := n0_; have HK := n1_; have HB := n2_; have HI0 := n3_; clear n0_ n1_ n2_ n3_; (try clear hb); (try clear hb2); (try clear hk); (try clear hi); obtain ⟨Ao8, co8, eo8⟩ := Kd.R_slice HO259.out; subst eo8) | ((with_reducible refine gate_callee (f := 7) rfl ?_); refine goesL_ (some 15) rfl rfl Try.func7 (by kernel_rfl) rfl #[.slice Ao8 t257.length co8, .int .i64 (wrap64 (1 + t262))] rfl (by (try simp only [List.map_toArray, List.map_cons, List.map_nil]); first | done | rfl | (simp only [List.length_drop, List.length_take]; rfl)) ?_; (with_reducible refine (spec_SplitSecret.calls k _ _ t257 (wrap64 (1 + t262)) t265 t266 _ ?side1 ?side2 A4.out).mono ?_); (case side1 => repeat (first | exact (Kd.R_reads' HO259.out).2.2 | (with_reducible refine Kd.C_alloc ?_ _) | (with_reducible refine Kd.C_drewN ?_ _) | (with_reducible refine Kd.C_drew ?_))); (case side2 => exact (Kd.R_reads' HO259.out).2.1); rintro e w9 ⟨v267, rfl, ho0, hb⟩; refine ⟨_, rfl, ?_⟩; have n0_ := Aside0.mk (Kd.R_below (by (with_reducible repeat (first | apply Kd.R_alloc | apply Kd.R_drewN | apply Kd.R_drew)); exact HO259.out) hb); have n1_ := Aside0.mk (Kd.R_lower ho0 (keep_size (w := w) (g := g) (row := none) (by repeat (first | (with_reducible first | exact HK.out | apply KeepBut.set_ | apply keep_drewN | apply keep_drew | apply keep_alloc) | exact HK.out)))); have n2_ := Aside0.mk (IsS54.below (by first | ((repeat (first | (with_reducible first | exact HI0.out | apply IsS54.alloc | apply IsS54.drewN | apply IsS54.drew | apply IsS54.set_1 | apply IsS54.set_2) | exact HI0.out)); done) | (simp only [Int.add_zero]; repeat (first | (with_reducible first | exact HI0.out | apply IsS54.alloc | apply IsS54.drewN | apply IsS54.drew | apply IsS54.set_1 | apply IsS54.set_2) | exact HI0.out))) hb); have n3_ := Aside0.mk (KeepBut.trans (by repeat (first | (with_reducible first | exact HK.out | apply KeepBut.set_ | apply keep_drewN | apply keep_drew | apply keep_alloc) | exact HK.out)) (KeepBut.of_below hb g none) (.inl rfl)); have n4_ := Aside0.mk (below_step (by repeat (first | (with_reducible first | exact HB.out | apply below_alloc | apply pw_below_drewN | apply below_drew1 | refine below_set ?_ (IsS54.ge HI0.out)) | exact HB.out)) hb); clear HO259; clear HI0; clear HK; clear HB; have HO259 := n0_; have HO268 := n1_; have HI0 := n2_; have HK := n3_; have HB := n4_; clear n0_ n1_ n2_ n3_ n4_; (try clear hb); (try clear hb2); (try clear hk); (try clear hi); (try clear ho0)) | ((with_reducible refine gate_callee (f := 33) rfl ?_); refine goesL_ (some 19) rfl rfl Try.func33 (by kernel_rfl) rfl #[.pointer (some ⟨g, 0, none⟩), .int .i64 4] rfl (by (try simp only [List.map_toArray, List.map_cons, List.map_nil]); first | done | rfl | (simp only [List.length_drop, List.length_take]; rfl)) ?_; (with_reducible refine (spec_l1Cur_pick.calls g s0_0 t263 t264 4 t269 t270 t271 w0 _ ?side1 ?side2 A5.out).mono ?_); (case side1 => first | ((repeat (first | (with_reducible first | exact HI0.out | apply IsS54.alloc | apply IsS54.drewN | apply IsS54.drew | apply IsS54.set_1 | apply IsS54.set_2) | exact HI0.out)); done) | (simp only [Int.add_zero]; repeat (first | (with_reducible first | exact HI0.out | apply IsS54.alloc | apply IsS54.drewN | apply IsS54.drew | apply IsS54.set_1 | apply IsS54.set_2) | exact HI0.out))); (case side2 => repeat (first | (with_reducible first | exact HB.out | apply below_alloc | apply pw_below_drewN | apply below_drew1 | refine below_set ?_ (IsS54.ge HI0.out)) | exact HB.out)); rintro e w10 ⟨rfl, hi, hb, hk⟩; refine ⟨_, rfl, ?_⟩; have n0_ := Aside0.mk (Kd.R_mono (Kd.R_keep (IsS54.apart (show IsS54 w0 _ g s0_0 t263 t264 from by first | ((repeat (first | (with_reducible first | exact HI0.out | apply IsS54.alloc | apply IsS54.drewN | apply IsS54.drew | apply IsS54.set_1 | apply IsS54.set_2) | exact HI0.out)); done) | (simp only [Int.add_zero]; repeat (first | (with_reducible first | exact HI0.out | apply IsS54.alloc | apply IsS54.drewN | apply IsS54.drew | apply IsS54.set_1 | apply IsS54.set_2) | exact HI0.out))) (by (with_reducible repeat (first | apply Kd.R_alloc | apply Kd.R_drewN | apply Kd.R_drew)); exact HO259.out) (by decide)) hk (fun _ h => h.2)) (fun _ h => h.1)); have n1_ := Aside0.mk (Kd.R_mono (Kd.R_keep (IsS54.apart (show IsS54 w0 _ g s0_0 t263 t264 from by first | ((repeat (first | (with_reducible first | exact HI0.out | apply IsS54.alloc | apply IsS54.drewN | apply IsS54.drew | apply IsS54.set_1 | apply IsS54.set_2) | exact HI0.out)); done) | (simp only [Int.add_zero]; repeat (first | (with_reducible first | exact HI0.out | apply IsS54.alloc | apply IsS54.drewN | apply IsS54.drew | apply IsS54.set_1 | apply IsS54.set_2) | exact HI0.out))) (by (with_reducible repeat (first | apply Kd.R_alloc | apply Kd.R_drewN | apply Kd.R_drew)); exact HO268.out) (by decide)) hk (fun _ h => h.2)) (fun _ h => h.1)); have n2_ := Aside0.mk (KeepBut.trans (by repeat (first | (with_reducible first | exact HK.out | apply KeepBut.set_ | apply keep_drewN | apply keep_drew | apply keep_alloc) | exact HK.out)) hk (.inl rfl)); have n3_ := Aside0.mk (hb); have n4_ := Aside0.mk (hi); clear HO259; clear HO268; clear HK; clear HB; clear HI0; have HO259 := n0_; have HO268 := n1_; have HK := n2_; have HB := n3_; have HI0 := n4_; clear n0_ n1_ n2_ n3_ n4_; (try clear hb); (try clear hb2); (try clear hk); (try clear hi)))
  go_loopg [5] k (fun kq v5 w' => ∃ (x3_1 : List (S46)) (x5_1 : Int) (x1001_1 : Int) (x1002_1 : Int), v5 = .int .i64 x5_1 ∧ Aside0 (spec_l1Cur_parts.l0 kq x3_1 x5_1 s0_0 x1001_1 x1002_1 = some (r1, r2, r3)) ∧ Aside0 (kq ≤ k) ∧ Aside0 (Kd.Q k46 46 w' w.heap.size (fun _ => True) v267 x3_1) ∧ Aside0 (IsS54 w0 w' g s0_0 x1001_1 x1002_1) ∧ Aside0 (KeepBut w w' g none) ∧ Aside0 (Below w0.heap.size w0 w'))
  case atStart => exact ⟨(t265), (t269), (t270), (t271), (by first | rfl | (simp; done) | (simp [*]; done)), H', ⟨Nat.le_refl _⟩, ⟨Kd.Q_of_R (by (with_reducible repeat (first | apply Kd.R_alloc | apply Kd.R_drewN | apply Kd.R_drew)); exact HO268.out)⟩, ⟨by first | ((repeat (first | (with_reducible first | exact HI0.out | apply IsS54.alloc | apply IsS54.drewN | apply IsS54.drew | apply IsS54.set_1 | apply IsS54.set_2) | exact HI0.out)); done) | (simp only [Int.add_zero]; repeat (first | (with_reducible first | exact HI0.out | apply IsS54.alloc | apply IsS54.drewN | apply IsS54.drew | apply IsS54.set_1 | apply IsS54.set_2) | exact HI0.out))⟩, ⟨by repeat (first | (with_reducible first | exact HK.out | apply KeepBut.set_ | apply keep_drewN | apply keep_drew | apply keep_alloc) | exact HK.out)⟩, ⟨by repeat (first | (with_reducible first | exact HB.out | apply below_alloc | apply pw_below_drewN | apply below_drew1 | refine below_set ?_ (IsS54.ge HI0.out)) | exact HB.out)⟩⟩
  case round =>
    clear H'
    try clear p2
    try clear c3
    try clear c4
    try clear p6
    try clear c7
    obtain ⟨x3_1, x5_1, x1001_1, x1002_1, rfl, HA, HK1, HO_3, HI0, HK, HB⟩ := hrel
    cases gk with
    | zero => exact absurd HA.out (by simp [spec_l1Cur_parts.l0])
    | succ k1 =>
      have H := HA.out
      clear HA
      simp only [spec_l1Cur_parts.l0] at H
      have HC11 := Aside0.mk H
      clear H
      go_upto_region 3 with (fail)
      go_cut [26] (fun v26 wc => ∃ (kq : Nat) (x26_10 : Bool), v26 = .bool x26_10 ∧ Aside0 (spec_l1Cur_parts.j1 kq x3_1 x5_1 x26_10 s0_0 x1001_1 x1002_1 = some (r1, r2, r3)) ∧ Aside0 (kq ≤ k1) ∧ Aside0 (Kd.Q k46 46 wc w.heap.size (fun _ => True) v267 x3_1) ∧ Aside0 (IsS54 w0 wc g s0_0 x1001_1 x1002_1) ∧ Aside0 (KeepBut w wc g none) ∧ Aside0 (Below w0.heap.size w0 wc))
      case first =>
        have H := HC11.out
        clear HC11
        by_cases c12 : x5_1 > 0
        · rw [if_pos c12] at H
          have c12b0 : decide (0 < x5_1) = true := decide_eq_true c12
          clear c12
          (first | rw [c12b0] | (simp only [i64_w, i32_w]; rw [c12b0]) | skip)
          have H' := Aside0.mk H
          clear H
          obtain ⟨Ao13, co13, eo13, _⟩ := Kd.Q_slice HO_3.out
          subst eo13
          go_wp2
          go_meet
          case rel => exact ⟨_, (decide ((x3_1.length : Int) > 1)), (by first | rfl | (simp; done) | (simp [*]; done)), H', ⟨by have := HK1.out; first | omega | exact Nat.le_refl _⟩, ⟨by (with_reducible repeat (first | apply Kd.Q_alloc | apply Kd.Q_drewN | apply Kd.Q_drew)); exact HO_3.out⟩, ⟨by first | ((repeat (first | (with_reducible first | exact HI0.out | apply IsS54.alloc | apply IsS54.drewN | apply IsS54.drew | apply IsS54.set_1 | apply IsS54.set_2) | exact HI0.out)); done) | (simp only [Int.add_zero]; repeat (first | (with_reducible first | exact HI0.out | apply IsS54.alloc | apply IsS54.drewN | apply IsS54.drew | apply IsS54.set_1 | apply IsS54.set_2) | exact HI0.out))⟩, ⟨by repeat (first | (with_reducible first | exact HK.out | apply KeepBut.set_ | apply keep_drewN | apply keep_drew | apply keep_alloc) | exact HK.out)⟩, ⟨by repeat (first | (with_reducible first | exact HB.out | apply below_alloc | apply pw_below_drewN | apply below_drew1 | refine below_set ?_ (IsS54.ge HI0.out)) | exact HB.out)⟩⟩
        · rw [if_neg c12] at H
          have c12b0 : decide (0 < x5_1) = false := decide_eq_false c12
          clear c12
          (first | rw [c12b0] | (simp only [i64_w, i32_w]; rw [c12b0]) | skip)
          have H' := Aside0.mk H
          clear H
          go_wp2
          go_meet
          case rel => exact ⟨_, (false), (by first | rfl | (simp; done) | (simp [*]; done)), H', ⟨by have := HK1.out; first | omega | exact Nat.le_refl _⟩, ⟨by (with_reducible repeat (first | apply Kd.Q_alloc | apply Kd.Q_drewN | apply Kd.Q_drew)); exact HO_3.out⟩, ⟨by first | ((repeat (first | (with_reducible first | exact HI0.out | apply IsS54.alloc | apply IsS54.drewN | apply IsS54.drew | apply IsS54.set_1 | apply IsS54.set_2) | exact HI0.out)); done) | (simp only [Int.add_zero]; repeat (first | (with_reducible first | exact HI0.out | apply IsS54.alloc | apply IsS54.drewN | apply IsS54.drew | apply IsS54.set_1 | apply IsS54.set_2) | exact HI0.out))⟩, ⟨by repeat (first | (with_reducible first | exact HK.out | apply KeepBut.set_ | apply keep_drewN | apply keep_drew | apply keep_alloc) | exact HK.out)⟩, ⟨by repeat (first | (with_reducible first | exact HB.out | apply below_alloc | apply pw_below_drewN | apply below_drew1 | refine below_set ?_ (IsS54.ge HI0.out)) | exact HB.out)⟩⟩
      case rest =>
        clear HC11
        try clear c1
        try clear p2
        try clear c3
        try clear c4
        try clear p6
        try clear c7
        try clear c12
        try clear c12b0
        try clear p2
        try clear p6
        obtain ⟨kq, x26_10, rfl, HA, HJ10, HO_3, HI0, HK, HB⟩ := hcut
        cases kq with
        | zero => exact absurd HA.out (by simp [spec_l1Cur_parts.j1])
        | succ kj10 =>
          have H := HA.out
          clear HA
          simp only [spec_l1Cur_parts.j1] at H
          by_cases c14 : x26_10 = true
          · subst c14
            have H1 : ((spec_l1Cur_pick.f s0_0 x1001_1 x1002_1 (x3_1.length : Int)).bind fun bt272 => ((spec_l1Cur_pick.f s0_0 bt272.2.1 bt272.2.2 (x3_1.length : Int)).bind fun bt275 => (if 0 ≤ bt272.1 then (if bt272.1 < (x3_1.length : Int) then (if 0 ≤ bt275.1 then (if bt275.1 < (x3_1.length : Int) then (spec_l1Cur_parts.l0 kj10 ((x3_1.set (bt272.1 : Int).toNat (⟨(rd_T46 x3_1 bt275.1).f0, (rd_T46 x3_1 bt275.1).f1⟩ : S46)).set (bt275.1 : Int).toNat (⟨(rd_T46 x3_1 bt272.1).f0, (rd_T46 x3_1 bt272.1).f1⟩ : S46)) (wrap64 (x5_1 - 1)) s0_0 bt275.2.1 bt275.2.2) else (none)) else (none)) else (none)) else (none)))) = some (r1, r2, r3) := by rw [if_pos rfl] at H; exact H
            clear H
            have H := H1
            clear H1
            replace H := Option.bind_eq_some_iff.mp H
            obtain ⟨⟨t272, t273, t274⟩, A150, H⟩ := H
            replace H : ((spec_l1Cur_pick.f s0_0 t273 t274 (x3_1.length : Int)).bind fun bt275 => (if 0 ≤ t272 then (if t272 < (x3_1.length : Int) then (if 0 ≤ bt275.1 then (if bt275.1 < (x3_1.length : Int) then (spec_l1Cur_parts.l0 kj10 ((x3_1.set (t272 : Int).toNat (⟨(rd_T46 x3_1 bt275.1).f0, (rd_T46 x3_1 bt275.1).f1⟩ : S46)).set (bt275.1 : Int).toNat (⟨(rd_T46 x3_1 t272).f0, (rd_T46 x3_1 t272).f1⟩ : S46)) (wrap64 (x5_1 - 1)) s0_0 bt275.2.1 bt275.2.2) else (none)) else (none)) else (none)) else (none))) = some (r1, r2, r3) := H
            have A15 := Aside0.mk A150
            clear A150
            replace H := Option.bind_eq_some_iff.mp H
            obtain ⟨⟨t275, t276, t277⟩, A160, H⟩ := H
            replace H : (if 0 ≤ t272 then (if t272 < (x3_1.length : Int) then (if 0 ≤ t275 then (if t275 < (x3_1.length : Int) then (spec_l1Cur_parts.l0 kj10 ((x3_1.set (t272 : Int).toNat (⟨(rd_T46 x3_1 t275).f0, (rd_T46 x3_1 t275).f1⟩ : S46)).set (t275 : Int).toNat (⟨(rd_T46 x3_1 t272).f0, (rd_T46 x3_1 t272).f1⟩ : S46)) (wrap64 (x5_1 - 1)) s0_0 t276 t277) else (none)) else (none)) else (none)) else (none)) = some (r1, r2, r3) := H
            have A16 := Aside0.mk A160
            clear A160
            by_cases c17 : 0 ≤ t272
            · rw [if_pos c17] at H
              have c17b0 : decide (0 ≤ t272) = true := decide_eq_true c17
              clear c17
              by_cases c18 : t272 < (x3_1.length : Int)
              · rw [if_pos c18] at H
                have c18b0 : decide (t272 < (x3_1.length : Int)) = true := decide_eq_true c18
                clear c18
                by_cases c19 : 0 ≤ t275
                · rw [if_pos c19] at H
                  have c19b0 : decide (0 ≤ t275) = true := decide_eq_true c19
                  clear c19
                  by_cases c20 : t275 < (x3_1.length : Int)
                  · rw [if_pos c20] at H
                    have c20b0 : decide (t275 < (x3_1.length : Int)) = true := decide_eq_true c20
                    clear c20
                    obtain ⟨y281, hy281⟩ : ∃ y_ : List (S46), y_ = (x3_1.set (t272 : Int).toNat (⟨(rd_T46 x3_1 t275).f0, (rd_T46 x3_1 t275).f1⟩ : S46)) := ⟨_, rfl⟩
                    replace H : (spec_l1Cur_parts.l0 kj10 (y281.set (t275 : Int).toNat (⟨(rd_T46 x3_1 t272).f0, (rd_T46 x3_1 t272).f1⟩ : S46)) (wrap64 (x5_1 - 1)) s0_0 t276 t277) = some (r1, r2, r3) := by first | (rw [hy281]; with_reducible exact H) | (have H2_ := (Option.bind_some _ _).symm.trans H; rw [hy281]; with_reducible exact H2_) | (have H2_ := (Option.bind_some _ _).symm.trans H; with_reducible exact H2_) | with_reducible exact H | (rw [hy281]; exact H) | exact H
                    have Ny281 := Aside0.mk hy281
                    clear hy281
                    obtain ⟨y282, hy282⟩ : ∃ y_ : List (S46), y_ = (y281.set (t275 : Int).toNat (⟨(rd_T46 x3_1 t272).f0, (rd_T46 x3_1 t272).f1⟩ : S46)) := ⟨_, rfl⟩
                    replace H : (spec_l1Cur_parts.l0 kj10 y282 (wrap64 (x5_1 - 1)) s0_0 t276 t277) = some (r1, r2, r3) := by first | (rw [hy282]; with_reducible exact H) | (have H2_ := (Option.bind_some _ _).symm.trans H; rw [hy282]; with_reducible exact H2_) | (have H2_ := (Option.bind_some _ _).symm.trans H; with_reducible exact H2_) | with_reducible exact H | (rw [hy282]; exact H) | exact H
                    have Ny282 := Aside0.mk hy282
                    clear hy282
                    have H' := Aside0.mk H
                    clear H
                    obtain ⟨Ao23, co23, eo23, _⟩ := Kd.Q_slice HO_3.out
                    subst eo23
                    go_wp2_with (first | ((with_reducible refine gate_callee (f := 33) rfl ?_); refine goesL_ (some 32) rfl rfl Try.func33 (by kernel_rfl) rfl #[.pointer (some ⟨g, 0, none⟩), .int .i64 (x3_1.length : Int)] rfl (by (try simp only [List.map_toArray, List.map_cons, List.map_nil]); first | done | rfl | (simp only [List.length_drop, List.length_take]; rfl)) ?_; (with_reducible refine (spec_l1Cur_pick.calls g s0_0 x1001_1 x1002_1 (x3_1.length : Int) t272 t273 t274 w0 _ ?side1 ?side2 A15.out).mono ?_); (case side1 => first | ((repeat (first | (with_reducible first | exact HI0.out | apply IsS54.alloc | apply IsS54.drewN | apply IsS54.drew | apply IsS54.set_1 | apply IsS54.set_2) | exact HI0.out)); done) | (simp only [Int.add_zero]; repeat (first | (with_reducible first | exact HI0.out | apply IsS54.alloc | apply IsS54.drewN | apply IsS54.drew | apply IsS54.set_1 | apply IsS54.set_2) | exact HI0.out))); (case side2 => repeat (first | (with_reducible first | exact HB.out | apply below_alloc | apply pw_below_drewN | apply below_drew1 | refine below_set ?_ (IsS54.ge HI0.out)) | exact HB.out)); rintro e w24 ⟨rfl, hi, hb, hk⟩; refine ⟨_, rfl, ?_⟩; have n0_ := Aside0.mk (Kd.Q_mono (Kd.Q_keep (IsS54.apartQ (show IsS54 w0 _ g s0_0 x1001_1 x1002_1 from by first | ((repeat (first | (with_reducible first | exact HI0.out | apply IsS54.alloc | apply IsS54.drewN | apply IsS54.drew | apply IsS54.set_1 | apply IsS54.set_2) | exact HI0.out)); done) | (simp only [Int.add_zero]; repeat (first | (with_reducible first | exact HI0.out | apply IsS54.alloc | apply IsS54.drewN | apply IsS54.drew | apply IsS54.set_1 | apply IsS54.set_2) | exact HI0.out))) (by (with_reducible repeat (first | apply Kd.Q_alloc | apply Kd.Q_drewN | apply Kd.Q_drew)); exact HO_3.out) (by decide)) hk (fun _ h => h.2)) (fun _ h => h.1)); have n1_ := Aside0.mk (KeepBut.trans (by repeat (first | (with_reducible first | exact HK.out | apply KeepBut.set_ | apply keep_drewN | apply keep_drew | apply keep_alloc) | exact HK.out)) hk (.inl rfl)); have n2_ := Aside0.mk (hb); have n3_ := Aside0.mk (hi); clear HO_3; clear HK; clear HB; clear HI0; have HO_3 := n0_; have HK := n1_; have HB := n2_; have HI0 := n3_; clear n0_ n1_ n2_ n3_; (try clear hb); (try clear hb2); (try clear hk); (try clear hi)) | ((with_reducible refine gate_callee (f := 33) rfl ?_); refine goesL_ (some 36) rfl rfl Try.func33 (by kernel_rfl) rfl #[.pointer (some ⟨g, 0, none⟩), .int .i64 (x3_1.length : Int)] rfl (by (try simp only [List.map_toArray, List.map_cons, List.map_nil]); first | done | rfl | (simp only [List.length_drop, List.length_take]; rfl)) ?_; (with_reducible refine (spec_l1Cur_pick.calls g s0_0 t273 t274 (x3_1.length : Int) t275 t276 t277 w0 _ ?side1 ?side2 A16.out).mono ?_); (case side1 => first | ((repeat (first | (with_reducible first | exact HI0.out | apply IsS54.alloc | apply IsS54.drewN | apply IsS54.drew | apply IsS54.set_1 | apply IsS54.set_2) | exact HI0.out)); done) | (simp only [Int.add_zero]; repeat (first | (with_reducible first | exact HI0.out | apply IsS54.alloc | apply IsS54.drewN | apply IsS54.drew | apply IsS54.set_1 | apply IsS54.set_2) | exact HI0.out))); (case side2 => repeat (first | (with_reducible first | exact HB.out | apply below_alloc | apply pw_below_drewN | apply below_drew1 | refine below_set ?_ (IsS54.ge HI0.out)) | exact HB.out)); rintro e w25 ⟨rfl, hi, hb, hk⟩; refine ⟨_, rfl, ?_⟩; have n0_ := Aside0.mk (Kd.Q_mono (Kd.Q_keep (IsS54.apartQ (show IsS54 w0 _ g s0_0 t273 t274 from by first | ((repeat (first | (with_reducible first | exact HI0.out | apply IsS54.alloc | apply IsS54.drewN | apply IsS54.drew | apply IsS54.set_1 | apply IsS54.set_2) | exact HI0.out)); done) | (simp only [Int.add_zero]; repeat (first | (with_reducible first | exact HI0.out | apply IsS54.alloc | apply IsS54.drewN | apply IsS54.drew | apply IsS54.set_1 | apply IsS54.set_2) | exact HI0.out))) (by (with_reducible repeat (first | apply Kd.Q_alloc | apply Kd.Q_drewN | apply Kd.Q_drew)); exact HO_3.out) (by decide)) hk (fun _ h => h.2)) (fun _ h => h.1)); have n1_ := Aside0.mk (KeepBut.trans (by repeat (first | (with_reducible first | exact HK.out | apply KeepBut.set_ | apply keep_drewN | apply keep_drew | apply keep_alloc) | exact HK.out)) hk (.inl rfl)); have n2_ := Aside0.mk (hb); have n3_ := Aside0.mk (hi); clear HO_3; clear HK; clear HB; clear HI0; have HO_3 := n0_; have HK := n1_; have HB := n2_; have HI0 := n3_; clear n0_ n1_ n2_ n3_; (try clear hb); (try clear hb2); (try clear hk); (try clear hi); have p278 : 0 ≤ (t272 : Int) := of_decide_eq_true (by first | (with_reducible assumption) | assumption); have q278 : t272 < (x3_1.length : Int) := of_decide_eq_true (by first | (with_reducible assumption) | assumption); obtain ⟨ad278, e278, hx278_0, hx278_1⟩ := at_T46 (Kd.Q_reads' HO_3.out).2.2 t272 p278 q278; cases e278; replace p278 := eq_true p278; replace q278 := eq_true q278) | ((with_reducible refine gate_dst (N := 8) rfl ?_); (try (refine gate_guard (by rfl) ?_; dsimp only)); refine box_event ?hg (N := 8) ?hd (cs := #[.int .i64 0, .int .i64 0]) (t := 46) ?hr ?_; (case hd => rfl); (case hg => rfl); (case hr => first | (go_simp; done) | (go_simp; rfl)); intro gb279 hg w26 hbox hb; have n0_ := Aside0.mk (Kd.Q_below (Kd.Q_elderB (by (with_reducible repeat (first | apply Kd.Q_alloc | apply Kd.Q_drewN | apply Kd.Q_drew)); exact HO_3.out) gb279 (Nat.le_of_eq hg.symm)) hb); have n1_ := Aside0.mk (IsS54.below (by first | ((repeat (first | (with_reducible first | exact HI0.out | apply IsS54.alloc | apply IsS54.drewN | apply IsS54.drew | apply IsS54.set_1 | apply IsS54.set_2) | exact HI0.out)); done) | (simp only [Int.add_zero]; repeat (first | (with_reducible first | exact HI0.out | apply IsS54.alloc | apply IsS54.drewN | apply IsS54.drew | apply IsS54.set_1 | apply IsS54.set_2) | exact HI0.out))) hb); have n2_ := Aside0.mk (KeepBut.trans (by repeat (first | (with_reducible first | exact HK.out | apply KeepBut.set_ | apply keep_drewN | apply keep_drew | apply keep_alloc) | exact HK.out)) (KeepBut.of_below hb g none) (.inl rfl)); have n3_ := Aside0.mk (below_step (by repeat (first | (with_reducible first | exact HB.out | apply below_alloc | apply pw_below_drewN | apply below_drew1 | refine below_set ?_ (IsS54.ge HI0.out)) | exact HB.out)) hb); have n4_ := Aside0.mk (hbox); have n5_ := Aside0.mk ((by rw [hg]; exact (keep_size (w := w) (g := g) (row := none) (by repeat (first | (with_reducible first | exact HK.out | apply KeepBut.set_ | apply keep_drewN | apply keep_drew | apply keep_alloc) | exact HK.out))) : w.heap.size ≤ gb279)); have n6_ := Aside0.mk ((Nat.le_trans HW0.out (by rw [hg]; exact (keep_size (w := w) (g := g) (row := none) (by repeat (first | (with_reducible first | exact HK.out | apply KeepBut.set_ | apply keep_drewN | apply keep_drew | apply keep_alloc) | exact HK.out))) : w.heap.size ≤ gb279) : w0.heap.size ≤ gb279)); have n7_ := Aside0.mk ((by rw [hg]; exact Nat.ne_of_lt (IsS54.lt (show IsS54 w0 _ g s0_0 t276 t277 from by first | ((repeat (first | (with_reducible first | exact HI0.out | apply IsS54.alloc | apply IsS54.drewN | apply IsS54.drew | apply IsS54.set_1 | apply IsS54.set_2) | exact HI0.out)); done) | (simp only [Int.add_zero]; repeat (first | (with_reducible first | exact HI0.out | apply IsS54.alloc | apply IsS54.drewN | apply IsS54.drew | apply IsS54.set_1 | apply IsS54.set_2) | exact HI0.out)))) : g ≠ gb279)); have n8_ := Aside0.mk ((by rw [hg]; exact Nat.ne_of_gt (IsS54.lt (show IsS54 w0 _ g s0_0 t276 t277 from by first | ((repeat (first | (with_reducible first | exact HI0.out | apply IsS54.alloc | apply IsS54.drewN | apply IsS54.drew | apply IsS54.set_1 | apply IsS54.set_2) | exact HI0.out)); done) | (simp only [Int.add_zero]; repeat (first | (with_reducible first | exact HI0.out | apply IsS54.alloc | apply IsS54.drewN | apply IsS54.drew | apply IsS54.set_1 | apply IsS54.set_2) | exact HI0.out)))) : gb279 ≠ g)); clear HO_3; clear HI0; clear HK; clear HB; have HO_3 := n0_; have HI0 := n1_; have HK := n2_; have HB := n3_; have BK279 := n4_; have GW279 := n5_; have GE279 := n6_; have NB0_279 := n7_; have NB279_0 := n8_; clear n0_ n1_ n2_ n3_ n4_ n5_ n6_ n7_ n8_; clear hb hbox hg; have hnb27 := NB279_0.out; have hnc27 := NB0_279.out; have hcz28_0 : w26.cell? ⟨gb279, 0, none⟩ = some (.int .i64 0) := (blk_cell BK279.out 0).trans rfl; have hcz28_1 : w26.cell? ⟨gb279, 1, none⟩ = some (.int .i64 0) := (blk_cell BK279.out 1).trans rfl; have hfz28_0 := blk_frozen BK279.out 0; have hfz28_1 := blk_frozen BK279.out 1) | ((with_reducible refine gate_store (t := 46) (p := 8) rfl ?_); refine store_event (t := 46) (p := 8) (v := ?vo_w29) (w1 := ((w26.setCell ⟨gb279, 0, none⟩ (.int .i64 ((rd_T46 x3_1 t272).f0))).setCell ⟨gb279, 1, none⟩ (.int .i64 ((rd_T46 x3_1 t272).f1)))) ?hg ?ho ?hn ?hr ?_; (case ho => rfl); (case hg => rfl); (case hn => rfl); (case hr => first | (go_simp; done) | (go_simp; rfl)); intro w29 hw; have n0_ : Aside0 (Kd.Q k46 46 w29 w.heap.size (fun k_ => k_ ≠ gb279) (.slice (some ad278) x3_1.length co23) x3_1) := ⟨(by rw [hw]; exact (by (with_reducible repeat (first | apply Kd.Q_alloc | apply Kd.Q_drewN | apply Kd.Q_drew)); exact Kd.Q_mono (Kd.Q_far (p := ⟨gb279, 1, none⟩) (Kd.Q_far (p := ⟨gb279, 0, none⟩) (Kd.Q_mono HO_3.out (fun k_ hk => (⟨hk, hk.2⟩ : _ ∧ k_ ≠ gb279))) (fun _ hk => hk.2) (.int .i64 ((rd_T46 x3_1 t272).f0))) (fun _ hk => hk.2) (.int .i64 ((rd_T46 x3_1 t272).f1))) (fun _ hk => hk.1.2)))⟩; have n1_ : Aside0 (w29.heap[gb279]? = some (.cells #[.int .i64 ((rd_T46 x3_1 t272).f0), .int .i64 ((rd_T46 x3_1 t272).f1)] 46 (0, 0))) := ⟨(by rw [hw]; exact (by (with_reducible repeat (first | refine blk_drewN ?_ _ | refine blk_drew ?_ | refine blk_alloc ?_ _)); refine blk_put (cs := #[.int .i64 ((rd_T46 x3_1 t272).f0), .int .i64 0]) ?_ 1 _ rfl; (with_reducible repeat (first | refine blk_drewN ?_ _ | refine blk_drew ?_ | refine blk_alloc ?_ _)); refine blk_put (cs := #[.int .i64 0, .int .i64 0]) ?_ 0 _ rfl; (with_reducible repeat (first | refine blk_drewN ?_ _ | refine blk_drew ?_ | refine blk_alloc ?_ _)); exact BK279.out))⟩; have n2_ : Aside0 (IsS54 w0 w29 g s0_0 t276 t277) := ⟨(by rw [hw]; exact (by first | ((repeat (first | (with_reducible first | exact HI0.out | apply IsS54.alloc | apply IsS54.drewN | apply IsS54.drew | apply IsS54.set_1 | apply IsS54.set_2 | refine IsS54.far ?_ NB0_279.out _ | refine IsS54.far (p := ⟨gb279, _, _⟩) ?_ NB0_279.out _) | exact HI0.out)); done) | (simp only [Int.add_zero]; repeat (first | (with_reducible first | exact HI0.out | apply IsS54.alloc | apply IsS54.drewN | apply IsS54.drew | apply IsS54.set_1 | apply IsS54.set_2 | refine IsS54.far ?_ NB0_279.out _ | refine IsS54.far (p := ⟨gb279, _, _⟩) ?_ NB0_279.out _) | exact HI0.out))))⟩; have n3_ : Aside0 (KeepBut w w29 g none) := ⟨(by rw [hw]; exact (by repeat (first | (with_reducible first | exact HK.out | apply KeepBut.set_ | apply keep_drewN | apply keep_drew | apply keep_alloc | refine keep_far ?_ GW279.out _) | exact HK.out)))⟩; have n4_ : Aside0 (Below w0.heap.size w0 w29) := ⟨(by rw [hw]; exact (by repeat (first | (with_reducible first | exact HB.out | apply below_alloc | apply pw_below_drewN | apply below_drew1 | refine below_set ?_ (IsS54.ge HI0.out) | refine below_set ?_ GE279.out) | exact HB.out)))⟩; clear hw; clear HO_3; clear BK279; clear HI0; clear HK; clear HB; have HO_3 := n0_; have BK279 := n1_; have HI0 := n2_; have HK := n3_; have HB := n4_; clear n0_ n1_ n2_ n3_ n4_; have p280 : 0 ≤ (t275 : Int) := of_decide_eq_true (by first | (with_reducible assumption) | assumption); have q280 : t275 < (x3_1.length : Int) := of_decide_eq_true (by first | (with_reducible assumption) | assumption); obtain ⟨ad280, e280, hx280_0, hx280_1⟩ := at_T46 (Kd.Q_reads' HO_3.out).2.2 t275 p280 q280; obtain rfl : ad278 = ad280 := (by injection e280); replace p280 := eq_true p280; replace q280 := eq_true q280; have p21 : 0 ≤ (t272 : Int) := of_decide_eq_true (by first | (with_reducible assumption) | assumption); have q21 : (t272 : Int) < ((x3_1.length : Int) : Int) := of_decide_eq_true (by first | (with_reducible assumption) | assumption); obtain ⟨go21, oo21, co21, eo21, gb21, gl21, cl21, HG21⟩ := Kd.Q_form HO_3.out (by omega); (first | cases eo21 | (injection eo21 with ea_ en_ ec_; (first | subst ea_ | (injection ea_ with ea_; subst ea_)); subst ec_; clear en_)); have GB21 := Aside0.mk gb21; have GG21 := Aside0.mk HG21; clear gb21 gl21 HG21; (first | simp only [add_at] at hx278_0 | skip); (first | simp only [add_at] at hx278_1 | skip); (first | simp only [add_at] at hx280_0 | skip); (first | simp only [add_at] at hx280_1 | skip); obtain ⟨ce21, hcl21, hM21, hcc21, hfr21⟩ := Kd.Q_elem HO_3.out z46 (t272 : Int) p21 q21; obtain rfl := k46_openM hM21; have hx21_0 : w29.cell? ⟨go21, oo21 + (t272 : Int).toNat * 2, none⟩ = some (.int .i64 ((rd_T46 x3_1 t272).f0)) := hcc21 0 _ rfl; have hx21_1 : w29.cell? ⟨go21, oo21 + (t272 : Int).toNat * 2 + 1, none⟩ = some (.int .i64 ((rd_T46 x3_1 t272).f1)) := hcc21 1 _ rfl; have hf21_0 : w29.frozen? ⟨go21, oo21 + (t272 : Int).toNat * 2, none⟩ = false := hfr21 0; have hf21_1 : w29.frozen? ⟨go21, oo21 + (t272 : Int).toNat * 2 + 1, none⟩ = false := hfr21 1; (clear hcl21 hcc21 hfr21; (try clear hM21)); replace p21 := eq_true p21; replace q21 := eq_true q21; have HX30 := Aside0.mk (show Kd.Q k46 46 w29 w.heap.size (fun k_ => k_ ≠ gb279) (.slice (some ⟨go21, oo21, none⟩) x3_1.length co23) x3_1 from (by (with_reducible repeat (first | apply Kd.Q_alloc | apply Kd.Q_drewN | apply Kd.Q_drew)); exact HO_3.out)); obtain ⟨ce30, hcl30, hM30, hcc30, hfr30⟩ := Kd.Q_elem HX30.out z46 (t272 : Int) (of_decide_eq_true (by first | (with_reducible assumption) | assumption)) (by have h_ : (t272 : Int) < ((x3_1.length : Int) : Int) := of_decide_eq_true (by first | (with_reducible assumption) | assumption); first | exact h_ | (have e_ := (Kd.Q_reads' HO_3.out).1; omega) | simpa using h_); obtain rfl := k46_openM hM30; have HP30 := Kd.Q_seg HX30.out (t272 : Int) (of_decide_eq_true (by first | (with_reducible assumption) | assumption)) (by have h_ : (t272 : Int) < ((x3_1.length : Int) : Int) := of_decide_eq_true (by first | (with_reducible assumption) | assumption); first | exact h_ | (have e_ := (Kd.Q_reads' HO_3.out).1; omega) | simpa using h_) (seg := [.int .i64 ((rd_T46 x3_1 t275).f0), .int .i64 ((rd_T46 x3_1 t275).f1)]) (j := 0) hcl30 hcc30 (show 2 ≤ 2 from by decide) (x' := (⟨(rd_T46 x3_1 t275).f0, (rd_T46 x3_1 t275).f1⟩ : S46)) (k46_mkM _ _ _ (⟨(rd_T46 x3_1 t275).f0, (rd_T46 x3_1 t275).f1⟩ : S46) ) (fun _ hk => hk); have hx30_0 := hcc30 0 _ rfl; (try simp only [show (k46).sz = 2 from rfl, Nat.mul_one, Nat.add_zero] at hx30_0); have hf30_0 := hfr30 0; (try simp only [show (k46).sz = 2 from rfl, Nat.mul_one, Nat.add_zero] at hf30_0); have hx30_1 := hcc30 1 _ rfl; (try simp only [show (k46).sz = 2 from rfl, Nat.mul_one, Nat.add_zero] at hx30_1); have hf30_1 := hfr30 1; (try simp only [show (k46).sz = 2 from rfl, Nat.mul_one, Nat.add_zero] at hf30_1); (clear hcl30 hcc30 hfr30; (try clear hM30))) | ((with_reducible refine gate_store (t := 46) (p := 47) rfl ?_); refine store_event (t := 46) (p := 47) (v := ?vo_w31) (w1 := ((w29.setCell ⟨go21, oo21 + (t272 : Int).toNat * 2, none⟩ (.int .i64 ((rd_T46 x3_1 t275).f0))).setCell ⟨go21, oo21 + (t272 : Int).toNat * 2 + 1, none⟩ (.int .i64 ((rd_T46 x3_1 t275).f1)))) ?hg ?ho ?hn ?hr ?_; (case ho => rfl); (case hg => rfl); (case hn => rfl); (case hr => first | (go_simp; done) | (go_simp; rfl)); intro w31 hw; have hg : w29.grownBy w31 (some go21) := (by rw [hw]; exact HP30.2); have hp_ : Kd.Q k46 46 w31 w.heap.size (fun k_ => k_ ≠ gb279) (.slice (some ⟨go21, oo21, none⟩) x3_1.length co23) y281 := (by rw [hw, Ny281.out]; exact HP30.1); clear HP30; have n0_ := Aside0.mk (hp_); have n1_ := Aside0.mk ((show IsS54 w0 _ g s0_0 t276 t277 from IsS54.grown (by first | ((repeat (first | (with_reducible first | exact HI0.out | apply IsS54.alloc | apply IsS54.drewN | apply IsS54.drew | apply IsS54.set_1 | apply IsS54.set_2 | refine IsS54.far ?_ NB0_279.out _ | refine IsS54.far (p := ⟨gb279, _, _⟩) ?_ NB0_279.out _) | exact HI0.out)); done) | (simp only [Int.add_zero]; repeat (first | (with_reducible first | exact HI0.out | apply IsS54.alloc | apply IsS54.drewN | apply IsS54.drew | apply IsS54.set_1 | apply IsS54.set_2 | refine IsS54.far ?_ NB0_279.out _ | refine IsS54.far (p := ⟨gb279, _, _⟩) ?_ NB0_279.out _) | exact HI0.out))) hg (IsS54.own_neQ HI0.out HO_3.out (by decide)))); have n2_ := Aside0.mk (blk_grown (g := gb279) (o := .cells #[.int .i64 ((rd_T46 x3_1 t272).f0), .int .i64 ((rd_T46 x3_1 t272).f1)] 46 (0, 0)) (by (with_reducible repeat (first | refine blk_drewN ?_ _ | refine blk_drew ?_ | refine blk_alloc ?_ _)); exact BK279.out) hg (Kd.Q_away HO_3.out (fun _ hk => hk))); have n3_ := Aside0.mk ((by rw [hw]; exact below_set (below_set (HB.out) (Nat.le_trans HL.out GB21.out)) (Nat.le_trans HL.out GB21.out) : Below w0.heap.size w0 w31)); have n4_ := Aside0.mk (KeepBut.trans (by repeat (first | (with_reducible first | exact HK.out | apply KeepBut.set_ | apply keep_drewN | apply keep_drew | apply keep_alloc | refine keep_far ?_ GW279.out _) | exact HK.out)) (KeepBut.of_grown hg g) (Kd.Q_base2 HO_3.out)); clear HO_3; clear HI0; clear BK279; clear HB; clear HK; have HO_3 := n0_; have HI0 := n1_; have BK279 := n2_; have HB := n3_; have HK := n4_; clear n0_ n1_ n2_ n3_ n4_; clear hg hw hp_; have hcz32_0 : w31.cell? ⟨gb279, 0, none⟩ = some (.int .i64 ((rd_T46 x3_1 t272).f0)) := (blk_cell BK279.out 0).trans rfl; have hcz32_1 : w31.cell? ⟨gb279, 1, none⟩ = some (.int .i64 ((rd_T46 x3_1 t272).f1)) := (blk_cell BK279.out 1).trans rfl; have hfz32_0 := blk_frozen BK279.out 0; have hfz32_1 := blk_frozen BK279.out 1; have p22 : 0 ≤ (t275 : Int) := of_decide_eq_true (by first | (with_reducible assumption) | assumption); have q22 : (t275 : Int) < ((x3_1.length : Int) : Int) := of_decide_eq_true (by first | (with_reducible assumption) | assumption); obtain ⟨ce22, hcl22, hM22, hcc22, hfr22⟩ := Kd.Q_elem HO_3.out z46 (t275 : Int) p22 q22; obtain rfl := k46_openM hM22; have hx22_0 : w31.cell? ⟨go21, oo21 + (t275 : Int).toNat * 2, none⟩ = some (.int .i64 ((rd_T46 y281 t275).f0)) := hcc22 0 _ rfl; have hx22_1 : w31.cell? ⟨go21, oo21 + (t275 : Int).toNat * 2 + 1, none⟩ = some (.int .i64 ((rd_T46 y281 t275).f1)) := hcc22 1 _ rfl; have hf22_0 : w31.frozen? ⟨go21, oo21 + (t275 : Int).toNat * 2, none⟩ = false := hfr22 0; have hf22_1 : w31.frozen? ⟨go21, oo21 + (t275 : Int).toNat * 2 + 1, none⟩ = false := hfr22 1; (clear hcl22 hcc22 hfr22; (try clear hM22)); replace p22 := eq_true p22; replace q22 := eq_true q22; have HX33 := Aside0.mk (show Kd.Q k46 46 w31 w.heap.size (fun k_ => k_ ≠ gb279) (.slice (some ⟨go21, oo21, none⟩) x3_1.length co23) y281 from (by (with_reducible repeat (first | apply Kd.Q_alloc | apply Kd.Q_drewN | apply Kd.Q_drew)); exact HO_3.out)); obtain ⟨ce33, hcl33, hM33, hcc33, hfr33⟩ := Kd.Q_elem HX33.out z46 (t275 : Int) (of_decide_eq_true (by first | (with_reducible assumption) | assumption)) (by have h_ : (t275 : Int) < ((x3_1.length : Int) : Int) := of_decide_eq_true (by first | (with_reducible assumption) | assumption); first | exact h_ | (have e_ := (Kd.Q_reads' HO_3.out).1; omega) | simpa using h_); obtain rfl := k46_openM hM33; have HP33 := Kd.Q_seg HX33.out (t275 : Int) (of_decide_eq_true (by first | (with_reducible assumption) | assumption)) (by have h_ : (t275 : Int) < ((x3_1.length : Int) : Int) := of_decide_eq_true (by first | (with_reducible assumption) | assumption); first | exact h_ | (have e_ := (Kd.Q_reads' HO_3.out).1; omega) | simpa using h_) (seg := [.int .i64 ((rd_T46 x3_1 t272).f0), .int .i64 ((rd_T46 x3_1 t272).f1)]) (j := 0) hcl33 hcc33 (show 2 ≤ 2 from by decide) (x' := (⟨(rd_T46 x3_1 t272).f0, (rd_T46 x3_1 t272).f1⟩ : S46)) (k46_mkM _ _ _ (⟨(rd_T46 x3_1 t272).f0, (rd_T46 x3_1 t272).f1⟩ : S46) ) (fun _ hk => hk); have hx33_0 := hcc33 0 _ rfl; (try simp only [show (k46).sz = 2 from rfl, Nat.mul_one, Nat.add_zero] at hx33_0); have hf33_0 := hfr33 0; (try simp only [show (k46).sz = 2 from rfl, Nat.mul_one, Nat.add_zero] at hf33_0); have hx33_1 := hcc33 1 _ rfl; (try simp only [show (k46).sz = 2 from rfl, Nat.mul_one, Nat.add_zero] at hx33_1); have hf33_1 := hfr33 1; (try simp only [show (k46).sz = 2 from rfl, Nat.mul_one, Nat.add_zero] at hf33_1); (clear hcl33 hcc33 hfr33; (try clear hM33))) | ((with_reducible refine gate_store (t := 46) (p := 51) rfl ?_); refine store_event (t := 46) (p := 51) (v := ?vo_w34) (w1 := ((w31.setCell ⟨go21, oo21 + (t275 : Int).toNat * 2, none⟩ (.int .i64 ((rd_T46 x3_1 t272).f0))).setCell ⟨go21, oo21 + (t275 : Int).toNat * 2 + 1, none⟩ (.int .i64 ((rd_T46 x3_1 t272).f1)))) ?hg ?ho ?hn ?hr ?_; (case ho => rfl); (case hg => rfl); (case hn => rfl); (case hr => first | (go_simp; done) | (go_simp; rfl)); intro w34 hw; have hg : w31.grownBy w34 (some go21) := (by rw [hw]; exact HP33.2); have hp_ : Kd.Q k46 46 w34 w.heap.size (fun k_ => k_ ≠ gb279) (.slice (some ⟨go21, oo21, none⟩) x3_1.length co23) y282 := (by rw [hw, Ny282.out]; exact HP33.1); clear HP33; have n0_ := Aside0.mk (hp_); have n1_ := Aside0.mk ((show IsS54 w0 _ g s0_0 t276 t277 from IsS54.grown (by first | ((repeat (first | (with_reducible first | exact HI0.out | apply IsS54.alloc | apply IsS54.drewN | apply IsS54.drew | apply IsS54.set_1 | apply IsS54.set_2 | refine IsS54.far ?_ NB0_279.out _ | refine IsS54.far (p := ⟨gb279, _, _⟩) ?_ NB0_279.out _) | exact HI0.out)); done) | (simp only [Int.add_zero]; repeat (first | (with_reducible first | exact HI0.out | apply IsS54.alloc | apply IsS54.drewN | apply IsS54.drew | apply IsS54.set_1 | apply IsS54.set_2 | refine IsS54.far ?_ NB0_279.out _ | refine IsS54.far (p := ⟨gb279, _, _⟩) ?_ NB0_279.out _) | exact HI0.out))) hg (IsS54.own_neQ HI0.out HO_3.out (by decide)))); have n2_ := Aside0.mk (blk_grown (g := gb279) (o := .cells #[.int .i64 ((rd_T46 x3_1 t272).f0), .int .i64 ((rd_T46 x3_1 t272).f1)] 46 (0, 0)) (by (with_reducible repeat (first | refine blk_drewN ?_ _ | refine blk_drew ?_ | refine blk_alloc ?_ _)); exact BK279.out) hg (Kd.Q_away HO_3.out (fun _ hk => hk))); have n3_ := Aside0.mk ((by rw [hw]; exact below_set (below_set (HB.out) (Nat.le_trans HL.out GB21.out)) (Nat.le_trans HL.out GB21.out) : Below w0.heap.size w0 w34)); have n4_ := Aside0.mk (KeepBut.trans (by repeat (first | (with_reducible first | exact HK.out | apply KeepBut.set_ | apply keep_drewN | apply keep_drew | apply keep_alloc | refine keep_far ?_ GW279.out _) | exact HK.out)) (KeepBut.of_grown hg g) (Kd.Q_base2 HO_3.out)); clear HO_3; clear HI0; clear BK279; clear HB; clear HK; have HO_3 := n0_; have HI0 := n1_; have BK279 := n2_; have HB := n3_; have HK := n4_; clear n0_ n1_ n2_ n3_ n4_; clear hg hw hp_))
                    go_roundg kj10
                    case measure => have := HK1.out; have := HJ10.out; omega
                    case rel => exact ⟨(y282), (wrap64 (x5_1 - 1)), (t276), (t277), (by first | rfl | (simp; done) | (simp [*]; done)), H', ⟨by have := HK1.out; have := HJ10.out; omega⟩, ⟨by (with_reducible repeat (first | apply Kd.Q_alloc | apply Kd.Q_drewN | apply Kd.Q_drew)); exact Kd.Q_mono HO_3.out (fun _ hk => trivial)⟩, ⟨by first | ((repeat (first | (with_reducible first | exact HI0.out | apply IsS54.alloc | apply IsS54.drewN | apply IsS54.drew | apply IsS54.set_1 | apply IsS54.set_2 | refine IsS54.far ?_ NB0_279.out _ | refine IsS54.far (p := ⟨gb279, _, _⟩) ?_ NB0_279.out _) | exact HI0.out)); done) | (simp only [Int.add_zero]; repeat (first | (with_reducible first | exact HI0.out | apply IsS54.alloc | apply IsS54.drewN | apply IsS54.drew | apply IsS54.set_1 | apply IsS54.set_2 | refine IsS54.far ?_ NB0_279.out _ | refine IsS54.far (p := ⟨gb279, _, _⟩) ?_ NB0_279.out _) | exact HI0.out))⟩, ⟨by repeat (first | (with_reducible first | exact HK.out | apply KeepBut.set_ | apply keep_drewN | apply keep_drew | apply keep_alloc | refine keep_far ?_ GW279.out _) | exact HK.out)⟩, ⟨by repeat (first | (with_reducible first | exact HB.out | apply below_alloc | apply pw_below_drewN | apply below_drew1 | refine below_set ?_ (IsS54.ge HI0.out) | refine below_set ?_ GE279.out) | exact HB.out)⟩⟩
                  · rw [if_neg c20] at H
                    exact absurd H (by simp)
                · rw [if_neg c19] at H
                  exact absurd H (by simp)
              · rw [if_neg c18] at H
                exact absurd H (by simp)
            · rw [if_neg c17] at H
              exact absurd H (by simp)
          · replace c14 := Bool.eq_false_iff.mpr c14
            subst c14
            have H1 : (if (x3_1.length : Int) > 1 then ((spec_l1Cur_one.f s0_0 x1001_1 x1002_1 3).bind fun bt283 => (spec_l1Cur_parts.j2 kj10 x3_1 bt283.1 s0_0 bt283.2.1 bt283.2.2)) else (spec_l1Cur_parts.j2 kj10 x3_1 false s0_0 x1001_1 x1002_1)) = some (r1, r2, r3) := by rw [if_neg (show ¬ (false = true) by decide)] at H; exact H
            clear H
            have H := H1
            clear H1
            have HC35 := Aside0.mk H
            clear H
            go_upto_region 10 with (fail)
            go_cut [58] (fun v58 wc => ∃ (kq : Nat) (x58_34 : Bool) (x1001_34 : Int) (x1002_34 : Int), v58 = .bool x58_34 ∧ Aside0 (spec_l1Cur_parts.j2 kq x3_1 x58_34 s0_0 x1001_34 x1002_34 = some (r1, r2, r3)) ∧ Aside0 (kq ≤ kj10) ∧ Aside0 (Kd.Q k46 46 wc w.heap.size (fun _ => True) v267 x3_1) ∧ Aside0 (IsS54 w0 wc g s0_0 x1001_34 x1002_34) ∧ Aside0 (KeepBut w wc g none) ∧ Aside0 (Below w0.heap.size w0 wc))
            case first =>
              have H := HC35.out
              clear HC35
              by_cases c36 : (x3_1.length : Int) > 1
              · rw [if_pos c36] at H
                have c36b0 : decide (1 < (x3_1.length : Int)) = true := decide_eq_true c36
                have c36b1 : decide (1 < x3_1.length) = true := decide_eq_true (by omega)
                clear c36
                (first | rw [c36b0] | (simp only [i64_w, i32_w]; rw [c36b0]) | skip)
                replace H := Option.bind_eq_some_iff.mp H
                obtain ⟨⟨t283, t284, t285⟩, A370, H⟩ := H
                replace H : (spec_l1Cur_parts.j2 kj10 x3_1 t283 s0_0 t284 t285) = some (r1, r2, r3) := H
                have A37 := Aside0.mk A370
                clear A370
                have H' := Aside0.mk H
                clear H
                obtain ⟨Ao38, co38, eo38, _⟩ := Kd.Q_slice HO_3.out
                subst eo38
                go_wp2_with (first | (go_at_call 46; (with_reducible refine (spec_l1Cur_one.calls g s0_0 x1001_1 x1002_1 3 t283 t284 t285 w0 _ ?side1 ?side2 A37.out).mono ?_); (case side1 => first | ((repeat (first | (with_reducible first | exact HI0.out | apply IsS54.alloc | apply IsS54.drewN | apply IsS54.drew | apply IsS54.set_1 | apply IsS54.set_2) | exact HI0.out)); done) | (simp only [Int.add_zero]; repeat (first | (with_reducible first | exact HI0.out | apply IsS54.alloc | apply IsS54.drewN | apply IsS54.drew | apply IsS54.set_1 | apply IsS54.set_2) | exact HI0.out))); (case side2 => repeat (first | (with_reducible first | exact HB.out | apply below_alloc | apply pw_below_drewN | apply below_drew1 | refine below_set ?_ (IsS54.ge HI0.out)) | exact HB.out)); rintro e w39 ⟨rfl, hi, hb, hk⟩; have n0_ := Aside0.mk (Kd.Q_mono (Kd.Q_keep (IsS54.apartQ (show IsS54 w0 _ g s0_0 x1001_1 x1002_1 from by first | ((repeat (first | (with_reducible first | exact HI0.out | apply IsS54.alloc | apply IsS54.drewN | apply IsS54.drew | apply IsS54.set_1 | apply IsS54.set_2) | exact HI0.out)); done) | (simp only [Int.add_zero]; repeat (first | (with_reducible first | exact HI0.out | apply IsS54.alloc | apply IsS54.drewN | apply IsS54.drew | apply IsS54.set_1 | apply IsS54.set_2) | exact HI0.out))) (by (with_reducible repeat (first | apply Kd.Q_alloc | apply Kd.Q_drewN | apply Kd.Q_drew)); exact HO_3.out) (by decide)) hk (fun _ h => h.2)) (fun _ h => h.1)); have n1_ := Aside0.mk (KeepBut.trans (by repeat (first | (with_reducible first | exact HK.out | apply KeepBut.set_ | apply keep_drewN | apply keep_drew | apply keep_alloc) | exact HK.out)) hk (.inl rfl)); have n2_ := Aside0.mk (hb); have n3_ := Aside0.mk (hi); clear HO_3; clear HK; clear HB; clear HI0; have HO_3 := n0_; have HK := n1_; have HB := n2_; have HI0 := n3_; clear n0_ n1_ n2_ n3_; (try clear hb); (try clear hb2); (try clear hk); (try clear hi)))
                go_meet
                case rel => exact ⟨_, (t283), (t284), (t285), (by first | rfl | (simp; done) | (simp [*]; done)), H', ⟨by have := HK1.out; have := HJ10.out; first | omega | exact Nat.le_refl _⟩, ⟨by (with_reducible repeat (first | apply Kd.Q_alloc | apply Kd.Q_drewN | apply Kd.Q_drew)); exact HO_3.out⟩, ⟨by first | ((repeat (first | (with_reducible first | exact HI0.out | apply IsS54.alloc | apply IsS54.drewN | apply IsS54.drew | apply IsS54.set_1 | apply IsS54.set_2) | exact HI0.out)); done) | (simp only [Int.add_zero]; repeat (first | (with_reducible first | exact HI0.out | apply IsS54.alloc | apply IsS54.drewN | apply IsS54.drew | apply IsS54.set_1 | apply IsS54.set_2) | exact HI0.out))⟩, ⟨by repeat (first | (with_reducible first | exact HK.out | apply KeepBut.set_ | apply keep_drewN | apply keep_drew | apply keep_alloc) | exact HK.out)⟩, ⟨by repeat (first | (with_reducible first | exact HB.out | apply below_alloc | apply pw_below_drewN | apply below_drew1 | refine below_set ?_ (IsS54.ge HI0.out)) | exact HB.out)⟩⟩
              · rw [if_neg c36] at H
                have c36b0 : decide (1 < (x3_1.length : Int)) = false := decide_eq_false c36
                have c36b1 : decide (1 < x3_1.length) = false := decide_eq_false (by omega)
                clear c36
                (first | rw [c36b0] | (simp only [i64_w, i32_w]; rw [c36b0]) | skip)
                have H' := Aside0.mk H
                clear H
                obtain ⟨Ao40, co40, eo40, _⟩ := Kd.Q_slice HO_3.out
                subst eo40
                go_wp2
                go_meet
                case rel => exact ⟨_, (false), (x1001_1), (x1002_1), (by first | rfl | (simp; done) | (simp [*]; done)), H', ⟨by have := HK1.out; have := HJ10.out; first | omega | exact Nat.le_refl _⟩, ⟨by (with_reducible repeat (first | apply Kd.Q_alloc | apply Kd.Q_drewN | apply Kd.Q_drew)); exact HO_3.out⟩, ⟨by first | ((repeat (first | (with_reducible first | exact HI0.out | apply IsS54.alloc | apply IsS54.drewN | apply IsS54.drew | apply IsS54.set_1 | apply IsS54.set_2) | exact HI0.out)); done) | (simp only [Int.add_zero]; repeat (first | (with_reducible first | exact HI0.out | apply IsS54.alloc | apply IsS54.drewN | apply IsS54.drew | apply IsS54.set_1 | apply IsS54.set_2) | exact HI0.out))⟩, ⟨by repeat (first | (with_reducible first | exact HK.out | apply KeepBut.set_ | apply keep_drewN | apply keep_drew | apply keep_alloc) | exact HK.out)⟩, ⟨by repeat (first | (with_reducible first | exact HB.out | apply below_alloc | apply pw_below_drewN | apply below_drew1 | refine below_set ?_ (IsS54.ge HI0.out)) | exact HB.out)⟩⟩
            case rest =>
              clear HC35
              try clear c1
              try clear c2
              try clear p2
              try clear q2
              try clear hx2
              try clear hf2
              try clear c3
              try clear hx3
              try clear hf3
              try clear c4
              try clear p6
              try clear c7
              try clear c12
              try clear c12b0
              try clear c14
              try clear c17
              try clear c17b0
              try clear c18
              try clear c18b0
              try clear c19
              try clear c19b0
              try clear c20
              try clear c20b0
              try clear c21
              try clear p21
              try clear q21
              try clear hx21
              try clear hf21
              try clear c22
              try clear p22
              try clear q22
              try clear hx22
              try clear hf22
              try clear c27
              try clear p27
              try clear q27
              try clear hx27
              try clear p28
              try clear q28
              try clear hx28
              try clear c30
              try clear hx30
              try clear hf30
              try clear c32
              try clear c33
              try clear hx33
              try clear hf33
              try clear c36
              try clear c36b0
              try clear c36b1
              try clear hcz28_0
              try clear hcz28_1
              try clear hcz32_0
              try clear hcz32_1
              try clear hfz28_0
              try clear hfz28_1
              try clear hfz32_0
              try clear hfz32_1
              try clear hx21_0
              try clear hx21_1
              try clear hx22_0
              try clear hx22_1
              try clear hx278_0
              try clear hx278_1
              try clear hx280_0
              try clear hx280_1
              try clear hx30_0
              try clear hx30_1
              try clear hx33_0
              try clear hx33_1
              try clear p2
              try clear p21
              try clear p22
              try clear p278
              try clear p280
              try clear p6
              try clear q21
              try clear q22
              try clear q278
              try clear q280
              obtain ⟨kq, x58_34, x1001_34, x1002_34, rfl, HA, HJ34, HO_3, HI0, HK, HB⟩ := hcut
              cases kq with
              | zero => exact absurd HA.out (by simp [spec_l1Cur_parts.j2])
              | succ kj34 =>
                have H := HA.out
                clear HA
                simp only [spec_l1Cur_parts.j2] at H
                have HC41 := Aside0.mk H
                clear H
                go_upto_if 58 with (fail)
                go_cut [3] (fun v3 wc => ∃ (kq : Nat) (x3_40 : List (S46)), Aside0 (spec_l1Cur_parts.j3 kq x3_40 s0_0 x1001_34 x1002_34 = some (r1, r2, r3)) ∧ Aside0 (kq ≤ kj34) ∧ Aside0 (Kd.Q k46 46 wc w.heap.size (fun _ => True) v3 x3_40) ∧ Aside0 (IsS54 w0 wc g s0_0 x1001_34 x1002_34) ∧ Aside0 (KeepBut w wc g none) ∧ Aside0 (Below w0.heap.size w0 wc))
                case first =>
                  have H := HC41.out
                  clear HC41
                  by_cases c42 : x58_34 = true
                  · subst c42
                    have H1 : (if 1 ≤ (x3_1.length : Int) then (spec_l1Cur_parts.j3 kj34 (x3_1.drop (1 : Int).toNat) s0_0 x1001_34 x1002_34) else (none)) = some (r1, r2, r3) := by rw [if_pos rfl] at H; exact H
                    clear H
                    have H := H1
                    clear H1
                    by_cases c43 : 1 ≤ (x3_1.length : Int)
                    · rw [if_pos c43] at H
                      have c43b0 := eq_true c43
                      have c43b1 : decide (1 ≤ (x3_1.length : Int)) = true := decide_eq_true c43
                      clear c43
                      obtain ⟨y286, hy286⟩ : ∃ y_ : List (S46), y_ = (x3_1.drop (1 : Int).toNat) := ⟨_, rfl⟩
                      replace H : (spec_l1Cur_parts.j3 kj34 y286 s0_0 x1001_34 x1002_34) = some (r1, r2, r3) := by first | (rw [hy286]; with_reducible exact H) | (have H2_ := (Option.bind_some _ _).symm.trans H; rw [hy286]; with_reducible exact H2_) | (have H2_ := (Option.bind_some _ _).symm.trans H; with_reducible exact H2_) | with_reducible exact H | (rw [hy286]; exact H) | exact H
                      have Ny286 := Aside0.mk hy286
                      clear hy286
                      have H' := Aside0.mk H
                      clear H
                      obtain ⟨Ao44, co44, eo44, _⟩ := Kd.Q_slice HO_3.out
                      subst eo44
                      have q45 : (1 : Int) ≤ ((x3_1.length : Int) : Int) := of_decide_eq_true (by first | (with_reducible assumption) | assumption)
                      obtain ⟨i045, hi045, _, hsz45, _⟩ := info_parts info46
                      have hcut45 := cut_from (P := Try.prog) 26 46 .i64 Try.underlying26 hi045 2 hsz45 Ao44 x3_1.length co44 1 (by omega) q45
                      have hr45 := Kd.Q_drop (k := (1 : Int).toNat) HO_3.out (by omega)
                      obtain ⟨A45, hA45⟩ : ∃ A1, A1 = (if co44 = (1 : Int).toNat then Ao44 else (Ao44 : Option Addr).map (·.add ((1 : Int).toNat * 2))) := ⟨_, rfl⟩
                      obtain ⟨c45, hc45⟩ : ∃ c1, c1 = co44 - (1 : Int).toNat := ⟨_, rfl⟩
                      have hy45 : y286.length = x3_1.length - (1 : Int).toNat := (by rw [Ny286.out, List.length_drop])
                      rw [← Ny286.out] at hr45
                      rw [← hy45, ← hA45, ← hc45] at hcut45
                      replace hr45 : Kd.Q k46 46 wc w.heap.size (fun _ => True) (.slice A45 y286.length c45) y286 := (by rw [hA45, hc45, hy45]; exact hr45)
                      have HE45 : Aside0 ((Value.slice A45 y286.length c45).ownBlock = (.slice Ao44 x3_1.length co44 : Value).ownBlock) := ⟨by rw [hA45]; split <;> (cases (Ao44 : Option Addr) <;> rfl)⟩
                      clear hy45 hi045 hsz45 HO_3 hA45 hc45
                      have HO288 := Aside0.mk hr45
                      clear hr45
                      replace q45 := eq_true q45
                      go_wp2
                      go_meet
                      case rel => exact ⟨_, (y286), H', ⟨by have := HK1.out; have := HJ10.out; have := HJ34.out; first | omega | exact Nat.le_refl _⟩, ⟨by (with_reducible repeat (first | apply Kd.Q_alloc | apply Kd.Q_drewN | apply Kd.Q_drew)); exact HO288.out⟩, ⟨by first | ((repeat (first | (with_reducible first | exact HI0.out | apply IsS54.alloc | apply IsS54.drewN | apply IsS54.drew | apply IsS54.set_1 | apply IsS54.set_2) | exact HI0.out)); done) | (simp only [Int.add_zero]; repeat (first | (with_reducible first | exact HI0.out | apply IsS54.alloc | apply IsS54.drewN | apply IsS54.drew | apply IsS54.set_1 | apply IsS54.set_2) | exact HI0.out))⟩, ⟨by repeat (first | (with_reducible first | exact HK.out | apply KeepBut.set_ | apply keep_drewN | apply keep_drew | apply keep_alloc) | exact HK.out)⟩, ⟨by repeat (first | (with_reducible first | exact HB.out | apply below_alloc | apply pw_below_drewN | apply below_drew1 | refine below_set ?_ (IsS54.ge HI0.out)) | exact HB.out)⟩⟩
                    · rw [if_neg c43] at H
                      exact absurd H (by simp)
                  · replace c42 := Bool.eq_false_iff.mpr c42
                    subst c42
                    have H1 : (spec_l1Cur_parts.j3 kj34 x3_1 s0_0 x1001_34 x1002_34) = some (r1, r2, r3) := by rw [if_neg (show ¬ (false = true) by decide)] at H; exact H
                    clear H
                    have H := H1
                    clear H1
                    have H' := Aside0.mk H
                    clear H
                    go_wp2
                    go_meet
                    case rel => exact ⟨_, (x3_1), H', ⟨by have := HK1.out; have := HJ10.out; have := HJ34.out; first | omega | exact Nat.le_refl _⟩, ⟨by (with_reducible repeat (first | apply Kd.Q_alloc | apply Kd.Q_drewN | apply Kd.Q_drew)); exact HO_3.out⟩, ⟨by first | ((repeat (first | (with_reducible first | exact HI0.out | apply IsS54.alloc | apply IsS54.drewN | apply IsS54.drew | apply IsS54.set_1 | apply IsS54.set_2) | exact HI0.out)); done) | (simp only [Int.add_zero]; repeat (first | (with_reducible first | exact HI0.out | apply IsS54.alloc | apply IsS54.drewN | apply IsS54.drew | apply IsS54.set_1 | apply IsS54.set_2) | exact HI0.out))⟩, ⟨by repeat (first | (with_reducible first | exact HK.out | apply KeepBut.set_ | apply keep_drewN | apply keep_drew | apply keep_alloc) | exact HK.out)⟩, ⟨by repeat (first | (with_reducible first | exact HB.out | apply below_alloc | apply pw_below_drewN | apply below_drew1 | refine below_set ?_ (IsS54.ge HI0.out)) | exact HB.out)⟩⟩
                case rest =>
                  clear HC41
                  try clear c1
                  try clear c2
                  try clear p2
                  try clear q2
                  try clear hx2
                  try clear hf2
                  try clear c3
                  try clear hx3
                  try clear hf3
                  try clear c4
                  try clear q4
                  try clear p6
                  try clear c7
                  try clear c12
                  try clear c12b0
                  try clear c14
                  try clear c17
                  try clear c17b0
                  try clear c18
                  try clear c18b0
                  try clear c19
                  try clear c19b0
                  try clear c20
                  try clear c20b0
                  try clear c21
                  try clear p21
                  try clear q21
                  try clear hx21
                  try clear hf21
                  try clear c22
                  try clear p22
                  try clear q22
                  try clear hx22
                  try clear hf22
                  try clear c27
                  try clear p27
                  try clear q27
                  try clear hx27
                  try clear p28
                  try clear q28
                  try clear hx28
                  try clear c30
                  try clear hx30
                  try clear hf30
                  try clear c32
                  try clear c33
                  try clear hx33
                  try clear hf33
                  try clear c36
                  try clear c36b0
                  try clear c36b1
                  try clear c42
                  try clear c43
                  try clear c43b0
                  try clear c43b1
                  try clear c45
                  try clear q45
                  try clear hcz28_0
                  try clear hcz28_1
                  try clear hcz32_0
                  try clear hcz32_1
                  try clear hfz28_0
                  try clear hfz28_1
                  try clear hfz32_0
                  try clear hfz32_1
                  try clear hx21_0
                  try clear hx21_1
                  try clear hx22_0
                  try clear hx22_1
                  try clear hx278_0
                  try clear hx278_1
                  try clear hx280_0
                  try clear hx280_1
                  try clear hx30_0
                  try clear hx30_1
                  try clear hx33_0
                  try clear hx33_1
                  try clear p2
                  try clear p21
                  try clear p22
                  try clear p27
                  try clear p278
                  try clear p28
                  try clear p280
                  try clear p6
                  try clear q2
                  try clear q21
                  try clear q22
                  try clear q27
                  try clear q278
                  try clear q28
                  try clear q280
                  try clear q45
                  obtain ⟨kq, x3_40, HA, HJ40, HO_3, HI0, HK, HB⟩ := hcut
                  cases kq with
                  | zero => exact absurd HA.out (by simp [spec_l1Cur_parts.j3])
                  | succ kj40 =>
                    have H := HA.out
                    clear HA
                    simp only [spec_l1Cur_parts.j3] at H
                    have HC46 := Aside0.mk H
                    clear H
                    go_upto_region 12 with (fail)
                    go_cut [67] (fun v67 wc => ∃ (kq : Nat) (x67_45 : Bool) (x1001_45 : Int) (x1002_45 : Int), v67 = .bool x67_45 ∧ Aside0 (spec_l1Cur_parts.j4 kq x3_40 x67_45 s0_0 x1001_45 x1002_45 = some (r1, r2, r3)) ∧ Aside0 (kq ≤ kj40) ∧ Aside0 (Kd.Q k46 46 wc w.heap.size (fun _ => True) u3 x3_40) ∧ Aside0 (IsS54 w0 wc g s0_0 x1001_45 x1002_45) ∧ Aside0 (KeepBut w wc g none) ∧ Aside0 (Below w0.heap.size w0 wc))
                    case first =>
                      have H := HC46.out
                      clear HC46
                      by_cases c47 : (x3_40.length : Int) > 0
                      · rw [if_pos c47] at H
                        have c47b0 : decide (0 < (x3_40.length : Int)) = true := decide_eq_true c47
                        have c47b1 : decide (0 < x3_40.length) = true := decide_eq_true (by omega)
                        clear c47
                        (first | rw [c47b0] | (simp only [i64_w, i32_w]; rw [c47b0]) | skip)
                        replace H := Option.bind_eq_some_iff.mp H
                        obtain ⟨⟨t289, t290, t291⟩, A480, H⟩ := H
                        replace H : (spec_l1Cur_parts.j4 kj40 x3_40 t289 s0_0 t290 t291) = some (r1, r2, r3) := H
                        have A48 := Aside0.mk A480
                        clear A480
                        have H' := Aside0.mk H
                        clear H
                        obtain ⟨Ao49, co49, eo49, _⟩ := Kd.Q_slice HO_3.out
                        subst eo49
                        go_wp2_with (first | (go_at_call 46; (with_reducible refine (spec_l1Cur_one.calls g s0_0 x1001_34 x1002_34 12 t289 t290 t291 w0 _ ?side1 ?side2 A48.out).mono ?_); (case side1 => first | ((repeat (first | (with_reducible first | exact HI0.out | apply IsS54.alloc | apply IsS54.drewN | apply IsS54.drew | apply IsS54.set_1 | apply IsS54.set_2) | exact HI0.out)); done) | (simp only [Int.add_zero]; repeat (first | (with_reducible first | exact HI0.out | apply IsS54.alloc | apply IsS54.drewN | apply IsS54.drew | apply IsS54.set_1 | apply IsS54.set_2) | exact HI0.out))); (case side2 => repeat (first | (with_reducible first | exact HB.out | apply below_alloc | apply pw_below_drewN | apply below_drew1 | refine below_set ?_ (IsS54.ge HI0.out)) | exact HB.out)); rintro e w50 ⟨rfl, hi, hb, hk⟩; have n0_ := Aside0.mk (Kd.Q_mono (Kd.Q_keep (IsS54.apartQ (show IsS54 w0 _ g s0_0 x1001_34 x1002_34 from by first | ((repeat (first | (with_reducible first | exact HI0.out | apply IsS54.alloc | apply IsS54.drewN | apply IsS54.drew | apply IsS54.set_1 | apply IsS54.set_2) | exact HI0.out)); done) | (simp only [Int.add_zero]; repeat (first | (with_reducible first | exact HI0.out | apply IsS54.alloc | apply IsS54.drewN | apply IsS54.drew | apply IsS54.set_1 | apply IsS54.set_2) | exact HI0.out))) (by (with_reducible repeat (first | apply Kd.Q_alloc | apply Kd.Q_drewN | apply Kd.Q_drew)); exact HO_3.out) (by decide)) hk (fun _ h => h.2)) (fun _ h => h.1)); have n1_ := Aside0.mk (KeepBut.trans (by repeat (first | (with_reducible first | exact HK.out | apply KeepBut.set_ | apply keep_drewN | apply keep_drew | apply keep_alloc) | exact HK.out)) hk (.inl rfl)); have n2_ := Aside0.mk (hb); have n3_ := Aside0.mk (hi); clear HO_3; clear HK; clear HB; clear HI0; have HO_3 := n0_; have HK := n1_; have HB := n2_; have HI0 := n3_; clear n0_ n1_ n2_ n3_; (try clear hb); (try clear hb2); (try clear hk); (try clear hi)))
                        go_meet
                        case rel => exact ⟨_, (t289), (t290), (t291), (by first | rfl | (simp; done) | (simp [*]; done)), H', ⟨by have := HK1.out; have := HJ10.out; have := HJ34.out; have := HJ40.out; first | omega | exact Nat.le_refl _⟩, ⟨by (with_reducible repeat (first | apply Kd.Q_alloc | apply Kd.Q_drewN | apply Kd.Q_drew)); exact HO_3.out⟩, ⟨by first | ((repeat (first | (with_reducible first | exact HI0.out | apply IsS54.alloc | apply IsS54.drewN | apply IsS54.drew | apply IsS54.set_1 | apply IsS54.set_2) | exact HI0.out)); done) | (simp only [Int.add_zero]; repeat (first | (with_reducible first | exact HI0.out | apply IsS54.alloc | apply IsS54.drewN | apply IsS54.drew | apply IsS54.set_1 | apply IsS54.set_2) | exact HI0.out))⟩, ⟨by repeat (first | (with_reducible first | exact HK.out | apply KeepBut.set_ | apply keep_drewN | apply keep_drew | apply keep_alloc) | exact HK.out)⟩, ⟨by repeat (first | (with_reducible first | exact HB.out | apply below_alloc | apply pw_below_drewN | apply below_drew1 | refine below_set ?_ (IsS54.ge HI0.out)) | exact HB.out)⟩⟩
                      · rw [if_neg c47] at H
                        have c47b0 : decide (0 < (x3_40.length : Int)) = false := decide_eq_false c47
                        have c47b1 : decide (0 < x3_40.length) = false := decide_eq_false (by omega)
                        clear c47
                        (first | rw [c47b0] | (simp only [i64_w, i32_w]; rw [c47b0]) | skip)
                        have H' := Aside0.mk H
                        clear H
                        obtain ⟨Ao51, co51, eo51, _⟩ := Kd.Q_slice HO_3.out
                        subst eo51
                        go_wp2
                        go_meet
                        case rel => exact ⟨_, (false), (x1001_34), (x1002_34), (by first | rfl | (simp; done) | (simp [*]; done)), H', ⟨by have := HK1.out; have := HJ10.out; have := HJ34.out; have := HJ40.out; first | omega | exact Nat.le_refl _⟩, ⟨by (with_reducible repeat (first | apply Kd.Q_alloc | apply Kd.Q_drewN | apply Kd.Q_drew)); exact HO_3.out⟩, ⟨by first | ((repeat (first | (with_reducible first | exact HI0.out | apply IsS54.alloc | apply IsS54.drewN | apply IsS54.drew | apply IsS54.set_1 | apply IsS54.set_2) | exact HI0.out)); done) | (simp only [Int.add_zero]; repeat (first | (with_reducible first | exact HI0.out | apply IsS54.alloc | apply IsS54.drewN | apply IsS54.drew | apply IsS54.set_1 | apply IsS54.set_2) | exact HI0.out))⟩, ⟨by repeat (first | (with_reducible first | exact HK.out | apply KeepBut.set_ | apply keep_drewN | apply keep_drew | apply keep_alloc) | exact HK.out)⟩, ⟨by repeat (first | (with_reducible first | exact HB.out | apply below_alloc | apply pw_below_drewN | apply below_drew1 | refine below_set ?_ (IsS54.ge HI0.out)) | exact HB.out)⟩⟩
                    case rest =>
                      clear HC46
                      try clear c1
                      try clear c2
                      try clear p2
                      try clear q2
                      try clear hx2
                      try clear hf2
                      try clear c3
                      try clear hx3
                      try clear hf3
                      try clear c4
                      try clear q4
                      try clear p6
                      try clear c7
                      try clear c12
                      try clear c12b0
                      try clear c14
                      try clear c17
                      try clear c17b0
                      try clear c18
                      try clear c18b0
                      try clear c19
                      try clear c19b0
                      try clear c20
                      try clear c20b0
                      try clear c21
                      try clear p21
                      try clear q21
                      try clear hx21
                      try clear hf21
                      try clear c22
                      try clear p22
                      try clear q22
                      try clear hx22
                      try clear hf22
                      try clear c27
                      try clear p27
                      try clear q27
                      try clear hx27
                      try clear p28
                      try clear q28
                      try clear hx28
                      try clear c30
                      try clear hx30
                      try clear hf30
                      try clear c32
                      try clear c33
                      try clear hx33
                      try clear hf33
                      try clear c36
                      try clear c36b0
                      try clear c36b1
                      try clear c42
                      try clear c43
                      try clear c43b0
                      try clear c43b1
                      try clear c45
                      try clear q45
                      try clear c47
                      try clear c47b0
                      try clear c47b1
                      try clear hcz28_0
                      try clear hcz28_1
                      try clear hcz32_0
                      try clear hcz32_1
                      try clear hfz28_0
                      try clear hfz28_1
                      try clear hfz32_0
                      try clear hfz32_1
                      try clear hx21_0
                      try clear hx21_1
                      try clear hx22_0
                      try clear hx22_1
                      try clear hx278_0
                      try clear hx278_1
                      try clear hx280_0
                      try clear hx280_1
                      try clear hx30_0
                      try clear hx30_1
                      try clear hx33_0
                      try clear hx33_1
                      try clear p2
                      try clear p21
                      try clear p22
                      try clear p27
                      try clear p278
                      try clear p28
                      try clear p280
                      try clear p6
                      try clear q2
                      try clear q21
                      try clear q22
                      try clear q27
                      try clear q278
                      try clear q28
                      try clear q280
                      try clear q4
                      try clear q45
                      obtain ⟨kq, x67_45, x1001_45, x1002_45, rfl, HA, HJ45, HO_3, HI0, HK, HB⟩ := hcut
                      cases kq with
                      | zero => exact absurd HA.out (by simp [spec_l1Cur_parts.j4])
                      | succ kj45 =>
                        have H := HA.out
                        clear HA
                        simp only [spec_l1Cur_parts.j4] at H
                        by_cases c52 : x67_45 = true
                        · subst c52
                          have H1 : ((spec_l1Cur_among.f s0_0 x1001_45 x1002_45 (([0, 2, 1498, 1499] : List Int))).bind fun bt295 => ((spec_l1Cur_among.f s0_0 bt295.2.1 bt295.2.2 (([0, 1498, 1499] : List Int))).bind fun bt301 => (if 0 < (x3_40.length : Int) then (some ((x3_40.set (0 : Int).toNat (⟨bt295.1, bt301.1⟩ : S46)), bt301.2.1, bt301.2.2)) else (none)))) = some (r1, r2, r3) := by rw [if_pos rfl] at H; exact H
                          clear H
                          have H := H1
                          clear H1
                          obtain ⟨y292, hy292⟩ : ∃ y_ : List Int, y_ = (([0, 2, 1498, 1499] : List Int)) := ⟨_, rfl⟩
                          replace H : ((spec_l1Cur_among.f s0_0 x1001_45 x1002_45 y292).bind fun bt295 => ((spec_l1Cur_among.f s0_0 bt295.2.1 bt295.2.2 (([0, 1498, 1499] : List Int))).bind fun bt301 => (if 0 < (x3_40.length : Int) then (some ((x3_40.set (0 : Int).toNat (⟨bt295.1, bt301.1⟩ : S46)), bt301.2.1, bt301.2.2)) else (none)))) = some (r1, r2, r3) := by first | (rw [hy292]; with_reducible exact H) | (have H2_ := (Option.bind_some _ _).symm.trans H; rw [hy292]; with_reducible exact H2_) | (have H2_ := (Option.bind_some _ _).symm.trans H; with_reducible exact H2_) | with_reducible exact H | (rw [hy292]; exact H) | exact H
                          have Ny292 := Aside0.mk hy292
                          clear hy292
                          replace H := Option.bind_eq_some_iff.mp H
                          obtain ⟨⟨t295, t296, t297⟩, A530, H⟩ := H
                          replace H : ((spec_l1Cur_among.f s0_0 t296 t297 (([0, 1498, 1499] : List Int))).bind fun bt301 => (if 0 < (x3_40.length : Int) then (some ((x3_40.set (0 : Int).toNat (⟨t295, bt301.1⟩ : S46)), bt301.2.1, bt301.2.2)) else (none))) = some (r1, r2, r3) := H
                          have A53 := Aside0.mk A530
                          clear A530
                          obtain ⟨y298, hy298⟩ : ∃ y_ : List Int, y_ = (([0, 1498, 1499] : List Int)) := ⟨_, rfl⟩
                          replace H : ((spec_l1Cur_among.f s0_0 t296 t297 y298).bind fun bt301 => (if 0 < (x3_40.length : Int) then (some ((x3_40.set (0 : Int).toNat (⟨t295, bt301.1⟩ : S46)), bt301.2.1, bt301.2.2)) else (none))) = some (r1, r2, r3) := by first | (rw [hy298]; with_reducible exact H) | (have H2_ := (Option.bind_some _ _).symm.trans H; rw [hy298]; with_reducible exact H2_) | (have H2_ := (Option.bind_some _ _).symm.trans H; with_reducible exact H2_) | with_reducible exact H | (rw [hy298]; exact H) | exact H
                          have Ny298 := Aside0.mk hy298
                          clear hy298
                          replace H := Option.bind_eq_some_iff.mp H
                          obtain ⟨⟨t301, t302, t303⟩, A540, H⟩ := H
                          replace H : (if 0 < (x3_40.length : Int) then (some ((x3_40.set (0 : Int).toNat (⟨t295, t301⟩ : S46)), t302, t303)) else (none)) = some (r1, r2, r3) := H
                          have A54 := Aside0.mk A540
                          clear A540
                          by_cases c55 : 0 < (x3_40.length : Int)
                          · rw [if_pos c55] at H
                            have c55b0 : decide (0 < (x3_40.length : Int)) = true := decide_eq_true c55
                            have c55b1 : decide (0 < x3_40.length) = true := decide_eq_true (by omega)
                            clear c55
                            obtain ⟨y304, hy304⟩ : ∃ y_ : List (S46), y_ = (x3_40.set (0 : Int).toNat (⟨t295, t301⟩ : S46)) := ⟨_, rfl⟩
                            replace H : (some (y304, t302, t303)) = some (r1, r2, r3) := by first | (rw [hy304]; with_reducible exact H) | (have H2_ := (Option.bind_some _ _).symm.trans H; rw [hy304]; with_reducible exact H2_) | (have H2_ := (Option.bind_some _ _).symm.trans H; with_reducible exact H2_) | with_reducible exact H | (rw [hy304]; exact H) | exact H
                            have Ny304 := Aside0.mk hy304
                            clear hy304
                            simp only [Option.some.injEq, Prod.mk.injEq] at H
                            obtain ⟨rfl, rfl, rfl⟩ := H
                            go_wp2_with (first | ((with_reducible refine gate_dst (N := 70) rfl ?_); (try (refine gate_guard (by rfl) ?_; dsimp only)); refine Kd.R_lit (Kd.int .i64) _ 3 ?hg (N := 70) ?hd (xs := ([0, 2, 1498, 1499] : List Int)) (inner := [.int .i64 0, .int .i64 2, .int .i64 1498, .int .i64 1499]) (ok := fun _ => True) (okp := fun _ => True) ?hr ?hp (fun _ hk => hk) trivial (Below.refl _ _) (Nat.le_refl _) (by simp) ?_; (case hd => rfl); (case hg => rfl); (case hr => first | (go_simp; done) | (go_simp; rfl)); (case hp => exact (Reps.one (show Kd.M (Kd.int .i64) _ _ _ 0 [.int .i64 0] from rfl) (Reps.one (show Kd.M (Kd.int .i64) _ _ _ 2 [.int .i64 2] from rfl) (Reps.one (show Kd.M (Kd.int .i64) _ _ _ 1498 [.int .i64 1498] from rfl) (Reps.one (show Kd.M (Kd.int .i64) _ _ _ 1499 [.int .i64 1499] from rfl) (Reps.none _ _)))))); intro v293 w57 ho58 hb hg_ hnew_; clear hg_ hnew_; (first | rw [← Ny292.out] at ho58 | (simp only [Int.reduceToNat] at ho58; rw [← Ny292.out] at ho58)); have n0_ := Aside0.mk (Kd.Q_below (by (with_reducible repeat (first | apply Kd.Q_alloc | apply Kd.Q_drewN | apply Kd.Q_drew)); exact HO_3.out) hb); have n1_ := Aside0.mk (Kd.R_lower ho58 (keep_size (w := w) (g := g) (row := none) (by repeat (first | (with_reducible first | exact HK.out | apply KeepBut.set_ | apply keep_drewN | apply keep_drew | apply keep_alloc) | exact HK.out)))); have n2_ := Aside0.mk (IsS54.below (by first | ((repeat (first | (with_reducible first | exact HI0.out | apply IsS54.alloc | apply IsS54.drewN | apply IsS54.drew | apply IsS54.set_1 | apply IsS54.set_2) | exact HI0.out)); done) | (simp only [Int.add_zero]; repeat (first | (with_reducible first | exact HI0.out | apply IsS54.alloc | apply IsS54.drewN | apply IsS54.drew | apply IsS54.set_1 | apply IsS54.set_2) | exact HI0.out))) hb); have n3_ := Aside0.mk (KeepBut.trans (by repeat (first | (with_reducible first | exact HK.out | apply KeepBut.set_ | apply keep_drewN | apply keep_drew | apply keep_alloc) | exact HK.out)) (KeepBut.of_below hb g none) (.inl rfl)); have n4_ := Aside0.mk (below_step (by repeat (first | (with_reducible first | exact HB.out | apply below_alloc | apply pw_below_drewN | apply below_drew1 | refine below_set ?_ (IsS54.ge HI0.out)) | exact HB.out)) hb); clear HO_3; clear HI0; clear HK; clear HB; have HO_3 := n0_; have HO294 := n1_; have HI0 := n2_; have HK := n3_; have HB := n4_; clear n0_ n1_ n2_ n3_ n4_; clear hb ho58; obtain ⟨Ao59, co59, eo59⟩ := Kd.R_slice HO294.out; subst eo59) | ((with_reducible refine gate_callee (f := 50) rfl ?_); refine goesL_ (some 71) rfl rfl Try.func50 (by kernel_rfl) rfl #[.pointer (some ⟨g, 0, none⟩), .slice Ao59 y292.length co59] rfl (by (try simp only [List.map_toArray, List.map_cons, List.map_nil]); first | done | rfl | (simp only [List.length_drop, List.length_take]; rfl)) ?_; (with_reducible refine (spec_l1Cur_among.calls g s0_0 x1001_45 x1002_45 _ _ y292 t295 t296 t297 w0 _ ?side1 ?side2 ?side3 ?side4 ?side5 A53.out).mono ?_); (case side1 => first | ((repeat (first | (with_reducible first | exact HI0.out | apply IsS54.alloc | apply IsS54.drewN | apply IsS54.drew | apply IsS54.set_1 | apply IsS54.set_2) | exact HI0.out)); done) | (simp only [Int.add_zero]; repeat (first | (with_reducible first | exact HI0.out | apply IsS54.alloc | apply IsS54.drewN | apply IsS54.drew | apply IsS54.set_1 | apply IsS54.set_2) | exact HI0.out))); (case side2 => repeat (first | (with_reducible first | exact HB.out | apply below_alloc | apply pw_below_drewN | apply below_drew1 | refine below_set ?_ (IsS54.ge HI0.out)) | exact HB.out)); (case side3 => repeat (first | exact (Kd.R_reads' HO294.out).2.2 | (with_reducible refine Kd.C_alloc ?_ _) | (with_reducible refine Kd.C_drewN ?_ _) | (with_reducible refine Kd.C_drew ?_))); (case side4 => exact (Kd.R_reads' HO294.out).2.1); (case side5 => exact far_slice (IsS54.own_ne HI0.out HO294.out (by decide))); rintro e w60 ⟨rfl, hi, hb, hk⟩; refine ⟨_, rfl, ?_⟩; have n0_ := Aside0.mk (Kd.Q_mono (Kd.Q_keep (IsS54.apartQ (show IsS54 w0 _ g s0_0 x1001_45 x1002_45 from by first | ((repeat (first | (with_reducible first | exact HI0.out | apply IsS54.alloc | apply IsS54.drewN | apply IsS54.drew | apply IsS54.set_1 | apply IsS54.set_2) | exact HI0.out)); done) | (simp only [Int.add_zero]; repeat (first | (with_reducible first | exact HI0.out | apply IsS54.alloc | apply IsS54.drewN | apply IsS54.drew | apply IsS54.set_1 | apply IsS54.set_2) | exact HI0.out))) (by (with_reducible repeat (first | apply Kd.Q_alloc | apply Kd.Q_drewN | apply Kd.Q_drew)); exact HO_3.out) (by decide)) hk (fun _ h => h.2)) (fun _ h => h.1)); have n1_ := Aside0.mk (Kd.R_mono (Kd.R_keep (IsS54.apart (show IsS54 w0 _ g s0_0 x1001_45 x1002_45 from by first | ((repeat (first | (with_reducible first | exact HI0.out | apply IsS54.alloc | apply IsS54.drewN | apply IsS54.drew | apply IsS54.set_1 | apply IsS54.set_2) | exact HI0.out)); done) | (simp only [Int.add_zero]; repeat (first | (with_reducible first | exact HI0.out | apply IsS54.alloc | apply IsS54.drewN | apply IsS54.drew | apply IsS54.set_1 | apply IsS54.set_2) | exact HI0.out))) (by (with_reducible repeat (first | apply Kd.R_alloc | apply Kd.R_drewN | apply Kd.R_drew)); exact HO294.out) (by decide)) hk (fun _ h => h.2)) (fun _ h => h.1)); have n2_ := Aside0.mk (KeepBut.trans (by repeat (first | (with_reducible first | exact HK.out | apply KeepBut.set_ | apply keep_drewN | apply keep_drew | apply keep_alloc) | exact HK.out)) hk (.inl rfl)); have n3_ := Aside0.mk (hb); have n4_ := Aside0.mk (hi); clear HO_3; clear HO294; clear HK; clear HB; clear HI0; have HO_3 := n0_; have HO294 := n1_; have HK := n2_; have HB := n3_; have HI0 := n4_; clear n0_ n1_ n2_ n3_ n4_; (try clear hb); (try clear hb2); (try clear hk); (try clear hi)) | ((with_reducible refine gate_dst (N := 73) rfl ?_); (try (refine gate_guard (by rfl) ?_; dsimp only)); refine Kd.R_lit (Kd.int .i64) _ 3 ?hg (N := 73) ?hd (xs := ([0, 1498, 1499] : List Int)) (inner := [.int .i64 0, .int .i64 1498, .int .i64 1499]) (ok := fun _ => True) (okp := fun _ => True) ?hr ?hp (fun _ hk => hk) trivial (Below.refl _ _) (Nat.le_refl _) (by simp) ?_; (case hd => rfl); (case hg => rfl); (case hr => first | (go_simp; done) | (go_simp; rfl)); (case hp => exact (Reps.one (show Kd.M (Kd.int .i64) _ _ _ 0 [.int .i64 0] from rfl) (Reps.one (show Kd.M (Kd.int .i64) _ _ _ 1498 [.int .i64 1498] from rfl) (Reps.one (show Kd.M (Kd.int .i64) _ _ _ 1499 [.int .i64 1499] from rfl) (Reps.none _ _))))); intro v299 w61 ho62 hb hg_ hnew_; clear hg_ hnew_; (first | rw [← Ny298.out] at ho62 | (simp only [Int.reduceToNat] at ho62; rw [← Ny298.out] at ho62)); have n0_ := Aside0.mk (Kd.Q_below (by (with_reducible repeat (first | apply Kd.Q_alloc | apply Kd.Q_drewN | apply Kd.Q_drew)); exact HO_3.out) hb); have n1_ := Aside0.mk (Kd.R_elder' (by (with_reducible repeat (first | apply Kd.R_alloc | apply Kd.R_drewN | apply Kd.R_drew)); exact HO294.out) (Kd.R_base ho62) hb); have n2_ := Aside0.mk (Kd.R_lower (Kd.R_new' ho62 (Kd.R_lt (by (with_reducible repeat (first | apply Kd.R_alloc | apply Kd.R_drewN | apply Kd.R_drew)); exact HO294.out))) (keep_size (w := w) (g := g) (row := none) (by repeat (first | (with_reducible first | exact HK.out | apply KeepBut.set_ | apply keep_drewN | apply keep_drew | apply keep_alloc) | exact HK.out)))); have n3_ := Aside0.mk (IsS54.below (by first | ((repeat (first | (with_reducible first | exact HI0.out | apply IsS54.alloc | apply IsS54.drewN | apply IsS54.drew | apply IsS54.set_1 | apply IsS54.set_2) | exact HI0.out)); done) | (simp only [Int.add_zero]; repeat (first | (with_reducible first | exact HI0.out | apply IsS54.alloc | apply IsS54.drewN | apply IsS54.drew | apply IsS54.set_1 | apply IsS54.set_2) | exact HI0.out))) hb); have n4_ := Aside0.mk (KeepBut.trans (by repeat (first | (with_reducible first | exact HK.out | apply KeepBut.set_ | apply keep_drewN | apply keep_drew | apply keep_alloc) | exact HK.out)) (KeepBut.of_below hb g none) (.inl rfl)); have n5_ := Aside0.mk (below_step (by repeat (first | (with_reducible first | exact HB.out | apply below_alloc | apply pw_below_drewN | apply below_drew1 | refine below_set ?_ (IsS54.ge HI0.out)) | exact HB.out)) hb); clear HO_3; clear HO294; clear HI0; clear HK; clear HB; have HO_3 := n0_; have HO294 := n1_; have HO300 := n2_; have HI0 := n3_; have HK := n4_; have HB := n5_; clear n0_ n1_ n2_ n3_ n4_ n5_; clear hb ho62; obtain ⟨Ao63, co63, eo63⟩ := Kd.R_slice HO300.out; subst eo63) | ((with_reducible refine gate_callee (f := 50) rfl ?_); refine goesL_ (some 74) rfl rfl Try.func50 (by kernel_rfl) rfl #[.pointer (some ⟨g, 0, none⟩), .slice Ao63 y298.length co63] rfl (by (try simp only [List.map_toArray, List.map_cons, List.map_nil]); first | done | rfl | (simp only [List.length_drop, List.length_take]; rfl)) ?_; (with_reducible refine (spec_l1Cur_among.calls g s0_0 t296 t297 _ _ y298 t301 t302 t303 w0 _ ?side1 ?side2 ?side3 ?side4 ?side5 A54.out).mono ?_); (case side1 => first | ((repeat (first | (with_reducible first | exact HI0.out | apply IsS54.alloc | apply IsS54.drewN | apply IsS54.drew | apply IsS54.set_1 | apply IsS54.set_2) | exact HI0.out)); done) | (simp only [Int.add_zero]; repeat (first | (with_reducible first | exact HI0.out | apply IsS54.alloc | apply IsS54.drewN | apply IsS54.drew | apply IsS54.set_1 | apply IsS54.set_2) | exact HI0.out))); (case side2 => repeat (first | (with_reducible first | exact HB.out | apply below_alloc | apply pw_below_drewN | apply below_drew1 | refine below_set ?_ (IsS54.ge HI0.out)) | exact HB.out)); (case side3 => repeat (first | exact (Kd.R_reads' HO300.out).2.2 | (with_reducible refine Kd.C_alloc ?_ _) | (with_reducible refine Kd.C_drewN ?_ _) | (with_reducible refine Kd.C_drew ?_))); (case side4 => exact (Kd.R_reads' HO300.out).2.1); (case side5 => exact far_slice (IsS54.own_ne HI0.out HO300.out (by decide))); rintro e w64 ⟨rfl, hi, hb, hk⟩; refine ⟨_, rfl, ?_⟩; have n0_ := Aside0.mk (Kd.Q_mono (Kd.Q_keep (IsS54.apartQ (show IsS54 w0 _ g s0_0 t296 t297 from by first | ((repeat (first | (with_reducible first | exact HI0.out | apply IsS54.alloc | apply IsS54.drewN | apply IsS54.drew | apply IsS54.set_1 | apply IsS54.set_2) | exact HI0.out)); done) | (simp only [Int.add_zero]; repeat (first | (with_reducible first | exact HI0.out | apply IsS54.alloc | apply IsS54.drewN | apply IsS54.drew | apply IsS54.set_1 | apply IsS54.set_2) | exact HI0.out))) (by (with_reducible repeat (first | apply Kd.Q_alloc | apply Kd.Q_drewN | apply Kd.Q_drew)); exact HO_3.out) (by decide)) hk (fun _ h => h.2)) (fun _ h => h.1)); have n1_ := Aside0.mk (Kd.R_mono (Kd.R_keep (IsS54.apart (show IsS54 w0 _ g s0_0 t296 t297 from by first | ((repeat (first | (with_reducible first | exact HI0.out | apply IsS54.alloc | apply IsS54.drewN | apply IsS54.drew | apply IsS54.set_1 | apply IsS54.set_2) | exact HI0.out)); done) | (simp only [Int.add_zero]; repeat (first | (with_reducible first | exact HI0.out | apply IsS54.alloc | apply IsS54.drewN | apply IsS54.drew | apply IsS54.set_1 | apply IsS54.set_2) | exact HI0.out))) (by (with_reducible repeat (first | apply Kd.R_alloc | apply Kd.R_drewN | apply Kd.R_drew)); exact HO294.out) (by decide)) hk (fun _ h => h.2)) (fun _ h => h.1)); have n2_ := Aside0.mk (Kd.R_mono (Kd.R_keep (IsS54.apart (show IsS54 w0 _ g s0_0 t296 t297 from by first | ((repeat (first | (with_reducible first | exact HI0.out | apply IsS54.alloc | apply IsS54.drewN | apply IsS54.drew | apply IsS54.set_1 | apply IsS54.set_2) | exact HI0.out)); done) | (simp only [Int.add_zero]; repeat (first | (with_reducible first | exact HI0.out | apply IsS54.alloc | apply IsS54.drewN | apply IsS54.drew | apply IsS54.set_1 | apply IsS54.set_2) | exact HI0.out))) (by (with_reducible repeat (first | apply Kd.R_alloc | apply Kd.R_drewN | apply Kd.R_drew)); exact HO300.out) (by decide)) hk (fun _ h => h.2)) (fun _ h => h.1)); have n3_ := Aside0.mk (KeepBut.trans (by repeat (first | (with_reducible first | exact HK.out | apply KeepBut.set_ | apply keep_drewN | apply keep_drew | apply keep_alloc) | exact HK.out)) hk (.inl rfl)); have n4_ := Aside0.mk (hb); have n5_ := Aside0.mk (hi); clear HO_3; clear HO294; clear HO300; clear HK; clear HB; clear HI0; have HO_3 := n0_; have HO294 := n1_; have HO300 := n2_; have HK := n3_; have HB := n4_; have HI0 := n5_; clear n0_ n1_ n2_ n3_ n4_ n5_; (try clear hb); (try clear hb2); (try clear hk); (try clear hi); have p56 : 0 ≤ (0 : Int) := (by omega); have q56 : (0 : Int) < ((x3_40.length : Int) : Int) := of_decide_eq_true (by first | (with_reducible assumption) | assumption); have qi56 : (0 < x3_40.length) = True := eq_true (by omega); obtain ⟨go56, oo56, co56, eo56, gb56, gl56, cl56, HG56⟩ := Kd.Q_form HO_3.out (by omega); (first | cases eo56 | (injection eo56 with ea_ en_ ec_; (first | subst ea_ | (injection ea_ with ea_; subst ea_)); subst ec_; clear en_)); have GB56 := Aside0.mk gb56; have GG56 := Aside0.mk HG56; clear gb56 gl56 HG56; obtain ⟨ce56, hcl56, hM56, hcc56, hfr56⟩ := Kd.Q_elem HO_3.out z46 (0 : Int) p56 q56; obtain rfl := k46_openM hM56; have hx56_0 : w64.cell? ⟨go56, oo56 + (0 : Int).toNat * 2, none⟩ = some (.int .i64 ((rd_T46 x3_40 0).f0)) := hcc56 0 _ rfl; have hx56_1 : w64.cell? ⟨go56, oo56 + (0 : Int).toNat * 2 + 1, none⟩ = some (.int .i64 ((rd_T46 x3_40 0).f1)) := hcc56 1 _ rfl; have hf56_0 : w64.frozen? ⟨go56, oo56 + (0 : Int).toNat * 2, none⟩ = false := hfr56 0; have hf56_1 : w64.frozen? ⟨go56, oo56 + (0 : Int).toNat * 2 + 1, none⟩ = false := hfr56 1; (clear hcl56 hcc56 hfr56; (try clear hM56)); (try rw [show ((0 : Int)).toNat = 0 from rfl] at hx56_0); (try simp only [Nat.reduceMul, Nat.zero_mul, Nat.zero_add, Nat.add_zero, Nat.reduceAdd] at hx56_0); (try rw [show ((0 : Int)).toNat = 0 from rfl] at hf56_0); (try simp only [Nat.reduceMul, Nat.zero_mul, Nat.zero_add, Nat.add_zero, Nat.reduceAdd] at hf56_0); (try rw [show ((0 : Int)).toNat = 0 from rfl] at hx56_1); (try simp only [Nat.reduceMul, Nat.zero_mul, Nat.zero_add, Nat.add_zero, Nat.reduceAdd] at hx56_1); (try rw [show ((0 : Int)).toNat = 0 from rfl] at hf56_1); (try simp only [Nat.reduceMul, Nat.zero_mul, Nat.zero_add, Nat.add_zero, Nat.reduceAdd] at hf56_1); replace p56 := eq_true p56; replace q56 := eq_true q56; have HX65 := Aside0.mk (show Kd.Q k46 46 w64 w.heap.size (fun _ => True) (.slice (some ⟨go56, oo56, none⟩) x3_40.length co56) x3_40 from (by (with_reducible repeat (first | apply Kd.Q_alloc | apply Kd.Q_drewN | apply Kd.Q_drew)); exact HO_3.out)); obtain ⟨ce65, hcl65, hM65, hcc65, hfr65⟩ := Kd.Q_elem HX65.out z46 (0 : Int) (by omega) (by have h_ : (0 : Int) < ((x3_40.length : Int) : Int) := of_decide_eq_true (by first | (with_reducible assumption) | assumption); first | exact h_ | (have e_ := (Kd.Q_reads' HO_3.out).1; omega) | simpa using h_); obtain rfl := k46_openM hM65; have HP65 := Kd.Q_seg HX65.out (0 : Int) (by omega) (by have h_ : (0 : Int) < ((x3_40.length : Int) : Int) := of_decide_eq_true (by first | (with_reducible assumption) | assumption); first | exact h_ | (have e_ := (Kd.Q_reads' HO_3.out).1; omega) | simpa using h_) (seg := [.int .i64 t295, .int .i64 t301]) (j := 0) hcl65 hcc65 (show 2 ≤ 2 from by decide) (x' := (⟨t295, t301⟩ : S46)) (k46_mkM _ _ _ (⟨t295, t301⟩ : S46) ) (fun _ hk => hk); have hx65_0 := hcc65 0 _ rfl; (try simp only [show (k46).sz = 2 from rfl, Nat.mul_one, Nat.add_zero] at hx65_0); (try rw [show ((0 : Int)).toNat = 0 from rfl] at hx65_0); (try simp only [Nat.reduceMul, Nat.zero_mul, Nat.zero_add, Nat.add_zero, Nat.reduceAdd] at hx65_0); have hf65_0 := hfr65 0; (try simp only [show (k46).sz = 2 from rfl, Nat.mul_one, Nat.add_zero] at hf65_0); (try rw [show ((0 : Int)).toNat = 0 from rfl] at hf65_0); (try simp only [Nat.reduceMul, Nat.zero_mul, Nat.zero_add, Nat.add_zero, Nat.reduceAdd] at hf65_0); have hx65_1 := hcc65 1 _ rfl; (try simp only [show (k46).sz = 2 from rfl, Nat.mul_one, Nat.add_zero] at hx65_1); (try rw [show ((0 : Int)).toNat = 0 from rfl] at hx65_1); (try simp only [Nat.reduceMul, Nat.zero_mul, Nat.zero_add, Nat.add_zero, Nat.reduceAdd] at hx65_1); have hf65_1 := hfr65 1; (try simp only [show (k46).sz = 2 from rfl, Nat.mul_one, Nat.add_zero] at hf65_1); (try rw [show ((0 : Int)).toNat = 0 from rfl] at hf65_1); (try simp only [Nat.reduceMul, Nat.zero_mul, Nat.zero_add, Nat.add_zero, Nat.reduceAdd] at hf65_1); (clear hcl65 hcc65 hfr65; (try clear hM65))) | ((with_reducible refine gate_store (t := 46) (p := 76) rfl ?_); refine store_event (t := 46) (p := 76) (v := ?vo_w66) (w1 := ((w64.setCell ⟨go56, oo56 + 0, none⟩ (.int .i64 t295)).setCell ⟨go56, oo56 + 1, none⟩ (.int .i64 t301))) ?hg ?ho ?hn ?hr ?_; (case ho => rfl); (case hg => rfl); (case hn => rfl); (case hr => first | (go_simp; done) | (go_simp; rfl)); intro w66 hw; have hg : w64.grownBy w66 (some go56) := (by rw [hw]; exact HP65.2); have hp_ : Kd.Q k46 46 w66 w.heap.size (fun _ => True) (.slice (some ⟨go56, oo56, none⟩) x3_40.length co56) y304 := (by rw [hw, Ny304.out]; exact HP65.1); clear HP65; have n0_ := Aside0.mk (hp_); have n1_ := Aside0.mk (IsS54.grown (by first | ((repeat (first | (with_reducible first | exact HI0.out | apply IsS54.alloc | apply IsS54.drewN | apply IsS54.drew | apply IsS54.set_1 | apply IsS54.set_2) | exact HI0.out)); done) | (simp only [Int.add_zero]; repeat (first | (with_reducible first | exact HI0.out | apply IsS54.alloc | apply IsS54.drewN | apply IsS54.drew | apply IsS54.set_1 | apply IsS54.set_2) | exact HI0.out))) hg (IsS54.own_neQ HI0.out HO_3.out (by decide))); have n2_ := Aside0.mk (Kd.R_over' (v := (.slice (some ⟨go56, oo56, none⟩) x3_40.length co56)) (by (with_reducible repeat (first | apply Kd.R_alloc | apply Kd.R_drewN | apply Kd.R_drew)); exact HO294.out) (Kd.Q_typed HO_3.out) (by decide) hg); have n3_ := Aside0.mk (Kd.R_over' (v := (.slice (some ⟨go56, oo56, none⟩) x3_40.length co56)) (by (with_reducible repeat (first | apply Kd.R_alloc | apply Kd.R_drewN | apply Kd.R_drew)); exact HO300.out) (Kd.Q_typed HO_3.out) (by decide) hg); have n4_ := Aside0.mk ((by rw [hw]; exact below_set (below_set (HB.out) (Nat.le_trans HL.out GB56.out)) (Nat.le_trans HL.out GB56.out) : Below w0.heap.size w0 w66)); have n5_ := Aside0.mk (KeepBut.trans (by repeat (first | (with_reducible first | exact HK.out | apply KeepBut.set_ | apply keep_drewN | apply keep_drew | apply keep_alloc) | exact HK.out)) (KeepBut.of_grown hg g) (Kd.Q_base2 HO_3.out)); clear HO_3; clear HI0; clear HO294; clear HO300; clear HB; clear HK; have HO_3 := n0_; have HI0 := n1_; have HO294 := n2_; have HO300 := n3_; have HB := n4_; have HK := n5_; clear n0_ n1_ n2_ n3_ n4_ n5_; clear hg hw hp_))
                            go_ret
                            exact ⟨_, by first | rfl | (simp [errW_none, errW_some] <;> rfl) | (simp [*, errW_none, errW_some] <;> rfl), by (with_reducible repeat (first | apply Kd.Q_alloc | apply Kd.Q_drewN | apply Kd.Q_drew)); exact HO_3.out, by first | ((repeat (first | (with_reducible first | exact HI0.out | apply IsS54.alloc | apply IsS54.drewN | apply IsS54.drew | apply IsS54.set_1 | apply IsS54.set_2) | exact HI0.out)); done) | (simp only [Int.add_zero]; repeat (first | (with_reducible first | exact HI0.out | apply IsS54.alloc | apply IsS54.drewN | apply IsS54.drew | apply IsS54.set_1 | apply IsS54.set_2) | exact HI0.out)), by repeat (first | (with_reducible first | exact HB.out | apply below_alloc | apply pw_below_drewN | apply below_drew1 | refine below_set ?_ (IsS54.ge HI0.out)) | exact HB.out), by repeat (first | (with_reducible first | exact HK.out | apply KeepBut.set_ | apply keep_drewN | apply keep_drew | apply keep_alloc) | exact HK.out)⟩
                          · rw [if_neg c55] at H
                            exact absurd H (by simp)
                        · replace c52 := Bool.eq_false_iff.mpr c52
                          subst c52
                          have H1 : (some (x3_40, x1001_45, x1002_45)) = some (r1, r2, r3) := by rw [if_neg (show ¬ (false = true) by decide)] at H; exact H
                          clear H
                          have H := H1
                          clear H1
                          simp only [Option.some.injEq, Prod.mk.injEq] at H
                          obtain ⟨rfl, rfl, rfl⟩ := H
                          go_wp2
                          go_ret
                          exact ⟨_, by first | rfl | (simp [errW_none, errW_some] <;> rfl) | (simp [*, errW_none, errW_some] <;> rfl), by (with_reducible repeat (first | apply Kd.Q_alloc | apply Kd.Q_drewN | apply Kd.Q_drew)); exact HO_3.out, by first | ((repeat (first | (with_reducible first | exact HI0.out | apply IsS54.alloc | apply IsS54.drewN | apply IsS54.drew | apply IsS54.set_1 | apply IsS54.set_2) | exact HI0.out)); done) | (simp only [Int.add_zero]; repeat (first | (with_reducible first | exact HI0.out | apply IsS54.alloc | apply IsS54.drewN | apply IsS54.drew | apply IsS54.set_1 | apply IsS54.set_2) | exact HI0.out)), by repeat (first | (with_reducible first | exact HB.out | apply below_alloc | apply pw_below_drewN | apply below_drew1 | refine below_set ?_ (IsS54.ge HI0.out)) | exact HB.out), by repeat (first | (with_reducible first | exact HK.out | apply KeepBut.set_ | apply keep_drewN | apply keep_drew | apply keep_alloc) | exact HK.out)⟩

end Go.Proofs.Ytdobjdkjflnpmaa.PFnParts
