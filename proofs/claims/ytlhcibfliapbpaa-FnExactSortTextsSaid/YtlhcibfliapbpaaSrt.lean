/- slices.Sorted of slices.Values of a row of texts at this seat's numbers: a new row that holds the texts in order. Conditions: as each theorem says. -/
import Derived.Test.YtlhcibfliapbpaaLay
import Derived.Test.YtlhcibfliapbpaaHand
import Derived.RangeFuncBox
import Derived.RangeFuncLeaves
import Derived.Shelf.Abstract
import Derived.WalkKit
import Derived.OwnWalkIn
import Derived.TacticsInMore
import Derived.LoopNIn
import Derived.LoopIn
set_option linter.unusedVariables false
set_option linter.unusedSimpArgs false
namespace Go.Proofs.Ytlhcibfliapbpaa.Srt
open Go.RowKit Go.Maps Go.Sort Go.Shelf Go.Proofs Go.Proofs.Ytlhcibfliapbpaa.Lay

attribute [local go_sem] Oper.semAt_some

theorem add_block (ad : Addr) (j : Nat) : (ad.add j).block = ad.block := by
  unfold Addr.add
  split <;> rfl

set_option maxRecDepth 100000 in
set_option maxHeartbeats 2000000 in
/-- The iterator over a row of texts: all come, one behind the other, whatever the round does, so that it keeps what lay below n₀. -/
theorem values1 (n : Nat) (hn : 1 ≤ n) (l Bs n₀ : Nat) (ad : Addr) (cap : Nat) (zs : List (List UInt8)) (hreach : zs.length * 16 ≤ 140737488351232) (hb : ad.block < n₀) (J : List (List UInt8) → World → Prop)
    (hY : ∀ pre x W, J pre W → pre.length < zs.length → YieldAt Fence.wide (n - 1) Try.prog l #[encStr x] W fun e W' => e = .returned (.bool true) ∧ J (pre ++ [x]) W' ∧ Below n₀ W W')
    (W : World) (hBs : W.cell? ⟨Bs, 0, none⟩ = some (.slice (some ad) zs.length cap)) (hc : ∀ j, (h : j < zs.length) → W.cell? (ad.add j) = some (encStr zs[j])) (h0 : J [] W) :
    CallsIn Fence.wide n Try.prog 45 #[.func (.yield l) #[] #[], .pointer (some ⟨Bs, 0, none⟩)] W fun e W' => (∃ v, e = .returned v) ∧ J zs W' := by
  refine callsIn_of_wp Try.func45 rfl trivial ?_ rfl
  simp only [Try.ntmps45, List.size_toArray, List.length_cons, List.length_nil, Nat.reduceAdd, Nat.reduceSub, Array.replicate_succ, Array.replicate_zero, List.push_toArray, List.append_toArray, List.nil_append, List.cons_append]
  gi_wp2
  gi_loopw [7] (fun i wr => ∃ k : Nat, k ≤ zs.length ∧ i = .int .i64 k ∧ J (zs.take k) wr ∧ Below n₀ W wr)
    (fun i _ => zs.length - (intOf i).toNat)
  case atStart => exact ⟨0, Nat.zero_le _, rfl, h0, Below.refl _ _⟩
  case round =>
    obtain ⟨k, hk, rfl, hJs, hnx⟩ := hrel
    by_cases hlt : k < zs.length
    · have hcx' : wr.cell? (ad.add k) = some (encStr zs[k]) := (hnx.cell (p := ad.add k) (by rw [add_block]; exact hb)).trans (hc k hlt)
      obtain ⟨fn, tmps, assign, body, hy, hR⟩ := hY _ zs[k] wr hJs (by rw [List.length_take]; omega)
      gi_wp2
      refine hR.mono ?_
      rintro e W3 ⟨rfl, hJ3, hk3⟩
      gi_wp2
      go_roundw
      case rel => exact ⟨k + 1, by omega, by simp, by rw [List.take_succ_eq_append_getElem hlt]; exact hJ3, hnx.trans hk3⟩
      case measure => simp [intOf]; omega
    · obtain rfl : k = zs.length := by omega
      rw [List.take_length] at hJs
      gi_wp2
      go_end0
      exact ⟨⟨_, rfl⟩, hJs⟩
set_option maxRecDepth 100000 in
set_option maxHeartbeats 1000000 in
theorem values1_nil (n : Nat) (l Bs : Nat) (J : List (List UInt8) → World → Prop) (W : World) (A : Option Addr) (cap : Nat) (hBs : W.cell? ⟨Bs, 0, none⟩ = some (.slice A 0 cap)) (h0 : J [] W) :
    CallsIn Fence.wide n Try.prog 45 #[.func (.yield l) #[] #[], .pointer (some ⟨Bs, 0, none⟩)] W fun e W' => (∃ v, e = .returned v) ∧ J [] W' := by
  refine callsIn_of_wp Try.func45 rfl trivial ?_ rfl
  simp only [Try.ntmps45, List.size_toArray, List.length_cons, List.length_nil, Nat.reduceAdd, Nat.reduceSub, Array.replicate_succ, Array.replicate_zero, List.push_toArray, List.append_toArray, List.nil_append, List.cons_append]
  gi_wp2
  gi_loopw [7] (fun i wr => i = .int .i64 0 ∧ J [] wr) (fun _ _ => 0)
  case atStart => exact ⟨rfl, h0⟩
  case round =>
    obtain ⟨rfl, hJs⟩ := hrel
    gi_wp2
    go_end0
    exact ⟨⟨_, rfl⟩, hJs⟩
/-- What the row holds, in a world whose blocks below n₀ are old. -/
def Txts (n₀ : Nat) (W : World) (sv : Value) (zs : List (List UInt8)) : Prop :=
  (∃ A cap, sv = .slice A 0 cap ∧ zs = []) ∨ ∃ ad cap, sv = .slice (some ad) zs.length cap ∧ ad.block < n₀ ∧ ∀ j, (h : j < zs.length) → W.cell? (ad.add j) = some (encStr zs[j])
theorem Txts.below {n₀ : Nat} {A B : World} (h : Below n₀ A B) {sv : Value} {zs : List (List UInt8)} : Txts n₀ A sv zs → Txts n₀ B sv zs
  | .inl e => .inl e
  | .inr ⟨ad, cap, e, hb, hc⟩ => .inr ⟨ad, cap, e, hb, fun j hj => (h.cell (p := ad.add j) (by rw [add_block]; exact hb)).trans (hc j hj)⟩
theorem values (n : Nat) (hn : 1 ≤ n) (l Bs n₀ : Nat) (sv : Value) (zs : List (List UInt8)) (hreach : zs.length * 16 ≤ 140737488351232) (J : List (List UInt8) → World → Prop)
    (hY : ∀ pre x W, J pre W → pre.length < zs.length → YieldAt Fence.wide (n - 1) Try.prog l #[encStr x] W fun e W' => e = .returned (.bool true) ∧ J (pre ++ [x]) W' ∧ Below n₀ W W')
    (W : World) (hBs : W.cell? ⟨Bs, 0, none⟩ = some sv) (hc : Txts n₀ W sv zs) (h0 : J [] W) :
    CallsIn Fence.wide n Try.prog 45 #[.func (.yield l) #[] #[], .pointer (some ⟨Bs, 0, none⟩)] W fun e W' => (∃ v, e = .returned v) ∧ J zs W' := by
  rcases hc with ⟨A, cap, rfl, rfl⟩ | ⟨ad, cap, rfl, hb, hc⟩
  · exact values1_nil n l Bs J W A cap hBs h0
  · exact values1 n hn l Bs n₀ ad cap zs hreach hb J hY W hBs hc h0

set_option maxRecDepth 100000 in
set_option maxHeartbeats 2000000 in
/-- slices.AppendSeq(nil, ..) over that iterator. -/
theorem append_values (n : Nat) (hn : 3 ≤ n) (Bx : Nat) (sv : Value) (zs : List (List UInt8)) (hz : zs.length ≤ 1048576) (w : World) (hBx : Bx < w.heap.size) (hc : w.cell? ⟨Bx, 0, none⟩ = some sv) (hI : Txts w.heap.size w sv zs) :
    CallsIn Fence.wide n Try.prog (sorted__ren.f 11) #[.slice none 0 0, .func (.func 45) #[] #[.pointer (some ⟨Bx, 0, none⟩)]] w fun e w' => ∃ v : Value, e = .returned v ∧ w'.ownsRow w.heap.size (sorted__ren.t 26) 1 v zs.length (zs.map encStr) ∧ (v = .slice none 0 0 ↔ zs = []) ∧ Below w.heap.size w w' := by
  have L : SlLaysZ.n11 Try.prog sorted__ren := { sorted_ with }
  have hf : (Fence.wide).fn (sorted__ren.f 11) := trivial
  have hFg : (Fence.wide).fn 45 := trivial
  have eg : ∀ args w, (callFunc 45 args).run Try.prog w = .ok (.enter 45 args) w := enters_of Try.func45 (by kernel_rfl) rfl
  have h1 : 1 ≤ n := by omega
  have mixed := L.mixed; have t0 := L.t0; have a0 := L.a0; have z0 := L.z0; have v0 := L.v0; have t24 := L.t24; have a24 := L.a24; have z24 := L.z24; have v24 := L.v24; have t26 := L.t26; have a26 := L.a26; have z26 := L.z26; have v26 := L.v26; have t28 := L.t28; have a28 := L.a28; have z28 := L.z28; have v28 := L.v28
  have hne : sorted__ren.t 24 ≠ sorted__ren.t 26 := fun e => by have h := L.t24; rw [e, L.t26] at h; cases h
  have u0 := run_underlying L.t0; have u24 := run_underlying L.t24; have u26 := run_underlying L.t26; have u28 := run_underlying L.t28
  obtain ⟨_, _, FG⟩ := L.f11
  refine callsIn_of_wp_marks FG rfl hf ?_ rfl
  simp only [SlBodyZ.n11_ntmps sorted__ren, List.size_toArray, List.length_cons, List.length_nil, Nat.reduceAdd, Nat.reduceSub, Array.replicate_succ, Array.replicate_zero, List.push_toArray, List.append_toArray, List.nil_append, List.cons_append]
  gi_wp2
  refine wpIn_rangeFunc ?_
  intro fn hfn
  rw [show (Fence.wide).round = none from rfl]
  obtain ⟨W0, hW0⟩ : ∃ W0, w.alloc (.cells #[.slice none 0 0] (sorted__ren.t 24)) = W0 := ⟨_, rfl⟩
  have hs0 : W0.heap.size = w.heap.size + 1 := by rw [← hW0]; simp
  have hv0 : W0.heap[w.heap.size]? = some (.cells #[.slice none 0 0] (sorted__ren.t 24) (0, 0)) := by rw [← hW0]; exact World.alloc_heap_new w _
  have hb0 : Below w.heap.size w W0 := by rw [← hW0]; exact (Below.refl _ w).alloc (Nat.le_refl _) _
  rw [hW0]
  obtain ⟨W1, hW1⟩ : ∃ W1, (W0.alloc (.deferred (some []))).alloc (.loop (AnyZ.apRec sorted__ren fn (.func (.func 45) #[] #[.pointer (some ⟨Bx, 0, none⟩)]) w.heap.size W0.heap.size .ready none)) = W1 := ⟨_, rfl⟩
  have hold : ∀ k, k < W0.heap.size → W1.heap[k]? = W0.heap[k]? := fun k hk => by
    rw [← hW1]; exact (Below.heap_alloc _ _ k (by simp; omega)).trans (Below.heap_alloc _ _ k hk)
  have hb1 : Below w.heap.size w W1 := by rw [← hW1]; exact (hb0.alloc hb0.size _).alloc (by have := hb0.size; simp; omega) _
  have hs1 : W1.heap.size = W0.heap.size + 2 := by rw [← hW1]; simp
  have hM : AnyZ.ApAt sorted__ren w fn (.func (.func 45) #[] #[.pointer (some ⟨Bx, 0, none⟩)]) w.heap.size (W0.heap.size + 1) W0.heap.size [] W1 :=
    ⟨⟨_, (hold w.heap.size (by omega)).trans hv0, ⟨rfl, .inl ⟨rfl, rfl⟩⟩, by simp⟩,
     by rw [← hW1]; have := World.alloc_heap_new (W0.alloc (.deferred (some []))) (.loop (AnyZ.apRec sorted__ren fn (.func (.func 45) #[] #[.pointer (some ⟨Bx, 0, none⟩)]) w.heap.size W0.heap.size .ready none)); rwa [World.size_alloc] at this,
     by rw [← hW1]; exact (Below.heap_alloc _ _ _ (by simp)).trans (World.alloc_heap_new W0 _), hb1⟩
  refine ⟨W0.heap.size + 1, [{ target := .collected W0.heap.size, args := #[] }], W1, { target := .fn (.func 45) #[.pointer (some ⟨Bx, 0, none⟩)], args := #[.func (.yield (W0.heap.size + 1)) #[] #[]] }, W1, 45,
    #[.func (.yield (W0.heap.size + 1)) #[] #[]] ++ #[.pointer (some ⟨Bx, 0, none⟩)], W1, ?_, ?_, ?_, ?_, fun _ => h1, ?_⟩
  · rw [← hW1]; exact run_enterLoop_outer _ _ _ _ _
  · simp [resolve, go_sem]
  · intro f' hf'; simp [Target.leads] at hf'; subst hf'; exact hFg
  · simp [invoke, go_sem, eg]
  · refine (values (n - 1) (by omega) (W0.heap.size + 1) Bx w.heap.size sv zs (by omega) (AnyZ.ApAt sorted__ren w fn (.func (.func 45) #[] #[.pointer (some ⟨Bx, 0, none⟩)]) w.heap.size (W0.heap.size + 1) W0.heap.size)
      (fun pre x W hJ hl => ?_) W1 ((hb1.cell (p := ⟨Bx, 0, none⟩) hBx).trans hc) (hI.below hb1) hM).mono ?_
    · obtain ⟨f1, t1, a1, b1, h2, h3⟩ := AnyZ.apYield { L with } Fence.wide (n - 1 - 1) w fn hfn _ w.heap.size (W0.heap.size + 1) W0.heap.size (by omega) (by omega) (by omega) (Nat.le_refl _) (by omega) zs.length (by unfold maxLen; omega) (by omega) pre x W hJ hl
      refine ⟨f1, t1, a1, b1, h2, h3.mono ?_⟩
      rintro e W' ⟨he, hJ', hk⟩
      have p := hJ.below
      have q := hJ'.below
      exact ⟨he, hJ', ⟨q.os.trans p.os.symm, q.tape.trans p.tape.symm, q.output.trans p.output.symm, hk.size, fun k hk => (q.block k hk).trans (p.block k hk).symm⟩⟩
    rintro e W2 ⟨⟨v0, rfl⟩, h2⟩
    obtain ⟨v, hv, hrow, hnil⟩ := h2.box
    have hend := run_endLoop (P := Try.prog) h2.L (by simp [AnyZ.apRec])
    obtain ⟨W3, hW3⟩ : ∃ W3, W2.putObj (W0.heap.size + 1) (.loop { AnyZ.apRec sorted__ren fn (.func (.func 45) #[] #[.pointer (some ⟨Bx, 0, none⟩)]) w.heap.size W0.heap.size .ready none with state := .exhausted }) = W3 := ⟨_, rfl⟩
    rw [hW3] at hend
    have hg3 : W2.grownBy W3 (some (W0.heap.size + 1)) := by rw [← hW3]; exact grownBy_putObj_a _ _ _
    have hv3 : W3.heap[w.heap.size]? = some (.cells #[v] (sorted__ren.t 24) (0, 0)) := by rw [← hW3]; exact (World.putObj_heap_other (by omega)).trans hv
    have hK3 : W3.heap[W0.heap.size]? = some (.deferred (some [])) := by rw [← hW3]; exact (World.putObj_heap_other (by omega)).trans h2.K
    have hrow3 := hrow.kept hg3 (ownsRow_ne_a hrow h2.L (fun cur e => by first | cases e | exact hne (Obj.cells.inj e).2.1))
    have hb3 : Below w.heap.size w W3 := h2.below.grown hg3 h2.below.size (fun k e => by cases e; omega)
    obtain ⟨hc3, hf3⟩ := cell_of_box_a hv3
    clear hW3
    refine ⟨none, W3, hend, ?_⟩
    gi_wp2
    rw [← hs0]
    refine ⟨by simp, .inl ⟨_, _, rfl, run_takeDeferred hK3, ?_⟩⟩
    exact ⟨_, results_tmp rfl _ _ _, v, rfl, hrow3.kept (grownBy_putObj_a _ _ _) (ownsRow_ne_a hrow3 hK3 (fun cur e => by first | cases e | exact hne (Obj.cells.inj e).2.1)), hnil, hb3.grown (grownBy_putObj_a _ _ _) hb3.size (fun k e => by cases e; omega)⟩

set_option maxHeartbeats 1000000 in
/-- slices.Collect over that iterator. -/
theorem collect_values (n : Nat) (hn : 4 ≤ n) (Bx : Nat) (sv : Value) (zs : List (List UInt8)) (hz : zs.length ≤ 1048576) (w : World) (hBx : Bx < w.heap.size) (hc : w.cell? ⟨Bx, 0, none⟩ = some sv) (hI : Txts w.heap.size w sv zs) :
    CallsIn Fence.wide n Try.prog (sorted__ren.f 8) #[.func (.func 45) #[] #[.pointer (some ⟨Bx, 0, none⟩)]] w fun e w' => ∃ v : Value, e = .returned v ∧ w'.ownsRow w.heap.size (sorted__ren.t 26) 1 v zs.length (zs.map encStr) ∧ (v = .slice none 0 0 ↔ zs = []) ∧ Below w.heap.size w w' := by
  have L : SlLaysZ.n8 Try.prog sorted__ren := { sorted_ with }
  have h1 : 1 ≤ n := by omega
  have hf : (Fence.wide).fn (sorted__ren.f 8) := trivial
  have hf11 : (Fence.wide).fn (sorted__ren.f 11) := trivial
  have e11 : ∀ args w, (callFunc (sorted__ren.f 11) args).run Try.prog w = .ok (.enter (sorted__ren.f 11) args) w := L.f11.enters rfl
  have mixed := L.mixed; have t0 := L.t0; have a0 := L.a0; have z0 := L.z0; have v0 := L.v0; have t24 := L.t24; have a24 := L.a24; have z24 := L.z24; have v24 := L.v24; have t26 := L.t26; have a26 := L.a26; have z26 := L.z26; have v26 := L.v26; have t28 := L.t28; have a28 := L.a28; have z28 := L.z28; have v28 := L.v28
  have u0 := run_underlying L.t0; have u24 := run_underlying L.t24; have u26 := run_underlying L.t26; have u28 := run_underlying L.t28
  obtain ⟨_, _, FG⟩ := L.f8
  refine callsIn_of_wp FG rfl hf ?_ rfl
  simp only [SlBodyZ.n8_ntmps sorted__ren, List.size_toArray, List.length_cons, List.length_nil, Nat.reduceAdd, Nat.reduceSub, Array.replicate_succ, Array.replicate_zero, List.push_toArray, List.append_toArray, List.nil_append, List.cons_append]
  gi_wp2_with (gi_at_fn (sorted__ren.f 11); refine (append_values (n - 1) (by omega) Bx sv zs hz _ hBx hc hI).mono ?_; rintro e w' ⟨v, rfl, hrow, hnil, hb⟩)
  go_ret
  exact ⟨v, rfl, hrow, hnil, hb⟩

/-- slices.Sort's two contracts at this program. -/
theorem sorts (m : Nat) : AnyZ.SortsIn Try.prog sorted__ren Fence.wide m :=
  ⟨fun blk off cap ss W hH hblk hsz => callsIn_wide.2 (AnyM.slices_Sort_string sort_ blk off cap ss W hH hblk hsz),
   fun p cap W => callsIn_wide.2 (AnyM.slices_Sort_string_none sort_ p cap W)⟩

set_option maxRecDepth 100000 in
set_option maxHeartbeats 2000000 in
/-- slices.Sorted over that iterator. -/
theorem sorted_values (n : Nat) (hn : 5 ≤ n) (Bx : Nat) (sv : Value) (zs : List (List UInt8)) (hz : zs.length ≤ 1048576) (w : World) (hBx : Bx < w.heap.size) (hc : w.cell? ⟨Bx, 0, none⟩ = some sv) (hI : Txts w.heap.size w sv zs) :
    CallsIn Fence.wide n Try.prog (sorted__ren.f 6) #[.func (.func 45) #[] #[.pointer (some ⟨Bx, 0, none⟩)]] w fun e w' => ∃ v : Value, e = .returned v ∧
      w'.ownsRow w.heap.size (sorted__ren.t 26) 1 v zs.length ((zs.mergeSort (fun x y => decide (x ≤ y))).map encStr) ∧ Below w.heap.size w w' := by
  have L : SlLaysZ.n6 Try.prog sorted__ren := sorted_
  have h1 : 1 ≤ n := by omega
  have hf : (Fence.wide).fn (sorted__ren.f 6) := trivial
  have hf8 : (Fence.wide).fn (sorted__ren.f 8) := trivial
  have hf9 : (Fence.wide).fn (sorted__ren.f 9) := trivial
  have hsort := sorts (n - 1)
  have e8 : ∀ args w, (callFunc (sorted__ren.f 8) args).run Try.prog w = .ok (.enter (sorted__ren.f 8) args) w := L.f8.enters rfl
  have e9 : ∀ args w, (callFunc (sorted__ren.f 9) args).run Try.prog w = .ok (.enter (sorted__ren.f 9) args) w := enters_of Try.func44 (by kernel_rfl) rfl
  have mixed := L.mixed; have t0 := L.t0; have a0 := L.a0; have z0 := L.z0; have v0 := L.v0; have t24 := L.t24; have a24 := L.a24; have z24 := L.z24; have v24 := L.v24; have t26 := L.t26; have a26 := L.a26; have z26 := L.z26; have v26 := L.v26; have t28 := L.t28; have a28 := L.a28; have z28 := L.z28; have v28 := L.v28
  have u0 := run_underlying L.t0; have u24 := run_underlying L.t24; have u26 := run_underlying L.t26; have u28 := run_underlying L.t28
  obtain ⟨_, _, FG⟩ := L.f6
  refine callsIn_of_wp FG rfl hf ?_ rfl
  simp only [SlBodyZ.n6_ntmps sorted__ren, List.size_toArray, List.length_cons, List.length_nil, Nat.reduceAdd, Nat.reduceSub, Array.replicate_succ, Array.replicate_zero, List.push_toArray, List.append_toArray, List.nil_append, List.cons_append]
  gi_wp2_with (gi_at_fn (sorted__ren.f 8); refine (collect_values (n - 1) (by omega) Bx sv zs hz _ hBx hc hI).mono ?_; rintro e W ⟨v, rfl, hrow, hnil, hb⟩)
  rcases hrow.2 with ⟨rfl, hz0⟩ | ⟨gb, cap, cur, rfl, hbase, hgb, r1, r2, r3, r4⟩
  · have hss : zs = [] := List.eq_nil_of_length_eq_zero hz0
    subst hss
    gi_wp2_with (gi_at_fn (sorted__ren.f 9); refine (hsort.2 none 0 W).mono ?_; rintro e w' ⟨rfl, rfl⟩)
    go_ret
    exact ⟨.slice none 0 0, rfl, by simpa using hrow, hb⟩
  · have hH : Holds encStr W gb 0 zs.toArray := holds_of_block hgb (by simpa using r4)
    have hgl : gb < W.heap.size := (Array.getElem?_eq_some_iff.1 hgb).1
    have cS := hsort.1 gb 0 cap zs W hH hgl (by omega)
    gi_wp2_with (gi_at_fn (sorted__ren.f 9); refine cS.mono ?_; rintro e w' ⟨rfl, nn, os, rfl⟩)
    go_ret
    exact ⟨_, rfl, ownsRow_sorted (by simp) hbase hgb r1 r2 r3, hb.grown (grownBy_sorted _) hb.size (fun j hj => by cases hj; exact hbase)⟩

end Go.Proofs.Ytlhcibfliapbpaa.Srt

namespace Go.Proofs.Ytlhcibfliapbpaa.Srt
open Go.RowKit Go.Proofs.YtlhcibfliapbpaaW.PrintWords Go.Proofs.YtlhcibfliapbpaaW.PrintLast Go.Proofs.YtlhcibfliapbpaaW.PrintMore

/-- Texts in order. -/
def sortB (l : List ByteArray) : List ByteArray := ((l.map (·.data.toList)).mergeSort (fun x y => decide (x ≤ y))).map (fun x => ⟨x.toArray⟩)
theorem txts_of_C {w : World} {A : Option Addr} {l0 : List ByteArray} {cap : Nat} (h : Kd.string.C w A l0.length l0) : Txts w.heap.size w (.slice A l0.length cap) (l0.map (·.data.toList)) := by
  rcases Nat.eq_zero_or_pos l0.length with h0 | h0
  · obtain rfl := List.eq_nil_of_length_eq_zero h0
    exact .inl ⟨A, cap, rfl, rfl⟩
  · obtain ⟨ad, rfl, hc⟩ := (Kd.reads_of_C (enc := Value.string) (d := ByteArray.empty) (h1 := fun _ => rfl) h).2.2 h0
    refine .inr ⟨ad, cap, by simp, ?_, fun j hj => ?_⟩
    · have h1 := World.block_lt_of_cell? _ _ (hc 0 h0)
      rwa [add_block] at h1
    · have hj' : j < l0.length := by simpa using hj
      rw [hc j hj']
      simp [encStr, List.getD_eq_getElem?_getD, List.getElem?_eq_getElem hj', Lib.mk_data]
theorem values_call (A : Option Addr) (n cap : Nat) (w : World) :
    Calls Try.prog 30 #[.slice A n cap] w fun e w' => e = .returned (.func (.func 45) #[] #[.pointer (some ⟨w.heap.size, 0, none⟩)]) ∧ w' = w.alloc (.cells #[.slice A n cap] 32) := by
  go_enter Try.func30, Try.ntmps30
  go_wp2
  go_ret
  exact ⟨rfl, rfl⟩
theorem sorted_call (A0 : Option Addr) (c0 : Nat) (l0 : List ByteArray) (W : World) (hr : Kd.string.C W A0 l0.length l0) (hl : l0.length ≤ 1048576) (Bx : Nat) (hBx : Bx = W.heap.size) :
    Calls Try.prog 29 #[.func (.func 45) #[] #[.pointer (some ⟨Bx, 0, none⟩)]] (W.alloc (.cells #[.slice A0 l0.length c0] 32)) fun e w' => ∃ v : Value, e = .returned v ∧ Kd.R Kd.string 9 w' W.heap.size (fun _ => True) v (sortB l0) ∧ Below W.heap.size W w' := by
  subst hBx
  have hb : Below W.heap.size W (W.alloc (.cells #[.slice A0 l0.length c0] 32)) := below_alloc (Below.refl _ _) _
  have hT := txts_of_C (cap := c0) (Kd.C_below hr hb)
  have hx : (W.alloc (.cells #[.slice A0 l0.length c0] 32)).cell? ⟨W.heap.size, 0, none⟩ = some (.slice A0 l0.length c0) := (cell_of_box_a (World.alloc_heap_new W _)).1
  have h := callsIn_wide.1 (sorted_values 5 (Nat.le_refl _) W.heap.size (.slice A0 l0.length c0) (l0.map (·.data.toList)) (by simpa using hl) (W.alloc (.cells #[.slice A0 l0.length c0] 32)) (by simp) hx hT)
  refine Calls.mono (show Calls Try.prog 29 _ _ _ from h) ?_
  rintro e w' ⟨v, rfl, ho, hb2⟩
  refine ⟨v, rfl, ?_, below_step hb hb2⟩
  have hs : W.heap.size ≤ (W.alloc (.cells #[.slice A0 l0.length c0] 32)).heap.size := by simp
  refine Kd.R_lower (base := (W.alloc (.cells #[.slice A0 l0.length c0] 32)).heap.size) (Kd.R_of_own (enc := Value.string) (h1 := fun _ => rfl) ?_ (fun _ _ => trivial)) hs
  have e1 : (sortB l0).length = (l0.map (·.data.toList)).length := by simp [sortB]
  rw [e1]
  have e2 : encs Value.string (sortB l0) = ((l0.map (·.data.toList)).mergeSort (fun x y => decide (x ≤ y))).map encStr := by
    unfold encs sortB
    rw [List.map_map]
    rfl
  rw [e2]
  exact ho
end Go.Proofs.Ytlhcibfliapbpaa.Srt
