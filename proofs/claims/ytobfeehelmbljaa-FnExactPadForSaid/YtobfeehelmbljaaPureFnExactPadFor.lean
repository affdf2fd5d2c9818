/- Proved: PadFor of the program and of the reference answer alike at all arguments. Conditions: those of the given statement alone. -/
import Derived.Test.YtobfeehelmbljaaPFnExactPadForx2
import Derived.Test.YtobfeehelmbljaaBase
set_option linter.unusedVariables false
set_option linter.unusedSimpArgs false
namespace Go.Proofs.Ytobfeehelmbljaa.Pure
open Go.RowKit Go.Proofs.Ytobfeehelmbljaa.PFnExactPadFor Go.Proofs.Ytobfeehelmbljaa.Base Go.Proofs.YtobfeehelmbljaaW.PrintWords Go.Proofs.YtobfeehelmbljaaW.PrintLast Go.Proofs.YtobfeehelmbljaaW.PrintMore Go.Proofs.Ytobfeehelmbljaa

theorem zeros_eq (n : Nat) : strOfNums (List.replicate n 0) = Hand.zeroB n := by
  unfold strOfNums Hand.zeroB
  rw [List.map_replicate]
  rfl
theorem zeroB_size (n : Nat) : (Hand.zeroB n).size = n := by
  unfold Hand.zeroB
  show ((List.replicate n (0 : UInt8)).toArray).size = n
  simp
theorem size_app (a b : ByteArray) : (a ++ b).size = a.size + b.size := by
  rw [ByteArray.size_append]
theorem repeat_eq (n : Nat) (h : n ≤ 4096) : strings_Repeat.f (⟨#[0]⟩ : ByteArray) (n : Int) = some (Hand.zeroB n) := by
  unfold strings_Repeat.f
  rw [if_pos ⟨rfl, by omega, by omega⟩, Int.toNat_natCast]

theorem bxor (x y : Nat) (hx : x < 65536) (hy : y < 65536) : Go.bits .xor .i64 (x : Int) (y : Int) = ((x ^^^ y : Nat) : Int) ∧ x ^^^ y < 65536 := by
  have hb : x ^^^ y < 2 ^ 16 := Nat.xor_lt_two_pow (by omega) (by omega)
  have h : Go.bits .xor .i64 (x : Int) (y : Int) = IntKind.i64.wrap ((((BitVec.ofInt 64 (x : Int)) ^^^ (BitVec.ofInt 64 (y : Int))).toNat : Nat) : Int) := rfl
  rw [h, BitVec.toNat_xor, BitVec.ofInt_natCast, BitVec.ofInt_natCast, BitVec.toNat_ofNat, BitVec.toNat_ofNat, Nat.mod_eq_of_lt (by omega : x < 2 ^ 64), Nat.mod_eq_of_lt (by omega : y < 2 ^ 64), IntWalk.i64_in _ (by omega)]
  exact ⟨rfl, by omega⟩
theorem bor (x y : Nat) (hx : x < 256) (hy : y < 256) : Go.bits .or .i64 ((x * 256 : Nat) : Int) (y : Int) = ((256 * x + y : Nat) : Int) := by
  have e : 2 ^ 8 * x + y = 2 ^ 8 * x ||| y := Nat.two_pow_add_eq_or_of_lt (by omega) x
  have h : Go.bits .or .i64 ((x * 256 : Nat) : Int) (y : Int) = IntKind.i64.wrap ((((BitVec.ofInt 64 ((x * 256 : Nat) : Int)) ||| (BitVec.ofInt 64 (y : Int))).toNat : Nat) : Int) := rfl
  rw [h, BitVec.toNat_or, BitVec.ofInt_natCast, BitVec.ofInt_natCast, BitVec.toNat_ofNat, BitVec.toNat_ofNat, Nat.mod_eq_of_lt (by omega : x * 256 < 2 ^ 64), Nat.mod_eq_of_lt (by omega : y < 2 ^ 64), show x * 256 ||| y = 256 * x + y by rw [Nat.mul_comm x 256]; exact e.symm, IntWalk.i64_in _ (by omega)]
theorem bt_nat (s : ByteArray) (i : Int) : ∃ p : Nat, bt s i = (p : Int) ∧ p < 256 := by
  have h := bt_range s i
  exact ⟨(bt s i).toNat, by omega, by omega⟩
/-- What a round makes of a half. -/
def rndV (key half : Nat) : Nat := ((half + key % 256) % 256 * ((half + key % 256) % 256) + (half + key % 256) % 256 * (key / 256) + 29) % 65521 % 256
theorem rndV_lt (a b : Nat) : rndV a b < 256 := Nat.mod_lt _ (by omega)
theorem round_eq (a b : Nat) (ha : a < 65536) (hb : b < 256) : impl_round.f (a : Int) (b : Int) = some ((rndV a b : Nat) : Int) := by
  unfold impl_round.f rndV
  have e1 : Int.tmod (a : Int) 256 = ((a % 256 : Nat) : Int) := tmod_nat a 256
  have e2 : Int.tdiv (a : Int) 256 = ((a / 256 : Nat) : Int) := tdiv_nat a 256
  have e3 : (b : Int) + ((a % 256 : Nat) : Int) = ((b + a % 256 : Nat) : Int) := rfl
  have h1 : a / 256 < 256 := by omega
  obtain ⟨q, hq⟩ : ∃ q, a / 256 = q := ⟨_, rfl⟩
  rw [e1, e2, e3, wnat _ (by omega)]
  have e4 : Int.tmod ((b + a % 256 : Nat) : Int) 256 = (((b + a % 256) % 256 : Nat) : Int) := tmod_nat _ 256
  rw [e4]
  obtain ⟨h, hh⟩ : ∃ h, (b + a % 256) % 256 = h := ⟨_, rfl⟩
  have hl : h < 256 := by omega
  rw [hh, hq]
  have m1 : h * h ≤ 256 * 256 := Nat.mul_le_mul (by omega) (by omega)
  have m2 : h * q ≤ 256 * 256 := Nat.mul_le_mul (by omega) (by omega)
  rw [← Int.natCast_mul, wnat q (by omega), ← Int.natCast_mul, wnat (h * h) (by omega), wnat (h * q) (by omega), ← Int.natCast_add, wnat _ (by omega), show (29 : Int) = ((29 : Nat) : Int) from rfl, ← Int.natCast_add, wnat _ (by omega)]
  have e5 : Int.tmod ((h * h + h * q + 29 : Nat) : Int) 65521 = (((h * h + h * q + 29) % 65521 : Nat) : Int) := tmod_nat _ 65521
  have e6 : Int.tmod (((h * h + h * q + 29) % 65521 : Nat) : Int) 256 = (((h * h + h * q + 29) % 65521 % 256 : Nat) : Int) := tmod_nat _ 256
  rw [e5, e6]
theorem round_spec (a b : Int) : spec_l4Round.f a b = impl_round.f a b := rfl
/-- Keys that are good. -/
def Keys (l : List Int) : Prop := l.length ≤ 8 ∧ ∀ x ∈ l, 0 ≤ x ∧ x ≤ 65535
theorem mix_l0 (l : List Int) (hl : Keys l) : ∀ (d i : Nat) (u v : Nat), l.length - i = d → i ≤ l.length → u < 256 → v < 256 →
    ∃ t : Nat, t < 65536 ∧ ∀ k, d < k → impl_mix.l0 k (u : Int) (v : Int) l (l.length : Int) (i : Int) = some (t : Int) ∧ spec_l4Mix.l0 k (u : Int) (v : Int) l (l.length : Int) (i : Int) = some (t : Int) := by
  have h8 := hl.1
  intro d
  induction d with
  | zero =>
    intro i u v hd hi hu hv
    refine ⟨u * 256 + v, by omega, fun k hk => ?_⟩
    obtain ⟨k, rfl⟩ := rounds hk
    simp only [impl_mix.l0, spec_l4Mix.l0]
    rw [if_neg (by omega), if_neg (by omega), show (u : Int) * 256 = ((u * 256 : Nat) : Int) from rfl, wnat _ (by omega), ← Int.natCast_add, wnat _ (by omega), show (256 : Int) * (u : Int) = ((256 * u : Nat) : Int) from rfl, wnat _ (by omega), ← Int.natCast_add, wnat _ (by omega), Nat.mul_comm]
    exact ⟨rfl, rfl⟩
  | succ d ih =>
    intro i u v hd hi hu hv
    have hlt : i < l.length := by omega
    have hx := hl.2 _ (List.getElem_mem hlt)
    obtain ⟨q, hq⟩ := Int.eq_ofNat_of_zero_le hx.1
    have hr := rndV_lt q v
    have hb := bxor u (rndV q v) (by omega) (by omega)
    have hb2 : u ^^^ rndV q v < 2 ^ 8 := Nat.xor_lt_two_pow (by omega) (by omega)
    obtain ⟨t, ht, h⟩ := ih (i + 1) v (u ^^^ rndV q v) (by omega) (by omega) hv (by omega)
    refine ⟨t, ht, fun k hk => ?_⟩
    obtain ⟨k, rfl⟩ := rounds hk
    simp only [impl_mix.l0, spec_l4Mix.l0]
    rw [if_pos (by omega), if_pos (by omega), if_pos (by omega), if_pos (by omega), if_pos (by omega), if_pos (by omega), rd_in l i hlt, hq, round_spec]
    rw [round_eq q v (by omega) hv]
    simp only [Option.bind_some]
    rw [hb.1, w64 (n := (i : Int) + 1) (by omega) (by omega)]
    exact h k (by omega)
theorem mix_tot (l : List Int) (hl : Keys l) (x : Nat) (hx : x < 65536) : ∃ t : Nat, t < 65536 ∧ ∀ k, 8 < k → impl_mix.f k l (x : Int) = some (t : Int) ∧ spec_l4Mix.f k l (x : Int) = some (t : Int) := by
  have h8 := hl.1
  obtain ⟨t, ht, h⟩ := mix_l0 l hl l.length 0 (x / 256) (x % 256) rfl (by omega) (by omega) (by omega)
  refine ⟨t, ht, fun k hk => ?_⟩
  unfold impl_mix.f spec_l4Mix.f
  have e1 : Int.tmod (x : Int) 256 = ((x % 256 : Nat) : Int) := tmod_nat x 256
  have e2 : Int.tdiv (x : Int) 256 = ((x / 256 : Nat) : Int) := tdiv_nat x 256
  rw [e1, e2, wnat _ (by omega)]
  exact h k (by omega)
theorem mixText_l0 (l : List Int) (hl : Keys l) (s : ByteArray) (hs : s.size ≤ 40) (h2 : s.size % 2 = 0) : ∀ (d i : Nat) (x : Nat) (out : List Int), s.size - 2 * i = 2 * d → 2 * i ≤ s.size → x < 65536 → out.length = 2 * i →
    ∃ y : List Int, y.length = s.size ∧ ∀ k, d + 8 < k → impl_mixText.l0 k l (x : Int) s out ((2 * i : Nat) : Int) = some (strOfNums y) ∧ spec_MixText.l0 k l (x : Int) s out ((2 * i : Nat) : Int) = some (strOfNums y, true) := by
  intro d
  induction d with
  | zero =>
    intro i x out hd hi hx ho
    refine ⟨out, by omega, fun k hk => ?_⟩
    obtain ⟨k, rfl⟩ := rounds hk
    simp only [impl_mixText.l0, spec_MixText.l0]
    rw [if_neg (by omega), if_neg (by omega)]
    exact ⟨rfl, rfl⟩
  | succ d ih =>
    intro i x out hd hi hx ho
    obtain ⟨p, hp, hp2⟩ := bt_nat s ((2 * i : Nat) : Int)
    obtain ⟨q, hq, hq2⟩ := bt_nat s (((2 * i : Nat) : Int) + 1)
    have hb := bxor (256 * p + q) x (by omega) hx
    obtain ⟨t, ht, h⟩ := mix_tot l hl _ hb.2
    have e1 : Int.tmod (t : Int) 256 = ((t % 256 : Nat) : Int) := tmod_nat t 256
    have e2 : Int.tdiv (t : Int) 256 = ((t / 256 : Nat) : Int) := tdiv_nat t 256
    obtain ⟨y, hy, hh⟩ := ih (i + 1) t (out ++ [((t / 256 : Nat) : Int), ((t % 256 : Nat) : Int)]) (by omega) (by omega) ht (by simp; omega)
    refine ⟨y, hy, fun k hk => ?_⟩
    obtain ⟨k, rfl⟩ := rounds hk
    simp only [impl_mixText.l0, spec_MixText.l0]
    rw [w64 (n := ((2 * i : Nat) : Int) + 1) (by omega) (by omega), w64 (n := ((2 * i : Nat) : Int) + 2) (by omega) (by omega), hp, hq, wnat _ (by omega), wnat _ (by omega)]
    rw [if_pos (by omega), if_pos (by omega), if_pos (by omega), if_pos (by omega), if_pos (by omega), if_pos (by omega), if_pos (by omega), if_pos (by omega)]
    rw [show (p : Int) * 256 = ((p * 256 : Nat) : Int) from rfl, wnat _ (by omega), bor p q hp2 hq2, show (256 : Int) * (p : Int) = ((256 * p : Nat) : Int) from rfl, wnat _ (by omega), ← Int.natCast_add, wnat _ (by omega), hb.1, (h k (by omega)).1, (h k (by omega)).2]
    simp only [Option.bind_some]
    rw [if_pos (by simp; omega), if_pos (by simp; omega), e1, e2, wnat _ (by omega)]
    have f1 : ((t : Int) / 256) % 256 = ((t / 256 : Nat) : Int) := by omega
    have f2 : (t : Int) % 256 = ((t % 256 : Nat) : Int) := by omega
    have f3 : ((t / 256 : Nat) : Int) % 256 = ((t / 256 : Nat) : Int) := by omega
    have f4 : ((t % 256 : Nat) : Int) % 256 = ((t % 256 : Nat) : Int) := by omega
    rw [f1, f2, f3, f4, show ((2 * i : Nat) : Int) + 2 = ((2 * (i + 1) : Nat) : Int) by omega]
    exact hh k (by omega)
theorem l1In_eq (a b c : Int) : spec_l1In.f a b c = some (decide (b ≤ a ∧ a ≤ c)) := by
  unfold spec_l1In.f
  by_cases h : a ≥ b
  · rw [if_pos h]
    congr 1
    simp only [decide_eq_decide]
    omega
  · rw [if_neg h]
    congr 1
    symm
    simp only [decide_eq_false_iff_not]
    omega
theorem within_eq (a b c : Int) : impl_within.f a b c = some (decide (b ≤ a ∧ a ≤ c)) := by
  unfold impl_within.f
  by_cases h : a ≥ b
  · rw [if_pos h]
    congr 1
    simp only [decide_eq_decide]
    omega
  · rw [if_neg h]
    congr 1
    symm
    simp only [decide_eq_false_iff_not]
    omega
theorem l1All_l0 (l : List Int) (hl : l.length ≤ 1048576) (a b : Int) : ∀ (d i : Nat), l.length - i = d → i ≤ l.length → (∀ j, (h : j < l.length) → j < i → a ≤ l[j] ∧ l[j] ≤ b) → ∀ k, d < k →
    spec_l1All.l0 k a b l (l.length : Int) (i : Int) = some (decide (∀ x ∈ l, a ≤ x ∧ x ≤ b)) := by
  intro d
  induction d with
  | zero =>
    intro i hd hi ht k hk
    obtain ⟨k, rfl⟩ := rounds hk
    simp only [spec_l1All.l0]
    rw [if_neg (by omega)]
    congr 1
    symm
    rw [decide_eq_true_iff]
    intro x hx
    obtain ⟨j, hj, rfl⟩ := List.mem_iff_getElem.1 hx
    exact ht j hj (by omega)
  | succ d ih =>
    intro i hd hi ht k hk
    obtain ⟨k, rfl⟩ := rounds hk
    have hlt : i < l.length := by omega
    simp only [spec_l1All.l0]
    rw [if_pos (by omega), if_pos (by omega), if_pos (by omega), l1In_eq, rd_in l i hlt]
    simp only [Option.bind_some]
    by_cases h : a ≤ l[i] ∧ l[i] ≤ b
    · rw [decide_eq_true h, if_pos rfl, w64 (n := (i : Int) + 1) (by omega) (by omega)]
      exact ih (i + 1) (by omega) (by omega) (fun j hj hji => by
        by_cases e : j < i
        · exact ht j hj e
        · obtain rfl : j = i := by omega
          exact h) k (by omega)
    · rw [decide_eq_false h, if_neg (by simp)]
      congr 1
      symm
      rw [decide_eq_false_iff_not]
      exact fun hc => h (hc _ (List.getElem_mem hlt))
theorem l1All_eq (l : List Int) (hl : l.length ≤ 1048576) (a b : Int) (k : Nat) (hk : l.length < k) : spec_l1All.f k l a b = some (decide (∀ x ∈ l, a ≤ x ∧ x ≤ b)) := by
  unfold spec_l1All.f
  exact l1All_l0 l hl a b l.length 0 rfl (by omega) (fun j _ h => by omega) k hk
theorem keys3 (a : Int) (h : 0 ≤ a ∧ a ≤ 65535) : Keys [a, a, a] := ⟨by simp, fun x hx => by
  simp only [List.mem_cons, List.mem_nil_iff, or_false, or_self] at hx
  rw [hx]
  exact h⟩
theorem strOf_size (y : List Int) : (strOfNums y).size = y.length := by
  unfold strOfNums
  show ((y.map fun n => UInt8.ofNat n.toNat).toArray).size = _
  simp
/-- The bytes of a key: what both tell. -/
theorem pad_tot (a : Int) (ha : 0 ≤ a ∧ a ≤ 65535) (n : Nat) (hn : n ≤ 40) (h2 : n % 2 = 0) : ∃ y : ByteArray, y.size = n ∧ ∀ k, 40 < k → impl_pad.f k a (n : Int) = some y ∧ spec_l7Pad.f k a (n : Int) = some y := by
  obtain ⟨q, rfl⟩ := Int.eq_ofNat_of_zero_le ha.1
  have hz := zeroB_size n
  obtain ⟨y, hy, h⟩ := mixText_l0 [(q : Int), (q : Int), (q : Int)] (keys3 _ ha) (Hand.zeroB n) (by omega) (by omega) (n / 2) 0 q [] (by omega) (by omega) (by omega) rfl
  refine ⟨strOfNums y, by rw [strOf_size]; omega, fun k hk => ?_⟩
  have hh := h k (by omega)
  unfold impl_pad.f spec_l7Pad.f impl_mixText.f spec_MixText.f spec_l4Text.f spec_l4Keys.f spec_l4Key.f
  rw [repeat_eq n (by omega), if_pos (by omega), Int.toNat_natCast, if_pos (by omega), zeros_eq]
  simp only [Option.bind_some]
  rw [if_pos (by simp), l1All_eq _ (by simp) _ _ k (by simp; omega), l1In_eq, decide_eq_true (fun x hx => (keys3 _ ha).2 x hx), decide_eq_true ha]
  simp only [Option.bind_some, if_true]
  rw [if_pos (by omega), hz, show (((n : Nat) : Int) % 2 == 0) = true by rw [beq_iff_eq]; omega]
  simp only [Option.bind_some, if_true]
  have e0 : ((2 * 0 : Nat) : Int) = 0 := rfl
  rw [e0] at hh
  rw [hh.1, hh.2]
  exact ⟨rfl, rfl⟩

theorem FnExactPadFor : laws_FnExactPadFor.Pure := by
  intro a b _ _
  unfold laws_FnExactPadFor.f spec_PadFor.f impl_PadFor.f spec_l4Key.f impl_isKey.f
  simp only [l1In_eq, within_eq, Option.bind_some]
  by_cases ha : 0 ≤ a ∧ a ≤ 65535
  · by_cases hb : 0 ≤ b ∧ b ≤ 40
    · by_cases h2 : Int.tmod b 2 = 0
      · obtain ⟨n, rfl⟩ := Int.eq_ofNat_of_zero_le hb.1
        have e : Int.tmod (n : Int) 2 = ((n % 2 : Nat) : Int) := tmod_nat n 2
        have h2' : Int.tmod (n : Int) 2 = 0 := h2
        rw [e] at h2'
        obtain ⟨y, _, h⟩ := pad_tot a ha n (by omega) (by omega)
        refine ⟨41, ?_⟩
        rw [decide_eq_true ha, decide_eq_true hb, if_pos rfl, if_pos rfl, if_pos h2, if_pos h2]
        rw [(h 41 (by omega)).1, (h 41 (by omega)).2]
        simp
      · exact ⟨0, by simp [ha, hb, h2]⟩
    · exact ⟨0, by simp [ha, hb]⟩
  · exact ⟨0, by simp [ha]⟩

end Go.Proofs.Ytobfeehelmbljaa.Pure
