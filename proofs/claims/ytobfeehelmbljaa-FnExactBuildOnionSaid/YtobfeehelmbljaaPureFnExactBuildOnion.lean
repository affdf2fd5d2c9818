/- Proved: BuildOnion of the program and of the reference answer alike at all arguments. Conditions: those of the given statement alone. -/
import Derived.Test.YtobfeehelmbljaaPFnExactBuildOnionx5
import Derived.Test.YtobfeehelmbljaaBase
set_option linter.unusedVariables false
set_option linter.unusedSimpArgs false
namespace Go.Proofs.Ytobfeehelmbljaa.Pure
open Go.RowKit Go.Proofs.Ytobfeehelmbljaa.PFnExactBuildOnion Go.Proofs.Ytobfeehelmbljaa.Base Go.Proofs.YtobfeehelmbljaaW.PrintWords Go.Proofs.YtobfeehelmbljaaW.PrintLast Go.Proofs.YtobfeehelmbljaaW.PrintMore Go.Proofs.Ytobfeehelmbljaa

theorem zeros_eq (n : Nat) : strOfNums (List.replicate n 0) = Hand.zeroB n := by
  unfold strOfNums Hand.zeroB
  rw [List.map_replicate]
  rfl
theorem zeroB_size (n : Nat) : (Hand.zeroB n).size = n := by
  unfold Hand.zeroB
  show ((List.replicate n (0 : UInt8)).toArray).size = n
  simp
theorem size_app (a b : ByteArray) : (a ++ b).size = a.size + b.size := by
  rw [ByteArray.size_append]

theorem repeat_eq (n : Nat) (h : n ≤ 4096) : strings_Repeat.f (⟨#[0]⟩ : ByteArray) (n : Int) = some (Hand.zeroB n) := by
  unfold strings_Repeat.f
  rw [if_pos ⟨rfl, by omega, by omega⟩, Int.toNat_natCast]

theorem bxor (x y : Nat) (hx : x < 65536) (hy : y < 65536) : Go.bits .xor .i64 (x : Int) (y : Int) = ((x ^^^ y : Nat) : Int) ∧ x ^^^ y < 65536 := by
  have hb : x ^^^ y < 2 ^ 16 := Nat.xor_lt_two_pow (by omega) (by omega)
  have h : Go.bits .xor .i64 (x : Int) (y : Int) = IntKind.i64.wrap ((((BitVec.ofInt 64 (x : Int)) ^^^ (BitVec.ofInt 64 (y : Int))).toNat : Nat) : Int) := rfl
  rw [h, BitVec.toNat_xor, BitVec.ofInt_natCast, BitVec.ofInt_natCast, BitVec.toNat_ofNat, BitVec.toNat_ofNat, Nat.mod_eq_of_lt (by omega : x < 2 ^ 64), Nat.mod_eq_of_lt (by omega : y < 2 ^ 64), IntWalk.i64_in _ (by omega)]
  exact ⟨rfl, by omega⟩
theorem bor (x y : Nat) (hx : x < 256) (hy : y < 256) : Go.bits .or .i64 ((x * 256 : Nat) : Int) (y : Int) = ((256 * x + y : Nat) : Int) := by
  have e : 2 ^ 8 * x + y = 2 ^ 8 * x ||| y := Nat.two_pow_add_eq_or_of_lt (by omega) x
  have h : Go.bits .or .i64 ((x * 256 : Nat) : Int) (y : Int) = IntKind.i64.wrap ((((BitVec.ofInt 64 ((x * 256 : Nat) : Int)) ||| (BitVec.ofInt 64 (y : Int))).toNat : Nat) : Int) := rfl
  rw [h, BitVec.toNat_or, BitVec.ofInt_natCast, BitVec.ofInt_natCast, BitVec.toNat_ofNat, BitVec.toNat_ofNat, Nat.mod_eq_of_lt (by omega : x * 256 < 2 ^ 64), Nat.mod_eq_of_lt (by omega : y < 2 ^ 64), show x * 256 ||| y = 256 * x + y by rw [Nat.mul_comm x 256]; exact e.symm, IntWalk.i64_in _ (by omega)]
theorem bt_nat (s : ByteArray) (i : Int) : ∃ p : Nat, bt s i = (p : Int) ∧ p < 256 := by
  have h := bt_range s i
  exact ⟨(bt s i).toNat, by omega, by omega⟩
/-- What a round makes of a half. -/
def rndV (key half : Nat) : Nat := ((half + key % 256) % 256 * ((half + key % 256) % 256) + (half + key % 256) % 256 * (key / 256) + 29) % 65521 % 256
theorem rndV_lt (a b : Nat) : rndV a b < 256 := Nat.mod_lt _ (by omega)
theorem round_eq (a b : Nat) (ha : a < 65536) (hb : b < 256) : impl_round.f (a : Int) (b : Int) = some ((rndV a b : Nat) : Int) := by
  unfold impl_round.f rndV
  have e1 : Int.tmod (a : Int) 256 = ((a % 256 : Nat) : Int) := tmod_nat a 256
  have e2 : Int.tdiv (a : Int) 256 = ((a / 256 : Nat) : Int) := tdiv_nat a 256
  have e3 : (b : Int) + ((a % 256 : Nat) : Int) = ((b + a % 256 : Nat) : Int) := rfl
  have h1 : a / 256 < 256 := by omega
  obtain ⟨q, hq⟩ : ∃ q, a / 256 = q := ⟨_, rfl⟩
  rw [e1, e2, e3, wnat _ (by omega)]
  have e4 : Int.tmod ((b + a % 256 : Nat) : Int) 256 = (((b + a % 256) % 256 : Nat) : Int) := tmod_nat _ 256
  rw [e4]
  obtain ⟨h, hh⟩ : ∃ h, (b + a % 256) % 256 = h := ⟨_, rfl⟩
  have hl : h < 256 := by omega
  rw [hh, hq]
  have m1 : h * h ≤ 256 * 256 := Nat.mul_le_mul (by omega) (by omega)
  have m2 : h * q ≤ 256 * 256 := Nat.mul_le_mul (by omega) (by omega)
  rw [← Int.natCast_mul, wnat q (by omega), ← Int.natCast_mul, wnat (h * h) (by omega), wnat (h * q) (by omega), ← Int.natCast_add, wnat _ (by omega), show (29 : Int) = ((29 : Nat) : Int) from rfl, ← Int.natCast_add, wnat _ (by omega)]
  have e5 : Int.tmod ((h * h + h * q + 29 : Nat) : Int) 65521 = (((h * h + h * q + 29) % 65521 : Nat) : Int) := tmod_nat _ 65521
  have e6 : Int.tmod (((h * h + h * q + 29) % 65521 : Nat) : Int) 256 = (((h * h + h * q + 29) % 65521 % 256 : Nat) : Int) := tmod_nat _ 256
  rw [e5, e6]
theorem round_spec (a b : Int) : spec_l4Round.f a b = impl_round.f a b := rfl
/-- Keys that are good. -/
def Keys (l : List Int) : Prop := l.length ≤ 8 ∧ ∀ x ∈ l, 0 ≤ x ∧ x ≤ 65535
theorem mix_l0 (l : List Int) (hl : Keys l) : ∀ (d i : Nat) (u v : Nat), l.length - i = d → i ≤ l.length → u < 256 → v < 256 →
    ∃ t : Nat, t < 65536 ∧ ∀ k, d < k → impl_mix.l0 k (u : Int) (v : Int) l (l.length : Int) (i : Int) = some (t : Int) ∧ spec_l4Mix.l0 k (u : Int) (v : Int) l (l.length : Int) (i : Int) = some (t : Int) := by
  have h8 := hl.1
  intro d
  induction d with
  | zero =>
    intro i u v hd hi hu hv
    refine ⟨u * 256 + v, by omega, fun k hk => ?_⟩
    obtain ⟨k, rfl⟩ := rounds hk
    simp only [impl_mix.l0, spec_l4Mix.l0]
    rw [if_neg (by omega), if_neg (by omega), show (u : Int) * 256 = ((u * 256 : Nat) : Int) from rfl, wnat _ (by omega), ← Int.natCast_add, wnat _ (by omega), show (256 : Int) * (u : Int) = ((256 * u : Nat) : Int) from rfl, wnat _ (by omega), ← Int.natCast_add, wnat _ (by omega), Nat.mul_comm]
    exact ⟨rfl, rfl⟩
  | succ d ih =>
    intro i u v hd hi hu hv
    have hlt : i < l.length := by omega
    have hx := hl.2 _ (List.getElem_mem hlt)
    obtain ⟨q, hq⟩ := Int.eq_ofNat_of_zero_le hx.1
    have hr := rndV_lt q v
    have hb := bxor u (rndV q v) (by omega) (by omega)
    have hb2 : u ^^^ rndV q v < 2 ^ 8 := Nat.xor_lt_two_pow (by omega) (by omega)
    obtain ⟨t, ht, h⟩ := ih (i + 1) v (u ^^^ rndV q v) (by omega) (by omega) hv (by omega)
    refine ⟨t, ht, fun k hk => ?_⟩
    obtain ⟨k, rfl⟩ := rounds hk
    simp only [impl_mix.l0, spec_l4Mix.l0]
    rw [if_pos (by omega), if_pos (by omega), if_pos (by omega), if_pos (by omega), if_pos (by omega), if_pos (by omega), rd_in l i hlt, hq, round_spec]
    rw [round_eq q v (by omega) hv]
    simp only [Option.bind_some]
    rw [hb.1, w64 (n := (i : Int) + 1) (by omega) (by omega)]
    exact h k (by omega)
theorem mix_tot (l : List Int) (hl : Keys l) (x : Nat) (hx : x < 65536) : ∃ t : Nat, t < 65536 ∧ ∀ k, 8 < k → impl_mix.f k l (x : Int) = some (t : Int) ∧ spec_l4Mix.f k l (x : Int) = some (t : Int) := by
  have h8 := hl.1
  obtain ⟨t, ht, h⟩ := mix_l0 l hl l.length 0 (x / 256) (x % 256) rfl (by omega) (by omega) (by omega)
  refine ⟨t, ht, fun k hk => ?_⟩
  unfold impl_mix.f spec_l4Mix.f
  have e1 : Int.tmod (x : Int) 256 = ((x % 256 : Nat) : Int) := tmod_nat x 256
  have e2 : Int.tdiv (x : Int) 256 = ((x / 256 : Nat) : Int) := tdiv_nat x 256
  rw [e1, e2, wnat _ (by omega)]
  exact h k (by omega)
theorem mixText_l0 (l : List Int) (hl : Keys l) (s : ByteArray) (hs : s.size ≤ 40) (h2 : s.size % 2 = 0) : ∀ (d i : Nat) (x : Nat) (out : List Int), s.size - 2 * i = 2 * d → 2 * i ≤ s.size → x < 65536 → out.length = 2 * i →
    ∃ y : List Int, y.length = s.size ∧ ∀ k, d + 8 < k → impl_mixText.l0 k l (x : Int) s out ((2 * i : Nat) : Int) = some (strOfNums y) ∧ spec_MixText.l0 k l (x : Int) s out ((2 * i : Nat) : Int) = some (strOfNums y, true) := by
  intro d
  induction d with
  | zero =>
    intro i x out hd hi hx ho
    refine ⟨out, by omega, fun k hk => ?_⟩
    obtain ⟨k, rfl⟩ := rounds hk
    simp only [impl_mixText.l0, spec_MixText.l0]
    rw [if_neg (by omega), if_neg (by omega)]
    exact ⟨rfl, rfl⟩
  | succ d ih =>
    intro i x out hd hi hx ho
    obtain ⟨p, hp, hp2⟩ := bt_nat s ((2 * i : Nat) : Int)
    obtain ⟨q, hq, hq2⟩ := bt_nat s (((2 * i : Nat) : Int) + 1)
    have hb := bxor (256 * p + q) x (by omega) hx
    obtain ⟨t, ht, h⟩ := mix_tot l hl _ hb.2
    have e1 : Int.tmod (t : Int) 256 = ((t % 256 : Nat) : Int) := tmod_nat t 256
    have e2 : Int.tdiv (t : Int) 256 = ((t / 256 : Nat) : Int) := tdiv_nat t 256
    obtain ⟨y, hy, hh⟩ := ih (i + 1) t (out ++ [((t / 256 : Nat) : Int), ((t % 256 : Nat) : Int)]) (by omega) (by omega) ht (by simp; omega)
    refine ⟨y, hy, fun k hk => ?_⟩
    obtain ⟨k, rfl⟩ := rounds hk
    simp only [impl_mixText.l0, spec_MixText.l0]
    rw [w64 (n := ((2 * i : Nat) : Int) + 1) (by omega) (by omega), w64 (n := ((2 * i : Nat) : Int) + 2) (by omega) (by omega), hp, hq, wnat _ (by omega), wnat _ (by omega)]
    rw [if_pos (by omega), if_pos (by omega), if_pos (by omega), if_pos (by omega), if_pos (by omega), if_pos (by omega), if_pos (by omega), if_pos (by omega)]
    rw [show (p : Int) * 256 = ((p * 256 : Nat) : Int) from rfl, wnat _ (by omega), bor p q hp2 hq2, show (256 : Int) * (p : Int) = ((256 * p : Nat) : Int) from rfl, wnat _ (by omega), ← Int.natCast_add, wnat _ (by omega), hb.1, (h k (by omega)).1, (h k (by omega)).2]
    simp only [Option.bind_some]
    rw [if_pos (by simp; omega), if_pos (by simp; omega), e1, e2, wnat _ (by omega)]
    have f1 : ((t : Int) / 256) % 256 = ((t / 256 : Nat) : Int) := by omega
    have f2 : (t : Int) % 256 = ((t % 256 : Nat) : Int) := by omega
    have f3 : ((t / 256 : Nat) : Int) % 256 = ((t / 256 : Nat) : Int) := by omega
    have f4 : ((t % 256 : Nat) : Int) % 256 = ((t % 256 : Nat) : Int) := by omega
    rw [f1, f2, f3, f4, show ((2 * i : Nat) : Int) + 2 = ((2 * (i + 1) : Nat) : Int) by omega]
    exact hh k (by omega)
theorem l1In_eq (a b c : Int) : spec_l1In.f a b c = some (decide (b ≤ a ∧ a ≤ c)) := by
  unfold spec_l1In.f
  by_cases h : a ≥ b
  · rw [if_pos h]
    congr 1
    simp only [decide_eq_decide]
    omega
  · rw [if_neg h]
    congr 1
    symm
    simp only [decide_eq_false_iff_not]
    omega
theorem within_eq (a b c : Int) : impl_within.f a b c = some (decide (b ≤ a ∧ a ≤ c)) := by
  unfold impl_within.f
  by_cases h : a ≥ b
  · rw [if_pos h]
    congr 1
    simp only [decide_eq_decide]
    omega
  · rw [if_neg h]
    congr 1
    symm
    simp only [decide_eq_false_iff_not]
    omega
theorem l1All_l0 (l : List Int) (hl : l.length ≤ 1048576) (a b : Int) : ∀ (d i : Nat), l.length - i = d → i ≤ l.length → (∀ j, (h : j < l.length) → j < i → a ≤ l[j] ∧ l[j] ≤ b) → ∀ k, d < k →
    spec_l1All.l0 k a b l (l.length : Int) (i : Int) = some (decide (∀ x ∈ l, a ≤ x ∧ x ≤ b)) := by
  intro d
  induction d with
  | zero =>
    intro i hd hi ht k hk
    obtain ⟨k, rfl⟩ := rounds hk
    simp only [spec_l1All.l0]
    rw [if_neg (by omega)]
    congr 1
    symm
    rw [decide_eq_true_iff]
    intro x hx
    obtain ⟨j, hj, rfl⟩ := List.mem_iff_getElem.1 hx
    exact ht j hj (by omega)
  | succ d ih =>
    intro i hd hi ht k hk
    obtain ⟨k, rfl⟩ := rounds hk
    have hlt : i < l.length := by omega
    simp only [spec_l1All.l0]
    rw [if_pos (by omega), if_pos (by omega), if_pos (by omega), l1In_eq, rd_in l i hlt]
    simp only [Option.bind_some]
    by_cases h : a ≤ l[i] ∧ l[i] ≤ b
    · rw [decide_eq_true h, if_pos rfl, w64 (n := (i : Int) + 1) (by omega) (by omega)]
      exact ih (i + 1) (by omega) (by omega) (fun j hj hji => by
        by_cases e : j < i
        · exact ht j hj e
        · obtain rfl : j = i := by omega
          exact h) k (by omega)
    · rw [decide_eq_false h, if_neg (by simp)]
      congr 1
      symm
      rw [decide_eq_false_iff_not]
      exact fun hc => h (hc _ (List.getElem_mem hlt))
theorem l1All_eq (l : List Int) (hl : l.length ≤ 1048576) (a b : Int) (k : Nat) (hk : l.length < k) : spec_l1All.f k l a b = some (decide (∀ x ∈ l, a ≤ x ∧ x ≤ b)) := by
  unfold spec_l1All.f
  exact l1All_l0 l hl a b l.length 0 rfl (by omega) (fun j _ h => by omega) k hk
theorem keys3 (a : Int) (h : 0 ≤ a ∧ a ≤ 65535) : Keys [a, a, a] := ⟨by simp, fun x hx => by
  simp only [List.mem_cons, List.mem_nil_iff, or_false, or_self] at hx
  rw [hx]
  exact h⟩
theorem strOf_size (y : List Int) : (strOfNums y).size = y.length := by
  unfold strOfNums
  show ((y.map fun n => UInt8.ofNat n.toNat).toArray).size = _
  simp
/-- The bytes of a key: what both tell. -/
theorem pad_tot (a : Int) (ha : 0 ≤ a ∧ a ≤ 65535) (n : Nat) (hn : n ≤ 40) (h2 : n % 2 = 0) : ∃ y : ByteArray, y.size = n ∧ ∀ k, 40 < k → impl_pad.f k a (n : Int) = some y ∧ spec_l7Pad.f k a (n : Int) = some y := by
  obtain ⟨q, rfl⟩ := Int.eq_ofNat_of_zero_le ha.1
  have hz := zeroB_size n
  obtain ⟨y, hy, h⟩ := mixText_l0 [(q : Int), (q : Int), (q : Int)] (keys3 _ ha) (Hand.zeroB n) (by omega) (by omega) (n / 2) 0 q [] (by omega) (by omega) (by omega) rfl
  refine ⟨strOfNums y, by rw [strOf_size]; omega, fun k hk => ?_⟩
  have hh := h k (by omega)
  unfold impl_pad.f spec_l7Pad.f impl_mixText.f spec_MixText.f spec_l4Text.f spec_l4Keys.f spec_l4Key.f
  rw [repeat_eq n (by omega), if_pos (by omega), Int.toNat_natCast, if_pos (by omega), zeros_eq]
  simp only [Option.bind_some]
  rw [if_pos (by simp), l1All_eq _ (by simp) _ _ k (by simp; omega), l1In_eq, decide_eq_true (fun x hx => (keys3 _ ha).2 x hx), decide_eq_true ha]
  simp only [Option.bind_some, if_true]
  rw [if_pos (by omega), hz, show (((n : Nat) : Int) % 2 == 0) = true by rw [beq_iff_eq]; omega]
  simp only [Option.bind_some, if_true]
  have e0 : ((2 * 0 : Nat) : Int) = 0 := rfl
  rw [e0] at hh
  rw [hh.1, hh.2]
  exact ⟨rfl, rfl⟩

theorem check_l0 (s : ByteArray) (hs : s.size ≤ 40) : ∀ (d i : Nat) (x : Nat), s.size - i = d → i ≤ s.size → x ≤ 10200 * i →
    ∃ c : Nat, c < 251 ∧ ∀ k, d < k → impl_check.l0 k s (x : Int) (s.size : Int) (i : Int) = some (c : Int) ∧ spec_l7Check.l0 k s (x : Int) (i : Int) = some (c : Int) := by
  intro d
  induction d with
  | zero =>
    intro i x hd hi hx
    refine ⟨x % 251, Nat.mod_lt _ (by omega), fun k hk => ?_⟩
    obtain ⟨k, rfl⟩ := rounds hk
    simp only [impl_check.l0, spec_l7Check.l0]
    rw [if_neg (by omega), if_neg (by omega)]
    have e : Int.tmod (x : Int) 251 = ((x % 251 : Nat) : Int) := tmod_nat x 251
    rw [e]
    exact ⟨rfl, rfl⟩
  | succ d ih =>
    intro i x hd hi hx
    obtain ⟨p, hp, hp2⟩ := bt_nat s (i : Int)
    have hm : p * (i + 1) ≤ 255 * 40 := Nat.mul_le_mul (by omega) (by omega)
    obtain ⟨c, hc, h⟩ := ih (i + 1) (x + p * (i + 1)) (by omega) (by omega) (by omega)
    refine ⟨c, hc, fun k hk => ?_⟩
    obtain ⟨k, rfl⟩ := rounds hk
    simp only [impl_check.l0, spec_l7Check.l0]
    rw [if_pos (by omega), if_pos (by omega), if_pos (by omega), if_pos (by omega), if_pos (by omega), hp, wnat p (by omega), w64 (n := (i : Int) + 1) (by omega) (by omega), show (i : Int) + 1 = ((i + 1 : Nat) : Int) from rfl, ← Int.natCast_mul, wnat _ (by omega), ← Int.natCast_add, wnat _ (by omega)]
    exact h k (by omega)
theorem check_tot (s : ByteArray) (hs : s.size ≤ 40) : ∃ c : Nat, c < 251 ∧ ∀ k, 40 < k → impl_check.f k s = some (c : Int) ∧ spec_l7Check.f k s = some (c : Int) := by
  obtain ⟨c, hc, h⟩ := check_l0 s hs s.size 0 0 rfl (by omega) (by omega)
  exact ⟨c, hc, fun k hk => h k (by omega)⟩
/-- The check of bytes. -/
noncomputable def chkV (s : ByteArray) : Nat := if h : s.size ≤ 40 then (check_tot s h).choose else 0
theorem chkV_spec (s : ByteArray) (hs : s.size ≤ 40) : chkV s < 251 ∧ ∀ k, 40 < k → impl_check.f k s = some ((chkV s : Nat) : Int) ∧ spec_l7Check.f k s = some ((chkV s : Nat) : Int) := by
  unfold chkV
  rw [dif_pos hs]
  exact (check_tot s hs).choose_spec
/-- The bytes of a key for an onion. -/
noncomputable def padK (a : Int) : ByteArray := if h : 0 ≤ a ∧ a ≤ 65535 then (pad_tot a h 24 (by omega) (by omega)).choose else ⟨#[]⟩
theorem padK_spec (a : Int) (h : 0 ≤ a ∧ a ≤ 65535) : (padK a).size = 24 ∧ ∀ k, 40 < k → impl_pad.f k a 24 = some (padK a) ∧ spec_l7Pad.f k a 24 = some (padK a) := by
  unfold padK
  rw [dif_pos h]
  exact (pad_tot a h 24 (by omega) (by omega)).choose_spec
theorem xorB_size (a b : ByteArray) : (Hand.xorB a b).size = a.size := by
  unfold Hand.xorB
  show ((Hand.xorL a.data.toList b.data.toList).toArray).size = _
  rw [List.size_toArray, Hand.xorL_length, data_length]
theorem size_ext (a : ByteArray) (i j : Nat) (h : j ≤ a.size) : (a.extract i j).size = j - i := by
  rw [ByteArray.size_extract, Nat.min_eq_left h]

/-- A body with its padding. -/
def padV (a : ByteArray) : ByteArray := (a ++ (⟨#[128]⟩ : ByteArray)) ++ Hand.zeroB (15 - a.size)
theorem padV_size (a : ByteArray) (h : a.size < 16) : (padV a).size = 16 := by
  unfold padV
  rw [size_app, size_app, zeroB_size]
  show a.size + 1 + _ = _
  omega
theorem specPadded_eq (a : ByteArray) (h : a.size < 16) : spec_l7PadBody.f a = some (padV a) := by
  have e : wrap64 (15 - (a.size : Int)) = ((15 - a.size : Nat) : Int) := by
    rw [w64 (by omega) (by omega)]
    omega
  unfold spec_l7PadBody.f
  rw [if_pos (by omega), e, if_pos (by omega), Int.toNat_natCast, if_pos (by omega)]
  simp only [Option.bind_some]
  rw [zeros_eq, if_pos]
  · rfl
  · rw [zeroB_size]
    omega
theorem implPadded_eq (a : ByteArray) (h : a.size < 16) : impl_padded.f a = some (padV a) := by
  have e : wrap64 (15 - (a.size : Int)) = ((15 - a.size : Nat) : Int) := by
    rw [w64 (by omega) (by omega)]
    omega
  unfold impl_padded.f
  rw [if_pos (by omega), e, repeat_eq _ (by omega)]
  simp only [Option.bind_some]
  rw [if_pos]
  · rfl
  · rw [zeroB_size]
    omega

/-- A layer is laid. -/
noncomputable def layV (s : ByteArray) (key hop : Int) : ByteArray := Hand.xorB (strOfNums [hop % 256, ((chkV (s.extract 0 16) : Nat) : Int) % 256] ++ s.extract 0 22) (padK key)
theorem layV_size (s : ByteArray) (key hop : Int) (h : s.size = 24) : (layV s key hop).size = 24 := by
  unfold layV
  rw [xorB_size, size_app, strOf_size, size_ext _ _ _ (by omega)]
  rfl
noncomputable def onV (l : List (Int × Int)) (s : ByteArray) : ByteArray := l.foldr (fun p s => layV s p.1 p.2) s
theorem onV_size (l : List (Int × Int)) (s : ByteArray) (h : s.size = 24) : (onV l s).size = 24 := by
  induction l with
  | nil => exact h
  | cons p l ih => exact layV_size _ _ _ ih
def startV (b : ByteArray) : ByteArray := padV b ++ Hand.zeroB 8
theorem startV_size (b : ByteArray) (h : b.size < 16) : (startV b).size = 24 := by
  unfold startV
  rw [size_app, padV_size b h, zeroB_size]
theorem onion_l0 (ks hs : List Int) (hl : hs.length = ks.length) (hn : ks.length ≤ 4) (hk : ∀ x ∈ ks, 0 ≤ x ∧ x ≤ 65535) (s0 : ByteArray) (h0 : s0.size = 24) : ∀ (i k : Nat), i ≤ ks.length → i + 41 < k →
    impl_onion.l0 k ks hs (onV ((ks.zip hs).drop i) s0) ((i : Int) - 1) = some (onV (ks.zip hs) s0) ∧ spec_BuildOnion.l0 k ks hs (onV ((ks.zip hs).drop i) s0) ((i : Int) - 1) = some (onV (ks.zip hs) s0, true) := by
  intro i
  induction i with
  | zero =>
    intro k hi hkk
    obtain ⟨k, rfl⟩ := rounds hkk
    simp only [impl_onion.l0, spec_BuildOnion.l0]
    rw [if_neg (by omega), if_neg (by omega), List.drop_zero]
    exact ⟨rfl, rfl⟩
  | succ i ih =>
    intro k hi hkk
    obtain ⟨k, rfl⟩ := rounds hkk
    have hz : (ks.zip hs).length = ks.length := by rw [List.length_zip]; omega
    have hd : (ks.zip hs).drop i = (ks[i], hs[i]) :: (ks.zip hs).drop (i + 1) := by
      rw [List.drop_eq_getElem_cons (by omega), List.getElem_zip]
    obtain ⟨s, hs'⟩ : ∃ s, onV ((ks.zip hs).drop (i + 1)) s0 = s := ⟨_, rfl⟩
    have h24 : s.size = 24 := by rw [← hs']; exact onV_size _ _ h0
    have ho : onV ((ks.zip hs).drop i) s0 = layV s ks[i] hs[i] := by rw [hd, ← hs']; rfl
    have hc := chkV_spec (s.extract 0 16) (by rw [size_ext _ _ _ (by omega)]; omega)
    have hp := padK_spec ks[i] (hk _ (List.getElem_mem (by omega)))
    have e22 : (s.extract 0 22).extract 0 16 = s.extract 0 16 := by
      rw [ByteArray.extract_extract]
      simp
    have e1 : (((i + 1 : Nat) : Int) - 1) = (i : Int) := by omega
    have hsz : (strOfNums [hs[i] % 256, ((chkV (s.extract 0 16) : Nat) : Int) % 256] ++ s.extract 0 22).size = 24 := by
      rw [size_app, strOf_size, size_ext _ _ _ (by omega)]
      rfl
    rw [hs', e1]
    simp only [impl_onion.l0, spec_BuildOnion.l0, spec_l7Xor.f, impl_xor.f]
    have hext := size_ext s 0 22 (by omega)
    rw [if_pos (by omega), if_pos (by omega), if_pos (by omega), if_pos (by omega), if_pos (by omega), (hc.2 k (by omega)).1]
    rw [if_pos (by omega), if_pos (by omega), if_pos (by omega), if_pos (by omega), if_pos (by omega), if_pos (by omega), if_pos (by omega), e22, (hc.2 k (by omega)).2]
    simp only [Option.bind_some]
    have hA : (strOfNums [hs[i] % 256, ((chkV (s.extract 0 16) : Nat) : Int) % 256]).size + (s.extract 0 22).size ≤ 9223372036854775807 := by
      rw [strOf_size, hext]
      simp
    have hB : (i : Int) < (ks.length : Int) := by omega
    have hC : (0 : Nat) ≤ 22 := by omega
    have hD : (22 : Int) ≤ (s.size : Int) := by omega
    rw [rd_in hs i (by omega), rd_in ks i (by omega)]
    simp only [if_pos hA, if_pos hB, if_pos hC, if_pos hD]
    rw [(hp.2 k (by omega)).1, (hp.2 k (by omega)).2]
    simp only [Option.bind_some]
    rw [if_pos ⟨by rw [hsz, hp.1]; omega, by rw [hsz]; omega⟩]
    simp only [Option.bind_some]
    rw [w64 (n := (i : Int) - 1) (by omega) (by omega)]
    have h := ih k (by omega) (by omega)
    rw [ho] at h
    exact h
theorem start_l0 (b : ByteArray) (h : b.size < 16) : (padV b).size + (Hand.zeroB 8).size ≤ 9223372036854775807 := by
  rw [padV_size b h, zeroB_size]
  omega
theorem implOnion_eq (ks hs : List Int) (hl : hs.length = ks.length) (hn : ks.length ≤ 4) (hk : ∀ x ∈ ks, 0 ≤ x ∧ x ≤ 65535) (b : ByteArray) (hb : b.size < 16) (k : Nat) (hkk : 60 < k) : impl_onion.f k ks hs b = some (onV (ks.zip hs) (startV b)) := by
  unfold impl_onion.f
  rw [implPadded_eq b hb, show ((8 : Int)) = ((8 : Nat) : Int) from rfl, repeat_eq 8 (by omega)]
  simp only [Option.bind_some]
  have hz : (ks.zip hs).length = ks.length := by rw [List.length_zip]; omega
  rw [if_pos (start_l0 b hb), w64 (by omega) (by omega)]
  have h := (onion_l0 ks hs hl hn hk (startV b) (startV_size b hb) ks.length k (by omega) (by omega)).1
  rw [List.drop_of_length_le (by omega)] at h
  exact h
/-- What building tells. -/
noncomputable def buildV (ks hs : List Int) (b : ByteArray) : ByteArray × Bool := if (1 ≤ ks.length ∧ ks.length ≤ 4) ∧ (∀ x ∈ ks, 0 ≤ x ∧ x ≤ 65535) ∧ hs.length = ks.length ∧ (∀ x ∈ hs, 1 ≤ x ∧ x ≤ 250) ∧ b.size < 16 then (onV (ks.zip hs) (startV b), true) else (⟨#[]⟩, false)
theorem allWithin_l0 (l : List Int) (hl : l.length ≤ 1048576) (a b : Int) : ∀ (d i : Nat), l.length - i = d → i ≤ l.length → (∀ j, (h : j < l.length) → j < i → a ≤ l[j] ∧ l[j] ≤ b) → ∀ k, d < k →
    impl_allWithin.l0 k a b l (l.length : Int) (i : Int) = some (decide (∀ x ∈ l, a ≤ x ∧ x ≤ b)) := by
  intro d
  induction d with
  | zero =>
    intro i hd hi ht k hk
    obtain ⟨k, rfl⟩ := rounds hk
    simp only [impl_allWithin.l0]
    rw [if_neg (by omega)]
    congr 1
    symm
    rw [decide_eq_true_iff]
    intro x hx
    obtain ⟨j, hj, rfl⟩ := List.mem_iff_getElem.1 hx
    exact ht j hj (by omega)
  | succ d ih =>
    intro i hd hi ht k hk
    obtain ⟨k, rfl⟩ := rounds hk
    have hlt : i < l.length := by omega
    simp only [impl_allWithin.l0]
    rw [if_pos (by omega), if_pos (by omega), if_pos (by omega), within_eq, rd_in l i hlt]
    simp only [Option.bind_some]
    by_cases h : a ≤ l[i] ∧ l[i] ≤ b
    · rw [decide_eq_true h, if_pos rfl, w64 (n := (i : Int) + 1) (by omega) (by omega)]
      exact ih (i + 1) (by omega) (by omega) (fun j hj hji => by
        by_cases e : j < i
        · exact ht j hj e
        · obtain rfl : j = i := by omega
          exact h) k (by omega)
    · rw [decide_eq_false h, if_neg (by simp)]
      congr 1
      symm
      rw [decide_eq_false_iff_not]
      exact fun hc => h (hc _ (List.getElem_mem hlt))
theorem allWithin_eq (l : List Int) (hl : l.length ≤ 1048576) (a b : Int) (k : Nat) (hk : l.length < k) : impl_allWithin.f k l a b = some (decide (∀ x ∈ l, a ≤ x ∧ x ≤ b)) := by
  unfold impl_allWithin.f
  exact allWithin_l0 l hl a b l.length 0 rfl (by omega) (fun j _ h => by omega) k hk
theorem implBuild_eq (ks hs : List Int) (h1 : ks.length ≤ 1048576) (h2 : hs.length ≤ 1048576) (b : ByteArray) (k : Nat) (hk : 1048577 < k) : impl_BuildOnion.f k ks hs b = some (buildV ks hs b) := by
  unfold impl_BuildOnion.f impl_areKeys.f buildV
  rw [within_eq, allWithin_eq ks h1 _ _ k (by omega), allWithin_eq hs h2 _ _ k (by omega)]
  simp only [Option.bind_some]
  by_cases c1 : 1 ≤ ks.length ∧ ks.length ≤ 4
  · rw [decide_eq_true (show (1 : Int) ≤ (ks.length : Int) ∧ (ks.length : Int) ≤ 4 by omega), if_pos rfl]
    by_cases c3 : hs.length = ks.length
    · rw [if_pos (by omega), if_pos (by omega)]
      simp only [Option.bind_some]
      by_cases c2 : ∀ x ∈ ks, 0 ≤ x ∧ x ≤ 65535
      · rw [decide_eq_true c2, if_pos rfl]
        by_cases c4 : ∀ x ∈ hs, 1 ≤ x ∧ x ≤ 250
        · rw [decide_eq_true c4, if_pos rfl]
          by_cases c5 : b.size < 16
          · rw [if_neg (by omega), implOnion_eq ks hs c3 c1.2 c2 b c5 k (by omega), if_pos ⟨c1, c2, c3, c4, c5⟩]
            rfl
          · rw [if_pos (by omega), if_neg (fun h => c5 h.2.2.2.2)]
        · rw [decide_eq_false c4, if_neg (by simp), if_neg (fun h => c4 h.2.2.2.1)]
      · rw [decide_eq_false c2, if_neg (by simp), if_neg (fun h => c2 h.2.1)]
    · rw [if_neg (by omega), if_neg (fun h => c3 h.2.2.1)]
  · rw [decide_eq_false (show ¬ ((1 : Int) ≤ (ks.length : Int) ∧ (ks.length : Int) ≤ 4) by omega), if_neg (by simp), if_neg (fun h => c1 h.1)]
theorem specBuild_j0f (ks hs : List Int) (b : ByteArray) (k : Nat) (hk : 0 < k) : spec_BuildOnion.j0 k ks hs b true = some (⟨#[]⟩, false) := by
  obtain ⟨k, rfl⟩ := rounds hk
  simp only [spec_BuildOnion.j0]
  rfl
theorem specBuild_eq (ks hs : List Int) (h1 : ks.length ≤ 1048576) (h2 : hs.length ≤ 1048576) (b : ByteArray) (k : Nat) (hk : 1048577 < k) : spec_BuildOnion.f k ks hs b = some (buildV ks hs b) := by
  have hf := specBuild_j0f ks hs b k (by omega)
  unfold spec_BuildOnion.f spec_l7Body.f buildV
  rw [l1In_eq, l1All_eq ks h1 _ _ k (by omega), l1All_eq hs h2 _ _ k (by omega), hf]
  simp only [Option.bind_some]
  by_cases c1 : 1 ≤ ks.length ∧ ks.length ≤ 4
  · rw [decide_eq_true (show (1 : Int) ≤ (ks.length : Int) ∧ (ks.length : Int) ≤ 4 by omega), if_pos rfl]
    by_cases c2 : ∀ x ∈ ks, 0 ≤ x ∧ x ≤ 65535
    · rw [decide_eq_true c2, if_pos rfl]
      by_cases c3 : hs.length = ks.length
      · rw [if_pos (by omega)]
        by_cases c4 : ∀ x ∈ hs, 1 ≤ x ∧ x ≤ 250
        · rw [decide_eq_true c4, if_pos rfl]
          by_cases c5 : b.size < 16
          · rw [if_pos ⟨c1, c2, c3, c4, c5⟩, decide_eq_true (show (b.size : Int) < 16 by omega)]
            obtain ⟨k, rfl⟩ := rounds (show 0 < k by omega)
            have hz : (ks.zip hs).length = ks.length := by rw [List.length_zip]; omega
            simp only [spec_BuildOnion.j0]
            rw [if_neg (by simp), specPadded_eq b c5]
            simp only [Option.bind_some]
            rw [if_pos (by omega), zeros_eq]
            rw [if_pos (start_l0 b c5), w64 (by omega) (by omega)]
            have h := (onion_l0 ks hs c3 c1.2 c2 (startV b) (startV_size b c5) ks.length k (by omega) (by omega)).2
            rw [List.drop_of_length_le (by omega)] at h
            exact h
          · rw [if_neg (fun h => c5 h.2.2.2.2), decide_eq_false (show ¬ (b.size : Int) < 16 by omega)]
            exact hf
        · rw [decide_eq_false c4, if_neg (by simp), if_neg (fun h => c4 h.2.2.2.1)]
      · rw [if_neg (by omega), if_neg (fun h => c3 h.2.2.1)]
    · rw [decide_eq_false c2, if_neg (by simp), if_neg (fun h => c2 h.2.1)]
  · rw [decide_eq_false (show ¬ ((1 : Int) ≤ (ks.length : Int) ∧ (ks.length : Int) ≤ 4) by omega), if_neg (by simp), if_neg (fun h => c1 h.1)]

theorem toIntS_l0 (l : List Int) (hl : l.length ≤ 1048576) : ∀ (d k i : Nat) (out : List Int), l.length - i = d → d < k → i ≤ l.length → out.length = l.length → out.take i = l.take i → laws_toIntS.l0 k l out (i : Int) = some l := by
  intro d
  induction d with
  | zero =>
    intro k i out hd hk hi ho ht
    obtain ⟨k, rfl⟩ := rounds hk
    simp only [laws_toIntS.l0]
    rw [if_neg (by omega), take_all out l i ht (by omega) (by omega)]
  | succ d ih =>
    intro k i out hd hk hi ho ht
    obtain ⟨k, rfl⟩ := rounds hk
    simp only [laws_toIntS.l0]
    rw [if_pos (by omega), if_pos (by omega), if_pos (by omega), w64 (by omega) (by omega), Int.toNat_natCast, rd_in l i (by omega)]
    exact ih k (i + 1) _ (by omega) (by omega) (by omega) (by rw [List.length_set]; exact ho) (take_set out l i _ ht (by omega) (by omega) rfl)

theorem toIntS_eq (l : List Int) (hl : l.length ≤ 1048576) (k : Nat) (hk : l.length < k) : laws_toIntS.f k l = some l := by
  unfold laws_toIntS.f
  rw [if_pos (by omega), if_pos (by omega)]
  exact toIntS_l0 l hl l.length k 0 _ (by omega) hk (by omega) (by simp) (by simp)

theorem eqIntS_l0 (l : List Int) (hl : l.length ≤ 1048576) : ∀ (d k i : Nat), l.length - i = d → d < k → laws_eqIntS.l0 k l l (i : Int) = some true := by
  intro d
  induction d with
  | zero =>
    intro k i hd hk
    obtain ⟨k, rfl⟩ := rounds hk
    simp only [laws_eqIntS.l0]
    rw [if_neg (by omega)]
  | succ d ih =>
    intro k i hd hk
    obtain ⟨k, rfl⟩ := rounds hk
    simp only [laws_eqIntS.l0]
    rw [if_pos (by omega), if_pos (by omega), if_pos (by omega), if_pos trivial, w64 (by omega) (by omega)]
    exact ih k (i + 1) (by omega) (by omega)

theorem eqIntS_self (l : List Int) (hl : l.length ≤ 1048576) (k : Nat) (hk : l.length < k) : laws_eqIntS.f k l l = some true := by
  unfold laws_eqIntS.f
  rw [if_pos rfl]
  exact eqIntS_l0 l hl l.length k 0 (by omega) hk

theorem toIntS_tot (l : List Int) (hl : l.length ≤ 1048576) : Tot (fun k => laws_toIntS.f k l) (fun y => y = l) := Tot.at_ (l.length + 1) rfl (fun k hk => toIntS_eq l hl k (by omega))
theorem eqIntS_tot (l : List Int) (hl : l.length ≤ 1048576) : Tot (fun k => laws_eqIntS.f k l l) (fun y => y = true) := Tot.at_ (l.length + 1) rfl (fun k hk => eqIntS_self l hl k (by omega))

theorem build_j0 (l0 l1 : List Int) (h0 : l0.length ≤ 1048576) (h1 : l1.length ≤ 1048576) : Tot (fun k => laws_FnExactBuildOnion.j0 k l0 l1 l0 l1 false) (fun y => y = true) := by
  refine Tot.up ?_
  simp only [laws_FnExactBuildOnion.j0]
  refine Tot.neg (by simp) ?_
  refine Tot.bind (toIntS_tot l0 h0) (fun y e => ?_)
  rw [e]
  refine Tot.bind (eqIntS_tot l0 h0) (fun y e => ?_)
  rw [e]
  refine Tot.pos rfl ?_
  refine Tot.bind (toIntS_tot l1 h1) (fun y e => ?_)
  rw [e]
  refine Tot.bind (eqIntS_tot l1 h1) (fun y e => ?_)
  rw [e]
  exact Tot.pos rfl (Tot.some_ rfl)
theorem FnExactBuildOnion : laws_FnExactBuildOnion.Pure := by
  intro l0 l1 b _ _ _ _ _ _ _
  refine Tot.ex ?_
  simp only [laws_FnExactBuildOnion.f]
  by_cases c0 : (l0.length : Int) > 1048576
  · exact Tot.pos c0 (Tot.some_ rfl)
  refine Tot.neg c0 ?_
  by_cases c1 : (l1.length : Int) > 1048576
  · exact Tot.pos c1 (Tot.some_ rfl)
  refine Tot.neg c1 ?_
  by_cases c2 : (b.size : Int) > 1048576
  · exact Tot.pos c2 (Tot.some_ rfl)
  refine Tot.neg c2 ?_
  refine Tot.bind (toIntS_tot l0 (by omega)) (fun y e => ?_)
  rw [e]
  refine Tot.bind (toIntS_tot l1 (by omega)) (fun y e => ?_)
  rw [e]
  refine Tot.bind (Q := fun y => y = buildV l0 l1 b) (Tot.at_ 1048578 rfl (fun k hk => specBuild_eq l0 l1 (by omega) (by omega) b k (by omega))) (fun y1 e1 => ?_)
  refine Tot.bind (toIntS_tot l0 (by omega)) (fun y e => ?_)
  rw [e]
  refine Tot.bind (toIntS_tot l1 (by omega)) (fun y e => ?_)
  rw [e]
  refine Tot.bind (Q := fun y => y = buildV l0 l1 b) (Tot.at_ 1048578 rfl (fun k hk => implBuild_eq l0 l1 (by omega) (by omega) b k (by omega))) (fun y2 e2 => ?_)
  rw [e1, e2]
  refine Tot.pos rfl ?_
  rw [bne_self_eq_false]
  exact build_j0 l0 l1 (by omega) (by omega)

end Go.Proofs.Ytobfeehelmbljaa.Pure
