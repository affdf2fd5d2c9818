/- Proved: WalkOnion of the program and of the reference answer alike at all arguments. Conditions: those of the given statement alone. -/
import Derived.Test.YtobfeehelmbljaaDoorPFnExactWalkOnionx5
import Derived.Test.YtobfeehelmbljaaDoorBase
set_option linter.unusedVariables false
set_option linter.unusedSimpArgs false
namespace Go.Proofs.YtobfeehelmbljaaDoor.Pure
open Go.RowKit Go.Proofs.YtobfeehelmbljaaDoor.PFnExactWalkOnion Go.Proofs.YtobfeehelmbljaaDoor.Base Go.Proofs.YtobfeehelmbljaaDoorW.PrintWords Go.Proofs.YtobfeehelmbljaaDoorW.PrintLast Go.Proofs.YtobfeehelmbljaaDoorW.PrintMore Go.Proofs.YtobfeehelmbljaaDoor

theorem zeros_eq (n : Nat) : strOfNums (List.replicate n 0) = Hand.zeroB n := by
  unfold strOfNums Hand.zeroB
  rw [List.map_replicate]
  rfl
theorem zeroB_size (n : Nat) : (Hand.zeroB n).size = n := by
  unfold Hand.zeroB
  show ((List.replicate n (0 : UInt8)).toArray).size = n
  simp
theorem size_app (a b : ByteArray) : (a ++ b).size = a.size + b.size := by
  rw [ByteArray.size_append]

theorem repeat_eq (n : Nat) (h : n ≤ 4096) : strings_Repeat.f (⟨#[0]⟩ : ByteArray) (n : Int) = some (Hand.zeroB n) := by
  unfold strings_Repeat.f
  rw [if_pos ⟨rfl, by omega, by omega⟩, Int.toNat_natCast]

theorem bxor (x y : Nat) (hx : x < 65536) (hy : y < 65536) : Go.bits .xor .i64 (x : Int) (y : Int) = ((x ^^^ y : Nat) : Int) ∧ x ^^^ y < 65536 := by
  have hb : x ^^^ y < 2 ^ 16 := Nat.xor_lt_two_pow (by omega) (by omega)
  have h : Go.bits .xor .i64 (x : Int) (y : Int) = IntKind.i64.wrap ((((BitVec.ofInt 64 (x : Int)) ^^^ (BitVec.ofInt 64 (y : Int))).toNat : Nat) : Int) := rfl
  rw [h, BitVec.toNat_xor, BitVec.ofInt_natCast, BitVec.ofInt_natCast, BitVec.toNat_ofNat, BitVec.toNat_ofNat, Nat.mod_eq_of_lt (by omega : x < 2 ^ 64), Nat.mod_eq_of_lt (by omega : y < 2 ^ 64), IntWalk.i64_in _ (by omega)]
  exact ⟨rfl, by omega⟩
theorem bor (x y : Nat) (hx : x < 256) (hy : y < 256) : Go.bits .or .i64 ((x * 256 : Nat) : Int) (y : Int) = ((256 * x + y : Nat) : Int) := by
  have e : 2 ^ 8 * x + y = 2 ^ 8 * x ||| y := Nat.two_pow_add_eq_or_of_lt (by omega) x
  have h : Go.bits .or .i64 ((x * 256 : Nat) : Int) (y : Int) = IntKind.i64.wrap ((((BitVec.ofInt 64 ((x * 256 : Nat) : Int)) ||| (BitVec.ofInt 64 (y : Int))).toNat : Nat) : Int) := rfl
  rw [h, BitVec.toNat_or, BitVec.ofInt_natCast, BitVec.ofInt_natCast, BitVec.toNat_ofNat, BitVec.toNat_ofNat, Nat.mod_eq_of_lt (by omega : x * 256 < 2 ^ 64), Nat.mod_eq_of_lt (by omega : y < 2 ^ 64), show x * 256 ||| y = 256 * x + y by rw [Nat.mul_comm x 256]; exact e.symm, IntWalk.i64_in _ (by omega)]
theorem bt_nat (s : ByteArray) (i : Int) : ∃ p : Nat, bt s i = (p : Int) ∧ p < 256 := by
  have h := bt_range s i
  exact ⟨(bt s i).toNat, by omega, by omega⟩
/-- What a round makes of a half. -/
def rndV (key half : Nat) : Nat := ((half + key % 256) % 256 * ((half + key % 256) % 256) + (half + key % 256) % 256 * (key / 256) + 29) % 65521 % 256
theorem rndV_lt (a b : Nat) : rndV a b < 256 := Nat.mod_lt _ (by omega)
theorem round_eq (a b : Nat) (ha : a < 65536) (hb : b < 256) : impl_round.f (a : Int) (b : Int) = some ((rndV a b : Nat) : Int) := by
  unfold impl_round.f rndV
  have e1 : Int.tmod (a : Int) 256 = ((a % 256 : Nat) : Int) := tmod_nat a 256
  have e2 : Int.tdiv (a : Int) 256 = ((a / 256 : Nat) : Int) := tdiv_nat a 256
  have e3 : (b : Int) + ((a % 256 : Nat) : Int) = ((b + a % 256 : Nat) : Int) := rfl
  have h1 : a / 256 < 256 := by omega
  obtain ⟨q, hq⟩ : ∃ q, a / 256 = q := ⟨_, rfl⟩
  rw [e1, e2, e3, wnat _ (by omega)]
  have e4 : Int.tmod ((b + a % 256 : Nat) : Int) 256 = (((b + a % 256) % 256 : Nat) : Int) := tmod_nat _ 256
  rw [e4]
  obtain ⟨h, hh⟩ : ∃ h, (b + a % 256) % 256 = h := ⟨_, rfl⟩
  have hl : h < 256 := by omega
  rw [hh, hq]
  have m1 : h * h ≤ 256 * 256 := Nat.mul_le_mul (by omega) (by omega)
  have m2 : h * q ≤ 256 * 256 := Nat.mul_le_mul (by omega) (by omega)
  rw [← Int.natCast_mul, wnat q (by omega), ← Int.natCast_mul, wnat (h * h) (by omega), wnat (h * q) (by omega), ← Int.natCast_add, wnat _ (by omega), show (29 : Int) = ((29 : Nat) : Int) from rfl, ← Int.natCast_add, wnat _ (by omega)]
  have e5 : Int.tmod ((h * h + h * q + 29 : Nat) : Int) 65521 = (((h * h + h * q + 29) % 65521 : Nat) : Int) := tmod_nat _ 65521
  have e6 : Int.tmod (((h * h + h * q + 29) % 65521 : Nat) : Int) 256 = (((h * h + h * q + 29) % 65521 % 256 : Nat) : Int) := tmod_nat _ 256
  rw [e5, e6]
theorem round_spec (a b : Int) : spec_l4Round.f a b = impl_round.f a b := rfl
/-- Keys that are good. -/
def Keys (l : List Int) : Prop := l.length ≤ 8 ∧ ∀ x ∈ l, 0 ≤ x ∧ x ≤ 65535
theorem mix_l0 (l : List Int) (hl : Keys l) : ∀ (d i : Nat) (u v : Nat), l.length - i = d → i ≤ l.length → u < 256 → v < 256 →
    ∃ t : Nat, t < 65536 ∧ ∀ k, d < k → impl_mix.l0 k (u : Int) (v : Int) l (l.length : Int) (i : Int) = some (t : Int) ∧ spec_l4Mix.l0 k (u : Int) (v : Int) l (l.length : Int) (i : Int) = some (t : Int) := by
  have h8 := hl.1
  intro d
  induction d with
  | zero =>
    intro i u v hd hi hu hv
    refine ⟨u * 256 + v, by omega, fun k hk => ?_⟩
    obtain ⟨k, rfl⟩ := rounds hk
    simp only [impl_mix.l0, spec_l4Mix.l0]
    rw [if_neg (by omega), if_neg (by omega), show (u : Int) * 256 = ((u * 256 : Nat) : Int) from rfl, wnat _ (by omega), ← Int.natCast_add, wnat _ (by omega), show (256 : Int) * (u : Int) = ((256 * u : Nat) : Int) from rfl, wnat _ (by omega), ← Int.natCast_add, wnat _ (by omega), Nat.mul_comm]
    exact ⟨rfl, rfl⟩
  | succ d ih =>
    intro i u v hd hi hu hv
    have hlt : i < l.length := by omega
    have hx := hl.2 _ (List.getElem_mem hlt)
    obtain ⟨q, hq⟩ := Int.eq_ofNat_of_zero_le hx.1
    have hr := rndV_lt q v
    have hb := bxor u (rndV q v) (by omega) (by omega)
    have hb2 : u ^^^ rndV q v < 2 ^ 8 := Nat.xor_lt_two_pow (by omega) (by omega)
    obtain ⟨t, ht, h⟩ := ih (i + 1) v (u ^^^ rndV q v) (by omega) (by omega) hv (by omega)
    refine ⟨t, ht, fun k hk => ?_⟩
    obtain ⟨k, rfl⟩ := rounds hk
    simp only [impl_mix.l0, spec_l4Mix.l0]
    rw [if_pos (by omega), if_pos (by omega), if_pos (by omega), if_pos (by omega), if_pos (by omega), if_pos (by omega), rd_in l i hlt, hq, round_spec]
    rw [round_eq q v (by omega) hv]
    simp only [Option.bind_some]
    rw [hb.1, w64 (n := (i : Int) + 1) (by omega) (by omega)]
    exact h k (by omega)
theorem mix_tot (l : List Int) (hl : Keys l) (x : Nat) (hx : x < 65536) : ∃ t : Nat, t < 65536 ∧ ∀ k, 8 < k → impl_mix.f k l (x : Int) = some (t : Int) ∧ spec_l4Mix.f k l (x : Int) = some (t : Int) := by
  have h8 := hl.1
  obtain ⟨t, ht, h⟩ := mix_l0 l hl l.length 0 (x / 256) (x % 256) rfl (by omega) (by omega) (by omega)
  refine ⟨t, ht, fun k hk => ?_⟩
  unfold impl_mix.f spec_l4Mix.f
  have e1 : Int.tmod (x : Int) 256 = ((x % 256 : Nat) : Int) := tmod_nat x 256
  have e2 : Int.tdiv (x : Int) 256 = ((x / 256 : Nat) : Int) := tdiv_nat x 256
  rw [e1, e2, wnat _ (by omega)]
  exact h k (by omega)
theorem mixText_l0 (l : List Int) (hl : Keys l) (s : ByteArray) (hs : s.size ≤ 40) (h2 : s.size % 2 = 0) : ∀ (d i : Nat) (x : Nat) (out : List Int), s.size - 2 * i = 2 * d → 2 * i ≤ s.size → x < 65536 → out.length = 2 * i →
    ∃ y : List Int, y.length = s.size ∧ ∀ k, d + 8 < k → impl_mixText.l0 k l (x : Int) s out ((2 * i : Nat) : Int) = some (strOfNums y) ∧ spec_MixText.l0 k l (x : Int) s out ((2 * i : Nat) : Int) = some (strOfNums y, true) := by
  intro d
  induction d with
  | zero =>
    intro i x out hd hi hx ho
    refine ⟨out, by omega, fun k hk => ?_⟩
    obtain ⟨k, rfl⟩ := rounds hk
    simp only [impl_mixText.l0, spec_MixText.l0]
    rw [if_neg (by omega), if_neg (by omega)]
    exact ⟨rfl, rfl⟩
  | succ d ih =>
    intro i x out hd hi hx ho
    obtain ⟨p, hp, hp2⟩ := bt_nat s ((2 * i : Nat) : Int)
    obtain ⟨q, hq, hq2⟩ := bt_nat s (((2 * i : Nat) : Int) + 1)
    have hb := bxor (256 * p + q) x (by omega) hx
    obtain ⟨t, ht, h⟩ := mix_tot l hl _ hb.2
    have e1 : Int.tmod (t : Int) 256 = ((t % 256 : Nat) : Int) := tmod_nat t 256
    have e2 : Int.tdiv (t : Int) 256 = ((t / 256 : Nat) : Int) := tdiv_nat t 256
    obtain ⟨y, hy, hh⟩ := ih (i + 1) t (out ++ [((t / 256 : Nat) : Int), ((t % 256 : Nat) : Int)]) (by omega) (by omega) ht (by simp; omega)
    refine ⟨y, hy, fun k hk => ?_⟩
    obtain ⟨k, rfl⟩ := rounds hk
    simp only [impl_mixText.l0, spec_MixText.l0]
    rw [w64 (n := ((2 * i : Nat) : Int) + 1) (by omega) (by omega), w64 (n := ((2 * i : Nat) : Int) + 2) (by omega) (by omega), hp, hq, wnat _ (by omega), wnat _ (by omega)]
    rw [if_pos (by omega), if_pos (by omega), if_pos (by omega), if_pos (by omega), if_pos (by omega), if_pos (by omega), if_pos (by omega), if_pos (by omega)]
    rw [show (p : Int) * 256 = ((p * 256 : Nat) : Int) from rfl, wnat _ (by omega), bor p q hp2 hq2, show (256 : Int) * (p : Int) = ((256 * p : Nat) : Int) from rfl, wnat _ (by omega), ← Int.natCast_add, wnat _ (by omega), hb.1, (h k (by omega)).1, (h k (by omega)).2]
    simp only [Option.bind_some]
    rw [if_pos (by simp; omega), if_pos (by simp; omega), e1, e2, wnat _ (by omega)]
    have f1 : ((t : Int) / 256) % 256 = ((t / 256 : Nat) : Int) := by omega
    have f2 : (t : Int) % 256 = ((t % 256 : Nat) : Int) := by omega
    have f3 : ((t / 256 : Nat) : Int) % 256 = ((t / 256 : Nat) : Int) := by omega
    have f4 : ((t % 256 : Nat) : Int) % 256 = ((t % 256 : Nat) : Int) := by omega
    rw [f1, f2, f3, f4, show ((2 * i : Nat) : Int) + 2 = ((2 * (i + 1) : Nat) : Int) by omega]
    exact hh k (by omega)
theorem l1In_eq (a b c : Int) : spec_l1In.f a b c = some (decide (b ≤ a ∧ a ≤ c)) := by
  unfold spec_l1In.f
  by_cases h : a ≥ b
  · rw [if_pos h]
    congr 1
    simp only [decide_eq_decide]
    omega
  · rw [if_neg h]
    congr 1
    symm
    simp only [decide_eq_false_iff_not]
    omega
theorem within_eq (a b c : Int) : impl_within.f a b c = some (decide (b ≤ a ∧ a ≤ c)) := by
  unfold impl_within.f
  by_cases h : a ≥ b
  · rw [if_pos h]
    congr 1
    simp only [decide_eq_decide]
    omega
  · rw [if_neg h]
    congr 1
    symm
    simp only [decide_eq_false_iff_not]
    omega
theorem l1All_l0 (l : List Int) (hl : l.length ≤ 1048576) (a b : Int) : ∀ (d i : Nat), l.length - i = d → i ≤ l.length → (∀ j, (h : j < l.length) → j < i → a ≤ l[j] ∧ l[j] ≤ b) → ∀ k, d < k →
    spec_l1All.l0 k a b l (l.length : Int) (i : Int) = some (decide (∀ x ∈ l, a ≤ x ∧ x ≤ b)) := by
  intro d
  induction d with
  | zero =>
    intro i hd hi ht k hk
    obtain ⟨k, rfl⟩ := rounds hk
    simp only [spec_l1All.l0]
    rw [if_neg (by omega)]
    congr 1
    symm
    rw [decide_eq_true_iff]
    intro x hx
    obtain ⟨j, hj, rfl⟩ := List.mem_iff_getElem.1 hx
    exact ht j hj (by omega)
  | succ d ih =>
    intro i hd hi ht k hk
    obtain ⟨k, rfl⟩ := rounds hk
    have hlt : i < l.length := by omega
    simp only [spec_l1All.l0]
    rw [if_pos (by omega), if_pos (by omega), if_pos (by omega), l1In_eq, rd_in l i hlt]
    simp only [Option.bind_some]
    by_cases h : a ≤ l[i] ∧ l[i] ≤ b
    · rw [decide_eq_true h, if_pos rfl, w64 (n := (i : Int) + 1) (by omega) (by omega)]
      exact ih (i + 1) (by omega) (by omega) (fun j hj hji => by
        by_cases e : j < i
        · exact ht j hj e
        · obtain rfl : j = i := by omega
          exact h) k (by omega)
    · rw [decide_eq_false h, if_neg (by simp)]
      congr 1
      symm
      rw [decide_eq_false_iff_not]
      exact fun hc => h (hc _ (List.getElem_mem hlt))
theorem l1All_eq (l : List Int) (hl : l.length ≤ 1048576) (a b : Int) (k : Nat) (hk : l.length < k) : spec_l1All.f k l a b = some (decide (∀ x ∈ l, a ≤ x ∧ x ≤ b)) := by
  unfold spec_l1All.f
  exact l1All_l0 l hl a b l.length 0 rfl (by omega) (fun j _ h => by omega) k hk
theorem keys3 (a : Int) (h : 0 ≤ a ∧ a ≤ 65535) : Keys [a, a, a] := ⟨by simp, fun x hx => by
  simp only [List.mem_cons, List.mem_nil_iff, or_false, or_self] at hx
  rw [hx]
  exact h⟩
theorem strOf_size (y : List Int) : (strOfNums y).size = y.length := by
  unfold strOfNums
  show ((y.map fun n => UInt8.ofNat n.toNat).toArray).size = _
  simp
/-- The bytes of a key: what both tell. -/
theorem pad_tot (a : Int) (ha : 0 ≤ a ∧ a ≤ 65535) (n : Nat) (hn : n ≤ 40) (h2 : n % 2 = 0) : ∃ y : ByteArray, y.size = n ∧ ∀ k, 40 < k → impl_pad.f k a (n : Int) = some y ∧ spec_l7Pad.f k a (n : Int) = some y := by
  obtain ⟨q, rfl⟩ := Int.eq_ofNat_of_zero_le ha.1
  have hz := zeroB_size n
  obtain ⟨y, hy, h⟩ := mixText_l0 [(q : Int), (q : Int), (q : Int)] (keys3 _ ha) (Hand.zeroB n) (by omega) (by omega) (n / 2) 0 q [] (by omega) (by omega) (by omega) rfl
  refine ⟨strOfNums y, by rw [strOf_size]; omega, fun k hk => ?_⟩
  have hh := h k (by omega)
  unfold impl_pad.f spec_l7Pad.f impl_mixText.f spec_MixText.f spec_l4Text.f spec_l4Keys.f spec_l4Key.f
  rw [repeat_eq n (by omega), if_pos (by omega), Int.toNat_natCast, if_pos (by omega), zeros_eq]
  simp only [Option.bind_some]
  rw [if_pos (by simp), l1All_eq _ (by simp) _ _ k (by simp; omega), l1In_eq, decide_eq_true (fun x hx => (keys3 _ ha).2 x hx), decide_eq_true ha]
  simp only [Option.bind_some, if_true]
  rw [if_pos (by omega), hz, show (((n : Nat) : Int) % 2 == 0) = true by rw [beq_iff_eq]; omega]
  simp only [Option.bind_some, if_true]
  have e0 : ((2 * 0 : Nat) : Int) = 0 := rfl
  rw [e0] at hh
  rw [hh.1, hh.2]
  exact ⟨rfl, rfl⟩

theorem check_l0 (s : ByteArray) (hs : s.size ≤ 40) : ∀ (d i : Nat) (x : Nat), s.size - i = d → i ≤ s.size → x ≤ 10200 * i →
    ∃ c : Nat, c < 251 ∧ ∀ k, d < k → impl_check.l0 k s (x : Int) (s.size : Int) (i : Int) = some (c : Int) ∧ spec_l7Check.l0 k s (x : Int) (i : Int) = some (c : Int) := by
  intro d
  induction d with
  | zero =>
    intro i x hd hi hx
    refine ⟨x % 251, Nat.mod_lt _ (by omega), fun k hk => ?_⟩
    obtain ⟨k, rfl⟩ := rounds hk
    simp only [impl_check.l0, spec_l7Check.l0]
    rw [if_neg (by omega), if_neg (by omega)]
    have e : Int.tmod (x : Int) 251 = ((x % 251 : Nat) : Int) := tmod_nat x 251
    rw [e]
    exact ⟨rfl, rfl⟩
  | succ d ih =>
    intro i x hd hi hx
    obtain ⟨p, hp, hp2⟩ := bt_nat s (i : Int)
    have hm : p * (i + 1) ≤ 255 * 40 := Nat.mul_le_mul (by omega) (by omega)
    obtain ⟨c, hc, h⟩ := ih (i + 1) (x + p * (i + 1)) (by omega) (by omega) (by omega)
    refine ⟨c, hc, fun k hk => ?_⟩
    obtain ⟨k, rfl⟩ := rounds hk
    simp only [impl_check.l0, spec_l7Check.l0]
    rw [if_pos (by omega), if_pos (by omega), if_pos (by omega), if_pos (by omega), if_pos (by omega), hp, wnat p (by omega), w64 (n := (i : Int) + 1) (by omega) (by omega), show (i : Int) + 1 = ((i + 1 : Nat) : Int) from rfl, ← Int.natCast_mul, wnat _ (by omega), ← Int.natCast_add, wnat _ (by omega)]
    exact h k (by omega)
theorem check_tot (s : ByteArray) (hs : s.size ≤ 40) : ∃ c : Nat, c < 251 ∧ ∀ k, 40 < k → impl_check.f k s = some (c : Int) ∧ spec_l7Check.f k s = some (c : Int) := by
  obtain ⟨c, hc, h⟩ := check_l0 s hs s.size 0 0 rfl (by omega) (by omega)
  exact ⟨c, hc, fun k hk => h k (by omega)⟩
/-- The check of bytes. -/
noncomputable def chkV (s : ByteArray) : Nat := if h : s.size ≤ 40 then (check_tot s h).choose else 0
theorem chkV_spec (s : ByteArray) (hs : s.size ≤ 40) : chkV s < 251 ∧ ∀ k, 40 < k → impl_check.f k s = some ((chkV s : Nat) : Int) ∧ spec_l7Check.f k s = some ((chkV s : Nat) : Int) := by
  unfold chkV
  rw [dif_pos hs]
  exact (check_tot s hs).choose_spec
/-- The bytes of a key for an onion. -/
noncomputable def padK (a : Int) : ByteArray := if h : 0 ≤ a ∧ a ≤ 65535 then (pad_tot a h 24 (by omega) (by omega)).choose else ⟨#[]⟩
theorem padK_spec (a : Int) (h : 0 ≤ a ∧ a ≤ 65535) : (padK a).size = 24 ∧ ∀ k, 40 < k → impl_pad.f k a 24 = some (padK a) ∧ spec_l7Pad.f k a 24 = some (padK a) := by
  unfold padK
  rw [dif_pos h]
  exact (pad_tot a h 24 (by omega) (by omega)).choose_spec
theorem xorB_size (a b : ByteArray) : (Hand.xorB a b).size = a.size := by
  unfold Hand.xorB
  show ((Hand.xorL a.data.toList b.data.toList).toArray).size = _
  rw [List.size_toArray, Hand.xorL_length, data_length]
theorem size_ext (a : ByteArray) (i j : Nat) (h : j ≤ a.size) : (a.extract i j).size = j - i := by
  rw [ByteArray.size_extract, Nat.min_eq_left h]

/-- A row without the zeros at its end. -/
def trimL (l : List UInt8) : List UInt8 := (l.reverse.dropWhile (· == 0)).reverse
theorem trimL_zero (l : List UInt8) : trimL (l ++ [0]) = trimL l := by
  unfold trimL
  simp
theorem trimL_keep (l : List UInt8) (c : UInt8) (h : c ≠ 0) : trimL (l ++ [c]) = l ++ [c] := by
  unfold trimL
  rw [List.reverse_append]
  simp [h]
theorem trimL_len (l : List UInt8) : (trimL l).length ≤ l.length := by
  unfold trimL
  rw [List.length_reverse]
  have := (List.dropWhile_suffix (l := l.reverse) (fun x : UInt8 => x == 0)).length_le
  simpa using this
/-- The body in a row with its padding. -/
def bodyL (l : List UInt8) : List UInt8 × Bool := if [128].isSuffixOf (trimL l) then ((trimL l).take ((trimL l).length - 1), true) else ([], false)
theorem bodyL_zero (l : List UInt8) : bodyL (l ++ [0]) = bodyL l := by
  unfold bodyL
  rw [trimL_zero]
theorem bodyL_128 (l : List UInt8) : bodyL (l ++ [128]) = (l, true) := by
  unfold bodyL
  rw [trimL_keep l 128 (by decide), if_pos]
  · simp
  · rw [List.isSuffixOf_iff_suffix]
    exact List.suffix_append _ _
theorem bodyL_other (l : List UInt8) (c : UInt8) (h : c ≠ 0) (h2 : c ≠ 128) : bodyL (l ++ [c]) = ([], false) := by
  unfold bodyL
  rw [trimL_keep l c h, if_neg]
  rw [List.isSuffixOf_iff_suffix]
  rintro ⟨t, ht⟩
  have := (List.append_inj' ht rfl).2
  simp at this
  exact h2 this.symm
theorem bodyL_nil : bodyL [] = ([], false) := rfl
def bodyV (s : ByteArray) : ByteArray × Bool := if s.size = 16 then (⟨(bodyL s.data.toList).1.toArray⟩, (bodyL s.data.toList).2) else (⟨#[]⟩, false)
theorem take_snoc8 (l : List UInt8) (i : Nat) (h : i < l.length) : l.take (i + 1) = l.take i ++ [l[i]] := by
  rw [List.take_succ_eq_append_getElem h]
theorem extract_data (s : ByteArray) (n : Nat) : s.extract 0 n = ⟨(s.data.toList.take n).toArray⟩ := by
  apply ByteArray.ext
  rw [ByteArray.data_extract]
  apply Array.ext'
  simp [Array.toList_extract, List.extract_eq_take_drop]
theorem mk_list (s : ByteArray) : (⟨s.data.toList.toArray⟩ : ByteArray) = s := rfl
theorem specUnpad_l0 (s : ByteArray) (hs : s.size = 16) : ∀ (i : Nat), i < 16 → ∀ k, i < k → spec_UnpadBody.l0 k s (i : Int) = some (⟨(bodyL (s.data.toList.take (i + 1))).1.toArray⟩, (bodyL (s.data.toList.take (i + 1))).2) := by
  have hl : s.data.toList.length = 16 := by rw [data_length, hs]
  have hbt : ∀ (i : Nat) (hi : i < s.data.toList.length), bt s (i : Int) = ((s.data.toList[i].toNat : Nat) : Int) := by
    intro i hi
    have := bt_at s (i : Int) (by rw [Int.toNat_natCast]; omega)
    rw [← this]
    simp [Int.toNat_natCast]
    rfl
  intro i
  induction i with
  | zero =>
    intro hi k hk
    obtain ⟨k, rfl⟩ := rounds hk
    have h0 := hbt 0 (by omega)
    simp only [spec_UnpadBody.l0]
    rw [if_neg (by omega), if_pos (by omega), if_pos (by omega), h0, take_snoc8 _ 0 (by omega)]
    by_cases e : s.data.toList[0] = 128
    · rw [e, bodyL_128, if_pos (show ((UInt8.toNat 128 : Nat) : Int) = 128 from rfl), if_pos (by omega), extract_data]
      rfl
    · rw [if_neg (fun h => e (UInt8.toNat_inj.1 (by have : (128 : UInt8).toNat = 128 := rfl; omega)))]
      by_cases e2 : s.data.toList[0] = 0
      · rw [e2, bodyL_zero, List.take_zero, bodyL_nil]
      · rw [bodyL_other _ _ e2 e]
  | succ i ih =>
    intro hi k hk
    obtain ⟨k, rfl⟩ := rounds hk
    have h0 := hbt (i + 1) (by omega)
    simp only [spec_UnpadBody.l0]
    rw [if_pos (by omega), if_pos (by omega), if_pos (by omega), h0, take_snoc8 _ (i + 1) (by omega)]
    by_cases e2 : s.data.toList[i + 1] = 0
    · rw [e2, bodyL_zero, if_pos (show ((UInt8.toNat 0 : Nat) : Int) = 0 from rfl), w64 (n := ((i + 1 : Nat) : Int) - 1) (by omega) (by omega), show ((i + 1 : Nat) : Int) - 1 = (i : Int) by omega]
      exact ih (by omega) k (by omega)
    · rw [if_neg (fun h => e2 (UInt8.toNat_inj.1 (by have : (0 : UInt8).toNat = 0 := rfl; omega)))]
      by_cases e : s.data.toList[i + 1] = 128
      · rw [e, bodyL_128, if_pos (show ((UInt8.toNat 128 : Nat) : Int) = 128 from rfl), if_pos (by omega), extract_data]
        rfl
      · rw [if_neg (fun h => e (UInt8.toNat_inj.1 (by have : (128 : UInt8).toNat = 128 := rfl; omega))), bodyL_other _ _ e2 e]
theorem specUnpad_eq (s : ByteArray) (k : Nat) (hk : 16 < k) : spec_UnpadBody.f k s = some (bodyV s) := by
  unfold spec_UnpadBody.f bodyV
  by_cases h : s.size = 16
  · rw [if_pos (by omega), if_pos h, w64 (n := (s.size : Int) - 1) (by omega) (by omega), show (s.size : Int) - 1 = ((15 : Nat) : Int) by omega, specUnpad_l0 s h 15 (by omega) k (by omega), List.take_of_length_le (by rw [data_length]; omega)]
  · rw [if_neg (by omega), if_neg h]
theorem trimB_data (s : ByteArray) : (Hand.trimB s).data.toList = trimL s.data.toList := rfl
theorem implUnpad_eq (s : ByteArray) (hs : s.size ≤ 9223372036854775807) : impl_UnpadBody.f s = some (bodyV s) := by
  unfold impl_UnpadBody.f bodyV strings_TrimRight.f strings_HasSuffix.f
  have hz : (Hand.trimB s).size = (trimL s.data.toList).length := by rw [← trimB_data, data_length]
  have hle := trimL_len s.data.toList
  rw [data_length] at hle
  rw [if_pos ⟨rfl, hs⟩]
  simp only [Option.bind_some]
  by_cases h : s.size = 16
  · rw [if_pos (by omega), if_pos h, if_pos (by omega), trimB_data]
    simp only [Option.bind_some, Lib.hasSuffix]
    unfold bodyL
    by_cases e : ([128] : List UInt8).isSuffixOf (trimL s.data.toList) = true
    · have hp : 0 < (trimL s.data.toList).length := by
        rw [List.isSuffixOf_iff_suffix] at e
        have := e.length_le
        simp only [List.length_singleton] at this
        omega
      rw [if_pos e]
      have e' : ((⟨#[128]⟩ : ByteArray).data.toList.isSuffixOf (trimL s.data.toList)) = true := e
      rw [if_pos e', w64 (by omega) (by omega), if_pos (by omega), if_pos (by omega), extract_data, trimB_data, show ((((Hand.trimB s).size : Int) - 1).toNat) = (trimL s.data.toList).length - 1 by omega]
    · rw [if_neg e]
      have e' : ¬ ((⟨#[128]⟩ : ByteArray).data.toList.isSuffixOf (trimL s.data.toList)) = true := e
      rw [if_neg e']
  · rw [if_neg (by omega), if_neg h]

def restV (t : ByteArray) : ByteArray := t.extract 2 t.size ++ (⟨#[0, 0]⟩ : ByteArray)
noncomputable def peelT (t : ByteArray) : Int × ByteArray × ByteArray × Bool := if (1 ≤ bt t 0 ∧ bt t 0 ≤ 250) ∧ bt t 1 = ((chkV (t.extract 2 18) : Nat) : Int) then (bt t 0, restV t, (bodyV ((restV t).extract 0 16)).1, true) else (0, ⟨#[]⟩, ⟨#[]⟩, false)
/-- What taking a layer off tells. -/
noncomputable def peelV (a : Int) (s : ByteArray) : Int × ByteArray × ByteArray × Bool := if (0 ≤ a ∧ a ≤ 65535) ∧ s.size = 24 then peelT (Hand.xorB s (padK a)) else (0, ⟨#[]⟩, ⟨#[]⟩, false)
theorem restV_size (t : ByteArray) (h : t.size = 24) : (restV t).size = 24 := by
  unfold restV
  rw [size_app, size_ext _ _ _ (by omega), h]
  rfl
theorem bt_wrap (t : ByteArray) (i : Int) : wrap64 (bt t i) = bt t i := by
  have h := bt_range t i
  exact w64 (by omega) (by omega)
theorem implPeel_j0 (a : Int) (ha : 0 ≤ a ∧ a ≤ 65535) (s : ByteArray) (hs : s.size = 24) (k : Nat) (hk : 60 < k) : impl_PeelOnion.j0 k a s false = some (peelV a s) := by
  obtain ⟨k, rfl⟩ := rounds hk
  have hp := padK_spec a ha
  obtain ⟨t, ht⟩ : ∃ t, Hand.xorB s (padK a) = t := ⟨_, rfl⟩
  have h24 : t.size = 24 := by rw [← ht, xorB_size, hs]
  have hr := restV_size t h24
  have he := size_ext t 2 18 (by omega)
  have hc := (chkV_spec (t.extract 2 18) (by omega)).2 k (by omega)
  simp only [impl_PeelOnion.j0, impl_xor.f, impl_isHop.f, within_eq]
  rw [if_neg (by simp), (hp.2 k (by omega)).1]
  simp only [Option.bind_some]
  rw [if_pos (show s.size ≤ (padK a).size ∧ s.size ≤ 140737488355328 from ⟨by omega, by omega⟩), ht]
  simp only [Option.bind_some, bt_wrap]
  rw [if_pos (show (0 : Int) < (t.size : Int) by omega)]
  unfold peelV
  rw [if_pos (show (0 ≤ a ∧ a ≤ 65535) ∧ s.size = 24 from ⟨ha, hs⟩), ht, peelT]
  by_cases h1 : 1 ≤ bt t 0 ∧ bt t 0 ≤ 250
  · rw [decide_eq_true h1, if_pos rfl, if_pos (show (1 : Int) < (t.size : Int) by omega), if_pos (show (2 : Nat) ≤ 18 by omega), if_pos (show (18 : Int) ≤ (t.size : Int) by omega), hc.1]
    simp only [Option.bind_some]
    by_cases h2 : bt t 1 = ((chkV (t.extract 2 18) : Nat) : Int)
    · rw [if_pos h2, if_pos (show (1 ≤ bt t 0 ∧ bt t 0 ≤ 250) ∧ bt t 1 = ((chkV (t.extract 2 18) : Nat) : Int) from ⟨h1, h2⟩), if_pos (show (2 : Int) ≤ (t.size : Int) by omega), if_pos (by rw [size_ext _ _ _ (by omega)]; omega), if_pos (show (0 : Nat) ≤ 16 by omega)]
      have e : t.extract 2 t.size ++ (⟨#[0, 0]⟩ : ByteArray) = restV t := rfl
      rw [e, if_pos (by omega), implUnpad_eq _ (by rw [size_ext _ _ _ (by omega)]; omega)]
      rfl
    · rw [if_neg h2, if_neg (show ¬ ((1 ≤ bt t 0 ∧ bt t 0 ≤ 250) ∧ bt t 1 = ((chkV (t.extract 2 18) : Nat) : Int)) from fun h => h2 h.2)]
  · rw [decide_eq_false h1, if_neg (by simp), if_neg (show ¬ ((1 ≤ bt t 0 ∧ bt t 0 ≤ 250) ∧ bt t 1 = ((chkV (t.extract 2 18) : Nat) : Int)) from fun h => h1 h.1)]
theorem specPeel_j0 (a : Int) (ha : 0 ≤ a ∧ a ≤ 65535) (s : ByteArray) (hs : s.size = 24) (k : Nat) (hk : 60 < k) : spec_PeelOnion.j0 k a s false = some (peelV a s) := by
  obtain ⟨k, rfl⟩ := rounds hk
  have hp := padK_spec a ha
  obtain ⟨t, ht⟩ : ∃ t, Hand.xorB s (padK a) = t := ⟨_, rfl⟩
  have h24 : t.size = 24 := by rw [← ht, xorB_size, hs]
  have hr := restV_size t h24
  have he := size_ext t 2 18 (by omega)
  have hc := (chkV_spec (t.extract 2 18) (by omega)).2 k (by omega)
  simp only [spec_PeelOnion.j0, spec_l7Xor.f, l1In_eq]
  rw [if_neg (by simp), (hp.2 k (by omega)).2]
  simp only [Option.bind_some]
  rw [if_pos (show s.size ≤ (padK a).size ∧ s.size ≤ 140737488355328 from ⟨by omega, by omega⟩), ht]
  simp only [Option.bind_some, bt_wrap]
  rw [if_pos (show (0 : Int) < (t.size : Int) by omega)]
  unfold peelV
  rw [if_pos (show (0 ≤ a ∧ a ≤ 65535) ∧ s.size = 24 from ⟨ha, hs⟩), ht, peelT]
  by_cases h1 : 1 ≤ bt t 0 ∧ bt t 0 ≤ 250
  · rw [decide_eq_true h1, if_pos rfl, if_pos (show (1 : Int) < (t.size : Int) by omega), if_pos (show (2 : Nat) ≤ 18 by omega), if_pos (show (18 : Int) ≤ (t.size : Int) by omega), hc.2]
    simp only [Option.bind_some]
    by_cases h2 : bt t 1 = ((chkV (t.extract 2 18) : Nat) : Int)
    · rw [if_pos h2, if_pos (show (1 ≤ bt t 0 ∧ bt t 0 ≤ 250) ∧ bt t 1 = ((chkV (t.extract 2 18) : Nat) : Int) from ⟨h1, h2⟩), if_pos (show (2 : Int) ≤ (t.size : Int) by omega), if_pos (by rw [size_ext _ _ _ (by omega)]; omega), if_pos (show (0 : Nat) ≤ 16 by omega)]
      have e : t.extract 2 t.size ++ (⟨#[0, 0]⟩ : ByteArray) = restV t := rfl
      rw [e, if_pos (by omega), specUnpad_eq _ k (by omega)]
      rfl
    · rw [if_neg h2, if_neg (show ¬ ((1 ≤ bt t 0 ∧ bt t 0 ≤ 250) ∧ bt t 1 = ((chkV (t.extract 2 18) : Nat) : Int)) from fun h => h2 h.2)]
  · rw [decide_eq_false h1, if_neg (by simp), if_neg (show ¬ ((1 ≤ bt t 0 ∧ bt t 0 ≤ 250) ∧ bt t 1 = ((chkV (t.extract 2 18) : Nat) : Int)) from fun h => h1 h.1)]
theorem implPeel_eq (a : Int) (s : ByteArray) (k : Nat) (hk : 60 < k) : impl_PeelOnion.f k a s = some (peelV a s) := by
  have hf : impl_PeelOnion.j0 k a s true = some (0, ⟨#[]⟩, ⟨#[]⟩, false) := by
    obtain ⟨k, rfl⟩ := rounds hk
    simp only [impl_PeelOnion.j0]
    rfl
  unfold impl_PeelOnion.f impl_isKey.f
  simp only [within_eq, Option.bind_some]
  by_cases ha : 0 ≤ a ∧ a ≤ 65535
  · rw [decide_eq_true ha, if_pos rfl]
    by_cases hs : s.size = 24
    · rw [show ((s.size : Int) != 24) = false by rw [hs]; rfl]
      exact implPeel_j0 a ha s hs k hk
    · rw [show ((s.size : Int) != 24) = true by rw [bne_iff_ne]; omega, hf, peelV, if_neg (fun h => hs h.2)]
  · rw [decide_eq_false ha, if_neg (by simp), hf, peelV, if_neg (fun h => ha h.1)]
theorem specPeel_eq (a : Int) (s : ByteArray) (k : Nat) (hk : 60 < k) : spec_PeelOnion.f k a s = some (peelV a s) := by
  have hf : spec_PeelOnion.j0 k a s true = some (0, ⟨#[]⟩, ⟨#[]⟩, false) := by
    obtain ⟨k, rfl⟩ := rounds hk
    simp only [spec_PeelOnion.j0]
    rfl
  unfold spec_PeelOnion.f spec_l4Key.f
  simp only [l1In_eq, Option.bind_some]
  by_cases ha : 0 ≤ a ∧ a ≤ 65535
  · rw [decide_eq_true ha, if_pos rfl]
    by_cases hs : s.size = 24
    · rw [show ((s.size : Int) != 24) = false by rw [hs]; rfl]
      exact specPeel_j0 a ha s hs k hk
    · rw [show ((s.size : Int) != 24) = true by rw [bne_iff_ne]; omega, hf, peelV, if_neg (fun h => hs h.2)]
  · rw [decide_eq_false ha, if_neg (by simp), hf, peelV, if_neg (fun h => ha h.1)]

noncomputable def walkF (l : List Int) (s : ByteArray) (out : List Int) (b : ByteArray) : List Int × ByteArray × Bool :=
  match l with
  | [] => (out, b, true)
  | a :: l => if (peelV a s).2.2.2 = true then walkF l (peelV a s).2.1 (out ++ [(peelV a s).1]) (peelV a s).2.2.1 else ([], ⟨#[]⟩, false)
noncomputable def walkV (l : List Int) (s : ByteArray) : List Int × ByteArray × Bool := if l.length ≤ 4 then walkF l s [] ⟨#[]⟩ else ([], ⟨#[]⟩, false)
theorem walk_l0 (l : List Int) (hl : l.length ≤ 4) : ∀ (d i : Nat) (s : ByteArray) (out : List Int) (b : ByteArray), l.length - i = d → i ≤ l.length → out.length ≤ i → ∀ k, d + 61 < k →
    impl_WalkOnion.l0 k s out b l (l.length : Int) (i : Int) = some (walkF (l.drop i) s out b) ∧ spec_WalkOnion.l0 k s out b l (l.length : Int) (i : Int) = some (walkF (l.drop i) s out b) := by
  intro d
  induction d with
  | zero =>
    intro i s out b hd hi ho k hk
    obtain ⟨k, rfl⟩ := rounds hk
    simp only [impl_WalkOnion.l0, spec_WalkOnion.l0]
    rw [if_neg (by omega), if_neg (by omega), List.drop_of_length_le (by omega)]
    exact ⟨rfl, rfl⟩
  | succ d ih =>
    intro i s out b hd hi ho k hk
    obtain ⟨k, rfl⟩ := rounds hk
    have hlt : i < l.length := by omega
    simp only [impl_WalkOnion.l0, spec_WalkOnion.l0]
    rw [List.drop_eq_getElem_cons hlt, rd_in l i hlt, implPeel_eq _ _ k (by omega), specPeel_eq _ _ k (by omega)]
    simp only [Option.bind_some, walkF]
    have hA : (i : Int) < (l.length : Int) := by omega
    have hB : 0 ≤ (i : Int) := by omega
    have hC : out.length < 17592186044416 := by omega
    simp only [if_pos hA, if_pos hB, if_pos hC]
    by_cases h : (peelV l[i] s).2.2.2 = true
    · simp only [if_pos h]
      rw [w64 (n := (i : Int) + 1) (by omega) (by omega)]
      exact ih (i + 1) _ _ _ (by omega) (by omega) (by rw [List.length_append, List.length_singleton]; omega) k (by omega)
    · simp only [if_neg h]
      exact ⟨trivial, trivial⟩
theorem implWalk_eq (l : List Int) (s : ByteArray) (k : Nat) (hk : 70 < k) : impl_WalkOnion.f k l s = some (walkV l s) := by
  unfold impl_WalkOnion.f walkV
  by_cases h : l.length ≤ 4
  · rw [if_neg (by omega), if_pos h]
    exact (walk_l0 l h l.length 0 s [] ⟨#[]⟩ rfl (by omega) (by simp) k (by omega)).1
  · rw [if_pos (by omega), if_neg h]
theorem specWalk_eq (l : List Int) (s : ByteArray) (k : Nat) (hk : 70 < k) : spec_WalkOnion.f k l s = some (walkV l s) := by
  unfold spec_WalkOnion.f walkV
  by_cases h : l.length ≤ 4
  · rw [if_neg (by omega), if_pos h]
    exact (walk_l0 l h l.length 0 s [] ⟨#[]⟩ rfl (by omega) (by simp) k (by omega)).2
  · rw [if_pos (by omega), if_neg h]
theorem walkF_len (l : List Int) : ∀ (s : ByteArray) (out : List Int) (b : ByteArray), (walkF l s out b).1.length ≤ out.length + l.length := by
  induction l with
  | nil => intro s out b; simp [walkF]
  | cons a l ih =>
    intro s out b
    simp only [walkF]
    split
    · have := ih (peelV a s).2.1 (out ++ [(peelV a s).1]) (peelV a s).2.2.1
      simp only [List.length_append, List.length_singleton, List.length_cons, List.length_nil] at this ⊢
      omega
    · simp
theorem walkV_len (l : List Int) (s : ByteArray) : (walkV l s).1.length ≤ 4 := by
  unfold walkV
  split
  · have := walkF_len l s [] ⟨#[]⟩
    simp only [List.length_nil] at this
    omega
  · simp

theorem toIntS_l0 (l : List Int) (hl : l.length ≤ 1048576) : ∀ (d k i : Nat) (out : List Int), l.length - i = d → d < k → i ≤ l.length → out.length = l.length → out.take i = l.take i → laws_toIntS.l0 k l out (i : Int) = some l := by
  intro d
  induction d with
  | zero =>
    intro k i out hd hk hi ho ht
    obtain ⟨k, rfl⟩ := rounds hk
    simp only [laws_toIntS.l0]
    rw [if_neg (by omega), take_all out l i ht (by omega) (by omega)]
  | succ d ih =>
    intro k i out hd hk hi ho ht
    obtain ⟨k, rfl⟩ := rounds hk
    simp only [laws_toIntS.l0]
    rw [if_pos (by omega), if_pos (by omega), if_pos (by omega), w64 (by omega) (by omega), Int.toNat_natCast, rd_in l i (by omega)]
    exact ih k (i + 1) _ (by omega) (by omega) (by omega) (by rw [List.length_set]; exact ho) (take_set out l i _ ht (by omega) (by omega) rfl)

theorem toIntS_eq (l : List Int) (hl : l.length ≤ 1048576) (k : Nat) (hk : l.length < k) : laws_toIntS.f k l = some l := by
  unfold laws_toIntS.f
  rw [if_pos (by omega), if_pos (by omega)]
  exact toIntS_l0 l hl l.length k 0 _ (by omega) hk (by omega) (by simp) (by simp)

theorem eqIntS_l0 (l : List Int) (hl : l.length ≤ 1048576) : ∀ (d k i : Nat), l.length - i = d → d < k → laws_eqIntS.l0 k l l (i : Int) = some true := by
  intro d
  induction d with
  | zero =>
    intro k i hd hk
    obtain ⟨k, rfl⟩ := rounds hk
    simp only [laws_eqIntS.l0]
    rw [if_neg (by omega)]
  | succ d ih =>
    intro k i hd hk
    obtain ⟨k, rfl⟩ := rounds hk
    simp only [laws_eqIntS.l0]
    rw [if_pos (by omega), if_pos (by omega), if_pos (by omega), if_pos trivial, w64 (by omega) (by omega)]
    exact ih k (i + 1) (by omega) (by omega)

theorem eqIntS_self (l : List Int) (hl : l.length ≤ 1048576) (k : Nat) (hk : l.length < k) : laws_eqIntS.f k l l = some true := by
  unfold laws_eqIntS.f
  rw [if_pos rfl]
  exact eqIntS_l0 l hl l.length k 0 (by omega) hk

theorem toIntS_tot (l : List Int) (hl : l.length ≤ 1048576) : Tot (fun k => laws_toIntS.f k l) (fun y => y = l) := Tot.at_ (l.length + 1) rfl (fun k hk => toIntS_eq l hl k (by omega))
theorem eqIntS_tot (l : List Int) (hl : l.length ≤ 1048576) : Tot (fun k => laws_eqIntS.f k l l) (fun y => y = true) := Tot.at_ (l.length + 1) rfl (fun k hk => eqIntS_self l hl k (by omega))

theorem markIntS_l0 (n : Nat) (hn : n ≤ 1048576) (m : Int) (h0 : 0 ≤ m) (h1 : m ≤ 4294967296) : ∀ (d k i : Nat) (out : List Int), n - i = d → d < k → i ≤ n → out.length = n → out.take i = (ups m n).take i → laws_markIntS.l0 k out (m + (i : Int)) (i : Int) = some (m + (n : Int), ups m n) := by
  intro d
  induction d with
  | zero =>
    intro k i out hd hk hi ho ht
    obtain ⟨k, rfl⟩ := rounds hk
    simp only [laws_markIntS.l0]
    rw [if_neg (by omega), take_all out (ups m n) i ht (by omega) (by rw [ups_length]; omega), show i = n by omega]
  | succ d ih =>
    intro k i out hd hk hi ho ht
    obtain ⟨k, rfl⟩ := rounds hk
    simp only [laws_markIntS.l0]
    rw [if_pos (by omega), if_pos (by omega), w64 (n := (i : Int) + 1) (by omega) (by omega), w64 (n := m + (i : Int) + 1) (by omega) (by omega), Int.toNat_natCast]
    rw [show m + (i : Int) + 1 = m + ((i + 1 : Nat) : Int) by omega]
    exact ih k (i + 1) _ (by omega) (by omega) (by omega) (by rw [List.length_set]; exact ho) (take_set out (ups m n) i _ ht (by omega) (by rw [ups_length]; omega) (ups_get m n i (by omega)).symm)

theorem markIntS_eq (l : List Int) (hl : l.length ≤ 1048576) (m : Int) (h0 : 0 ≤ m) (h1 : m ≤ 4294967296) (k : Nat) (hk : l.length < k) : laws_markIntS.f k l m = some (m + (l.length : Int), ups m l.length) := by
  have h := markIntS_l0 l.length hl m h0 h1 l.length k 0 l (by omega) hk (by omega) rfl (by simp)
  unfold laws_markIntS.f
  simpa using h

theorem heldIntS_l0 (n : Nat) (hn : n ≤ 1048576) (m : Int) (h0 : 0 ≤ m) (h1 : m ≤ 4294967296) : ∀ (d k i : Nat), n - i = d → d < k → i ≤ n → laws_heldIntS.l0 k (ups m n) (m + (i : Int)) (i : Int) = some (m + (n : Int)) := by
  intro d
  induction d with
  | zero =>
    intro k i hd hk hi
    obtain ⟨k, rfl⟩ := rounds hk
    simp only [laws_heldIntS.l0]
    rw [if_neg (by rw [ups_length]; omega), show i = n by omega]
  | succ d ih =>
    intro k i hd hk hi
    obtain ⟨k, rfl⟩ := rounds hk
    simp only [laws_heldIntS.l0]
    rw [if_pos (by rw [ups_length]; omega), if_pos (by omega), rd_in _ i (by rw [ups_length]; omega), ups_get m n i (by omega), if_pos rfl, w64 (n := (i : Int) + 1) (by omega) (by omega), w64 (n := m + (i : Int) + 1) (by omega) (by omega)]
    rw [show m + (i : Int) + 1 = m + ((i + 1 : Nat) : Int) by omega]
    exact ih k (i + 1) (by omega) (by omega) (by omega)

theorem heldIntS_eq (n : Nat) (hn : n ≤ 1048576) (m : Int) (h0 : 0 ≤ m) (h1 : m ≤ 4294967296) (k : Nat) (hk : n < k) : laws_heldIntS.f k (ups m n) m = some (m + (n : Int)) := by
  have h := heldIntS_l0 n hn m h0 h1 n k 0 (by omega) hk (by omega)
  unfold laws_heldIntS.f
  simpa using h

theorem markIntS_tot (l : List Int) (hl : l.length ≤ 1048576) (m : Int) (h0 : 0 ≤ m) (h1 : m ≤ 4294967296) : Tot (fun k => laws_markIntS.f k l m) (fun y => y = (m + (l.length : Int), ups m l.length)) := Tot.at_ (l.length + 1) rfl (fun k hk => markIntS_eq l hl m h0 h1 k (by omega))
theorem heldIntS_tot (n : Nat) (hn : n ≤ 1048576) (m : Int) (h0 : 0 ≤ m) (h1 : m ≤ 4294967296) : Tot (fun k => laws_heldIntS.f k (ups m n) m) (fun y => y = m + (n : Int)) := Tot.at_ (n + 1) rfl (fun k hk => heldIntS_eq n hn m h0 h1 k (by omega))

theorem FnExactWalkOnion : laws_FnExactWalkOnion.Pure := by
  intro l s _ _ _ _
  have hw := walkV_len l s
  refine Tot.ex ?_
  simp only [laws_FnExactWalkOnion.f]
  by_cases c0 : (l.length : Int) > 1048576
  · exact Tot.pos c0 (Tot.some_ rfl)
  refine Tot.neg c0 ?_
  by_cases c1 : (s.size : Int) > 1048576
  · exact Tot.pos c1 (Tot.some_ rfl)
  refine Tot.neg c1 ?_
  have hi : Tot (fun k => impl_WalkOnion.f k l s) (fun y => y = walkV l s) := Tot.at_ 71 rfl (fun k hk => implWalk_eq l s k (by omega))
  refine Tot.bind (toIntS_tot l (by omega)) (fun y e => ?_)
  rw [e]
  refine Tot.bind (Q := fun y => y = walkV l s) (Tot.at_ 71 rfl (fun k hk => specWalk_eq l s k (by omega))) (fun y1 e1 => ?_)
  refine Tot.bind (toIntS_tot l (by omega)) (fun y e => ?_)
  rw [e]
  refine Tot.bind hi (fun y2 e2 => ?_)
  rw [e1, e2]
  refine Tot.bind (eqIntS_tot _ (by omega)) (fun y e => ?_)
  refine Tot.pos e (Tot.pos (by first | rfl | trivial) ?_)
  rw [bne_self_eq_false]
  refine Tot.up ?_
  simp only [laws_FnExactWalkOnion.j0]
  refine Tot.neg (by simp) ?_
  refine Tot.bind (toIntS_tot l (by omega)) (fun y e => ?_)
  rw [e]
  refine Tot.bind (eqIntS_tot l (by omega)) (fun y e => ?_)
  refine Tot.pos e ?_
  refine Tot.bind (markIntS_tot l (by omega) 1 (by omega) (by omega)) (fun y e => ?_)
  rw [e]
  refine Tot.neg (by simp only; omega) ?_
  refine Tot.bind (eqIntS_tot _ (by omega)) (fun y e => ?_)
  refine Tot.pos e (Tot.pos (by first | rfl | trivial) ?_)
  rw [bne_self_eq_false]
  refine Tot.up ?_
  simp only [laws_FnExactWalkOnion.j1]
  refine Tot.neg (by simp) ?_
  refine Tot.bind (markIntS_tot (walkV l s).1 (by omega) 1 (by omega) (by omega)) (fun y e => ?_)
  rw [e]
  simp only
  refine Tot.bind (heldIntS_tot (walkV l s).1.length (by omega) 1 (by omega) (by omega)) (fun y e => ?_)
  rw [e]
  refine Tot.neg (by omega) (Tot.pos (by first | rfl | trivial) ?_)
  refine Tot.bind (toIntS_tot l (by omega)) (fun y e => ?_)
  rw [e]
  refine Tot.bind hi (fun y3 e3 => ?_)
  rw [e3]
  refine Tot.bind (eqIntS_tot _ (by omega)) (fun y e => ?_)
  refine Tot.pos e (Tot.pos (by first | rfl | trivial) ?_)
  rw [bne_self_eq_false]
  refine Tot.up ?_
  simp only [laws_FnExactWalkOnion.j2]
  refine Tot.neg (by simp) ?_
  refine Tot.bind (heldIntS_tot (walkV l s).1.length (by omega) 1 (by omega) (by omega)) (fun y e => ?_)
  rw [e]
  exact Tot.neg (by omega) (Tot.pos (by first | rfl | trivial) (Tot.some_ rfl))

end Go.Proofs.YtobfeehelmbljaaDoor.Pure
