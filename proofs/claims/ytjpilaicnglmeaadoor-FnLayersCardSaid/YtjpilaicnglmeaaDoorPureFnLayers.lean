/- Proved: each hand of an onion learns the next one alone, the last one the body, and all see one length, for all bytes that letters are drawn from. Conditions: those of the given statement alone. -/
import Derived.Test.YtjpilaicnglmeaaDoorPFnLayersx10
import Derived.Test.YtjpilaicnglmeaaDoorBase
set_option linter.unusedVariables false
set_option linter.unusedSimpArgs false
namespace Go.Proofs.YtjpilaicnglmeaaDoor.Pure
open Go.RowKit Go.Proofs.YtjpilaicnglmeaaDoor.PFnLayers Go.Proofs.YtjpilaicnglmeaaDoor.Base Go.Proofs.YtjpilaicnglmeaaDoorW.PrintWords Go.Proofs.YtjpilaicnglmeaaDoorW.PrintLast Go.Proofs.YtjpilaicnglmeaaDoorW.PrintMore Go.Proofs.YtjpilaicnglmeaaDoor

theorem zeros_eq (n : Nat) : strOfNums (List.replicate n 0) = Hand.zeroB n := by
  unfold strOfNums Hand.zeroB
  rw [List.map_replicate]
  rfl
theorem zeroB_size (n : Nat) : (Hand.zeroB n).size = n := by
  unfold Hand.zeroB
  show ((List.replicate n (0 : UInt8)).toArray).size = n
  simp
theorem size_app (a b : ByteArray) : (a ++ b).size = a.size + b.size := by
  rw [ByteArray.size_append]

theorem repeat_eq (n : Nat) (h : n ≤ 4096) : strings_Repeat.f (⟨#[0]⟩ : ByteArray) (n : Int) = some (Hand.zeroB n) := by
  unfold strings_Repeat.f
  rw [if_pos ⟨rfl, by omega, by omega⟩, Int.toNat_natCast]

theorem bxor (x y : Nat) (hx : x < 65536) (hy : y < 65536) : Go.bits .xor .i64 (x : Int) (y : Int) = ((x ^^^ y : Nat) : Int) ∧ x ^^^ y < 65536 := by
  have hb : x ^^^ y < 2 ^ 16 := Nat.xor_lt_two_pow (by omega) (by omega)
  have h : Go.bits .xor .i64 (x : Int) (y : Int) = IntKind.i64.wrap ((((BitVec.ofInt 64 (x : Int)) ^^^ (BitVec.ofInt 64 (y : Int))).toNat : Nat) : Int) := rfl
  rw [h, BitVec.toNat_xor, BitVec.ofInt_natCast, BitVec.ofInt_natCast, BitVec.toNat_ofNat, BitVec.toNat_ofNat, Nat.mod_eq_of_lt (by omega : x < 2 ^ 64), Nat.mod_eq_of_lt (by omega : y < 2 ^ 64), IntWalk.i64_in _ (by omega)]
  exact ⟨rfl, by omega⟩
theorem bor (x y : Nat) (hx : x < 256) (hy : y < 256) : Go.bits .or .i64 ((x * 256 : Nat) : Int) (y : Int) = ((256 * x + y : Nat) : Int) := by
  have e : 2 ^ 8 * x + y = 2 ^ 8 * x ||| y := Nat.two_pow_add_eq_or_of_lt (by omega) x
  have h : Go.bits .or .i64 ((x * 256 : Nat) : Int) (y : Int) = IntKind.i64.wrap ((((BitVec.ofInt 64 ((x * 256 : Nat) : Int)) ||| (BitVec.ofInt 64 (y : Int))).toNat : Nat) : Int) := rfl
  rw [h, BitVec.toNat_or, BitVec.ofInt_natCast, BitVec.ofInt_natCast, BitVec.toNat_ofNat, BitVec.toNat_ofNat, Nat.mod_eq_of_lt (by omega : x * 256 < 2 ^ 64), Nat.mod_eq_of_lt (by omega : y < 2 ^ 64), show x * 256 ||| y = 256 * x + y by rw [Nat.mul_comm x 256]; exact e.symm, IntWalk.i64_in _ (by omega)]
theorem bt_nat (s : ByteArray) (i : Int) : ∃ p : Nat, bt s i = (p : Int) ∧ p < 256 := by
  have h := bt_range s i
  exact ⟨(bt s i).toNat, by omega, by omega⟩
/-- What a round makes of a half. -/
def rndV (key half : Nat) : Nat := ((half + key % 256) % 256 * ((half + key % 256) % 256) + (half + key % 256) % 256 * (key / 256) + 29) % 65521 % 256
theorem rndV_lt (a b : Nat) : rndV a b < 256 := Nat.mod_lt _ (by omega)
theorem round_eq (a b : Nat) (ha : a < 65536) (hb : b < 256) : impl_round.f (a : Int) (b : Int) = some ((rndV a b : Nat) : Int) := by
  unfold impl_round.f rndV
  have e1 : Int.tmod (a : Int) 256 = ((a % 256 : Nat) : Int) := tmod_nat a 256
  have e2 : Int.tdiv (a : Int) 256 = ((a / 256 : Nat) : Int) := tdiv_nat a 256
  have e3 : (b : Int) + ((a % 256 : Nat) : Int) = ((b + a % 256 : Nat) : Int) := rfl
  have h1 : a / 256 < 256 := by omega
  obtain ⟨q, hq⟩ : ∃ q, a / 256 = q := ⟨_, rfl⟩
  rw [e1, e2, e3, wnat _ (by omega)]
  have e4 : Int.tmod ((b + a % 256 : Nat) : Int) 256 = (((b + a % 256) % 256 : Nat) : Int) := tmod_nat _ 256
  rw [e4]
  obtain ⟨h, hh⟩ : ∃ h, (b + a % 256) % 256 = h := ⟨_, rfl⟩
  have hl : h < 256 := by omega
  rw [hh, hq]
  have m1 : h * h ≤ 256 * 256 := Nat.mul_le_mul (by omega) (by omega)
  have m2 : h * q ≤ 256 * 256 := Nat.mul_le_mul (by omega) (by omega)
  rw [← Int.natCast_mul, wnat q (by omega), ← Int.natCast_mul, wnat (h * h) (by omega), wnat (h * q) (by omega), ← Int.natCast_add, wnat _ (by omega), show (29 : Int) = ((29 : Nat) : Int) from rfl, ← Int.natCast_add, wnat _ (by omega)]
  have e5 : Int.tmod ((h * h + h * q + 29 : Nat) : Int) 65521 = (((h * h + h * q + 29) % 65521 : Nat) : Int) := tmod_nat _ 65521
  have e6 : Int.tmod (((h * h + h * q + 29) % 65521 : Nat) : Int) 256 = (((h * h + h * q + 29) % 65521 % 256 : Nat) : Int) := tmod_nat _ 256
  rw [e5, e6]
theorem round_spec (a b : Int) : spec_l4Round.f a b = impl_round.f a b := rfl
/-- Keys that are good. -/
def Keys (l : List Int) : Prop := l.length ≤ 8 ∧ ∀ x ∈ l, 0 ≤ x ∧ x ≤ 65535
theorem mix_l0 (l : List Int) (hl : Keys l) : ∀ (d i : Nat) (u v : Nat), l.length - i = d → i ≤ l.length → u < 256 → v < 256 →
    ∃ t : Nat, t < 65536 ∧ ∀ k, d < k → impl_mix.l0 k (u : Int) (v : Int) l (l.length : Int) (i : Int) = some (t : Int) ∧ spec_l4Mix.l0 k (u : Int) (v : Int) l (l.length : Int) (i : Int) = some (t : Int) := by
  have h8 := hl.1
  intro d
  induction d with
  | zero =>
    intro i u v hd hi hu hv
    refine ⟨u * 256 + v, by omega, fun k hk => ?_⟩
    obtain ⟨k, rfl⟩ := rounds hk
    simp only [impl_mix.l0, spec_l4Mix.l0]
    rw [if_neg (by omega), if_neg (by omega), show (u : Int) * 256 = ((u * 256 : Nat) : Int) from rfl, wnat _ (by omega), ← Int.natCast_add, wnat _ (by omega), show (256 : Int) * (u : Int) = ((256 * u : Nat) : Int) from rfl, wnat _ (by omega), ← Int.natCast_add, wnat _ (by omega), Nat.mul_comm]
    exact ⟨rfl, rfl⟩
  | succ d ih =>
    intro i u v hd hi hu hv
    have hlt : i < l.length := by omega
    have hx := hl.2 _ (List.getElem_mem hlt)
    obtain ⟨q, hq⟩ := Int.eq_ofNat_of_zero_le hx.1
    have hr := rndV_lt q v
    have hb := bxor u (rndV q v) (by omega) (by omega)
    have hb2 : u ^^^ rndV q v < 2 ^ 8 := Nat.xor_lt_two_pow (by omega) (by omega)
    obtain ⟨t, ht, h⟩ := ih (i + 1) v (u ^^^ rndV q v) (by omega) (by omega) hv (by omega)
    refine ⟨t, ht, fun k hk => ?_⟩
    obtain ⟨k, rfl⟩ := rounds hk
    simp only [impl_mix.l0, spec_l4Mix.l0]
    rw [if_pos (by omega), if_pos (by omega), if_pos (by omega), if_pos (by omega), if_pos (by omega), if_pos (by omega), rd_in l i hlt, hq, round_spec]
    rw [round_eq q v (by omega) hv]
    simp only [Option.bind_some]
    rw [hb.1, w64 (n := (i : Int) + 1) (by omega) (by omega)]
    exact h k (by omega)
theorem mix_tot (l : List Int) (hl : Keys l) (x : Nat) (hx : x < 65536) : ∃ t : Nat, t < 65536 ∧ ∀ k, 8 < k → impl_mix.f k l (x : Int) = some (t : Int) ∧ spec_l4Mix.f k l (x : Int) = some (t : Int) := by
  have h8 := hl.1
  obtain ⟨t, ht, h⟩ := mix_l0 l hl l.length 0 (x / 256) (x % 256) rfl (by omega) (by omega) (by omega)
  refine ⟨t, ht, fun k hk => ?_⟩
  unfold impl_mix.f spec_l4Mix.f
  have e1 : Int.tmod (x : Int) 256 = ((x % 256 : Nat) : Int) := tmod_nat x 256
  have e2 : Int.tdiv (x : Int) 256 = ((x / 256 : Nat) : Int) := tdiv_nat x 256
  rw [e1, e2, wnat _ (by omega)]
  exact h k (by omega)
theorem mixText_l0 (l : List Int) (hl : Keys l) (s : ByteArray) (hs : s.size ≤ 40) (h2 : s.size % 2 = 0) : ∀ (d i : Nat) (x : Nat) (out : List Int), s.size - 2 * i = 2 * d → 2 * i ≤ s.size → x < 65536 → out.length = 2 * i →
    ∃ y : List Int, y.length = s.size ∧ ∀ k, d + 8 < k → impl_mixText.l0 k l (x : Int) s out ((2 * i : Nat) : Int) = some (strOfNums y) ∧ spec_MixText.l0 k l (x : Int) s out ((2 * i : Nat) : Int) = some (strOfNums y, true) := by
  intro d
  induction d with
  | zero =>
    intro i x out hd hi hx ho
    refine ⟨out, by omega, fun k hk => ?_⟩
    obtain ⟨k, rfl⟩ := rounds hk
    simp only [impl_mixText.l0, spec_MixText.l0]
    rw [if_neg (by omega), if_neg (by omega)]
    exact ⟨rfl, rfl⟩
  | succ d ih =>
    intro i x out hd hi hx ho
    obtain ⟨p, hp, hp2⟩ := bt_nat s ((2 * i : Nat) : Int)
    obtain ⟨q, hq, hq2⟩ := bt_nat s (((2 * i : Nat) : Int) + 1)
    have hb := bxor (256 * p + q) x (by omega) hx
    obtain ⟨t, ht, h⟩ := mix_tot l hl _ hb.2
    have e1 : Int.tmod (t : Int) 256 = ((t % 256 : Nat) : Int) := tmod_nat t 256
    have e2 : Int.tdiv (t : Int) 256 = ((t / 256 : Nat) : Int) := tdiv_nat t 256
    obtain ⟨y, hy, hh⟩ := ih (i + 1) t (out ++ [((t / 256 : Nat) : Int), ((t % 256 : Nat) : Int)]) (by omega) (by omega) ht (by simp; omega)
    refine ⟨y, hy, fun k hk => ?_⟩
    obtain ⟨k, rfl⟩ := rounds hk
    simp only [impl_mixText.l0, spec_MixText.l0]
    rw [w64 (n := ((2 * i : Nat) : Int) + 1) (by omega) (by omega), w64 (n := ((2 * i : Nat) : Int) + 2) (by omega) (by omega), hp, hq, wnat _ (by omega), wnat _ (by omega)]
    rw [if_pos (by omega), if_pos (by omega), if_pos (by omega), if_pos (by omega), if_pos (by omega), if_pos (by omega), if_pos (by omega), if_pos (by omega)]
    rw [show (p : Int) * 256 = ((p * 256 : Nat) : Int) from rfl, wnat _ (by omega), bor p q hp2 hq2, show (256 : Int) * (p : Int) = ((256 * p : Nat) : Int) from rfl, wnat _ (by omega), ← Int.natCast_add, wnat _ (by omega), hb.1, (h k (by omega)).1, (h k (by omega)).2]
    simp only [Option.bind_some]
    rw [if_pos (by simp; omega), if_pos (by simp; omega), e1, e2, wnat _ (by omega)]
    have f1 : ((t : Int) / 256) % 256 = ((t / 256 : Nat) : Int) := by omega
    have f2 : (t : Int) % 256 = ((t % 256 : Nat) : Int) := by omega
    have f3 : ((t / 256 : Nat) : Int) % 256 = ((t / 256 : Nat) : Int) := by omega
    have f4 : ((t % 256 : Nat) : Int) % 256 = ((t % 256 : Nat) : Int) := by omega
    rw [f1, f2, f3, f4, show ((2 * i : Nat) : Int) + 2 = ((2 * (i + 1) : Nat) : Int) by omega]
    exact hh k (by omega)
theorem l1In_eq (a b c : Int) : spec_l1In.f a b c = some (decide (b ≤ a ∧ a ≤ c)) := by
  unfold spec_l1In.f
  by_cases h : a ≥ b
  · rw [if_pos h]
    congr 1
    simp only [decide_eq_decide]
    omega
  · rw [if_neg h]
    congr 1
    symm
    simp only [decide_eq_false_iff_not]
    omega
theorem within_eq (a b c : Int) : impl_within.f a b c = some (decide (b ≤ a ∧ a ≤ c)) := by
  unfold impl_within.f
  by_cases h : a ≥ b
  · rw [if_pos h]
    congr 1
    simp only [decide_eq_decide]
    omega
  · rw [if_neg h]
    congr 1
    symm
    simp only [decide_eq_false_iff_not]
    omega
theorem l1All_l0 (l : List Int) (hl : l.length ≤ 1048576) (a b : Int) : ∀ (d i : Nat), l.length - i = d → i ≤ l.length → (∀ j, (h : j < l.length) → j < i → a ≤ l[j] ∧ l[j] ≤ b) → ∀ k, d < k →
    spec_l1All.l0 k a b l (l.length : Int) (i : Int) = some (decide (∀ x ∈ l, a ≤ x ∧ x ≤ b)) := by
  intro d
  induction d with
  | zero =>
    intro i hd hi ht k hk
    obtain ⟨k, rfl⟩ := rounds hk
    simp only [spec_l1All.l0]
    rw [if_neg (by omega)]
    congr 1
    symm
    rw [decide_eq_true_iff]
    intro x hx
    obtain ⟨j, hj, rfl⟩ := List.mem_iff_getElem.1 hx
    exact ht j hj (by omega)
  | succ d ih =>
    intro i hd hi ht k hk
    obtain ⟨k, rfl⟩ := rounds hk
    have hlt : i < l.length := by omega
    simp only [spec_l1All.l0]
    rw [if_pos (by omega), if_pos (by omega), if_pos (by omega), l1In_eq, rd_in l i hlt]
    simp only [Option.bind_some]
    by_cases h : a ≤ l[i] ∧ l[i] ≤ b
    · rw [decide_eq_true h, if_pos rfl, w64 (n := (i : Int) + 1) (by omega) (by omega)]
      exact ih (i + 1) (by omega) (by omega) (fun j hj hji => by
        by_cases e : j < i
        · exact ht j hj e
        · obtain rfl : j = i := by omega
          exact h) k (by omega)
    · rw [decide_eq_false h, if_neg (by simp)]
      congr 1
      symm
      rw [decide_eq_false_iff_not]
      exact fun hc => h (hc _ (List.getElem_mem hlt))
theorem l1All_eq (l : List Int) (hl : l.length ≤ 1048576) (a b : Int) (k : Nat) (hk : l.length < k) : spec_l1All.f k l a b = some (decide (∀ x ∈ l, a ≤ x ∧ x ≤ b)) := by
  unfold spec_l1All.f
  exact l1All_l0 l hl a b l.length 0 rfl (by omega) (fun j _ h => by omega) k hk
theorem keys3 (a : Int) (h : 0 ≤ a ∧ a ≤ 65535) : Keys [a, a, a] := ⟨by simp, fun x hx => by
  simp only [List.mem_cons, List.mem_nil_iff, or_false, or_self] at hx
  rw [hx]
  exact h⟩
theorem strOf_size (y : List Int) : (strOfNums y).size = y.length := by
  unfold strOfNums
  show ((y.map fun n => UInt8.ofNat n.toNat).toArray).size = _
  simp
/-- The bytes of a key: what both tell. -/
theorem pad_tot (a : Int) (ha : 0 ≤ a ∧ a ≤ 65535) (n : Nat) (hn : n ≤ 40) (h2 : n % 2 = 0) : ∃ y : ByteArray, y.size = n ∧ ∀ k, 40 < k → impl_pad.f k a (n : Int) = some y ∧ spec_l7Pad.f k a (n : Int) = some y := by
  obtain ⟨q, rfl⟩ := Int.eq_ofNat_of_zero_le ha.1
  have hz := zeroB_size n
  obtain ⟨y, hy, h⟩ := mixText_l0 [(q : Int), (q : Int), (q : Int)] (keys3 _ ha) (Hand.zeroB n) (by omega) (by omega) (n / 2) 0 q [] (by omega) (by omega) (by omega) rfl
  refine ⟨strOfNums y, by rw [strOf_size]; omega, fun k hk => ?_⟩
  have hh := h k (by omega)
  unfold impl_pad.f spec_l7Pad.f impl_mixText.f spec_MixText.f spec_l4Text.f spec_l4Keys.f spec_l4Key.f
  rw [repeat_eq n (by omega), if_pos (by omega), Int.toNat_natCast, if_pos (by omega), zeros_eq]
  simp only [Option.bind_some]
  rw [if_pos (by simp), l1All_eq _ (by simp) _ _ k (by simp; omega), l1In_eq, decide_eq_true (fun x hx => (keys3 _ ha).2 x hx), decide_eq_true ha]
  simp only [Option.bind_some, if_true]
  rw [if_pos (by omega), hz, show (((n : Nat) : Int) % 2 == 0) = true by rw [beq_iff_eq]; omega]
  simp only [Option.bind_some, if_true]
  have e0 : ((2 * 0 : Nat) : Int) = 0 := rfl
  rw [e0] at hh
  rw [hh.1, hh.2]
  exact ⟨rfl, rfl⟩

theorem check_l0 (s : ByteArray) (hs : s.size ≤ 40) : ∀ (d i : Nat) (x : Nat), s.size - i = d → i ≤ s.size → x ≤ 10200 * i →
    ∃ c : Nat, c < 251 ∧ ∀ k, d < k → impl_check.l0 k s (x : Int) (s.size : Int) (i : Int) = some (c : Int) ∧ spec_l7Check.l0 k s (x : Int) (i : Int) = some (c : Int) := by
  intro d
  induction d with
  | zero =>
    intro i x hd hi hx
    refine ⟨x % 251, Nat.mod_lt _ (by omega), fun k hk => ?_⟩
    obtain ⟨k, rfl⟩ := rounds hk
    simp only [impl_check.l0, spec_l7Check.l0]
    rw [if_neg (by omega), if_neg (by omega)]
    have e : Int.tmod (x : Int) 251 = ((x % 251 : Nat) : Int) := tmod_nat x 251
    rw [e]
    exact ⟨rfl, rfl⟩
  | succ d ih =>
    intro i x hd hi hx
    obtain ⟨p, hp, hp2⟩ := bt_nat s (i : Int)
    have hm : p * (i + 1) ≤ 255 * 40 := Nat.mul_le_mul (by omega) (by omega)
    obtain ⟨c, hc, h⟩ := ih (i + 1) (x + p * (i + 1)) (by omega) (by omega) (by omega)
    refine ⟨c, hc, fun k hk => ?_⟩
    obtain ⟨k, rfl⟩ := rounds hk
    simp only [impl_check.l0, spec_l7Check.l0]
    rw [if_pos (by omega), if_pos (by omega), if_pos (by omega), if_pos (by omega), if_pos (by omega), hp, wnat p (by omega), w64 (n := (i : Int) + 1) (by omega) (by omega), show (i : Int) + 1 = ((i + 1 : Nat) : Int) from rfl, ← Int.natCast_mul, wnat _ (by omega), ← Int.natCast_add, wnat _ (by omega)]
    exact h k (by omega)
theorem check_tot (s : ByteArray) (hs : s.size ≤ 40) : ∃ c : Nat, c < 251 ∧ ∀ k, 40 < k → impl_check.f k s = some (c : Int) ∧ spec_l7Check.f k s = some (c : Int) := by
  obtain ⟨c, hc, h⟩ := check_l0 s hs s.size 0 0 rfl (by omega) (by omega)
  exact ⟨c, hc, fun k hk => h k (by omega)⟩
/-- The check of bytes. -/
noncomputable def chkV (s : ByteArray) : Nat := if h : s.size ≤ 40 then (check_tot s h).choose else 0
theorem chkV_spec (s : ByteArray) (hs : s.size ≤ 40) : chkV s < 251 ∧ ∀ k, 40 < k → impl_check.f k s = some ((chkV s : Nat) : Int) ∧ spec_l7Check.f k s = some ((chkV s : Nat) : Int) := by
  unfold chkV
  rw [dif_pos hs]
  exact (check_tot s hs).choose_spec
/-- The bytes of a key for an onion. -/
noncomputable def padK (a : Int) : ByteArray := if h : 0 ≤ a ∧ a ≤ 65535 then (pad_tot a h 24 (by omega) (by omega)).choose else ⟨#[]⟩
theorem padK_spec (a : Int) (h : 0 ≤ a ∧ a ≤ 65535) : (padK a).size = 24 ∧ ∀ k, 40 < k → impl_pad.f k a 24 = some (padK a) ∧ spec_l7Pad.f k a 24 = some (padK a) := by
  unfold padK
  rw [dif_pos h]
  exact (pad_tot a h 24 (by omega) (by omega)).choose_spec
theorem xorB_size (a b : ByteArray) : (Hand.xorB a b).size = a.size := by
  unfold Hand.xorB
  show ((Hand.xorL a.data.toList b.data.toList).toArray).size = _
  rw [List.size_toArray, Hand.xorL_length, data_length]
theorem size_ext (a : ByteArray) (i j : Nat) (h : j ≤ a.size) : (a.extract i j).size = j - i := by
  rw [ByteArray.size_extract, Nat.min_eq_left h]

/-- A body with its padding. -/
def padV (a : ByteArray) : ByteArray := (a ++ (⟨#[128]⟩ : ByteArray)) ++ Hand.zeroB (15 - a.size)
theorem padV_size (a : ByteArray) (h : a.size < 16) : (padV a).size = 16 := by
  unfold padV
  rw [size_app, size_app, zeroB_size]
  show a.size + 1 + _ = _
  omega
theorem specPadded_eq (a : ByteArray) (h : a.size < 16) : spec_l7PadBody.f a = some (padV a) := by
  have e : wrap64 (15 - (a.size : Int)) = ((15 - a.size : Nat) : Int) := by
    rw [w64 (by omega) (by omega)]
    omega
  unfold spec_l7PadBody.f
  rw [if_pos (by omega), e, if_pos (by omega), Int.toNat_natCast, if_pos (by omega)]
  simp only [Option.bind_some]
  rw [zeros_eq, if_pos]
  · rfl
  · rw [zeroB_size]
    omega
theorem implPadded_eq (a : ByteArray) (h : a.size < 16) : impl_padded.f a = some (padV a) := by
  have e : wrap64 (15 - (a.size : Int)) = ((15 - a.size : Nat) : Int) := by
    rw [w64 (by omega) (by omega)]
    omega
  unfold impl_padded.f
  rw [if_pos (by omega), e, repeat_eq _ (by omega)]
  simp only [Option.bind_some]
  rw [if_pos]
  · rfl
  · rw [zeroB_size]
    omega

/-- A layer is laid. -/
noncomputable def layV (s : ByteArray) (key hop : Int) : ByteArray := Hand.xorB (strOfNums [hop % 256, ((chkV (s.extract 0 16) : Nat) : Int) % 256] ++ s.extract 0 22) (padK key)
theorem layV_size (s : ByteArray) (key hop : Int) (h : s.size = 24) : (layV s key hop).size = 24 := by
  unfold layV
  rw [xorB_size, size_app, strOf_size, size_ext _ _ _ (by omega)]
  rfl
noncomputable def onV (l : List (Int × Int)) (s : ByteArray) : ByteArray := l.foldr (fun p s => layV s p.1 p.2) s
theorem onV_size (l : List (Int × Int)) (s : ByteArray) (h : s.size = 24) : (onV l s).size = 24 := by
  induction l with
  | nil => exact h
  | cons p l ih => exact layV_size _ _ _ ih
def startV (b : ByteArray) : ByteArray := padV b ++ Hand.zeroB 8
theorem startV_size (b : ByteArray) (h : b.size < 16) : (startV b).size = 24 := by
  unfold startV
  rw [size_app, padV_size b h, zeroB_size]
theorem onion_l0 (ks hs : List Int) (hl : hs.length = ks.length) (hn : ks.length ≤ 4) (hk : ∀ x ∈ ks, 0 ≤ x ∧ x ≤ 65535) (s0 : ByteArray) (h0 : s0.size = 24) : ∀ (i k : Nat), i ≤ ks.length → i + 41 < k →
    impl_onion.l0 k ks hs (onV ((ks.zip hs).drop i) s0) ((i : Int) - 1) = some (onV (ks.zip hs) s0) ∧ spec_BuildOnion.l0 k ks hs (onV ((ks.zip hs).drop i) s0) ((i : Int) - 1) = some (onV (ks.zip hs) s0, true) := by
  intro i
  induction i with
  | zero =>
    intro k hi hkk
    obtain ⟨k, rfl⟩ := rounds hkk
    simp only [impl_onion.l0, spec_BuildOnion.l0]
    rw [if_neg (by omega), if_neg (by omega), List.drop_zero]
    exact ⟨rfl, rfl⟩
  | succ i ih =>
    intro k hi hkk
    obtain ⟨k, rfl⟩ := rounds hkk
    have hz : (ks.zip hs).length = ks.length := by rw [List.length_zip]; omega
    have hd : (ks.zip hs).drop i = (ks[i], hs[i]) :: (ks.zip hs).drop (i + 1) := by
      rw [List.drop_eq_getElem_cons (by omega), List.getElem_zip]
    obtain ⟨s, hs'⟩ : ∃ s, onV ((ks.zip hs).drop (i + 1)) s0 = s := ⟨_, rfl⟩
    have h24 : s.size = 24 := by rw [← hs']; exact onV_size _ _ h0
    have ho : onV ((ks.zip hs).drop i) s0 = layV s ks[i] hs[i] := by rw [hd, ← hs']; rfl
    have hc := chkV_spec (s.extract 0 16) (by rw [size_ext _ _ _ (by omega)]; omega)
    have hp := padK_spec ks[i] (hk _ (List.getElem_mem (by omega)))
    have e22 : (s.extract 0 22).extract 0 16 = s.extract 0 16 := by
      rw [ByteArray.extract_extract]
      simp
    have e1 : (((i + 1 : Nat) : Int) - 1) = (i : Int) := by omega
    have hsz : (strOfNums [hs[i] % 256, ((chkV (s.extract 0 16) : Nat) : Int) % 256] ++ s.extract 0 22).size = 24 := by
      rw [size_app, strOf_size, size_ext _ _ _ (by omega)]
      rfl
    rw [hs', e1]
    simp only [impl_onion.l0, spec_BuildOnion.l0, spec_l7Xor.f, impl_xor.f]
    have hext := size_ext s 0 22 (by omega)
    rw [if_pos (by omega), if_pos (by omega), if_pos (by omega), if_pos (by omega), if_pos (by omega), (hc.2 k (by omega)).1]
    rw [if_pos (by omega), if_pos (by omega), if_pos (by omega), if_pos (by omega), if_pos (by omega), if_pos (by omega), if_pos (by omega), e22, (hc.2 k (by omega)).2]
    simp only [Option.bind_some]
    have hA : (strOfNums [hs[i] % 256, ((chkV (s.extract 0 16) : Nat) : Int) % 256]).size + (s.extract 0 22).size ≤ 9223372036854775807 := by
      rw [strOf_size, hext]
      simp
    have hB : (i : Int) < (ks.length : Int) := by omega
    have hC : (0 : Nat) ≤ 22 := by omega
    have hD : (22 : Int) ≤ (s.size : Int) := by omega
    rw [rd_in hs i (by omega), rd_in ks i (by omega)]
    simp only [if_pos hA, if_pos hB, if_pos hC, if_pos hD]
    rw [(hp.2 k (by omega)).1, (hp.2 k (by omega)).2]
    simp only [Option.bind_some]
    rw [if_pos ⟨by rw [hsz, hp.1]; omega, by rw [hsz]; omega⟩]
    simp only [Option.bind_some]
    rw [w64 (n := (i : Int) - 1) (by omega) (by omega)]
    have h := ih k (by omega) (by omega)
    rw [ho] at h
    exact h
theorem start_l0 (b : ByteArray) (h : b.size < 16) : (padV b).size + (Hand.zeroB 8).size ≤ 9223372036854775807 := by
  rw [padV_size b h, zeroB_size]
  omega
theorem implOnion_eq (ks hs : List Int) (hl : hs.length = ks.length) (hn : ks.length ≤ 4) (hk : ∀ x ∈ ks, 0 ≤ x ∧ x ≤ 65535) (b : ByteArray) (hb : b.size < 16) (k : Nat) (hkk : 60 < k) : impl_onion.f k ks hs b = some (onV (ks.zip hs) (startV b)) := by
  unfold impl_onion.f
  rw [implPadded_eq b hb, show ((8 : Int)) = ((8 : Nat) : Int) from rfl, repeat_eq 8 (by omega)]
  simp only [Option.bind_some]
  have hz : (ks.zip hs).length = ks.length := by rw [List.length_zip]; omega
  rw [if_pos (start_l0 b hb), w64 (by omega) (by omega)]
  have h := (onion_l0 ks hs hl hn hk (startV b) (startV_size b hb) ks.length k (by omega) (by omega)).1
  rw [List.drop_of_length_le (by omega)] at h
  exact h
/-- What building tells. -/
noncomputable def buildV (ks hs : List Int) (b : ByteArray) : ByteArray × Bool := if (1 ≤ ks.length ∧ ks.length ≤ 4) ∧ (∀ x ∈ ks, 0 ≤ x ∧ x ≤ 65535) ∧ hs.length = ks.length ∧ (∀ x ∈ hs, 1 ≤ x ∧ x ≤ 250) ∧ b.size < 16 then (onV (ks.zip hs) (startV b), true) else (⟨#[]⟩, false)
theorem allWithin_l0 (l : List Int) (hl : l.length ≤ 1048576) (a b : Int) : ∀ (d i : Nat), l.length - i = d → i ≤ l.length → (∀ j, (h : j < l.length) → j < i → a ≤ l[j] ∧ l[j] ≤ b) → ∀ k, d < k →
    impl_allWithin.l0 k a b l (l.length : Int) (i : Int) = some (decide (∀ x ∈ l, a ≤ x ∧ x ≤ b)) := by
  intro d
  induction d with
  | zero =>
    intro i hd hi ht k hk
    obtain ⟨k, rfl⟩ := rounds hk
    simp only [impl_allWithin.l0]
    rw [if_neg (by omega)]
    congr 1
    symm
    rw [decide_eq_true_iff]
    intro x hx
    obtain ⟨j, hj, rfl⟩ := List.mem_iff_getElem.1 hx
    exact ht j hj (by omega)
  | succ d ih =>
    intro i hd hi ht k hk
    obtain ⟨k, rfl⟩ := rounds hk
    have hlt : i < l.length := by omega
    simp only [impl_allWithin.l0]
    rw [if_pos (by omega), if_pos (by omega), if_pos (by omega), within_eq, rd_in l i hlt]
    simp only [Option.bind_some]
    by_cases h : a ≤ l[i] ∧ l[i] ≤ b
    · rw [decide_eq_true h, if_pos rfl, w64 (n := (i : Int) + 1) (by omega) (by omega)]
      exact ih (i + 1) (by omega) (by omega) (fun j hj hji => by
        by_cases e : j < i
        · exact ht j hj e
        · obtain rfl : j = i := by omega
          exact h) k (by omega)
    · rw [decide_eq_false h, if_neg (by simp)]
      congr 1
      symm
      rw [decide_eq_false_iff_not]
      exact fun hc => h (hc _ (List.getElem_mem hlt))
theorem allWithin_eq (l : List Int) (hl : l.length ≤ 1048576) (a b : Int) (k : Nat) (hk : l.length < k) : impl_allWithin.f k l a b = some (decide (∀ x ∈ l, a ≤ x ∧ x ≤ b)) := by
  unfold impl_allWithin.f
  exact allWithin_l0 l hl a b l.length 0 rfl (by omega) (fun j _ h => by omega) k hk
theorem implBuild_eq (ks hs : List Int) (h1 : ks.length ≤ 1048576) (h2 : hs.length ≤ 1048576) (b : ByteArray) (k : Nat) (hk : 1048577 < k) : impl_BuildOnion.f k ks hs b = some (buildV ks hs b) := by
  unfold impl_BuildOnion.f impl_areKeys.f buildV
  rw [within_eq, allWithin_eq ks h1 _ _ k (by omega), allWithin_eq hs h2 _ _ k (by omega)]
  simp only [Option.bind_some]
  by_cases c1 : 1 ≤ ks.length ∧ ks.length ≤ 4
  · rw [decide_eq_true (show (1 : Int) ≤ (ks.length : Int) ∧ (ks.length : Int) ≤ 4 by omega), if_pos rfl]
    by_cases c3 : hs.length = ks.length
    · rw [if_pos (by omega), if_pos (by omega)]
      simp only [Option.bind_some]
      by_cases c2 : ∀ x ∈ ks, 0 ≤ x ∧ x ≤ 65535
      · rw [decide_eq_true c2, if_pos rfl]
        by_cases c4 : ∀ x ∈ hs, 1 ≤ x ∧ x ≤ 250
        · rw [decide_eq_true c4, if_pos rfl]
          by_cases c5 : b.size < 16
          · rw [if_neg (by omega), implOnion_eq ks hs c3 c1.2 c2 b c5 k (by omega), if_pos ⟨c1, c2, c3, c4, c5⟩]
            rfl
          · rw [if_pos (by omega), if_neg (fun h => c5 h.2.2.2.2)]
        · rw [decide_eq_false c4, if_neg (by simp), if_neg (fun h => c4 h.2.2.2.1)]
      · rw [decide_eq_false c2, if_neg (by simp), if_neg (fun h => c2 h.2.1)]
    · rw [if_neg (by omega), if_neg (fun h => c3 h.2.2.1)]
  · rw [decide_eq_false (show ¬ ((1 : Int) ≤ (ks.length : Int) ∧ (ks.length : Int) ≤ 4) by omega), if_neg (by simp), if_neg (fun h => c1 h.1)]
theorem specBuild_j0f (ks hs : List Int) (b : ByteArray) (k : Nat) (hk : 0 < k) : spec_BuildOnion.j0 k ks hs b true = some (⟨#[]⟩, false) := by
  obtain ⟨k, rfl⟩ := rounds hk
  simp only [spec_BuildOnion.j0]
  rfl
theorem specBuild_eq (ks hs : List Int) (h1 : ks.length ≤ 1048576) (h2 : hs.length ≤ 1048576) (b : ByteArray) (k : Nat) (hk : 1048577 < k) : spec_BuildOnion.f k ks hs b = some (buildV ks hs b) := by
  have hf := specBuild_j0f ks hs b k (by omega)
  unfold spec_BuildOnion.f spec_l7Body.f buildV
  rw [l1In_eq, l1All_eq ks h1 _ _ k (by omega), l1All_eq hs h2 _ _ k (by omega), hf]
  simp only [Option.bind_some]
  by_cases c1 : 1 ≤ ks.length ∧ ks.length ≤ 4
  · rw [decide_eq_true (show (1 : Int) ≤ (ks.length : Int) ∧ (ks.length : Int) ≤ 4 by omega), if_pos rfl]
    by_cases c2 : ∀ x ∈ ks, 0 ≤ x ∧ x ≤ 65535
    · rw [decide_eq_true c2, if_pos rfl]
      by_cases c3 : hs.length = ks.length
      · rw [if_pos (by omega)]
        by_cases c4 : ∀ x ∈ hs, 1 ≤ x ∧ x ≤ 250
        · rw [decide_eq_true c4, if_pos rfl]
          by_cases c5 : b.size < 16
          · rw [if_pos ⟨c1, c2, c3, c4, c5⟩, decide_eq_true (show (b.size : Int) < 16 by omega)]
            obtain ⟨k, rfl⟩ := rounds (show 0 < k by omega)
            have hz : (ks.zip hs).length = ks.length := by rw [List.length_zip]; omega
            simp only [spec_BuildOnion.j0]
            rw [if_neg (by simp), specPadded_eq b c5]
            simp only [Option.bind_some]
            rw [if_pos (by omega), zeros_eq]
            rw [if_pos (start_l0 b c5), w64 (by omega) (by omega)]
            have h := (onion_l0 ks hs c3 c1.2 c2 (startV b) (startV_size b c5) ks.length k (by omega) (by omega)).2
            rw [List.drop_of_length_le (by omega)] at h
            exact h
          · rw [if_neg (fun h => c5 h.2.2.2.2), decide_eq_false (show ¬ (b.size : Int) < 16 by omega)]
            exact hf
        · rw [decide_eq_false c4, if_neg (by simp), if_neg (fun h => c4 h.2.2.2.1)]
      · rw [if_neg (by omega), if_neg (fun h => c3 h.2.2.1)]
    · rw [decide_eq_false c2, if_neg (by simp), if_neg (fun h => c2 h.2.1)]
  · rw [decide_eq_false (show ¬ ((1 : Int) ≤ (ks.length : Int) ∧ (ks.length : Int) ≤ 4) by omega), if_neg (by simp), if_neg (fun h => c1 h.1)]

/-- A row without the zeros at its end. -/
def trimL (l : List UInt8) : List UInt8 := (l.reverse.dropWhile (· == 0)).reverse
theorem trimL_zero (l : List UInt8) : trimL (l ++ [0]) = trimL l := by
  unfold trimL
  simp
theorem trimL_keep (l : List UInt8) (c : UInt8) (h : c ≠ 0) : trimL (l ++ [c]) = l ++ [c] := by
  unfold trimL
  rw [List.reverse_append]
  simp [h]
theorem trimL_len (l : List UInt8) : (trimL l).length ≤ l.length := by
  unfold trimL
  rw [List.length_reverse]
  have := (List.dropWhile_suffix (l := l.reverse) (fun x : UInt8 => x == 0)).length_le
  simpa using this
/-- The body in a row with its padding. -/
def bodyL (l : List UInt8) : List UInt8 × Bool := if [128].isSuffixOf (trimL l) then ((trimL l).take ((trimL l).length - 1), true) else ([], false)
theorem bodyL_zero (l : List UInt8) : bodyL (l ++ [0]) = bodyL l := by
  unfold bodyL
  rw [trimL_zero]
theorem bodyL_128 (l : List UInt8) : bodyL (l ++ [128]) = (l, true) := by
  unfold bodyL
  rw [trimL_keep l 128 (by decide), if_pos]
  · simp
  · rw [List.isSuffixOf_iff_suffix]
    exact List.suffix_append _ _
theorem bodyL_other (l : List UInt8) (c : UInt8) (h : c ≠ 0) (h2 : c ≠ 128) : bodyL (l ++ [c]) = ([], false) := by
  unfold bodyL
  rw [trimL_keep l c h, if_neg]
  rw [List.isSuffixOf_iff_suffix]
  rintro ⟨t, ht⟩
  have := (List.append_inj' ht rfl).2
  simp at this
  exact h2 this.symm
theorem bodyL_nil : bodyL [] = ([], false) := rfl
def bodyV (s : ByteArray) : ByteArray × Bool := if s.size = 16 then (⟨(bodyL s.data.toList).1.toArray⟩, (bodyL s.data.toList).2) else (⟨#[]⟩, false)
theorem take_snoc8 (l : List UInt8) (i : Nat) (h : i < l.length) : l.take (i + 1) = l.take i ++ [l[i]] := by
  rw [List.take_succ_eq_append_getElem h]
theorem extract_data (s : ByteArray) (n : Nat) : s.extract 0 n = ⟨(s.data.toList.take n).toArray⟩ := by
  apply ByteArray.ext
  rw [ByteArray.data_extract]
  apply Array.ext'
  simp [Array.toList_extract, List.extract_eq_take_drop]
theorem mk_list (s : ByteArray) : (⟨s.data.toList.toArray⟩ : ByteArray) = s := rfl
theorem specUnpad_l0 (s : ByteArray) (hs : s.size = 16) : ∀ (i : Nat), i < 16 → ∀ k, i < k → spec_UnpadBody.l0 k s (i : Int) = some (⟨(bodyL (s.data.toList.take (i + 1))).1.toArray⟩, (bodyL (s.data.toList.take (i + 1))).2) := by
  have hl : s.data.toList.length = 16 := by rw [data_length, hs]
  have hbt : ∀ (i : Nat) (hi : i < s.data.toList.length), bt s (i : Int) = ((s.data.toList[i].toNat : Nat) : Int) := by
    intro i hi
    have := bt_at s (i : Int) (by rw [Int.toNat_natCast]; omega)
    rw [← this]
    simp [Int.toNat_natCast]
    rfl
  intro i
  induction i with
  | zero =>
    intro hi k hk
    obtain ⟨k, rfl⟩ := rounds hk
    have h0 := hbt 0 (by omega)
    simp only [spec_UnpadBody.l0]
    rw [if_neg (by omega), if_pos (by omega), if_pos (by omega), h0, take_snoc8 _ 0 (by omega)]
    by_cases e : s.data.toList[0] = 128
    · rw [e, bodyL_128, if_pos (show ((UInt8.toNat 128 : Nat) : Int) = 128 from rfl), if_pos (by omega), extract_data]
      rfl
    · rw [if_neg (fun h => e (UInt8.toNat_inj.1 (by have : (128 : UInt8).toNat = 128 := rfl; omega)))]
      by_cases e2 : s.data.toList[0] = 0
      · rw [e2, bodyL_zero, List.take_zero, bodyL_nil]
      · rw [bodyL_other _ _ e2 e]
  | succ i ih =>
    intro hi k hk
    obtain ⟨k, rfl⟩ := rounds hk
    have h0 := hbt (i + 1) (by omega)
    simp only [spec_UnpadBody.l0]
    rw [if_pos (by omega), if_pos (by omega), if_pos (by omega), h0, take_snoc8 _ (i + 1) (by omega)]
    by_cases e2 : s.data.toList[i + 1] = 0
    · rw [e2, bodyL_zero, if_pos (show ((UInt8.toNat 0 : Nat) : Int) = 0 from rfl), w64 (n := ((i + 1 : Nat) : Int) - 1) (by omega) (by omega), show ((i + 1 : Nat) : Int) - 1 = (i : Int) by omega]
      exact ih (by omega) k (by omega)
    · rw [if_neg (fun h => e2 (UInt8.toNat_inj.1 (by have : (0 : UInt8).toNat = 0 := rfl; omega)))]
      by_cases e : s.data.toList[i + 1] = 128
      · rw [e, bodyL_128, if_pos (show ((UInt8.toNat 128 : Nat) : Int) = 128 from rfl), if_pos (by omega), extract_data]
        rfl
      · rw [if_neg (fun h => e (UInt8.toNat_inj.1 (by have : (128 : UInt8).toNat = 128 := rfl; omega))), bodyL_other _ _ e2 e]
theorem specUnpad_eq (s : ByteArray) (k : Nat) (hk : 16 < k) : spec_UnpadBody.f k s = some (bodyV s) := by
  unfold spec_UnpadBody.f bodyV
  by_cases h : s.size = 16
  · rw [if_pos (by omega), if_pos h, w64 (n := (s.size : Int) - 1) (by omega) (by omega), show (s.size : Int) - 1 = ((15 : Nat) : Int) by omega, specUnpad_l0 s h 15 (by omega) k (by omega), List.take_of_length_le (by rw [data_length]; omega)]
  · rw [if_neg (by omega), if_neg h]
theorem trimB_data (s : ByteArray) : (Hand.trimB s).data.toList = trimL s.data.toList := rfl
theorem implUnpad_eq (s : ByteArray) (hs : s.size ≤ 9223372036854775807) : impl_UnpadBody.f s = some (bodyV s) := by
  unfold impl_UnpadBody.f bodyV strings_TrimRight.f strings_HasSuffix.f
  have hz : (Hand.trimB s).size = (trimL s.data.toList).length := by rw [← trimB_data, data_length]
  have hle := trimL_len s.data.toList
  rw [data_length] at hle
  rw [if_pos ⟨rfl, hs⟩]
  simp only [Option.bind_some]
  by_cases h : s.size = 16
  · rw [if_pos (by omega), if_pos h, if_pos (by omega), trimB_data]
    simp only [Option.bind_some, Lib.hasSuffix]
    unfold bodyL
    by_cases e : ([128] : List UInt8).isSuffixOf (trimL s.data.toList) = true
    · have hp : 0 < (trimL s.data.toList).length := by
        rw [List.isSuffixOf_iff_suffix] at e
        have := e.length_le
        simp only [List.length_singleton] at this
        omega
      rw [if_pos e]
      have e' : ((⟨#[128]⟩ : ByteArray).data.toList.isSuffixOf (trimL s.data.toList)) = true := e
      rw [if_pos e', w64 (by omega) (by omega), if_pos (by omega), if_pos (by omega), extract_data, trimB_data, show ((((Hand.trimB s).size : Int) - 1).toNat) = (trimL s.data.toList).length - 1 by omega]
    · rw [if_neg e]
      have e' : ¬ ((⟨#[128]⟩ : ByteArray).data.toList.isSuffixOf (trimL s.data.toList)) = true := e
      rw [if_neg e']
  · rw [if_neg (by omega), if_neg h]

def restV (t : ByteArray) : ByteArray := t.extract 2 t.size ++ (⟨#[0, 0]⟩ : ByteArray)
noncomputable def peelT (t : ByteArray) : Int × ByteArray × ByteArray × Bool := if (1 ≤ bt t 0 ∧ bt t 0 ≤ 250) ∧ bt t 1 = ((chkV (t.extract 2 18) : Nat) : Int) then (bt t 0, restV t, (bodyV ((restV t).extract 0 16)).1, true) else (0, ⟨#[]⟩, ⟨#[]⟩, false)
/-- What taking a layer off tells. -/
noncomputable def peelV (a : Int) (s : ByteArray) : Int × ByteArray × ByteArray × Bool := if (0 ≤ a ∧ a ≤ 65535) ∧ s.size = 24 then peelT (Hand.xorB s (padK a)) else (0, ⟨#[]⟩, ⟨#[]⟩, false)
theorem restV_size (t : ByteArray) (h : t.size = 24) : (restV t).size = 24 := by
  unfold restV
  rw [size_app, size_ext _ _ _ (by omega), h]
  rfl
theorem bt_wrap (t : ByteArray) (i : Int) : wrap64 (bt t i) = bt t i := by
  have h := bt_range t i
  exact w64 (by omega) (by omega)
theorem implPeel_j0 (a : Int) (ha : 0 ≤ a ∧ a ≤ 65535) (s : ByteArray) (hs : s.size = 24) (k : Nat) (hk : 60 < k) : impl_PeelOnion.j0 k a s false = some (peelV a s) := by
  obtain ⟨k, rfl⟩ := rounds hk
  have hp := padK_spec a ha
  obtain ⟨t, ht⟩ : ∃ t, Hand.xorB s (padK a) = t := ⟨_, rfl⟩
  have h24 : t.size = 24 := by rw [← ht, xorB_size, hs]
  have hr := restV_size t h24
  have he := size_ext t 2 18 (by omega)
  have hc := (chkV_spec (t.extract 2 18) (by omega)).2 k (by omega)
  simp only [impl_PeelOnion.j0, impl_xor.f, impl_isHop.f, within_eq]
  rw [if_neg (by simp), (hp.2 k (by omega)).1]
  simp only [Option.bind_some]
  rw [if_pos (show s.size ≤ (padK a).size ∧ s.size ≤ 140737488355328 from ⟨by omega, by omega⟩), ht]
  simp only [Option.bind_some, bt_wrap]
  rw [if_pos (show (0 : Int) < (t.size : Int) by omega)]
  unfold peelV
  rw [if_pos (show (0 ≤ a ∧ a ≤ 65535) ∧ s.size = 24 from ⟨ha, hs⟩), ht, peelT]
  by_cases h1 : 1 ≤ bt t 0 ∧ bt t 0 ≤ 250
  · rw [decide_eq_true h1, if_pos rfl, if_pos (show (1 : Int) < (t.size : Int) by omega), if_pos (show (2 : Nat) ≤ 18 by omega), if_pos (show (18 : Int) ≤ (t.size : Int) by omega), hc.1]
    simp only [Option.bind_some]
    by_cases h2 : bt t 1 = ((chkV (t.extract 2 18) : Nat) : Int)
    · rw [if_pos h2, if_pos (show (1 ≤ bt t 0 ∧ bt t 0 ≤ 250) ∧ bt t 1 = ((chkV (t.extract 2 18) : Nat) : Int) from ⟨h1, h2⟩), if_pos (show (2 : Int) ≤ (t.size : Int) by omega), if_pos (by rw [size_ext _ _ _ (by omega)]; omega), if_pos (show (0 : Nat) ≤ 16 by omega)]
      have e : t.extract 2 t.size ++ (⟨#[0, 0]⟩ : ByteArray) = restV t := rfl
      rw [e, if_pos (by omega), implUnpad_eq _ (by rw [size_ext _ _ _ (by omega)]; omega)]
      rfl
    · rw [if_neg h2, if_neg (show ¬ ((1 ≤ bt t 0 ∧ bt t 0 ≤ 250) ∧ bt t 1 = ((chkV (t.extract 2 18) : Nat) : Int)) from fun h => h2 h.2)]
  · rw [decide_eq_false h1, if_neg (by simp), if_neg (show ¬ ((1 ≤ bt t 0 ∧ bt t 0 ≤ 250) ∧ bt t 1 = ((chkV (t.extract 2 18) : Nat) : Int)) from fun h => h1 h.1)]
theorem specPeel_j0 (a : Int) (ha : 0 ≤ a ∧ a ≤ 65535) (s : ByteArray) (hs : s.size = 24) (k : Nat) (hk : 60 < k) : spec_PeelOnion.j0 k a s false = some (peelV a s) := by
  obtain ⟨k, rfl⟩ := rounds hk
  have hp := padK_spec a ha
  obtain ⟨t, ht⟩ : ∃ t, Hand.xorB s (padK a) = t := ⟨_, rfl⟩
  have h24 : t.size = 24 := by rw [← ht, xorB_size, hs]
  have hr := restV_size t h24
  have he := size_ext t 2 18 (by omega)
  have hc := (chkV_spec (t.extract 2 18) (by omega)).2 k (by omega)
  simp only [spec_PeelOnion.j0, spec_l7Xor.f, l1In_eq]
  rw [if_neg (by simp), (hp.2 k (by omega)).2]
  simp only [Option.bind_some]
  rw [if_pos (show s.size ≤ (padK a).size ∧ s.size ≤ 140737488355328 from ⟨by omega, by omega⟩), ht]
  simp only [Option.bind_some, bt_wrap]
  rw [if_pos (show (0 : Int) < (t.size : Int) by omega)]
  unfold peelV
  rw [if_pos (show (0 ≤ a ∧ a ≤ 65535) ∧ s.size = 24 from ⟨ha, hs⟩), ht, peelT]
  by_cases h1 : 1 ≤ bt t 0 ∧ bt t 0 ≤ 250
  · rw [decide_eq_true h1, if_pos rfl, if_pos (show (1 : Int) < (t.size : Int) by omega), if_pos (show (2 : Nat) ≤ 18 by omega), if_pos (show (18 : Int) ≤ (t.size : Int) by omega), hc.2]
    simp only [Option.bind_some]
    by_cases h2 : bt t 1 = ((chkV (t.extract 2 18) : Nat) : Int)
    · rw [if_pos h2, if_pos (show (1 ≤ bt t 0 ∧ bt t 0 ≤ 250) ∧ bt t 1 = ((chkV (t.extract 2 18) : Nat) : Int) from ⟨h1, h2⟩), if_pos (show (2 : Int) ≤ (t.size : Int) by omega), if_pos (by rw [size_ext _ _ _ (by omega)]; omega), if_pos (show (0 : Nat) ≤ 16 by omega)]
      have e : t.extract 2 t.size ++ (⟨#[0, 0]⟩ : ByteArray) = restV t := rfl
      rw [e, if_pos (by omega), specUnpad_eq _ k (by omega)]
      rfl
    · rw [if_neg h2, if_neg (show ¬ ((1 ≤ bt t 0 ∧ bt t 0 ≤ 250) ∧ bt t 1 = ((chkV (t.extract 2 18) : Nat) : Int)) from fun h => h2 h.2)]
  · rw [decide_eq_false h1, if_neg (by simp), if_neg (show ¬ ((1 ≤ bt t 0 ∧ bt t 0 ≤ 250) ∧ bt t 1 = ((chkV (t.extract 2 18) : Nat) : Int)) from fun h => h1 h.1)]
theorem implPeel_eq (a : Int) (s : ByteArray) (k : Nat) (hk : 60 < k) : impl_PeelOnion.f k a s = some (peelV a s) := by
  have hf : impl_PeelOnion.j0 k a s true = some (0, ⟨#[]⟩, ⟨#[]⟩, false) := by
    obtain ⟨k, rfl⟩ := rounds hk
    simp only [impl_PeelOnion.j0]
    rfl
  unfold impl_PeelOnion.f impl_isKey.f
  simp only [within_eq, Option.bind_some]
  by_cases ha : 0 ≤ a ∧ a ≤ 65535
  · rw [decide_eq_true ha, if_pos rfl]
    by_cases hs : s.size = 24
    · rw [show ((s.size : Int) != 24) = false by rw [hs]; rfl]
      exact implPeel_j0 a ha s hs k hk
    · rw [show ((s.size : Int) != 24) = true by rw [bne_iff_ne]; omega, hf, peelV, if_neg (fun h => hs h.2)]
  · rw [decide_eq_false ha, if_neg (by simp), hf, peelV, if_neg (fun h => ha h.1)]
theorem specPeel_eq (a : Int) (s : ByteArray) (k : Nat) (hk : 60 < k) : spec_PeelOnion.f k a s = some (peelV a s) := by
  have hf : spec_PeelOnion.j0 k a s true = some (0, ⟨#[]⟩, ⟨#[]⟩, false) := by
    obtain ⟨k, rfl⟩ := rounds hk
    simp only [spec_PeelOnion.j0]
    rfl
  unfold spec_PeelOnion.f spec_l4Key.f
  simp only [l1In_eq, Option.bind_some]
  by_cases ha : 0 ≤ a ∧ a ≤ 65535
  · rw [decide_eq_true ha, if_pos rfl]
    by_cases hs : s.size = 24
    · rw [show ((s.size : Int) != 24) = false by rw [hs]; rfl]
      exact specPeel_j0 a ha s hs k hk
    · rw [show ((s.size : Int) != 24) = true by rw [bne_iff_ne]; omega, hf, peelV, if_neg (fun h => hs h.2)]
  · rw [decide_eq_false ha, if_neg (by simp), hf, peelV, if_neg (fun h => ha h.1)]

noncomputable def walkF (l : List Int) (s : ByteArray) (out : List Int) (b : ByteArray) : List Int × ByteArray × Bool :=
  match l with
  | [] => (out, b, true)
  | a :: l => if (peelV a s).2.2.2 = true then walkF l (peelV a s).2.1 (out ++ [(peelV a s).1]) (peelV a s).2.2.1 else ([], ⟨#[]⟩, false)
noncomputable def walkV (l : List Int) (s : ByteArray) : List Int × ByteArray × Bool := if l.length ≤ 4 then walkF l s [] ⟨#[]⟩ else ([], ⟨#[]⟩, false)
theorem walk_l0 (l : List Int) (hl : l.length ≤ 4) : ∀ (d i : Nat) (s : ByteArray) (out : List Int) (b : ByteArray), l.length - i = d → i ≤ l.length → out.length ≤ i → ∀ k, d + 61 < k →
    impl_WalkOnion.l0 k s out b l (l.length : Int) (i : Int) = some (walkF (l.drop i) s out b) ∧ spec_WalkOnion.l0 k s out b l (l.length : Int) (i : Int) = some (walkF (l.drop i) s out b) := by
  intro d
  induction d with
  | zero =>
    intro i s out b hd hi ho k hk
    obtain ⟨k, rfl⟩ := rounds hk
    simp only [impl_WalkOnion.l0, spec_WalkOnion.l0]
    rw [if_neg (by omega), if_neg (by omega), List.drop_of_length_le (by omega)]
    exact ⟨rfl, rfl⟩
  | succ d ih =>
    intro i s out b hd hi ho k hk
    obtain ⟨k, rfl⟩ := rounds hk
    have hlt : i < l.length := by omega
    simp only [impl_WalkOnion.l0, spec_WalkOnion.l0]
    rw [List.drop_eq_getElem_cons hlt, rd_in l i hlt, implPeel_eq _ _ k (by omega), specPeel_eq _ _ k (by omega)]
    simp only [Option.bind_some, walkF]
    have hA : (i : Int) < (l.length : Int) := by omega
    have hB : 0 ≤ (i : Int) := by omega
    have hC : out.length < 17592186044416 := by omega
    simp only [if_pos hA, if_pos hB, if_pos hC]
    by_cases h : (peelV l[i] s).2.2.2 = true
    · simp only [if_pos h]
      rw [w64 (n := (i : Int) + 1) (by omega) (by omega)]
      exact ih (i + 1) _ _ _ (by omega) (by omega) (by rw [List.length_append, List.length_singleton]; omega) k (by omega)
    · simp only [if_neg h]
      exact ⟨trivial, trivial⟩
theorem implWalk_eq (l : List Int) (s : ByteArray) (k : Nat) (hk : 70 < k) : impl_WalkOnion.f k l s = some (walkV l s) := by
  unfold impl_WalkOnion.f walkV
  by_cases h : l.length ≤ 4
  · rw [if_neg (by omega), if_pos h]
    exact (walk_l0 l h l.length 0 s [] ⟨#[]⟩ rfl (by omega) (by simp) k (by omega)).1
  · rw [if_pos (by omega), if_neg h]
theorem specWalk_eq (l : List Int) (s : ByteArray) (k : Nat) (hk : 70 < k) : spec_WalkOnion.f k l s = some (walkV l s) := by
  unfold spec_WalkOnion.f walkV
  by_cases h : l.length ≤ 4
  · rw [if_neg (by omega), if_pos h]
    exact (walk_l0 l h l.length 0 s [] ⟨#[]⟩ rfl (by omega) (by simp) k (by omega)).2
  · rw [if_pos (by omega), if_neg h]
theorem walkF_len (l : List Int) : ∀ (s : ByteArray) (out : List Int) (b : ByteArray), (walkF l s out b).1.length ≤ out.length + l.length := by
  induction l with
  | nil => intro s out b; simp [walkF]
  | cons a l ih =>
    intro s out b
    simp only [walkF]
    split
    · have := ih (peelV a s).2.1 (out ++ [(peelV a s).1]) (peelV a s).2.2.1
      simp only [List.length_append, List.length_singleton, List.length_cons, List.length_nil] at this ⊢
      omega
    · simp
theorem walkV_len (l : List Int) (s : ByteArray) : (walkV l s).1.length ≤ 4 := by
  unfold walkV
  split
  · have := walkF_len l s [] ⟨#[]⟩
    simp only [List.length_nil] at this
    omega
  · simp

/-- The bits of a letter: where it stands is small, its bytes are bytes. -/
def Bytes (l : List Int) : Prop := l.length ≤ 1048576 ∧ ∀ x ∈ l, 0 ≤ x ∧ x ≤ 255
theorem and255 (E : Int) : 0 ≤ Go.bits .and .u64 E 255 ∧ Go.bits .and .u64 E 255 ≤ 255 := by
  have h : Go.bits .and .u64 E 255 = IntKind.u64.wrap (((BitVec.ofInt 64 E) &&& (BitVec.ofInt 64 255)).toNat : Int) := rfl
  have h2 : ((BitVec.ofInt 64 E) &&& (BitVec.ofInt 64 255)).toNat ≤ 255 := by
    rw [BitVec.toNat_and]
    exact Nat.and_le_right
  have h3 : IntKind.u64.wrap (((BitVec.ofInt 64 E) &&& (BitVec.ofInt 64 255)).toNat : Int) = (((BitVec.ofInt 64 E) &&& (BitVec.ofInt 64 255)).toNat : Int) := by
    show (_ : Int) % 2 ^ 64 = _
    omega
  rw [h, h3]
  omega
def CurOk (p' p : Int) : Prop := p ≤ p' ∧ p' ≤ p + 2
theorem next_tot (l : List Int) (hl : Bytes l) (p h : Int) (hp : 0 ≤ p ∧ p ≤ 1099511627776) : ∃ y, spec_l1Cur_next.f l p h = some y ∧ (0 ≤ y.1 ∧ y.1 ≤ 255 ∧ y.2.1 = p + 1) := by
  have hl1 := hl.1
  unfold spec_l1Cur_next.f
  rw [w64 (n := p + 1) (by omega) (by omega)]
  by_cases h1 : p < (l.length : Int)
  · obtain ⟨i, rfl⟩ := Int.eq_ofNat_of_zero_le hp.1
    have h2 := hl.2 _ (rd_mem l i (by omega))
    rw [if_pos h1, if_pos hp.1, if_pos (by omega)]
    refine ⟨_, rfl, ?_⟩
    simp only
    rw [w64 (by omega) (by omega)]
    exact ⟨h2.1, h2.2, trivial⟩
  · rw [if_neg h1, if_neg (by omega)]
    refine ⟨_, rfl, ?_⟩
    have h3 := and255 ((IntKind.u64.wrap ((IntKind.u64.wrap ((IntKind.u64.wrap (h * 6364136223846793005)) + 0)) + 1442695040888963407)) / 1099511627776)
    simp only
    rw [w64 (by omega) (by omega)]
    exact ⟨h3.1, h3.2, trivial⟩
theorem pick_tot (l : List Int) (hl : Bytes l) (p h a : Int) (hp : 0 ≤ p ∧ p ≤ 549755813888) (ha : a ≤ 1048576) : ∃ y, spec_l1Cur_pick.f l p h a = some y ∧ (0 ≤ y.1 ∧ (y.1 < a ∨ y.1 = 0) ∧ p ≤ y.2.1 ∧ y.2.1 ≤ p + 2) := by
  unfold spec_l1Cur_pick.f
  by_cases h1 : a ≤ 1
  · rw [if_pos h1]
    exact ⟨_, rfl, by simp only; omega, .inr rfl, by simp only; omega, by simp only; omega⟩
  · rw [if_neg h1]
    obtain ⟨⟨b, p1, h'⟩, e1, hb0, hb1, hp1⟩ := next_tot l hl p h (by omega)
    simp only at hb0 hb1 hp1
    rw [e1]
    simp only [Option.bind_some]
    by_cases h2 : a > 200
    · obtain ⟨⟨c, p2, h''⟩, e2, hc0, hc1, hp2⟩ := next_tot l hl p1 h' (by omega)
      simp only at hc0 hc1 hp2
      rw [if_pos h2, e2]
      simp only [Option.bind_some]
      rw [if_neg (by omega), w64 (n := b * 256) (by omega) (by omega), w64 (by omega) (by omega), Int.tmod_eq_emod_of_nonneg (by omega)]
      have h3 := Int.emod_nonneg (b * 256 + c) (show a ≠ 0 by omega)
      have h4 := Int.emod_lt_of_pos (b * 256 + c) (show 0 < a by omega)
      exact ⟨_, rfl, h3, .inl h4, by simp only; omega, by simp only; omega⟩
    · rw [if_neg h2, if_neg (by omega), Int.tmod_eq_emod_of_nonneg (by omega)]
      have h3 := Int.emod_nonneg b (show a ≠ 0 by omega)
      have h4 := Int.emod_lt_of_pos b (show 0 < a by omega)
      exact ⟨_, rfl, h3, .inl h4, by simp only; omega, by simp only; omega⟩

theorem one_tot (l : List Int) (hl : Bytes l) (p h a : Int) (hp : 0 ≤ p ∧ p ≤ 549755813888) (ha : a ≤ 1048576) : ∃ y, spec_l1Cur_one.f l p h a = some y ∧ (p ≤ y.2.1 ∧ y.2.1 ≤ p + 2) := by
  unfold spec_l1Cur_one.f
  obtain ⟨⟨b, p1, h'⟩, e1, hb0, hb1, hp0, hp1⟩ := pick_tot l hl p h a hp ha
  simp only at hp0 hp1
  rw [e1]
  exact ⟨_, rfl, hp0, hp1⟩

theorem among_tot (l : List Int) (hl : Bytes l) (p h : Int) (m : List Int) (hp : 0 ≤ p ∧ p ≤ 549755813888) (hm : 0 < m.length) (hm2 : m.length ≤ 1048576) : ∃ y, spec_l1Cur_among.f l p h m = some y ∧ (y.1 ∈ m ∧ p ≤ y.2.1 ∧ y.2.1 ≤ p + 2) := by
  unfold spec_l1Cur_among.f
  obtain ⟨⟨b, p1, h'⟩, e1, hb0, hb1, hp0, hp1⟩ := pick_tot l hl p h (m.length : Int) hp (by omega)
  simp only at hb0 hb1 hp0 hp1
  rw [e1]
  simp only [Option.bind_some]
  obtain ⟨i, rfl⟩ := Int.eq_ofNat_of_zero_le hb0
  rw [if_pos hb0, if_pos (by omega)]
  exact ⟨_, rfl, rd_mem m i (by omega), by simp only; omega, by simp only; omega⟩

theorem bytes_of {l : List Int} (h : l.length ≤ 1048576) (hw : ∀ x ∈ l, (Lit.int .u8 x).wf = true) : Bytes l := by
  refine ⟨h, fun x hx => ?_⟩
  have h2 := hw x hx
  simp only [Lit.wf, Bool.and_eq_true, decide_eq_true_iff] at h2
  exact h2

theorem of_tot (l : List Int) (hl : Bytes l) (p h : Int) (m : List ByteArray) (hp : 0 ≤ p ∧ p ≤ 549755813888) (hm : 0 < m.length) (hm2 : m.length ≤ 1048576) : ∃ y, spec_l1Cur_of.f l p h m = some y ∧ (y.1 ∈ m ∧ p ≤ y.2.1 ∧ y.2.1 ≤ p + 2) := by
  unfold spec_l1Cur_of.f
  obtain ⟨⟨b, p1, h'⟩, e1, hb0, hb1, hp0, hp1⟩ := pick_tot l hl p h (m.length : Int) hp (by omega)
  simp only at hb0 hb1 hp0 hp1
  rw [e1]
  simp only [Option.bind_some]
  obtain ⟨i, rfl⟩ := Int.eq_ofNat_of_zero_le hb0
  rw [if_pos hb0, if_pos (by omega)]
  have hi : i < m.length := by omega
  refine ⟨_, rfl, ?_, by simp only; omega, by simp only; omega⟩
  show rdOf ByteArray.empty m (i : Int) ∈ m
  unfold rdOf
  rw [Int.toNat_natCast, List.getD_eq_getElem?_getD, List.getElem?_eq_getElem hi]
  exact List.getElem_mem hi

theorem body_tot (l : List Int) (hl : Bytes l) (p h : Int) (hp : 0 ≤ p ∧ p ≤ 549755813888) : ∃ y, spec_l1Cur_body.f l p h = some y ∧ (y.1.size ≤ 16 ∧ p ≤ y.2.1 ∧ y.2.1 ≤ p + 2) := by
  unfold spec_l1Cur_body.f
  obtain ⟨y, e, h1, h2, h3⟩ := of_tot l hl p h _ hp (show 0 < ([(⟨#[]⟩ : ByteArray), (⟨#[97]⟩ : ByteArray), (⟨#[104, 101, 108, 108, 111]⟩ : ByteArray), (⟨#[102, 105, 102, 116, 101, 101, 110, 32, 98, 121, 116, 101, 115, 46, 46]⟩ : ByteArray), (⟨#[115, 105, 120, 116, 101, 101, 110, 32, 98, 121, 116, 101, 115, 46, 46, 46]⟩ : ByteArray), (⟨#[128, 0]⟩ : ByteArray), (⟨#[101, 110, 100, 115, 0]⟩ : ByteArray)] : List ByteArray).length by simp) (by simp)
  rw [e]
  refine ⟨_, rfl, ?_, h2, h3⟩
  simp only [List.mem_cons, List.mem_nil_iff, or_false] at h1
  rcases h1 with h1 | h1 | h1 | h1 | h1 | h1 | h1 <;> (rw [h1]; decide)

theorem sameInts_tot (a b : List Int) (ha : a.length ≤ 1048576) : Tot (fun k => laws_sameInts.f k a b) (fun y => y = decide (a = b)) := by
  simp only [laws_sameInts.f]
  by_cases hl : a.length = b.length
  · refine Tot.pos (by omega) ?_
    have key : ∀ (d i : Nat), a.length - i = d → i ≤ a.length → Tot (fun k => laws_sameInts.l0 k a b (a.length : Int) (i : Int)) (fun y => y = decide (a.drop i = b.drop i)) := by
      intro d
      induction d with
      | zero =>
        intro i hd hi
        refine Tot.up ?_
        simp only [laws_sameInts.l0]
        refine Tot.neg (by omega) (Tot.some_ ?_)
        rw [List.drop_of_length_le (by omega), List.drop_of_length_le (by omega)]
        rfl
      | succ d ih =>
        intro i hd hi
        refine Tot.up ?_
        simp only [laws_sameInts.l0]
        rw [rd_in a i (by omega), rd_in b i (by omega), w64 (n := (i : Int) + 1) (by omega) (by omega), List.drop_eq_getElem_cons (show i < a.length by omega), List.drop_eq_getElem_cons (show i < b.length by omega)]
        refine Tot.pos (by omega) (Tot.pos (by omega) (Tot.pos (by omega) (Tot.pos (by omega) (Tot.ite (fun e => ?_) (fun e => Tot.some_ ?_)))))
        · refine (ih (i + 1) (by omega) (by omega)).imp (fun y hy => ?_)
          rw [hy, Bool.eq_iff_iff, decide_eq_true_iff, decide_eq_true_iff]
          constructor
          · intro h
            rw [e, h]
          · intro h
            exact (List.cons.inj h).2
        · exact (decide_eq_false (fun h => e (List.cons.inj h).1)).symm
    have h := key a.length 0 (by omega) (by omega)
    rw [List.drop_zero, List.drop_zero] at h
    exact h
  · refine Tot.neg (by omega) (Tot.some_ ?_)
    exact (decide_eq_false (fun h => hl (by rw [h]))).symm
theorem sameInts_self (a : List Int) (ha : a.length ≤ 1048576) : Tot (fun k => laws_sameInts.f k a a) (fun y => y = true) := (sameInts_tot a a ha).imp (fun y hy => by rw [hy]; exact decide_eq_true rfl)

theorem trimL_zeros (l : List UInt8) : ∀ n : Nat, trimL (l ++ List.replicate n 0) = trimL l := by
  intro n
  induction n with
  | zero => simp
  | succ n ih =>
    rw [List.replicate_succ', ← List.append_assoc, trimL_zero]
    exact ih
theorem bodyL_pad (l : List UInt8) (n : Nat) : bodyL (l ++ [128] ++ List.replicate n 0) = (l, true) := by
  have h : bodyL (l ++ [128] ++ List.replicate n 0) = bodyL (l ++ [128]) := by
    unfold bodyL
    rw [trimL_zeros]
  rw [h, bodyL_128]
theorem padV_data (s : ByteArray) : (padV s).data.toList = s.data.toList ++ [128] ++ List.replicate (15 - s.size) 0 := by
  unfold padV Hand.zeroB
  rw [ByteArray.data_append, ByteArray.data_append, Array.toList_append, Array.toList_append]
theorem unpad_pad (s : ByteArray) (h : s.size < 16) : bodyV (padV s) = (s, true) := by
  unfold bodyV
  rw [if_pos (padV_size s h), padV_data, bodyL_pad]
theorem xorL_twice : ∀ (a b : List UInt8), Hand.xorL (Hand.xorL a b) b = a
  | [], _ => by simp [Hand.xorL]
  | _ :: _, [] => by simp [Hand.xorL]
  | x :: a, y :: b => by
    simp only [Hand.xorL]
    rw [xorL_twice a b, UInt8.xor_assoc, UInt8.xor_self, UInt8.xor_zero]

set_option maxHeartbeats 1000000
theorem xorL_take2 : ∀ (n : Nat) (a b : List UInt8), (Hand.xorL a b).take n = Hand.xorL (a.take n) (b.take n)
  | 0, a, b => by simp [Hand.xorL]
  | n + 1, [], b => by simp [Hand.xorL]
  | n + 1, x :: a, [] => by simp [Hand.xorL]
  | n + 1, x :: a, y :: b => by simp only [Hand.xorL, List.take_succ_cons, xorL_take2 n a b]
theorem xorB_data (a b : ByteArray) : (Hand.xorB a b).data.toList = Hand.xorL a.data.toList b.data.toList := by
  unfold Hand.xorB
  simp
theorem ext_list (s : ByteArray) (i j : Nat) : (s.extract i j).data.toList = (s.data.toList.drop i).take (j - i) := by
  rw [ByteArray.data_extract]
  simp [Array.toList_extract, List.extract_eq_take_drop]
theorem app_list (a b : ByteArray) : (a ++ b).data.toList = a.data.toList ++ b.data.toList := by
  rw [ByteArray.data_append, Array.toList_append]
theorem ba_ext {a b : ByteArray} (h : a.data.toList = b.data.toList) : a = b := by
  apply ByteArray.ext
  exact Array.ext' h
theorem bt_list (s : ByteArray) (i : Nat) (u : UInt8) (h : s.data.toList[i]? = some u) : bt s (i : Int) = ((u.toNat : Nat) : Int) := by
  obtain ⟨hi, rfl⟩ := List.getElem?_eq_some_iff.1 h
  have hi2 : i < s.size := by rw [← data_length]; exact hi
  rw [← bt_at s (i : Int) (by rw [Int.toNat_natCast]; exact hi2)]
  simp [Int.toNat_natCast]
  rfl
/-- Of one length, and alike at the first n. -/
def Ag (n : Nat) (s t : ByteArray) : Prop := s.size = 24 ∧ t.size = 24 ∧ s.data.toList.take n = t.data.toList.take n
theorem peel_lay (s x : ByteArray) (key hop : Int) (hk : 0 ≤ key ∧ key ≤ 65535) (hh : 1 ≤ hop ∧ hop ≤ 250) (n : Nat) (h18 : 18 ≤ n) (h24 : n ≤ 24) (h0 : s.size = 24) (ha : Ag n x (layV s key hop)) :
    ∃ r, peelV key x = (hop, r, (bodyV (r.extract 0 16)).1, true) ∧ Ag (n - 2) r s := by
  obtain ⟨a1, a2, a3⟩ := ha
  have hp := (padK_spec key hk).1
  have hc := (chkV_spec (s.extract 0 16) (by rw [size_ext _ _ _ (by omega)]; omega)).1
  have hsl : s.data.toList.length = 24 := by rw [data_length, h0]
  obtain ⟨t, ht⟩ : ∃ t, Hand.xorB x (padK key) = t := ⟨_, rfl⟩
  have htz : t.size = 24 := by rw [← ht, xorB_size, a1]
  have htl : t.data.toList.length = 24 := by rw [data_length, htz]
  have hhd : (strOfNums [hop % 256, ((chkV (s.extract 0 16) : Nat) : Int) % 256]).data.toList = [UInt8.ofNat (hop % 256).toNat, UInt8.ofNat (((chkV (s.extract 0 16) : Nat) : Int) % 256).toNat] := by
    unfold strOfNums
    simp
  obtain ⟨u0, hu0⟩ : ∃ u, UInt8.ofNat (hop % 256).toNat = u := ⟨_, rfl⟩
  obtain ⟨u1, hu1⟩ : ∃ u, UInt8.ofNat (((chkV (s.extract 0 16) : Nat) : Int) % 256).toNat = u := ⟨_, rfl⟩
  have n0 : ((u0.toNat : Nat) : Int) = hop := by
    rw [← hu0, UInt8.toNat_ofNat']
    omega
  have n1 : ((u1.toNat : Nat) : Int) = ((chkV (s.extract 0 16) : Nat) : Int) := by
    rw [← hu1, UInt8.toNat_ofNat']
    omega
  rw [hu0, hu1] at hhd
  have hT : t.data.toList.take n = u0 :: u1 :: s.data.toList.take (n - 2) := by
    rw [← ht, xorB_data, xorL_take2, a3, ← xorL_take2]
    unfold layV
    rw [xorB_data, xorL_twice, app_list, hhd, ext_list, List.drop_zero]
    obtain ⟨m, rfl⟩ : ∃ m, n = m + 2 := ⟨n - 2, by omega⟩
    simp only [List.cons_append, List.nil_append, List.take_succ_cons, Nat.add_sub_cancel, List.take_take]
    rw [show min m (22 - 0) = m by omega]
  have g0 : t.data.toList[0]? = some u0 := by
    have : (t.data.toList.take n)[0]? = some u0 := by rw [hT]; rfl
    rwa [List.getElem?_take_of_lt (by omega)] at this
  have g1 : t.data.toList[1]? = some u1 := by
    have : (t.data.toList.take n)[1]? = some u1 := by rw [hT]; rfl
    rwa [List.getElem?_take_of_lt (by omega)] at this
  have b0 : bt t 0 = hop := (bt_list t 0 u0 g0).trans n0
  have hD : (t.data.toList.drop 2).take (n - 2) = s.data.toList.take (n - 2) := by
    rw [← List.drop_take, hT]
    rfl
  have e16 : t.extract 2 18 = s.extract 0 16 := by
    apply ba_ext
    rw [ext_list, ext_list, List.drop_zero]
    have := congrArg (List.take 16) hD
    rw [List.take_take, List.take_take, show min 16 (n - 2) = 16 by omega] at this
    exact this
  have b1 : bt t 1 = ((chkV (t.extract 2 18) : Nat) : Int) := by
    rw [e16]
    exact (bt_list t 1 u1 g1).trans n1
  refine ⟨restV t, ?_, restV_size t htz, h0, ?_⟩
  · unfold peelV
    rw [if_pos ⟨hk, a1⟩, ht]
    unfold peelT
    rw [if_pos ⟨by rw [b0]; exact hh, b1⟩, b0]
  · unfold restV
    rw [app_list, ext_list, htz, List.take_append_of_le_length (by rw [List.length_take, List.length_drop]; omega), List.take_take, show min (n - 2) (24 - 2) = n - 2 by omega]
    exact hD
theorem body_of (r b : ByteArray) (hb : b.size < 16) (h : Ag 16 r (startV b)) : (bodyV (r.extract 0 16)).1 = b := by
  have e : r.extract 0 16 = padV b := by
    apply ba_ext
    have hp : (padV b).data.toList.length = 16 := by rw [data_length, padV_size b hb]
    rw [ext_list, List.drop_zero, Nat.sub_zero, h.2.2]
    unfold startV
    rw [app_list, List.take_append_of_le_length (by omega), List.take_of_length_le (by omega)]
  rw [e, unpad_pad b hb]
theorem walk_on (b : ByteArray) (hb : b.size < 16) : ∀ (l : List (Int × Int)) (x : ByteArray) (n : Nat) (out : List Int) (bd : ByteArray), (∀ p ∈ l, (0 ≤ p.1 ∧ p.1 ≤ 65535) ∧ 1 ≤ p.2 ∧ p.2 ≤ 250) → n = 16 + 2 * l.length → n ≤ 24 →
    Ag n x (onV l (startV b)) → (l = [] → bd = b) → walkF (l.map Prod.fst) x out bd = (out ++ l.map Prod.snd, b, true) := by
  intro l
  induction l with
  | nil =>
    intro x n out bd hl hn h24 ha hbd
    rw [hbd rfl]
    simp [walkF]
  | cons p l ih =>
    intro x n out bd hl hn h24 ha hbd
    have hp := hl p List.mem_cons_self
    simp only [List.length_cons] at hn
    obtain ⟨r, h1, h2⟩ := peel_lay (onV l (startV b)) x p.1 p.2 hp.1 hp.2 n (by omega) h24 (onV_size _ _ (startV_size b hb)) ha
    simp only [List.map_cons, walkF, h1, if_true]
    rw [ih r (n - 2) (out ++ [p.2]) _ (fun q hq => hl q (List.mem_cons_of_mem _ hq)) (by omega) (by omega) h2 (fun e => by
      subst e
      have e2 : n - 2 = 16 := by simp only [List.length_nil] at hn; omega
      rw [e2] at h2
      exact body_of r b hb h2)]
    simp
theorem build_true {ks hs : List Int} {b : ByteArray} (h : (buildV ks hs b).2 = true) : (1 ≤ ks.length ∧ ks.length ≤ 4) ∧ (∀ x ∈ ks, 0 ≤ x ∧ x ≤ 65535) ∧ hs.length = ks.length ∧ (∀ x ∈ hs, 1 ≤ x ∧ x ≤ 250) ∧ b.size < 16 := by
  unfold buildV at h
  split at h
  · assumption
  · cases h
theorem build_size {ks hs : List Int} {b : ByteArray} (h : (buildV ks hs b).2 = true) : (buildV ks hs b).1.size = 24 := by
  have hc := build_true h
  unfold buildV
  rw [if_pos hc]
  exact onV_size _ _ (startV_size b hc.2.2.2.2)
theorem build_walk {ks hs : List Int} {b : ByteArray} (h : (buildV ks hs b).2 = true) : walkV ks (buildV ks hs b).1 = (hs, b, true) ∧ (peelV (rd ks 0) (buildV ks hs b).1).2.2.2 = true ∧ (peelV (rd ks 0) (buildV ks hs b).1).1 = rd hs 0 ∧ (peelV (rd ks 0) (buildV ks hs b).1).2.1.size = 24 := by
  have hc := build_true h
  obtain ⟨c1, c2, c3, c4, c5⟩ := hc
  have e : (buildV ks hs b).1 = onV (ks.zip hs) (startV b) := by
    unfold buildV
    rw [if_pos ⟨c1, c2, c3, c4, c5⟩]
  have hs0 := startV_size b c5
  have hr : ∀ p ∈ ks.zip hs, (0 ≤ p.1 ∧ p.1 ≤ 65535) ∧ 1 ≤ p.2 ∧ p.2 ≤ 250 := fun p hp => by
    have := List.of_mem_zip (show (p.1, p.2) ∈ ks.zip hs from hp)
    exact ⟨c2 _ this.1, c4 _ this.2⟩
  have hzl : (ks.zip hs).length = ks.length := by rw [List.length_zip]; omega
  have hon := onV_size (ks.zip hs) _ hs0
  rw [e]
  constructor
  · unfold walkV
    rw [if_pos c1.2]
    have h1 := walk_on b c5 (ks.zip hs) (onV (ks.zip hs) (startV b)) (16 + 2 * (ks.zip hs).length) [] ⟨#[]⟩ hr rfl (by omega) ⟨hon, hon, rfl⟩ (fun e => by
      rw [e] at hzl
      simp at hzl
      omega)
    rw [List.map_fst_zip (by omega), List.map_snd_zip (by omega)] at h1
    exact h1
  · obtain ⟨k0, ks', rfl⟩ : ∃ a l, ks = a :: l := by
      cases ks with
      | nil => simp at c1
      | cons a l => exact ⟨a, l, rfl⟩
    obtain ⟨g0, hs', rfl⟩ : ∃ a l, hs = a :: l := by
      cases hs with
      | nil => simp at c3
      | cons a l => exact ⟨a, l, rfl⟩
    rw [List.zip_cons_cons] at hon hr ⊢
    have hp := hr _ List.mem_cons_self
    obtain ⟨r, h1, h2⟩ := peel_lay (onV (ks'.zip hs') (startV b)) (onV ((k0, g0) :: ks'.zip hs') (startV b)) k0 g0 hp.1 hp.2 24 (by omega) (by omega) (onV_size _ _ hs0) ⟨hon, hon, rfl⟩
    have e0 : rd (k0 :: ks') 0 = k0 := rfl
    have e1 : rd (g0 :: hs') 0 = g0 := rfl
    rw [e0, e1, h1]
    exact ⟨rfl, rfl, h2.1⟩
theorem key_tot (l : List Int) (hl : Bytes l) (p h : Int) (hp : 0 ≤ p ∧ p ≤ 274877906944) : Tot (fun _ => spec_l1Cur_key.f l p h) (fun y => p ≤ y.2.1 ∧ y.2.1 ≤ p + 10) := by
  simp only [spec_l1Cur_key.f]
  exact Tot.bind (Tot.fix (pick_tot l hl p h 256 (by omega) (by omega))) (fun y1 h1 => Tot.bind (Tot.fix (pick_tot l hl y1.2.1 y1.2.2 256 (by omega) (by omega))) (fun y2 h2 => Tot.bind (Tot.fix (pick_tot l hl y2.2.1 y2.2.2 256 (by omega) (by omega))) (fun y3 h3 => Tot.bind (Tot.fix (pick_tot l hl y3.2.1 y3.2.2 256 (by omega) (by omega))) (fun y4 h4 => Tot.bind (Tot.fix (among_tot l hl y4.2.1 y4.2.2 _ (by omega) (by simp) (by simp))) (fun y5 h5 => Tot.some_ ⟨by simp only; omega, by simp only; omega⟩)))))
theorem route_tot (l : List Int) (hl : Bytes l) (p h : Int) (hp : 0 ≤ p ∧ p ≤ 137438953472) : Tot (fun k => spec_l1Cur_route.f k l p h) (fun y => 1 ≤ y.1.length ∧ y.1.length ≤ 6 ∧ y.2.1.length ≤ 6 ∧ p ≤ y.2.2.1 ∧ y.2.2.1 ≤ p + 100) := by
  have loop : ∀ (n : Nat) (ks hs : List Int) (q h : Int), ks.length = hs.length → ks.length + n ≤ 4 → 1 ≤ ks.length + n → (0 ≤ q ∧ q + 20 * (n : Int) ≤ 274877906800) →
      Tot (fun k => spec_l1Cur_route.l0 k ks hs (n : Int) l q h) (fun y => 1 ≤ y.1.length ∧ y.1.length ≤ 6 ∧ y.2.1.length ≤ 6 ∧ q ≤ y.2.2.1 ∧ y.2.2.1 ≤ q + 20 * (n : Int) + 8) := by
    intro n
    induction n with
    | zero =>
      intro ks hs q h h1 h2 h3 hq
      refine Tot.up ?_
      simp only [spec_l1Cur_route.l0]
      refine Tot.neg (by omega) (Tot.bind (Tot.fix (pick_tot l hl q h 20 (by omega) (by omega))) (fun y1 g1 => Tot.ite (fun _ => ?_) (fun _ => Tot.ite (fun _ => Tot.pos (by omega) (Tot.some_ ?_)) (fun _ => Tot.some_ ?_))))
      · exact Tot.bind (Tot.fix (among_tot l hl y1.2.1 y1.2.2 [0, 250, 251] (by omega) (by simp) (by simp))) (fun y2 g2 => Tot.pos (by omega) (Tot.some_ ⟨by simp only; omega, by simp only; omega, by simp only [List.length_set]; omega, by simp only; omega, by simp only; omega⟩))
      · exact ⟨by simp only [List.length_append, List.length_singleton]; omega, by simp only [List.length_append, List.length_singleton]; omega, by simp only; omega, by simp only; omega, by simp only; omega⟩
      · exact ⟨by simp only; omega, by simp only; omega, by simp only; omega, by simp only; omega, by simp only; omega⟩
    | succ n ih =>
      intro ks hs q h h1 h2 h3 hq
      refine Tot.up ?_
      simp only [spec_l1Cur_route.l0]
      refine Tot.pos (by omega) (Tot.bind (key_tot l hl q h (by omega)) (fun y1 g1 => Tot.pos (by omega) (Tot.bind (Tot.fix (pick_tot l hl y1.2.1 y1.2.2 20 (by omega) (by omega))) (fun y2 g2 => Tot.pos (by omega) ?_))))
      rw [w64 (n := ((n + 1 : Nat) : Int) - 1) (by omega) (by omega), show ((n + 1 : Nat) : Int) - 1 = (n : Int) by omega]
      exact (ih _ _ _ _ (by rw [List.length_append, List.length_append, h1]; rfl) (by rw [List.length_append, List.length_singleton]; omega) (by rw [List.length_append, List.length_singleton]; omega) (by omega)).imp (fun y hy => ⟨hy.1, hy.2.1, hy.2.2.1, by omega, by omega⟩)
  simp only [spec_l1Cur_route.f]
  refine Tot.bind (Tot.fix (pick_tot l hl p h 4 (by omega) (by omega))) (fun y1 g1 => ?_)
  rw [w64 (n := 1 + y1.1) (by omega) (by omega)]
  obtain ⟨n, hn⟩ := Int.eq_ofNat_of_zero_le (show 0 ≤ 1 + y1.1 by omega)
  rw [hn]
  exact (loop n [] [] y1.2.1 y1.2.2 rfl (by simp only [List.length_nil]; omega) (by simp only [List.length_nil]; omega) (by omega)).imp (fun y hy => ⟨hy.1, hy.2.1, hy.2.2.1, by omega, by omega⟩)
theorem drawPeel_tot (c : List Int) (hc : Bytes c) : Tot (fun k => spec_DrawPeelOnion.f k c) (fun _ => True) := by
  have j1 : ∀ (ks : List Int) (s : ByteArray) (q h : Int), 1 ≤ ks.length → (0 ≤ q ∧ q ≤ 137438953472) → Tot (fun k => spec_DrawPeelOnion.j1 k ks s c q h) (fun _ => True) := by
    intro ks s q h hk hq
    refine Tot.up ?_
    simp only [spec_DrawPeelOnion.j1]
    exact Tot.bind (Tot.fix (one_tot c hc q h 8 (by omega) (by omega))) (fun y1 g1 => Tot.ite (fun _ => Tot.bind (key_tot c hc _ _ (by omega)) (fun y2 g2 => Tot.some_ trivial)) (fun _ => Tot.pos (by omega) (Tot.some_ trivial)))
  have j0 : ∀ (ks : List Int) (s : ByteArray) (b : Bool) (q h : Int), 1 ≤ ks.length → (b = true → s.size = 24) → (0 ≤ q ∧ q ≤ 137438953400) → Tot (fun k => spec_DrawPeelOnion.j0 k ks s b c q h) (fun _ => True) := by
    intro ks s b q h hk hb hq
    refine Tot.up ?_
    simp only [spec_DrawPeelOnion.j0]
    refine Tot.ite (fun h1 => ?_) (fun _ => j1 ks s q h hk (by omega))
    have hz := hb h1
    exact Tot.bind (Tot.fix (pick_tot c hc q h 24 (by omega) (by omega))) (fun y1 g1 => Tot.bind (Tot.fix (pick_tot c hc y1.2.1 y1.2.2 8 (by omega) (by omega))) (fun y2 g2 => Tot.pos (by omega) (Tot.pos (by omega) (Tot.pos (by omega) (j1 ks _ _ _ hk (by omega))))))
  simp only [spec_DrawPeelOnion.f]
  refine Tot.bind (route_tot c hc 0 0 (by omega)) (fun y1 g1 => Tot.bind (Tot.fix (body_tot c hc y1.2.2.1 y1.2.2.2 (by omega))) (fun y2 g2 => Tot.bind (Q := fun y => y = buildV y1.1 y1.2.1 y2.1) (Tot.at_ 1048578 rfl (fun k hk => specBuild_eq y1.1 y1.2.1 (by omega) (by omega) y2.1 k (by omega))) (fun y3 e3 => ?_)))
  subst e3
  refine Tot.ite (fun h1 => Tot.bind (Tot.fix (one_tot c hc _ _ 4 (by omega) (by omega))) (fun y4 g4 => j0 _ _ _ _ _ g1.1 (fun _ => build_size h1) (by omega))) (fun _ => j0 _ _ _ _ _ g1.1 (fun h => by cases h) (by omega))
theorem drawWalk_tot (c : List Int) (hc : Bytes c) : Tot (fun k => spec_DrawWalkOnion.f k c) (fun _ => True) := by
  simp only [spec_DrawWalkOnion.f]
  refine Tot.bind (route_tot c hc 0 0 (by omega)) (fun y1 g1 => Tot.bind (Tot.fix (body_tot c hc y1.2.2.1 y1.2.2.2 (by omega))) (fun y2 g2 => Tot.bind (Q := fun y => y = buildV y1.1 y1.2.1 y2.1) (Tot.at_ 1048578 rfl (fun k hk => specBuild_eq y1.1 y1.2.1 (by omega) (by omega) y2.1 k (by omega))) (fun y3 e3 => ?_)))
  exact Tot.ite (fun h1 => Tot.bind (Tot.fix (one_tot c hc _ _ 6 (by omega) (by omega))) (fun y4 g4 => Tot.ite (fun _ => Tot.pos h1 (Tot.some_ trivial)) (fun _ => Tot.some_ trivial))) (fun _ => Tot.some_ trivial)
theorem j0_tot (c : List Int) (hc : Bytes c) : Tot (fun k => laws_FnLayers.j0 k c) (fun y => y = true) := by
  refine Tot.up ?_
  simp only [laws_FnLayers.j0]
  refine Tot.bind (drawPeel_tot c hc) (fun a _ => Tot.bind (Q := fun y => y = peelV a.1 a.2) (Tot.at_ 61 rfl (fun k hk => implPeel_eq a.1 a.2 k (by omega))) (fun y1 e1 => Tot.bind (Q := fun y => y = peelV a.1 a.2) (Tot.at_ 61 rfl (fun k hk => specPeel_eq a.1 a.2 k (by omega))) (fun y2 e2 => ?_)))
  refine Tot.bind (drawWalk_tot c hc) (fun b _ => Tot.bind (Q := fun y => y = walkV b.1 b.2) (Tot.at_ 71 rfl (fun k hk => implWalk_eq b.1 b.2 k (by omega))) (fun y3 e3 => Tot.bind (Q := fun y => y = walkV b.1 b.2) (Tot.at_ 71 rfl (fun k hk => specWalk_eq b.1 b.2 k (by omega))) (fun y4 e4 => ?_)))
  subst e1 e2 e3 e4
  have hw := walkV_len b.1 b.2
  exact Tot.pos (by simp) (Tot.pos (by simp) (Tot.pos (by simp) (Tot.bind (sameInts_self _ (by omega)) (fun y5 e5 => Tot.pos e5 (Tot.some_ (by simp))))))
theorem FnLayers : laws_FnLayers.Pure := by
  intro l0 l1 hm0 hx0 hw0 hm1 hx1 hw1
  have hmx : maxLen = 9223372036854775807 := rfl
  refine Tot.ex ?_
  simp only [laws_FnLayers.f]
  rw [w64 (n := (l0.length : Int) + (l1.length : Int)) (by omega) (by omega)]
  refine Tot.ite (fun _ => Tot.some_ rfl) (fun hlen => ?_)
  have hb0 : Bytes l0 := bytes_of (by omega) hw0
  have hb1 : Bytes l1 := bytes_of (by omega) hw1
  have hj := j0_tot l1 hb1
  simp only [spec_DrawBuildOnion.f]
  refine Tot.bind (Q := fun y => y.1.length ≤ 6 ∧ y.2.1.length ≤ 6) (Tot.bind (route_tot l0 hb0 0 0 (by omega)) (fun y1 g1 => Tot.bind (Tot.fix (body_tot l0 hb0 _ _ (by omega))) (fun y2 g2 => Tot.some_ ⟨g1.2.1, g1.2.2.1⟩))) (fun y hy => ?_)
  obtain ⟨ks, hs, b⟩ := y
  simp only at hy ⊢
  refine Tot.bind (Q := fun y => y = buildV ks hs b) (Tot.at_ 1048578 rfl (fun k hk => implBuild_eq ks hs (by omega) (by omega) b k (by omega))) (fun y1 e1 => Tot.bind (Q := fun y => y = buildV ks hs b) (Tot.at_ 1048578 rfl (fun k hk => specBuild_eq ks hs (by omega) (by omega) b k (by omega))) (fun y2 e2 => ?_))
  subst e1 e2
  refine Tot.neg (by simp) (Tot.pos rfl (Tot.ite (fun hok => ?_) (fun _ => hj)))
  obtain ⟨c1, c2, c3, c4, c5⟩ := build_true hok
  have hz := build_size hok
  obtain ⟨d1, d2, d3, d4⟩ := build_walk hok
  generalize (buildV ks hs b).1 = s at hz d1 d2 d3 d4 ⊢
  refine Tot.bind (Q := fun y => y = walkV ks s) (Tot.at_ 71 rfl (fun k hk => implWalk_eq ks s k (by omega))) (fun y3 e3 => Tot.pos (by omega) (Tot.bind (Q := fun y => y = peelV (rd ks 0) s) (Tot.at_ 61 rfl (fun k hk => implPeel_eq _ s k (by omega))) (fun y4 e4 => ?_)))
  rw [e3, e4, d1]
  exact Tot.pos (by omega) (Tot.pos rfl (Tot.bind (sameInts_self hs (by omega)) (fun y5 e5 => Tot.pos e5 (Tot.pos rfl (Tot.pos d2 (Tot.pos (by omega) (Tot.pos d3 (Tot.pos (by omega) hj))))))))

end Go.Proofs.YtjpilaicnglmeaaDoor.Pure
