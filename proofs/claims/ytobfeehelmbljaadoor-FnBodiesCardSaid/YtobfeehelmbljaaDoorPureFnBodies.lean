/- Proved: what is said of bodies, their padding and what is unlike twice holds for all bytes that they are drawn from. Conditions: those of the given statement alone. -/
import Derived.Test.YtobfeehelmbljaaDoorPFnBodiesx7
import Derived.Test.YtobfeehelmbljaaDoorBase
set_option linter.unusedVariables false
set_option linter.unusedSimpArgs false
namespace Go.Proofs.YtobfeehelmbljaaDoor.Pure
open Go.RowKit Go.Proofs.YtobfeehelmbljaaDoor.PFnBodies Go.Proofs.YtobfeehelmbljaaDoor.Base Go.Proofs.YtobfeehelmbljaaDoorW.PrintWords Go.Proofs.YtobfeehelmbljaaDoorW.PrintLast Go.Proofs.YtobfeehelmbljaaDoorW.PrintMore Go.Proofs.YtobfeehelmbljaaDoor

theorem zeros_eq (n : Nat) : strOfNums (List.replicate n 0) = Hand.zeroB n := by
  unfold strOfNums Hand.zeroB
  rw [List.map_replicate]
  rfl
theorem zeroB_size (n : Nat) : (Hand.zeroB n).size = n := by
  unfold Hand.zeroB
  show ((List.replicate n (0 : UInt8)).toArray).size = n
  simp
theorem size_app (a b : ByteArray) : (a ++ b).size = a.size + b.size := by
  rw [ByteArray.size_append]

theorem repeat_eq (n : Nat) (h : n ≤ 4096) : strings_Repeat.f (⟨#[0]⟩ : ByteArray) (n : Int) = some (Hand.zeroB n) := by
  unfold strings_Repeat.f
  rw [if_pos ⟨rfl, by omega, by omega⟩, Int.toNat_natCast]

theorem bxor (x y : Nat) (hx : x < 65536) (hy : y < 65536) : Go.bits .xor .i64 (x : Int) (y : Int) = ((x ^^^ y : Nat) : Int) ∧ x ^^^ y < 65536 := by
  have hb : x ^^^ y < 2 ^ 16 := Nat.xor_lt_two_pow (by omega) (by omega)
  have h : Go.bits .xor .i64 (x : Int) (y : Int) = IntKind.i64.wrap ((((BitVec.ofInt 64 (x : Int)) ^^^ (BitVec.ofInt 64 (y : Int))).toNat : Nat) : Int) := rfl
  rw [h, BitVec.toNat_xor, BitVec.ofInt_natCast, BitVec.ofInt_natCast, BitVec.toNat_ofNat, BitVec.toNat_ofNat, Nat.mod_eq_of_lt (by omega : x < 2 ^ 64), Nat.mod_eq_of_lt (by omega : y < 2 ^ 64), IntWalk.i64_in _ (by omega)]
  exact ⟨rfl, by omega⟩
theorem bor (x y : Nat) (hx : x < 256) (hy : y < 256) : Go.bits .or .i64 ((x * 256 : Nat) : Int) (y : Int) = ((256 * x + y : Nat) : Int) := by
  have e : 2 ^ 8 * x + y = 2 ^ 8 * x ||| y := Nat.two_pow_add_eq_or_of_lt (by omega) x
  have h : Go.bits .or .i64 ((x * 256 : Nat) : Int) (y : Int) = IntKind.i64.wrap ((((BitVec.ofInt 64 ((x * 256 : Nat) : Int)) ||| (BitVec.ofInt 64 (y : Int))).toNat : Nat) : Int) := rfl
  rw [h, BitVec.toNat_or, BitVec.ofInt_natCast, BitVec.ofInt_natCast, BitVec.toNat_ofNat, BitVec.toNat_ofNat, Nat.mod_eq_of_lt (by omega : x * 256 < 2 ^ 64), Nat.mod_eq_of_lt (by omega : y < 2 ^ 64), show x * 256 ||| y = 256 * x + y by rw [Nat.mul_comm x 256]; exact e.symm, IntWalk.i64_in _ (by omega)]
theorem bt_nat (s : ByteArray) (i : Int) : ∃ p : Nat, bt s i = (p : Int) ∧ p < 256 := by
  have h := bt_range s i
  exact ⟨(bt s i).toNat, by omega, by omega⟩
/-- What a round makes of a half. -/
def rndV (key half : Nat) : Nat := ((half + key % 256) % 256 * ((half + key % 256) % 256) + (half + key % 256) % 256 * (key / 256) + 29) % 65521 % 256
theorem rndV_lt (a b : Nat) : rndV a b < 256 := Nat.mod_lt _ (by omega)
theorem round_eq (a b : Nat) (ha : a < 65536) (hb : b < 256) : impl_round.f (a : Int) (b : Int) = some ((rndV a b : Nat) : Int) := by
  unfold impl_round.f rndV
  have e1 : Int.tmod (a : Int) 256 = ((a % 256 : Nat) : Int) := tmod_nat a 256
  have e2 : Int.tdiv (a : Int) 256 = ((a / 256 : Nat) : Int) := tdiv_nat a 256
  have e3 : (b : Int) + ((a % 256 : Nat) : Int) = ((b + a % 256 : Nat) : Int) := rfl
  have h1 : a / 256 < 256 := by omega
  obtain ⟨q, hq⟩ : ∃ q, a / 256 = q := ⟨_, rfl⟩
  rw [e1, e2, e3, wnat _ (by omega)]
  have e4 : Int.tmod ((b + a % 256 : Nat) : Int) 256 = (((b + a % 256) % 256 : Nat) : Int) := tmod_nat _ 256
  rw [e4]
  obtain ⟨h, hh⟩ : ∃ h, (b + a % 256) % 256 = h := ⟨_, rfl⟩
  have hl : h < 256 := by omega
  rw [hh, hq]
  have m1 : h * h ≤ 256 * 256 := Nat.mul_le_mul (by omega) (by omega)
  have m2 : h * q ≤ 256 * 256 := Nat.mul_le_mul (by omega) (by omega)
  rw [← Int.natCast_mul, wnat q (by omega), ← Int.natCast_mul, wnat (h * h) (by omega), wnat (h * q) (by omega), ← Int.natCast_add, wnat _ (by omega), show (29 : Int) = ((29 : Nat) : Int) from rfl, ← Int.natCast_add, wnat _ (by omega)]
  have e5 : Int.tmod ((h * h + h * q + 29 : Nat) : Int) 65521 = (((h * h + h * q + 29) % 65521 : Nat) : Int) := tmod_nat _ 65521
  have e6 : Int.tmod (((h * h + h * q + 29) % 65521 : Nat) : Int) 256 = (((h * h + h * q + 29) % 65521 % 256 : Nat) : Int) := tmod_nat _ 256
  rw [e5, e6]
theorem round_spec (a b : Int) : spec_l4Round.f a b = impl_round.f a b := rfl
/-- Keys that are good. -/
def Keys (l : List Int) : Prop := l.length ≤ 8 ∧ ∀ x ∈ l, 0 ≤ x ∧ x ≤ 65535
theorem mix_l0 (l : List Int) (hl : Keys l) : ∀ (d i : Nat) (u v : Nat), l.length - i = d → i ≤ l.length → u < 256 → v < 256 →
    ∃ t : Nat, t < 65536 ∧ ∀ k, d < k → impl_mix.l0 k (u : Int) (v : Int) l (l.length : Int) (i : Int) = some (t : Int) ∧ spec_l4Mix.l0 k (u : Int) (v : Int) l (l.length : Int) (i : Int) = some (t : Int) := by
  have h8 := hl.1
  intro d
  induction d with
  | zero =>
    intro i u v hd hi hu hv
    refine ⟨u * 256 + v, by omega, fun k hk => ?_⟩
    obtain ⟨k, rfl⟩ := rounds hk
    simp only [impl_mix.l0, spec_l4Mix.l0]
    rw [if_neg (by omega), if_neg (by omega), show (u : Int) * 256 = ((u * 256 : Nat) : Int) from rfl, wnat _ (by omega), ← Int.natCast_add, wnat _ (by omega), show (256 : Int) * (u : Int) = ((256 * u : Nat) : Int) from rfl, wnat _ (by omega), ← Int.natCast_add, wnat _ (by omega), Nat.mul_comm]
    exact ⟨rfl, rfl⟩
  | succ d ih =>
    intro i u v hd hi hu hv
    have hlt : i < l.length := by omega
    have hx := hl.2 _ (List.getElem_mem hlt)
    obtain ⟨q, hq⟩ := Int.eq_ofNat_of_zero_le hx.1
    have hr := rndV_lt q v
    have hb := bxor u (rndV q v) (by omega) (by omega)
    have hb2 : u ^^^ rndV q v < 2 ^ 8 := Nat.xor_lt_two_pow (by omega) (by omega)
    obtain ⟨t, ht, h⟩ := ih (i + 1) v (u ^^^ rndV q v) (by omega) (by omega) hv (by omega)
    refine ⟨t, ht, fun k hk => ?_⟩
    obtain ⟨k, rfl⟩ := rounds hk
    simp only [impl_mix.l0, spec_l4Mix.l0]
    rw [if_pos (by omega), if_pos (by omega), if_pos (by omega), if_pos (by omega), if_pos (by omega), if_pos (by omega), rd_in l i hlt, hq, round_spec]
    rw [round_eq q v (by omega) hv]
    simp only [Option.bind_some]
    rw [hb.1, w64 (n := (i : Int) + 1) (by omega) (by omega)]
    exact h k (by omega)
theorem mix_tot (l : List Int) (hl : Keys l) (x : Nat) (hx : x < 65536) : ∃ t : Nat, t < 65536 ∧ ∀ k, 8 < k → impl_mix.f k l (x : Int) = some (t : Int) ∧ spec_l4Mix.f k l (x : Int) = some (t : Int) := by
  have h8 := hl.1
  obtain ⟨t, ht, h⟩ := mix_l0 l hl l.length 0 (x / 256) (x % 256) rfl (by omega) (by omega) (by omega)
  refine ⟨t, ht, fun k hk => ?_⟩
  unfold impl_mix.f spec_l4Mix.f
  have e1 : Int.tmod (x : Int) 256 = ((x % 256 : Nat) : Int) := tmod_nat x 256
  have e2 : Int.tdiv (x : Int) 256 = ((x / 256 : Nat) : Int) := tdiv_nat x 256
  rw [e1, e2, wnat _ (by omega)]
  exact h k (by omega)
theorem mixText_l0 (l : List Int) (hl : Keys l) (s : ByteArray) (hs : s.size ≤ 40) (h2 : s.size % 2 = 0) : ∀ (d i : Nat) (x : Nat) (out : List Int), s.size - 2 * i = 2 * d → 2 * i ≤ s.size → x < 65536 → out.length = 2 * i →
    ∃ y : List Int, y.length = s.size ∧ ∀ k, d + 8 < k → impl_mixText.l0 k l (x : Int) s out ((2 * i : Nat) : Int) = some (strOfNums y) ∧ spec_MixText.l0 k l (x : Int) s out ((2 * i : Nat) : Int) = some (strOfNums y, true) := by
  intro d
  induction d with
  | zero =>
    intro i x out hd hi hx ho
    refine ⟨out, by omega, fun k hk => ?_⟩
    obtain ⟨k, rfl⟩ := rounds hk
    simp only [impl_mixText.l0, spec_MixText.l0]
    rw [if_neg (by omega), if_neg (by omega)]
    exact ⟨rfl, rfl⟩
  | succ d ih =>
    intro i x out hd hi hx ho
    obtain ⟨p, hp, hp2⟩ := bt_nat s ((2 * i : Nat) : Int)
    obtain ⟨q, hq, hq2⟩ := bt_nat s (((2 * i : Nat) : Int) + 1)
    have hb := bxor (256 * p + q) x (by omega) hx
    obtain ⟨t, ht, h⟩ := mix_tot l hl _ hb.2
    have e1 : Int.tmod (t : Int) 256 = ((t % 256 : Nat) : Int) := tmod_nat t 256
    have e2 : Int.tdiv (t : Int) 256 = ((t / 256 : Nat) : Int) := tdiv_nat t 256
    obtain ⟨y, hy, hh⟩ := ih (i + 1) t (out ++ [((t / 256 : Nat) : Int), ((t % 256 : Nat) : Int)]) (by omega) (by omega) ht (by simp; omega)
    refine ⟨y, hy, fun k hk => ?_⟩
    obtain ⟨k, rfl⟩ := rounds hk
    simp only [impl_mixText.l0, spec_MixText.l0]
    rw [w64 (n := ((2 * i : Nat) : Int) + 1) (by omega) (by omega), w64 (n := ((2 * i : Nat) : Int) + 2) (by omega) (by omega), hp, hq, wnat _ (by omega), wnat _ (by omega)]
    rw [if_pos (by omega), if_pos (by omega), if_pos (by omega), if_pos (by omega), if_pos (by omega), if_pos (by omega), if_pos (by omega), if_pos (by omega)]
    rw [show (p : Int) * 256 = ((p * 256 : Nat) : Int) from rfl, wnat _ (by omega), bor p q hp2 hq2, show (256 : Int) * (p : Int) = ((256 * p : Nat) : Int) from rfl, wnat _ (by omega), ← Int.natCast_add, wnat _ (by omega), hb.1, (h k (by omega)).1, (h k (by omega)).2]
    simp only [Option.bind_some]
    rw [if_pos (by simp; omega), if_pos (by simp; omega), e1, e2, wnat _ (by omega)]
    have f1 : ((t : Int) / 256) % 256 = ((t / 256 : Nat) : Int) := by omega
    have f2 : (t : Int) % 256 = ((t % 256 : Nat) : Int) := by omega
    have f3 : ((t / 256 : Nat) : Int) % 256 = ((t / 256 : Nat) : Int) := by omega
    have f4 : ((t % 256 : Nat) : Int) % 256 = ((t % 256 : Nat) : Int) := by omega
    rw [f1, f2, f3, f4, show ((2 * i : Nat) : Int) + 2 = ((2 * (i + 1) : Nat) : Int) by omega]
    exact hh k (by omega)
theorem l1In_eq (a b c : Int) : spec_l1In.f a b c = some (decide (b ≤ a ∧ a ≤ c)) := by
  unfold spec_l1In.f
  by_cases h : a ≥ b
  · rw [if_pos h]
    congr 1
    simp only [decide_eq_decide]
    omega
  · rw [if_neg h]
    congr 1
    symm
    simp only [decide_eq_false_iff_not]
    omega
theorem within_eq (a b c : Int) : impl_within.f a b c = some (decide (b ≤ a ∧ a ≤ c)) := by
  unfold impl_within.f
  by_cases h : a ≥ b
  · rw [if_pos h]
    congr 1
    simp only [decide_eq_decide]
    omega
  · rw [if_neg h]
    congr 1
    symm
    simp only [decide_eq_false_iff_not]
    omega
theorem l1All_l0 (l : List Int) (hl : l.length ≤ 1048576) (a b : Int) : ∀ (d i : Nat), l.length - i = d → i ≤ l.length → (∀ j, (h : j < l.length) → j < i → a ≤ l[j] ∧ l[j] ≤ b) → ∀ k, d < k →
    spec_l1All.l0 k a b l (l.length : Int) (i : Int) = some (decide (∀ x ∈ l, a ≤ x ∧ x ≤ b)) := by
  intro d
  induction d with
  | zero =>
    intro i hd hi ht k hk
    obtain ⟨k, rfl⟩ := rounds hk
    simp only [spec_l1All.l0]
    rw [if_neg (by omega)]
    congr 1
    symm
    rw [decide_eq_true_iff]
    intro x hx
    obtain ⟨j, hj, rfl⟩ := List.mem_iff_getElem.1 hx
    exact ht j hj (by omega)
  | succ d ih =>
    intro i hd hi ht k hk
    obtain ⟨k, rfl⟩ := rounds hk
    have hlt : i < l.length := by omega
    simp only [spec_l1All.l0]
    rw [if_pos (by omega), if_pos (by omega), if_pos (by omega), l1In_eq, rd_in l i hlt]
    simp only [Option.bind_some]
    by_cases h : a ≤ l[i] ∧ l[i] ≤ b
    · rw [decide_eq_true h, if_pos rfl, w64 (n := (i : Int) + 1) (by omega) (by omega)]
      exact ih (i + 1) (by omega) (by omega) (fun j hj hji => by
        by_cases e : j < i
        · exact ht j hj e
        · obtain rfl : j = i := by omega
          exact h) k (by omega)
    · rw [decide_eq_false h, if_neg (by simp)]
      congr 1
      symm
      rw [decide_eq_false_iff_not]
      exact fun hc => h (hc _ (List.getElem_mem hlt))
theorem l1All_eq (l : List Int) (hl : l.length ≤ 1048576) (a b : Int) (k : Nat) (hk : l.length < k) : spec_l1All.f k l a b = some (decide (∀ x ∈ l, a ≤ x ∧ x ≤ b)) := by
  unfold spec_l1All.f
  exact l1All_l0 l hl a b l.length 0 rfl (by omega) (fun j _ h => by omega) k hk
theorem keys3 (a : Int) (h : 0 ≤ a ∧ a ≤ 65535) : Keys [a, a, a] := ⟨by simp, fun x hx => by
  simp only [List.mem_cons, List.mem_nil_iff, or_false, or_self] at hx
  rw [hx]
  exact h⟩
theorem strOf_size (y : List Int) : (strOfNums y).size = y.length := by
  unfold strOfNums
  show ((y.map fun n => UInt8.ofNat n.toNat).toArray).size = _
  simp
/-- The bytes of a key: what both tell. -/
theorem pad_tot (a : Int) (ha : 0 ≤ a ∧ a ≤ 65535) (n : Nat) (hn : n ≤ 40) (h2 : n % 2 = 0) : ∃ y : ByteArray, y.size = n ∧ ∀ k, 40 < k → impl_pad.f k a (n : Int) = some y ∧ spec_l7Pad.f k a (n : Int) = some y := by
  obtain ⟨q, rfl⟩ := Int.eq_ofNat_of_zero_le ha.1
  have hz := zeroB_size n
  obtain ⟨y, hy, h⟩ := mixText_l0 [(q : Int), (q : Int), (q : Int)] (keys3 _ ha) (Hand.zeroB n) (by omega) (by omega) (n / 2) 0 q [] (by omega) (by omega) (by omega) rfl
  refine ⟨strOfNums y, by rw [strOf_size]; omega, fun k hk => ?_⟩
  have hh := h k (by omega)
  unfold impl_pad.f spec_l7Pad.f impl_mixText.f spec_MixText.f spec_l4Text.f spec_l4Keys.f spec_l4Key.f
  rw [repeat_eq n (by omega), if_pos (by omega), Int.toNat_natCast, if_pos (by omega), zeros_eq]
  simp only [Option.bind_some]
  rw [if_pos (by simp), l1All_eq _ (by simp) _ _ k (by simp; omega), l1In_eq, decide_eq_true (fun x hx => (keys3 _ ha).2 x hx), decide_eq_true ha]
  simp only [Option.bind_some, if_true]
  rw [if_pos (by omega), hz, show (((n : Nat) : Int) % 2 == 0) = true by rw [beq_iff_eq]; omega]
  simp only [Option.bind_some, if_true]
  have e0 : ((2 * 0 : Nat) : Int) = 0 := rfl
  rw [e0] at hh
  rw [hh.1, hh.2]
  exact ⟨rfl, rfl⟩

theorem check_l0 (s : ByteArray) (hs : s.size ≤ 40) : ∀ (d i : Nat) (x : Nat), s.size - i = d → i ≤ s.size → x ≤ 10200 * i →
    ∃ c : Nat, c < 251 ∧ ∀ k, d < k → impl_check.l0 k s (x : Int) (s.size : Int) (i : Int) = some (c : Int) ∧ spec_l7Check.l0 k s (x : Int) (i : Int) = some (c : Int) := by
  intro d
  induction d with
  | zero =>
    intro i x hd hi hx
    refine ⟨x % 251, Nat.mod_lt _ (by omega), fun k hk => ?_⟩
    obtain ⟨k, rfl⟩ := rounds hk
    simp only [impl_check.l0, spec_l7Check.l0]
    rw [if_neg (by omega), if_neg (by omega)]
    have e : Int.tmod (x : Int) 251 = ((x % 251 : Nat) : Int) := tmod_nat x 251
    rw [e]
    exact ⟨rfl, rfl⟩
  | succ d ih =>
    intro i x hd hi hx
    obtain ⟨p, hp, hp2⟩ := bt_nat s (i : Int)
    have hm : p * (i + 1) ≤ 255 * 40 := Nat.mul_le_mul (by omega) (by omega)
    obtain ⟨c, hc, h⟩ := ih (i + 1) (x + p * (i + 1)) (by omega) (by omega) (by omega)
    refine ⟨c, hc, fun k hk => ?_⟩
    obtain ⟨k, rfl⟩ := rounds hk
    simp only [impl_check.l0, spec_l7Check.l0]
    rw [if_pos (by omega), if_pos (by omega), if_pos (by omega), if_pos (by omega), if_pos (by omega), hp, wnat p (by omega), w64 (n := (i : Int) + 1) (by omega) (by omega), show (i : Int) + 1 = ((i + 1 : Nat) : Int) from rfl, ← Int.natCast_mul, wnat _ (by omega), ← Int.natCast_add, wnat _ (by omega)]
    exact h k (by omega)
theorem check_tot (s : ByteArray) (hs : s.size ≤ 40) : ∃ c : Nat, c < 251 ∧ ∀ k, 40 < k → impl_check.f k s = some (c : Int) ∧ spec_l7Check.f k s = some (c : Int) := by
  obtain ⟨c, hc, h⟩ := check_l0 s hs s.size 0 0 rfl (by omega) (by omega)
  exact ⟨c, hc, fun k hk => h k (by omega)⟩
/-- The check of bytes. -/
noncomputable def chkV (s : ByteArray) : Nat := if h : s.size ≤ 40 then (check_tot s h).choose else 0
theorem chkV_spec (s : ByteArray) (hs : s.size ≤ 40) : chkV s < 251 ∧ ∀ k, 40 < k → impl_check.f k s = some ((chkV s : Nat) : Int) ∧ spec_l7Check.f k s = some ((chkV s : Nat) : Int) := by
  unfold chkV
  rw [dif_pos hs]
  exact (check_tot s hs).choose_spec
/-- The bytes of a key for an onion. -/
noncomputable def padK (a : Int) : ByteArray := if h : 0 ≤ a ∧ a ≤ 65535 then (pad_tot a h 24 (by omega) (by omega)).choose else ⟨#[]⟩
theorem padK_spec (a : Int) (h : 0 ≤ a ∧ a ≤ 65535) : (padK a).size = 24 ∧ ∀ k, 40 < k → impl_pad.f k a 24 = some (padK a) ∧ spec_l7Pad.f k a 24 = some (padK a) := by
  unfold padK
  rw [dif_pos h]
  exact (pad_tot a h 24 (by omega) (by omega)).choose_spec
theorem xorB_size (a b : ByteArray) : (Hand.xorB a b).size = a.size := by
  unfold Hand.xorB
  show ((Hand.xorL a.data.toList b.data.toList).toArray).size = _
  rw [List.size_toArray, Hand.xorL_length, data_length]
theorem size_ext (a : ByteArray) (i j : Nat) (h : j ≤ a.size) : (a.extract i j).size = j - i := by
  rw [ByteArray.size_extract, Nat.min_eq_left h]

/-- A body with its padding. -/
def padV (a : ByteArray) : ByteArray := (a ++ (⟨#[128]⟩ : ByteArray)) ++ Hand.zeroB (15 - a.size)
theorem padV_size (a : ByteArray) (h : a.size < 16) : (padV a).size = 16 := by
  unfold padV
  rw [size_app, size_app, zeroB_size]
  show a.size + 1 + _ = _
  omega
theorem specPadded_eq (a : ByteArray) (h : a.size < 16) : spec_l7PadBody.f a = some (padV a) := by
  have e : wrap64 (15 - (a.size : Int)) = ((15 - a.size : Nat) : Int) := by
    rw [w64 (by omega) (by omega)]
    omega
  unfold spec_l7PadBody.f
  rw [if_pos (by omega), e, if_pos (by omega), Int.toNat_natCast, if_pos (by omega)]
  simp only [Option.bind_some]
  rw [zeros_eq, if_pos]
  · rfl
  · rw [zeroB_size]
    omega
theorem implPadded_eq (a : ByteArray) (h : a.size < 16) : impl_padded.f a = some (padV a) := by
  have e : wrap64 (15 - (a.size : Int)) = ((15 - a.size : Nat) : Int) := by
    rw [w64 (by omega) (by omega)]
    omega
  unfold impl_padded.f
  rw [if_pos (by omega), e, repeat_eq _ (by omega)]
  simp only [Option.bind_some]
  rw [if_pos]
  · rfl
  · rw [zeroB_size]
    omega

/-- A row without the zeros at its end. -/
def trimL (l : List UInt8) : List UInt8 := (l.reverse.dropWhile (· == 0)).reverse
theorem trimL_zero (l : List UInt8) : trimL (l ++ [0]) = trimL l := by
  unfold trimL
  simp
theorem trimL_keep (l : List UInt8) (c : UInt8) (h : c ≠ 0) : trimL (l ++ [c]) = l ++ [c] := by
  unfold trimL
  rw [List.reverse_append]
  simp [h]
theorem trimL_len (l : List UInt8) : (trimL l).length ≤ l.length := by
  unfold trimL
  rw [List.length_reverse]
  have := (List.dropWhile_suffix (l := l.reverse) (fun x : UInt8 => x == 0)).length_le
  simpa using this
/-- The body in a row with its padding. -/
def bodyL (l : List UInt8) : List UInt8 × Bool := if [128].isSuffixOf (trimL l) then ((trimL l).take ((trimL l).length - 1), true) else ([], false)
theorem bodyL_zero (l : List UInt8) : bodyL (l ++ [0]) = bodyL l := by
  unfold bodyL
  rw [trimL_zero]
theorem bodyL_128 (l : List UInt8) : bodyL (l ++ [128]) = (l, true) := by
  unfold bodyL
  rw [trimL_keep l 128 (by decide), if_pos]
  · simp
  · rw [List.isSuffixOf_iff_suffix]
    exact List.suffix_append _ _
theorem bodyL_other (l : List UInt8) (c : UInt8) (h : c ≠ 0) (h2 : c ≠ 128) : bodyL (l ++ [c]) = ([], false) := by
  unfold bodyL
  rw [trimL_keep l c h, if_neg]
  rw [List.isSuffixOf_iff_suffix]
  rintro ⟨t, ht⟩
  have := (List.append_inj' ht rfl).2
  simp at this
  exact h2 this.symm
theorem bodyL_nil : bodyL [] = ([], false) := rfl
def bodyV (s : ByteArray) : ByteArray × Bool := if s.size = 16 then (⟨(bodyL s.data.toList).1.toArray⟩, (bodyL s.data.toList).2) else (⟨#[]⟩, false)
theorem take_snoc8 (l : List UInt8) (i : Nat) (h : i < l.length) : l.take (i + 1) = l.take i ++ [l[i]] := by
  rw [List.take_succ_eq_append_getElem h]
theorem extract_data (s : ByteArray) (n : Nat) : s.extract 0 n = ⟨(s.data.toList.take n).toArray⟩ := by
  apply ByteArray.ext
  rw [ByteArray.data_extract]
  apply Array.ext'
  simp [Array.toList_extract, List.extract_eq_take_drop]
theorem mk_list (s : ByteArray) : (⟨s.data.toList.toArray⟩ : ByteArray) = s := rfl
theorem specUnpad_l0 (s : ByteArray) (hs : s.size = 16) : ∀ (i : Nat), i < 16 → ∀ k, i < k → spec_UnpadBody.l0 k s (i : Int) = some (⟨(bodyL (s.data.toList.take (i + 1))).1.toArray⟩, (bodyL (s.data.toList.take (i + 1))).2) := by
  have hl : s.data.toList.length = 16 := by rw [data_length, hs]
  have hbt : ∀ (i : Nat) (hi : i < s.data.toList.length), bt s (i : Int) = ((s.data.toList[i].toNat : Nat) : Int) := by
    intro i hi
    have := bt_at s (i : Int) (by rw [Int.toNat_natCast]; omega)
    rw [← this]
    simp [Int.toNat_natCast]
    rfl
  intro i
  induction i with
  | zero =>
    intro hi k hk
    obtain ⟨k, rfl⟩ := rounds hk
    have h0 := hbt 0 (by omega)
    simp only [spec_UnpadBody.l0]
    rw [if_neg (by omega), if_pos (by omega), if_pos (by omega), h0, take_snoc8 _ 0 (by omega)]
    by_cases e : s.data.toList[0] = 128
    · rw [e, bodyL_128, if_pos (show ((UInt8.toNat 128 : Nat) : Int) = 128 from rfl), if_pos (by omega), extract_data]
      rfl
    · rw [if_neg (fun h => e (UInt8.toNat_inj.1 (by have : (128 : UInt8).toNat = 128 := rfl; omega)))]
      by_cases e2 : s.data.toList[0] = 0
      · rw [e2, bodyL_zero, List.take_zero, bodyL_nil]
      · rw [bodyL_other _ _ e2 e]
  | succ i ih =>
    intro hi k hk
    obtain ⟨k, rfl⟩ := rounds hk
    have h0 := hbt (i + 1) (by omega)
    simp only [spec_UnpadBody.l0]
    rw [if_pos (by omega), if_pos (by omega), if_pos (by omega), h0, take_snoc8 _ (i + 1) (by omega)]
    by_cases e2 : s.data.toList[i + 1] = 0
    · rw [e2, bodyL_zero, if_pos (show ((UInt8.toNat 0 : Nat) : Int) = 0 from rfl), w64 (n := ((i + 1 : Nat) : Int) - 1) (by omega) (by omega), show ((i + 1 : Nat) : Int) - 1 = (i : Int) by omega]
      exact ih (by omega) k (by omega)
    · rw [if_neg (fun h => e2 (UInt8.toNat_inj.1 (by have : (0 : UInt8).toNat = 0 := rfl; omega)))]
      by_cases e : s.data.toList[i + 1] = 128
      · rw [e, bodyL_128, if_pos (show ((UInt8.toNat 128 : Nat) : Int) = 128 from rfl), if_pos (by omega), extract_data]
        rfl
      · rw [if_neg (fun h => e (UInt8.toNat_inj.1 (by have : (128 : UInt8).toNat = 128 := rfl; omega))), bodyL_other _ _ e2 e]
theorem specUnpad_eq (s : ByteArray) (k : Nat) (hk : 16 < k) : spec_UnpadBody.f k s = some (bodyV s) := by
  unfold spec_UnpadBody.f bodyV
  by_cases h : s.size = 16
  · rw [if_pos (by omega), if_pos h, w64 (n := (s.size : Int) - 1) (by omega) (by omega), show (s.size : Int) - 1 = ((15 : Nat) : Int) by omega, specUnpad_l0 s h 15 (by omega) k (by omega), List.take_of_length_le (by rw [data_length]; omega)]
  · rw [if_neg (by omega), if_neg h]
theorem trimB_data (s : ByteArray) : (Hand.trimB s).data.toList = trimL s.data.toList := rfl
theorem implUnpad_eq (s : ByteArray) (hs : s.size ≤ 9223372036854775807) : impl_UnpadBody.f s = some (bodyV s) := by
  unfold impl_UnpadBody.f bodyV strings_TrimRight.f strings_HasSuffix.f
  have hz : (Hand.trimB s).size = (trimL s.data.toList).length := by rw [← trimB_data, data_length]
  have hle := trimL_len s.data.toList
  rw [data_length] at hle
  rw [if_pos ⟨rfl, hs⟩]
  simp only [Option.bind_some]
  by_cases h : s.size = 16
  · rw [if_pos (by omega), if_pos h, if_pos (by omega), trimB_data]
    simp only [Option.bind_some, Lib.hasSuffix]
    unfold bodyL
    by_cases e : ([128] : List UInt8).isSuffixOf (trimL s.data.toList) = true
    · have hp : 0 < (trimL s.data.toList).length := by
        rw [List.isSuffixOf_iff_suffix] at e
        have := e.length_le
        simp only [List.length_singleton] at this
        omega
      rw [if_pos e]
      have e' : ((⟨#[128]⟩ : ByteArray).data.toList.isSuffixOf (trimL s.data.toList)) = true := e
      rw [if_pos e', w64 (by omega) (by omega), if_pos (by omega), if_pos (by omega), extract_data, trimB_data, show ((((Hand.trimB s).size : Int) - 1).toNat) = (trimL s.data.toList).length - 1 by omega]
    · rw [if_neg e]
      have e' : ¬ ((⟨#[128]⟩ : ByteArray).data.toList.isSuffixOf (trimL s.data.toList)) = true := e
      rw [if_neg e']
  · rw [if_neg (by omega), if_neg h]

/-- The bits of a letter: where it stands is small, its bytes are bytes. -/
def Bytes (l : List Int) : Prop := l.length ≤ 1048576 ∧ ∀ x ∈ l, 0 ≤ x ∧ x ≤ 255
theorem and255 (E : Int) : 0 ≤ Go.bits .and .u64 E 255 ∧ Go.bits .and .u64 E 255 ≤ 255 := by
  have h : Go.bits .and .u64 E 255 = IntKind.u64.wrap (((BitVec.ofInt 64 E) &&& (BitVec.ofInt 64 255)).toNat : Int) := rfl
  have h2 : ((BitVec.ofInt 64 E) &&& (BitVec.ofInt 64 255)).toNat ≤ 255 := by
    rw [BitVec.toNat_and]
    exact Nat.and_le_right
  have h3 : IntKind.u64.wrap (((BitVec.ofInt 64 E) &&& (BitVec.ofInt 64 255)).toNat : Int) = (((BitVec.ofInt 64 E) &&& (BitVec.ofInt 64 255)).toNat : Int) := by
    show (_ : Int) % 2 ^ 64 = _
    omega
  rw [h, h3]
  omega
def CurOk (p' p : Int) : Prop := p ≤ p' ∧ p' ≤ p + 2
theorem next_tot (l : List Int) (hl : Bytes l) (p h : Int) (hp : 0 ≤ p ∧ p ≤ 1099511627776) : ∃ y, spec_l1Cur_next.f l p h = some y ∧ (0 ≤ y.1 ∧ y.1 ≤ 255 ∧ y.2.1 = p + 1) := by
  have hl1 := hl.1
  unfold spec_l1Cur_next.f
  rw [w64 (n := p + 1) (by omega) (by omega)]
  by_cases h1 : p < (l.length : Int)
  · obtain ⟨i, rfl⟩ := Int.eq_ofNat_of_zero_le hp.1
    have h2 := hl.2 _ (rd_mem l i (by omega))
    rw [if_pos h1, if_pos hp.1, if_pos (by omega)]
    refine ⟨_, rfl, ?_⟩
    simp only
    rw [w64 (by omega) (by omega)]
    exact ⟨h2.1, h2.2, trivial⟩
  · rw [if_neg h1, if_neg (by omega)]
    refine ⟨_, rfl, ?_⟩
    have h3 := and255 ((IntKind.u64.wrap ((IntKind.u64.wrap ((IntKind.u64.wrap (h * 6364136223846793005)) + 0)) + 1442695040888963407)) / 1099511627776)
    simp only
    rw [w64 (by omega) (by omega)]
    exact ⟨h3.1, h3.2, trivial⟩
theorem pick_tot (l : List Int) (hl : Bytes l) (p h a : Int) (hp : 0 ≤ p ∧ p ≤ 549755813888) (ha : a ≤ 1048576) : ∃ y, spec_l1Cur_pick.f l p h a = some y ∧ (0 ≤ y.1 ∧ (y.1 < a ∨ y.1 = 0) ∧ p ≤ y.2.1 ∧ y.2.1 ≤ p + 2) := by
  unfold spec_l1Cur_pick.f
  by_cases h1 : a ≤ 1
  · rw [if_pos h1]
    exact ⟨_, rfl, by simp only; omega, .inr rfl, by simp only; omega, by simp only; omega⟩
  · rw [if_neg h1]
    obtain ⟨⟨b, p1, h'⟩, e1, hb0, hb1, hp1⟩ := next_tot l hl p h (by omega)
    simp only at hb0 hb1 hp1
    rw [e1]
    simp only [Option.bind_some]
    by_cases h2 : a > 200
    · obtain ⟨⟨c, p2, h''⟩, e2, hc0, hc1, hp2⟩ := next_tot l hl p1 h' (by omega)
      simp only at hc0 hc1 hp2
      rw [if_pos h2, e2]
      simp only [Option.bind_some]
      rw [if_neg (by omega), w64 (n := b * 256) (by omega) (by omega), w64 (by omega) (by omega), Int.tmod_eq_emod_of_nonneg (by omega)]
      have h3 := Int.emod_nonneg (b * 256 + c) (show a ≠ 0 by omega)
      have h4 := Int.emod_lt_of_pos (b * 256 + c) (show 0 < a by omega)
      exact ⟨_, rfl, h3, .inl h4, by simp only; omega, by simp only; omega⟩
    · rw [if_neg h2, if_neg (by omega), Int.tmod_eq_emod_of_nonneg (by omega)]
      have h3 := Int.emod_nonneg b (show a ≠ 0 by omega)
      have h4 := Int.emod_lt_of_pos b (show 0 < a by omega)
      exact ⟨_, rfl, h3, .inl h4, by simp only; omega, by simp only; omega⟩

theorem one_tot (l : List Int) (hl : Bytes l) (p h a : Int) (hp : 0 ≤ p ∧ p ≤ 549755813888) (ha : a ≤ 1048576) : ∃ y, spec_l1Cur_one.f l p h a = some y ∧ (p ≤ y.2.1 ∧ y.2.1 ≤ p + 2) := by
  unfold spec_l1Cur_one.f
  obtain ⟨⟨b, p1, h'⟩, e1, hb0, hb1, hp0, hp1⟩ := pick_tot l hl p h a hp ha
  simp only at hp0 hp1
  rw [e1]
  exact ⟨_, rfl, hp0, hp1⟩

theorem among_tot (l : List Int) (hl : Bytes l) (p h : Int) (m : List Int) (hp : 0 ≤ p ∧ p ≤ 549755813888) (hm : 0 < m.length) (hm2 : m.length ≤ 1048576) : ∃ y, spec_l1Cur_among.f l p h m = some y ∧ (y.1 ∈ m ∧ p ≤ y.2.1 ∧ y.2.1 ≤ p + 2) := by
  unfold spec_l1Cur_among.f
  obtain ⟨⟨b, p1, h'⟩, e1, hb0, hb1, hp0, hp1⟩ := pick_tot l hl p h (m.length : Int) hp (by omega)
  simp only at hb0 hb1 hp0 hp1
  rw [e1]
  simp only [Option.bind_some]
  obtain ⟨i, rfl⟩ := Int.eq_ofNat_of_zero_le hb0
  rw [if_pos hb0, if_pos (by omega)]
  exact ⟨_, rfl, rd_mem m i (by omega), by simp only; omega, by simp only; omega⟩

theorem bytes_of {l : List Int} (h : l.length ≤ 1048576) (hw : ∀ x ∈ l, (Lit.int .u8 x).wf = true) : Bytes l := by
  refine ⟨h, fun x hx => ?_⟩
  have h2 := hw x hx
  simp only [Lit.wf, Bool.and_eq_true, decide_eq_true_iff] at h2
  exact h2

theorem of_tot (l : List Int) (hl : Bytes l) (p h : Int) (m : List ByteArray) (hp : 0 ≤ p ∧ p ≤ 549755813888) (hm : 0 < m.length) (hm2 : m.length ≤ 1048576) : ∃ y, spec_l1Cur_of.f l p h m = some y ∧ (y.1 ∈ m ∧ p ≤ y.2.1 ∧ y.2.1 ≤ p + 2) := by
  unfold spec_l1Cur_of.f
  obtain ⟨⟨b, p1, h'⟩, e1, hb0, hb1, hp0, hp1⟩ := pick_tot l hl p h (m.length : Int) hp (by omega)
  simp only at hb0 hb1 hp0 hp1
  rw [e1]
  simp only [Option.bind_some]
  obtain ⟨i, rfl⟩ := Int.eq_ofNat_of_zero_le hb0
  rw [if_pos hb0, if_pos (by omega)]
  have hi : i < m.length := by omega
  refine ⟨_, rfl, ?_, by simp only; omega, by simp only; omega⟩
  show rdOf ByteArray.empty m (i : Int) ∈ m
  unfold rdOf
  rw [Int.toNat_natCast, List.getD_eq_getElem?_getD, List.getElem?_eq_getElem hi]
  exact List.getElem_mem hi

theorem body_tot (l : List Int) (hl : Bytes l) (p h : Int) (hp : 0 ≤ p ∧ p ≤ 549755813888) : ∃ y, spec_l1Cur_body.f l p h = some y ∧ (y.1.size ≤ 16 ∧ p ≤ y.2.1 ∧ y.2.1 ≤ p + 2) := by
  unfold spec_l1Cur_body.f
  obtain ⟨y, e, h1, h2, h3⟩ := of_tot l hl p h _ hp (show 0 < ([(⟨#[]⟩ : ByteArray), (⟨#[97]⟩ : ByteArray), (⟨#[104, 101, 108, 108, 111]⟩ : ByteArray), (⟨#[102, 105, 102, 116, 101, 101, 110, 32, 98, 121, 116, 101, 115, 46, 46]⟩ : ByteArray), (⟨#[115, 105, 120, 116, 101, 101, 110, 32, 98, 121, 116, 101, 115, 46, 46, 46]⟩ : ByteArray), (⟨#[128, 0]⟩ : ByteArray), (⟨#[101, 110, 100, 115, 0]⟩ : ByteArray)] : List ByteArray).length by simp) (by simp)
  rw [e]
  refine ⟨_, rfl, ?_, h2, h3⟩
  simp only [List.mem_cons, List.mem_nil_iff, or_false] at h1
  rcases h1 with h1 | h1 | h1 | h1 | h1 | h1 | h1 <;> (rw [h1]; decide)

theorem trimL_zeros (l : List UInt8) : ∀ n : Nat, trimL (l ++ List.replicate n 0) = trimL l := by
  intro n
  induction n with
  | zero => simp
  | succ n ih =>
    rw [List.replicate_succ', ← List.append_assoc, trimL_zero]
    exact ih
theorem trimL_back (l : List UInt8) : l = trimL l ++ List.replicate (l.length - (trimL l).length) 0 := by
  have h := List.takeWhile_append_dropWhile (p := fun x : UInt8 => x == 0) (l := l.reverse)
  have h0 : l.reverse.takeWhile (fun x : UInt8 => x == 0) = List.replicate (l.reverse.takeWhile (fun x : UInt8 => x == 0)).length 0 := by
    rw [List.eq_replicate_iff]
    refine ⟨rfl, fun b hb => ?_⟩
    have := List.all_eq_true.1 List.all_takeWhile b hb
    simpa using this
  have h1 : l = trimL l ++ (l.reverse.takeWhile (fun x : UInt8 => x == 0)).reverse := by
    have h2 := congrArg List.reverse h
    rw [List.reverse_append, List.reverse_reverse] at h2
    exact h2.symm
  have h3 : (l.reverse.takeWhile (fun x : UInt8 => x == 0)).length = l.length - (trimL l).length := by
    have := congrArg List.length h1
    rw [List.length_append, List.length_reverse] at this
    omega
  rw [h0, List.reverse_replicate, h3] at h1
  exact h1
theorem bodyL_pad (l : List UInt8) (n : Nat) : bodyL (l ++ [128] ++ List.replicate n 0) = (l, true) := by
  have h : bodyL (l ++ [128] ++ List.replicate n 0) = bodyL (l ++ [128]) := by
    unfold bodyL
    rw [trimL_zeros]
  rw [h, bodyL_128]
theorem padV_data (s : ByteArray) : (padV s).data.toList = s.data.toList ++ [128] ++ List.replicate (15 - s.size) 0 := by
  unfold padV Hand.zeroB
  rw [ByteArray.data_append, ByteArray.data_append, Array.toList_append, Array.toList_append]
theorem unpad_pad (s : ByteArray) (h : s.size < 16) : bodyV (padV s) = (s, true) := by
  unfold bodyV
  rw [if_pos (padV_size s h), padV_data, bodyL_pad]
theorem pad_unpad (t : ByteArray) (h : (bodyV t).2 = true) : (bodyV t).1.size < 16 ∧ padV (bodyV t).1 = t := by
  unfold bodyV at h ⊢
  by_cases hs : t.size = 16
  · rw [if_pos hs] at h ⊢
    simp only at h ⊢
    have hb := trimL_back t.data.toList
    have hl : t.data.toList.length = 16 := by rw [data_length, hs]
    have hle := trimL_len t.data.toList
    by_cases e : ([128] : List UInt8).isSuffixOf (trimL t.data.toList) = true
    · have e2 := e
      rw [List.isSuffixOf_iff_suffix] at e2
      obtain ⟨u, hu⟩ := e2
      have hb2 : bodyL t.data.toList = (u, true) := by
        unfold bodyL
        rw [if_pos e, ← hu]
        simp
      have hul : u.length + 1 = (trimL t.data.toList).length := by rw [← hu]; simp
      rw [hb2]
      have hsz : (⟨u.toArray⟩ : ByteArray).size = u.length := by
        show u.toArray.size = _
        simp
      refine ⟨by simp only; omega, ?_⟩
      apply ByteArray.ext
      apply Array.ext'
      rw [padV_data]
      simp only [hsz]
      rw [hb, ← hu, hl]
      simp only [List.length_append, List.length_singleton]
      rw [show 16 - (u.length + 1) = 15 - u.length by omega]
    · have : bodyL t.data.toList = ([], false) := by
        unfold bodyL
        rw [if_neg e]
      rw [this] at h
      simp at h
  · rw [if_neg hs] at h
    simp at h
theorem xorL_twice : ∀ (a b : List UInt8), Hand.xorL (Hand.xorL a b) b = a
  | [], _ => by simp [Hand.xorL]
  | _ :: _, [] => by simp [Hand.xorL]
  | x :: a, y :: b => by
    simp only [Hand.xorL]
    rw [xorL_twice a b, UInt8.xor_assoc, UInt8.xor_self, UInt8.xor_zero]
theorem xorB_twice (a b : ByteArray) : Hand.xorB (Hand.xorB a b) b = a := by
  have h := xorL_twice a.data.toList b.data.toList
  unfold Hand.xorB
  simp only [h]
def padBV (s : ByteArray) : ByteArray × Bool := if s.size < 16 then (padV s, true) else (⟨#[]⟩, false)
theorem implPadBody_eq (s : ByteArray) : impl_PadBody.f s = some (padBV s) := by
  unfold impl_PadBody.f padBV
  by_cases h : s.size < 16
  · rw [if_neg (by omega), implPadded_eq s h, if_pos h]
    rfl
  · rw [if_pos (by omega), if_neg h]
theorem specPadBody_eq (s : ByteArray) : spec_PadBody.f s = some (padBV s) := by
  unfold spec_PadBody.f spec_l7Body.f padBV
  simp only [Option.bind_some]
  by_cases h : s.size < 16
  · rw [decide_eq_true (show (s.size : Int) < 16 by omega), if_pos rfl, specPadded_eq s h, if_pos h]
    rfl
  · rw [decide_eq_false (show ¬ (s.size : Int) < 16 by omega), if_neg (by simp), if_neg h]
def xorTV (a b : ByteArray) : ByteArray × Bool := if a.size = b.size ∧ a.size ≤ 40 then (Hand.xorB a b, true) else (⟨#[]⟩, false)
theorem implXor_eq (a b : ByteArray) : impl_XorTexts.f a b = some (xorTV a b) := by
  unfold impl_XorTexts.f impl_xor.f xorTV
  by_cases e : a.size = b.size
  · rw [if_pos (show (a.size : Int) = (b.size : Int) by omega)]
    by_cases c3 : (a.size : Int) > 40
    · rw [if_pos c3, if_neg (fun h => by omega)]
    · rw [if_neg c3, if_pos (show a.size ≤ b.size ∧ a.size ≤ 140737488355328 from ⟨by omega, by omega⟩), if_pos (show a.size = b.size ∧ a.size ≤ 40 from ⟨e, by omega⟩)]
      rfl
  · rw [if_neg (show ¬ (a.size : Int) = (b.size : Int) by omega), if_neg (fun h => e h.1)]
theorem specXor_eq (a b : ByteArray) : spec_XorTexts.f a b = some (xorTV a b) := by
  unfold spec_XorTexts.f spec_l7Xor.f xorTV
  by_cases e : a.size = b.size
  · rw [if_pos (show (a.size : Int) = (b.size : Int) by omega)]
    by_cases c3 : (a.size : Int) > 40
    · rw [if_pos c3, if_neg (fun h => by omega)]
    · rw [if_neg c3, if_pos (show a.size ≤ b.size ∧ a.size ≤ 140737488355328 from ⟨by omega, by omega⟩), if_pos (show a.size = b.size ∧ a.size ≤ 40 from ⟨e, by omega⟩)]
      rfl
  · rw [if_neg (show ¬ (a.size : Int) = (b.size : Int) by omega), if_neg (fun h => e h.1)]
theorem padFor_tot (a b : Int) : ∃ y, ∀ k, 40 < k → impl_PadFor.f k a b = some y ∧ spec_PadFor.f k a b = some y := by
  unfold spec_PadFor.f impl_PadFor.f spec_l4Key.f impl_isKey.f
  simp only [l1In_eq, within_eq, Option.bind_some]
  by_cases ha : 0 ≤ a ∧ a ≤ 65535
  · by_cases hb : 0 ≤ b ∧ b ≤ 40
    · by_cases h2 : Int.tmod b 2 = 0
      · obtain ⟨n, rfl⟩ := Int.eq_ofNat_of_zero_le hb.1
        have e : Int.tmod (n : Int) 2 = ((n % 2 : Nat) : Int) := tmod_nat n 2
        have h2' : Int.tmod (n : Int) 2 = 0 := h2
        rw [e] at h2'
        obtain ⟨y, _, h⟩ := pad_tot a ha n (by omega) (by omega)
        refine ⟨(y, true), fun k hk => ?_⟩
        rw [decide_eq_true ha, decide_eq_true hb, if_pos rfl, if_pos rfl, if_pos h2, if_pos h2]
        rw [(h k (by omega)).1, (h k (by omega)).2]
        exact ⟨rfl, rfl⟩
      · exact ⟨(⟨#[]⟩, false), fun k _ => by simp [ha, hb, h2]⟩
    · exact ⟨(⟨#[]⟩, false), fun k _ => by simp [ha, hb]⟩
  · exact ⟨(⟨#[]⟩, false), fun k _ => by simp [ha]⟩
theorem checkOf_tot (s : ByteArray) : ∃ y, ∀ k, 40 < k → impl_CheckOf.f k s = some y ∧ spec_CheckOf.f k s = some y := by
  unfold impl_CheckOf.f spec_CheckOf.f
  by_cases h : (s.size : Int) > 40
  · exact ⟨(0, false), fun k _ => by rw [if_pos h, if_pos h]; exact ⟨rfl, rfl⟩⟩
  · obtain ⟨c, _, hc⟩ := check_tot s (by omega)
    refine ⟨((c : Int), true), fun k hk => ?_⟩
    rw [if_neg h, if_neg h, (hc k hk).1, (hc k hk).2]
    exact ⟨rfl, rfl⟩
set_option maxHeartbeats 2000000 in
theorem spoilt_tot (l : List Int) (hl : Bytes l) (w : ByteArray) (hw : 0 < w.size ∧ w.size ≤ 1048576) : ∀ (d : Nat) (t : ByteArray) (p h : Int), d ≤ 1000 → 0 ≤ p ∧ p + 10 * d ≤ 549755813888 → t.size + d ≤ 1048576 →
    Tot (fun k => spec_l1Cur_spoilt.l0 k t w (d : Int) l p h) (fun y => y.1.size ≤ 1048576) := by
  intro d
  induction d with
  | zero =>
    intro t p h hd hp ht
    refine Tot.up ?_
    simp only [spec_l1Cur_spoilt.l0]
    refine Tot.neg (by omega) (Tot.up ?_)
    simp only [spec_l1Cur_spoilt.j1]
    exact Tot.neg (by simp) (Tot.some_ (by simp only; omega))
  | succ d ih =>
    intro t p h hd hp ht
    refine Tot.up ?_
    simp only [spec_l1Cur_spoilt.l0]
    refine Tot.pos (by omega) (Tot.up ?_)
    simp only [spec_l1Cur_spoilt.j1]
    refine Tot.ite (fun h0 => ?_) (fun _ => Tot.some_ (by simp only; omega))
    have ht0 : 0 < t.size := by
      have := of_decide_eq_true h0
      omega
    refine Tot.bind (Tot.fix (pick_tot l hl p h (t.size : Int) (by omega) (by omega))) (fun y1 h1 => ?_)
    obtain ⟨i, p1, q1⟩ := y1
    simp only at h1 ⊢
    refine Tot.bind (Tot.fix (pick_tot l hl p1 q1 (w.size : Int) (by omega) (by omega))) (fun y2 h2 => ?_)
    obtain ⟨j, p2, q2⟩ := y2
    simp only at h2 ⊢
    refine Tot.pos (by omega) (Tot.pos (by omega) ?_)
    refine Tot.bind (Tot.some_ rfl) (fun y3 h3 => ?_)
    have h3s : (strOfNums y3).size = 1 := by rw [strOf_size, ← h3]; rfl
    refine Tot.bind (Tot.fix (pick_tot l hl p2 q2 3 (by omega) (by omega))) (fun y4 h4 => ?_)
    obtain ⟨c, p4, q4⟩ := y4
    simp only at h4 ⊢
    obtain ⟨n, rfl⟩ := Int.eq_ofNat_of_zero_le h1.1
    have hn : n < t.size := by omega
    have s1 : (t.extract 0 ((n : Int)).toNat).size = n := by rw [Int.toNat_natCast, size_ext _ _ _ (by omega)]; omega
    have s2 : (t.extract ((n : Int)).toNat t.size).size = t.size - n := by rw [Int.toNat_natCast, size_ext _ _ _ (by omega)]
    have e1 : wrap64 ((n : Int) + 1) = ((n + 1 : Nat) : Int) := by rw [w64 (by omega) (by omega)]; rfl
    have s3 : (t.extract (((n + 1 : Nat) : Int)).toNat t.size).size = t.size - (n + 1) := by rw [Int.toNat_natCast, size_ext _ _ _ (by omega)]
    have e2 : wrap64 (((d + 1 : Nat) : Int) - 1) = (d : Int) := by rw [w64 (by omega) (by omega)]; omega
    rw [e1, e2]
    obtain ⟨X, hX⟩ : ∃ X, t.extract 0 ((n : Int)).toNat = X := ⟨_, rfl⟩
    obtain ⟨Y, hY⟩ : ∃ Y, t.extract ((n : Int)).toNat t.size = Y := ⟨_, rfl⟩
    obtain ⟨Z, hZ⟩ : ∃ Z, t.extract (((n + 1 : Nat) : Int)).toNat t.size = Z := ⟨_, rfl⟩
    obtain ⟨S, hS⟩ : ∃ S, strOfNums y3 = S := ⟨_, rfl⟩
    rw [hX] at s1
    rw [hY] at s2
    rw [hZ] at s3
    rw [hS] at h3s
    rw [hX, hY, hZ, hS]
    have hb1 : p ≤ p4 := Int.le_trans h1.2.2.1 (Int.le_trans h2.2.2.1 h4.2.2.1)
    have hb2 : p4 ≤ p + 6 := by
      have a1 := h1.2.2.2
      have a2 := h2.2.2.2
      have a4 := h4.2.2.2
      clear h1 h2 h4
      omega
    clear hX hY hZ hS h3 h0 h1 h2 h4 hw e1 e2 ht0
    have q1 : (0 : Int) ≤ (n : Int) := by omega
    have q2 : (n : Int) ≤ (t.size : Int) := by omega
    have q3 : X.size + S.size ≤ 9223372036854775807 := by omega
    have q4' : X.size + S.size + Y.size ≤ 9223372036854775807 := by omega
    have q5 : (0 : Int) ≤ ((n + 1 : Nat) : Int) := by omega
    have q6 : ((n + 1 : Nat) : Int) ≤ (t.size : Int) := by omega
    have q7 : X.size + S.size + Z.size ≤ 9223372036854775807 := by omega
    have q8 : X.size + Z.size ≤ 9223372036854775807 := by omega
    have k1 := ih (X ++ S ++ Y) p4 q4 (by omega) (by omega) (by rw [size_app, size_app]; omega)
    have k2 := ih (X ++ S ++ Z) p4 q4 (by omega) (by omega) (by rw [size_app, size_app]; omega)
    have k3 := ih (X ++ Z) p4 q4 (by omega) (by omega) (by rw [size_app]; omega)
    simp only [if_pos q1, if_pos q2, if_pos q3, if_pos q4', if_pos q5, if_pos q6, if_pos q7, if_pos q8]
    exact Tot.ite (fun _ => k1) (fun _ => Tot.ite (fun _ => k2) (fun _ => k3))
theorem drawUnpad_tot (l : List Int) (hl : Bytes l) : Tot (fun k => spec_DrawUnpadBody.f k l) (fun y => y.size ≤ 1048576) := by
  simp only [spec_DrawUnpadBody.f]
  refine Tot.bind (Tot.fix (body_tot l hl 0 0 (by omega))) (fun y1 h1 => ?_)
  refine Tot.bind (Q := fun y => y.1.size ≤ 16) (Tot.fix ⟨_, specPadBody_eq _, by
    unfold padBV
    split
    · rw [padV_size _ (by assumption)]
      omega
    · show (0 : Nat) ≤ 16
      omega⟩) (fun y2 h2 => ?_)
  refine Tot.bind (Tot.fix (one_tot l hl _ _ 3 (by omega) (by omega))) (fun y3 h3 => ?_)
  refine Tot.ite (fun _ => ?_) (fun _ => Tot.some_ (by omega))
  refine Tot.bind (Q := fun y => y.1.size ≤ 1048576) ?_ (fun _ h => Tot.some_ h)
  simp only [spec_l1Cur_spoilt.f]
  refine Tot.bind (Tot.fix (pick_tot l hl _ _ 3 (by omega) (by omega))) (fun y4 h4 => ?_)
  obtain ⟨c, p4, q4⟩ := y4
  simp only at h4 ⊢
  obtain ⟨n, rfl⟩ := Int.eq_ofNat_of_zero_le h4.1
  exact spoilt_tot l hl _ (by decide) n _ p4 q4 (by omega) (by omega) (by omega)
theorem drawXor_l0 (l : List Int) (hl : Bytes l) (n : Int) (hn : 0 ≤ n ∧ n ≤ 41) (m : Nat) (hm : m ≤ 41) : ∀ (d i : Nat) (x : List Int) (p h : Int), m - i = d → i ≤ m → x.length = m → 0 ≤ p ∧ p ≤ 1000 + 2 * i →
    Tot (fun k => spec_DrawXorTexts.l0 k n x (m : Int) (i : Int) l p h) (fun _ => True) := by
  intro d
  induction d with
  | zero =>
    intro i x p h hd hi hx hp
    refine Tot.up ?_
    simp only [spec_DrawXorTexts.l0]
    refine Tot.neg (by omega) ?_
    refine Tot.bind (Tot.fix (pick_tot l hl p h 9 (by omega) (by omega))) (fun y1 h1 => ?_)
    obtain ⟨c, p1, q1⟩ := y1
    simp only at h1 ⊢
    obtain ⟨q, rfl⟩ := Int.eq_ofNat_of_zero_le h1.1
    have e1 : Int.tdiv ((q : Nat) : Int) 8 = ((q / 8 : Nat) : Int) := tdiv_nat q 8
    rw [e1, wnat _ (by omega), w64 (by omega) (by omega)]
    exact Tot.pos (by omega) (Tot.pos (by omega) (Tot.some_ trivial))
  | succ d ih =>
    intro i x p h hd hi hx hp
    refine Tot.up ?_
    simp only [spec_DrawXorTexts.l0]
    refine Tot.pos (by omega) ?_
    refine Tot.bind (Tot.fix (pick_tot l hl p h 256 (by omega) (by omega))) (fun y1 h1 => ?_)
    obtain ⟨c, p1, q1⟩ := y1
    simp only at h1 ⊢
    refine Tot.pos (by omega) (Tot.pos (by omega) ?_)
    rw [w64 (n := (i : Int) + 1) (by omega) (by omega)]
    exact ih (i + 1) _ p1 q1 (by omega) (by omega) (by rw [List.length_set]; exact hx) (by omega)
theorem drawXor_tot (l : List Int) (hl : Bytes l) : Tot (fun k => spec_DrawXorTexts.f k l) (fun _ => True) := by
  simp only [spec_DrawXorTexts.f]
  refine Tot.bind (Tot.fix (among_tot l hl 0 0 [0, 3, 24, 40, 41] (by omega) (by simp) (by simp))) (fun y1 h1 => ?_)
  obtain ⟨c, p1, q1⟩ := y1
  simp only [List.mem_cons, List.mem_nil_iff, or_false] at h1 ⊢
  refine Tot.pos (by omega) (Tot.pos (by omega) ?_)
  refine Tot.bind (Tot.some_ rfl) (fun y3 h3 => ?_)
  have e : y3.length = c.toNat := by rw [← h3]; simp
  rw [e]
  exact drawXor_l0 l hl c (by omega) c.toNat (by omega) c.toNat 0 y3 p1 q1 rfl (by omega) e (by omega)
theorem drawPad_tot (l : List Int) (hl : Bytes l) : Tot (fun _ => spec_DrawPadFor.f l) (fun _ => True) := by
  simp only [spec_DrawPadFor.f, spec_l1Cur_block.f]
  refine Tot.bind (Q := fun y => 0 ≤ y.2.1 ∧ y.2.1 ≤ 1000) ?_ (fun y hy => Tot.bind (Tot.fix (among_tot l hl _ _ _ (by omega) (by simp) (by simp))) (fun _ _ => Tot.some_ trivial))
  refine Tot.bind (Tot.fix (pick_tot l hl 0 0 256 (by omega) (by omega))) (fun y1 h1 => ?_)
  refine Tot.bind (Tot.fix (pick_tot l hl _ _ 256 (by omega) (by omega))) (fun y2 h2 => ?_)
  refine Tot.bind (Tot.fix (pick_tot l hl _ _ 256 (by omega) (by omega))) (fun y3 h3 => ?_)
  refine Tot.bind (Tot.fix (pick_tot l hl _ _ 256 (by omega) (by omega))) (fun y4 h4 => ?_)
  exact Tot.bind (Tot.fix (among_tot l hl _ _ _ (by omega) (by simp) (by simp))) (fun y5 h5 => Tot.some_ (by simp only; omega))
theorem drawCheck_tot (l : List Int) (hl : Bytes l) : Tot (fun _ => spec_DrawCheckOf.f l) (fun _ => True) := by
  simp only [spec_DrawCheckOf.f]
  refine Tot.pos (by omega) (Tot.pos (by omega) ?_)
  exact Tot.bind (Tot.fix (of_tot l hl 0 0 _ (by omega) (by simp) (by simp))) (fun _ _ => Tot.some_ trivial)
theorem law_j3 (l : List Int) (hl : Bytes l) : Tot (fun k => laws_FnBodies.j3 k l) (fun y => y = true) := by
  refine Tot.up ?_
  simp only [laws_FnBodies.j3]
  refine Tot.bind (drawXor_tot l hl) (fun y1 _ => ?_)
  refine Tot.bind (Q := fun y => y = xorTV y1.1 y1.2) (Tot.fix ⟨_, implXor_eq _ _, rfl⟩) (fun y2 e2 => ?_)
  refine Tot.bind (Q := fun y => y = xorTV y1.1 y1.2) (Tot.fix ⟨_, specXor_eq _ _, rfl⟩) (fun y3 e3 => ?_)
  refine Tot.bind (drawPad_tot l hl) (fun y4 _ => ?_)
  obtain ⟨v, hv⟩ := padFor_tot y4.1 y4.2
  refine Tot.bind (Q := fun y => y = v) (Tot.at_ 41 rfl (fun k hk => (hv k (by omega)).1)) (fun y5 e5 => ?_)
  refine Tot.bind (Q := fun y => y = v) (Tot.at_ 41 rfl (fun k hk => (hv k (by omega)).2)) (fun y6 e6 => ?_)
  refine Tot.bind (drawCheck_tot l hl) (fun y7 _ => ?_)
  obtain ⟨u, hu⟩ := checkOf_tot y7
  refine Tot.bind (Q := fun y => y = u) (Tot.at_ 41 rfl (fun k hk => (hu k (by omega)).1)) (fun y8 e8 => ?_)
  refine Tot.bind (Q := fun y => y = u) (Tot.at_ 41 rfl (fun k hk => (hu k (by omega)).2)) (fun y9 e9 => ?_)
  rw [e2, e3, e5, e6, e8, e9]
  refine Tot.neg (by simp) (Tot.pos rfl (Tot.neg (by simp) (Tot.pos rfl (Tot.neg (by simp) ?_))))
  rw [bne_self_eq_false]
  refine Tot.up ?_
  simp only [laws_FnBodies.j4]
  refine Tot.neg (by simp) ?_
  by_cases h : y1.1.size = y1.2.size ∧ y1.1.size ≤ 40
  · have hx : xorTV y1.1 y1.2 = (Hand.xorB y1.1 y1.2, true) := by unfold xorTV; rw [if_pos h]
    rw [hx]
    refine Tot.pos rfl ?_
    refine Tot.bind (Q := fun y => y = (y1.1, true)) (Tot.fix ⟨_, implXor_eq _ _, by
      unfold xorTV
      rw [xorB_size, if_pos h, xorB_twice]⟩) (fun y e => ?_)
    rw [e]
    exact Tot.pos rfl (Tot.some_ (by simp))
  · have hx : xorTV y1.1 y1.2 = (⟨#[]⟩, false) := by unfold xorTV; rw [if_neg h]
    rw [hx]
    exact Tot.neg (by simp) (Tot.some_ rfl)
theorem law_j1 (l : List Int) (hl : Bytes l) : Tot (fun k => laws_FnBodies.j1 k l) (fun y => y = true) := by
  refine Tot.up ?_
  simp only [laws_FnBodies.j1]
  refine Tot.bind (drawUnpad_tot l hl) (fun t ht => ?_)
  refine Tot.bind (Q := fun y => y = bodyV t) (Tot.fix ⟨_, implUnpad_eq t (by omega), rfl⟩) (fun y1 e1 => ?_)
  refine Tot.bind (Q := fun y => y = bodyV t) (Tot.at_ 17 rfl (fun k hk => specUnpad_eq t k (by omega))) (fun y2 e2 => ?_)
  rw [e1, e2]
  refine Tot.neg (by simp) ?_
  rw [bne_self_eq_false]
  refine Tot.up ?_
  simp only [laws_FnBodies.j2]
  refine Tot.neg (by simp) (Tot.ite (fun h => ?_) (fun _ => law_j3 l hl))
  have hp := pad_unpad t h
  refine Tot.bind (Q := fun y => y = (t, true)) (Tot.fix ⟨_, implPadBody_eq _, by
    unfold padBV
    rw [if_pos hp.1, hp.2]⟩) (fun y e => ?_)
  rw [e]
  exact Tot.pos rfl (Tot.pos rfl (law_j3 l hl))
theorem FnBodies : laws_FnBodies.Pure := by
  intro l0 l1 hm0 hx0 hw0 hm1 hx1 hw1
  have hmx : maxLen = 9223372036854775807 := rfl
  refine Tot.ex ?_
  simp only [laws_FnBodies.f]
  rw [w64 (n := (l0.length : Int) + (l1.length : Int)) (by omega) (by omega)]
  by_cases hn : (l0.length : Int) + (l1.length : Int) > 1048576
  · exact Tot.pos hn (Tot.some_ rfl)
  · have hb0 : Bytes l0 := bytes_of (by omega) hw0
    have hb1 : Bytes l1 := bytes_of (by omega) hw1
    refine Tot.neg hn ?_
    refine Tot.bind (Q := fun _ => True) (by
      simp only [spec_DrawPadBody.f]
      exact Tot.bind (Tot.fix (body_tot l0 hb0 0 0 (by omega))) (fun _ _ => Tot.some_ trivial)) (fun s _ => ?_)
    refine Tot.bind (Q := fun y => y = padBV s) (Tot.fix ⟨_, implPadBody_eq s, rfl⟩) (fun y1 e1 => ?_)
    refine Tot.bind (Q := fun y => y = padBV s) (Tot.fix ⟨_, specPadBody_eq s, rfl⟩) (fun y2 e2 => ?_)
    rw [e1, e2]
    refine Tot.neg (by simp) ?_
    rw [bne_self_eq_false]
    refine Tot.up ?_
    simp only [laws_FnBodies.j0]
    refine Tot.neg (by simp) ?_
    unfold padBV
    by_cases h : s.size < 16
    · rw [if_pos h]
      refine Tot.pos rfl ?_
      have hs := padV_size s h
      refine Tot.bind (Q := fun y => y = (s, true)) (Tot.fix ⟨_, implUnpad_eq _ (show (padV s).size ≤ 9223372036854775807 by omega), unpad_pad s h⟩) (fun y e => ?_)
      rw [e]
      exact Tot.pos (show ((padV s).size : Int) = 16 by omega) (Tot.pos rfl (Tot.pos rfl (law_j1 l1 hb1)))
    · rw [if_neg h]
      exact Tot.neg (by simp) (law_j1 l1 hb1)

end Go.Proofs.YtobfeehelmbljaaDoor.Pure
