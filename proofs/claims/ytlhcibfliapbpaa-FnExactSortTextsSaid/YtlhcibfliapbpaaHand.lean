/- Lemmas on bytes that a string was turned into, and words for Go's text functions, without a program. Conditions: as each lemma says. -/
import Derived.Test.YtlhcibfliapbpaaWMore
import Derived.Test.YtlhcibfliapbpaaWApart
import Derived.Test.YtlhcibfliapbpaaWKept
import Derived.Lib.ConvBytes
import Derived.Lib.SliceRun
import Derived.StillTailTactics
import Derived.Lib.AppendZerosOnto
import Derived.Sort.OwnSortedInts
set_option linter.unusedVariables false
set_option linter.unusedSimpArgs false
namespace Go.Proofs.Ytlhcibfliapbpaa.Hand
open Go.RowKit Go.Sort Go.Proofs.YtlhcibfliapbpaaW.PrintWords

/-- Two rows of bytes, bit for bit unlike (the first one's length). -/
def xorL : List UInt8 → List UInt8 → List UInt8
  | x :: a, y :: b => (x ^^^ y) :: xorL a b
  | a, _ => a
def xorB (a b : ByteArray) : ByteArray := ⟨(xorL a.data.toList b.data.toList).toArray⟩
/-- So many zeros. -/
def zeroB (n : Nat) : ByteArray := ⟨(List.replicate n (0 : UInt8)).toArray⟩
/-- A text without the zeros at its end. -/
def trimB (s : ByteArray) : ByteArray := ⟨((s.data.toList.reverse.dropWhile (· == 0)).reverse).toArray⟩
theorem xorL_nil (a : List UInt8) : xorL a [] = a := by cases a <;> rfl
theorem xorL_length : ∀ (a b : List UInt8), (xorL a b).length = a.length
  | [], _ => by simp [xorL]
  | _ :: _, [] => by simp [xorL]
  | x :: a, y :: b => by simp [xorL, xorL_length a b]
theorem xorL_take : ∀ (a b : List UInt8) (i : Nat) (h1 : i < a.length) (h2 : i < b.length), xorL a (b.take (i + 1)) = (xorL a (b.take i)).set i (a[i] ^^^ b[i])
  | x :: a, y :: b, 0, _, _ => by simp [xorL, xorL_nil]
  | x :: a, y :: b, i + 1, h1, h2 => by
    simp only [List.take_succ_cons, xorL, List.set_cons_succ, List.getElem_cons_succ]
    rw [xorL_take a b i (by simpa using h1) (by simpa using h2)]
theorem xorL_at : ∀ (a b : List UInt8) (i : Nat) (h1 : i < a.length), (xorL a (b.take i))[i]? = some a[i]
  | x :: a, b, 0, _ => by simp [xorL_nil]
  | x :: a, [], i + 1, h1 => by
    rw [List.take_nil, xorL_nil]
    exact List.getElem?_eq_getElem h1
  | x :: a, y :: b, i + 1, h1 => by
    simp only [List.take_succ_cons, xorL, List.getElem?_cons_succ, List.getElem_cons_succ]
    exact xorL_at a b i (by simpa using h1)
/-- The numbers of the row when i of them are done. -/
def xorN (a b : ByteArray) (i : Nat) : List Int := (xorL a.data.toList (b.data.toList.take i)).map fun u => (u.toNat : Int)
theorem xorN_zero (a b : ByteArray) : xorN a b 0 = bytesOf a := by
  unfold xorN bytesOf
  rw [List.take_zero, xorL_nil]
theorem xorN_length (a b : ByteArray) (i : Nat) : (xorN a b i).length = a.size := by
  unfold xorN
  rw [List.length_map, xorL_length]
  simp
theorem bits_xor8 (x y : UInt8) : Go.bits .xor .u8 (x.toNat : Int) (y.toNat : Int) = (((x ^^^ y).toNat : Nat) : Int) := by
  have h : Go.bits .xor .u8 (x.toNat : Int) (y.toNat : Int) = IntKind.u8.wrap ((((BitVec.ofInt 8 (x.toNat : Int)) ^^^ (BitVec.ofInt 8 (y.toNat : Int))).toNat : Nat) : Int) := rfl
  have e1 : BitVec.ofInt 8 (x.toNat : Int) = x.toBitVec := by
    rw [BitVec.ofInt_natCast]
    simp
  have e2 : BitVec.ofInt 8 (y.toNat : Int) = y.toBitVec := by
    rw [BitVec.ofInt_natCast]
    simp
  rw [h, e1, e2]
  have e3 : (x.toBitVec ^^^ y.toBitVec).toNat = (x ^^^ y).toNat := rfl
  rw [e3]
  have h8 := (x ^^^ y).toNat_lt
  show (_ : Int) % 2 ^ 8 = _
  omega
theorem xorN_at (a b : ByteArray) (i : Nat) (h : i < a.size) : (xorN a b i).getD i 0 = ((a[i].toNat : Nat) : Int) := by
  have h1 : i < a.data.toList.length := by simpa using h
  unfold xorN
  rw [List.getD_eq_getElem?_getD, List.getElem?_map, xorL_at _ _ _ h1]
  rfl
theorem xorN_succ (a b : ByteArray) (i : Nat) (h1 : i < a.size) (h2 : i < b.size) : xorN a b (i + 1) = (xorN a b i).set i (((a[i] ^^^ b[i]).toNat : Nat) : Int) := by
  have g1 : i < a.data.toList.length := by simpa using h1
  have g2 : i < b.data.toList.length := by simpa using h2
  unfold xorN
  rw [xorL_take _ _ _ g1 g2, List.map_set]
  rfl
theorem xorN_end (a b : ByteArray) (n : Nat) (h : a.size = n) (h2 : n ≤ b.size) : strOfNums (xorN a b n) = xorB a b := by
  have key : ∀ (l m : List UInt8) (n : Nat), l.length ≤ n → xorL l (m.take n) = xorL l m := by
    intro l
    induction l with
    | nil => intro m n _; simp [xorL]
    | cons x l ih =>
      intro m n hn
      obtain ⟨n, rfl⟩ : ∃ k, n = k + 1 := ⟨n - 1, by simp at hn; omega⟩
      cases m with
      | nil => simp
      | cons y m =>
        simp only [List.take_succ_cons, xorL]
        rw [ih m n (by simpa using hn)]
  unfold xorN xorB strOfNums
  rw [key _ _ _ (by simp; omega)]
  congr 1
  simp [Function.comp_def]

/-- A row of bytes at block g, behind whose end a mark may lie. -/
def Marked (W : World) (e g n : Nat) (xs : List Int) : Prop := ∃ cs lo, W.heap[g]? = some (.cells cs e (lo, lo + 1)) ∧ n ≤ lo ∧ n ≤ cs.size ∧ xs.length = n ∧ ∀ j, j < n → cs[j]? = some (.int .u8 (xs.getD j 0))
theorem Marked.cell {W : World} {e g n : Nat} {xs : List Int} (h : Marked W e g n xs) (j : Nat) (hj : j < n) : W.cell? ⟨g, j, none⟩ = some (.int .u8 (xs.getD j 0)) := by
  obtain ⟨cs, lo, h1, h2, h3, h4, h5⟩ := h
  exact (cell_of_row W g j cs e _ h1).trans (h5 j hj)
theorem Marked.frozen {W : World} {e g n : Nat} {xs : List Int} (h : Marked W e g n xs) (j : Nat) (hj : j < n) : W.frozen? ⟨g, j, none⟩ = false := by
  obtain ⟨cs, lo, h1, h2, h3, h4, h5⟩ := h
  simp only [World.frozen?, h1, Bool.and_eq_false_iff, decide_eq_false_iff_not]
  omega
theorem Marked.drewN {W : World} {e g n : Nat} {xs : List Int} (h : Marked W e g n xs) (m : Nat) : Marked (W.drewN m) e g n xs := h
theorem Marked.drew {W : World} {e g n : Nat} {xs : List Int} (h : Marked W e g n xs) : Marked W.drew e g n xs := h
theorem Marked.set {W : World} {e g n : Nat} {xs : List Int} (h : Marked W e g n xs) (j : Nat) (hj : j < n) (v : Int) : Marked (W.setCell ⟨g, j, none⟩ (.int .u8 v)) e g n (xs.set j v) := by
  obtain ⟨cs, lo, h1, h2, h3, h4, h5⟩ := h
  refine ⟨cs.setIfInBounds j (.int .u8 v), lo, by simp [World.setCell, Array.getElem?_modify, h1], h2, by simpa using h3, by simpa using h4, fun i hi => ?_⟩
  rw [Array.getElem?_setIfInBounds]
  by_cases e : j = i
  · subst e
    rw [if_pos rfl, if_pos (by omega), List.getD_eq_getElem?_getD, List.getElem?_set_self (by omega)]
    rfl
  · rw [if_neg e, h5 i hi, List.getD_eq_getElem?_getD, List.getD_eq_getElem?_getD, List.getElem?_set_ne e]
theorem Marked.reads {W : World} {e g n : Nat} {xs : List Int} (h : Marked W e g n xs) (hn : n ≤ 9223372036854775807) : ReadsInt W .u8 (some ⟨g, 0, none⟩) n xs :=
  ⟨h.choose_spec.choose_spec.2.2.2.1, hn, fun _ => ⟨_, rfl, fun j hj => by
    have e : (⟨g, 0, none⟩ : Addr).add j = ⟨g, j, none⟩ := by
      rw [Addr.add_lit]
      simp
    rw [e]
    exact h.cell j hj⟩⟩
theorem marked_new (w : World) (e : Nat) (s : ByteArray) : Marked (Lib.bytesWorld w e s) e w.heap.size s.size (bytesOf s) := by
  refine ⟨Lib.bytesCells w e s, (Lib.bytesCells w e s).size, Lib.bytesWorld_at_new w e s, ?_, ?_, bytesOf_length s, fun j hj => ?_⟩
  · simp [Lib.bytesCells]
  · simp [Lib.bytesCells]
  · have h := Lib.bytesWorld_cell w e s j hj
    rw [cell_of_row _ _ _ _ _ _ (Lib.bytesWorld_at_new w e s)] at h
    rw [h]
    have hl : j < s.data.toList.length := by simpa using hj
    simp [bytesOf, List.getD_eq_getElem?_getD, hj]
theorem bytes_below (w : World) (e : Nat) (s : ByteArray) : Below w.heap.size w (Lib.bytesWorld w e s) :=
  ⟨rfl, rfl, rfl, by rw [Lib.bytesWorld_size]; omega, fun k hk => Lib.bytesWorld_at_old w e s k hk⟩
/-- A round's relation: i bytes are done. -/
def XorAt (w : World) (e : Nat) (a b : ByteArray) (i : Nat) (W : World) : Prop := Below w.heap.size w W ∧ Marked W e w.heap.size a.size (xorN a b i)

/-- A text turned into bytes: where they lie. -/
theorem conv_pack {w W : World} (_h : Below w.heap.size w W) (e : Nat) (s : ByteArray) : ∃ g, W.heap.size = g ∧ w.heap.size ≤ g ∧ Marked (Lib.bytesWorld W e s) e g s.size (bytesOf s) := ⟨_, rfl, _h.size, marked_new W e s⟩
theorem Marked.keep {W W1 : World} {e g n h : Nat} {xs : List Int} (hM : Marked W e g n xs) (hk : KeepBut W W1 h none) (hg : g ≠ h) : Marked W1 e g n xs := by
  obtain ⟨cs, lo, h1, h2⟩ := hM
  have hlt : g < W.heap.size := by
    rcases Nat.lt_or_ge g W.heap.size with hh | hh
    · exact hh
    · rw [Array.getElem?_eq_none hh] at h1
      cases h1
  exact ⟨cs, lo, (hk.2 g hlt hg (by simp)).trans h1, h2⟩
theorem Marked.at_g {W : World} {e g n : Nat} {xs : List Int} (hM : Marked W e g n xs) : ∃ cs lo, W.heap[g]? = some (.cells cs e (lo, lo + 1)) := by
  obtain ⟨cs, lo, h1, _⟩ := hM
  exact ⟨cs, lo, h1⟩
/-- One bit of a byte. -/
def bit8 (j : Int) : Int := IntKind.u8.wrap (2 ^ min (IntKind.u64.wrap j).toNat 8)
def flipV (s : ByteArray) (i j : Int) : Int := Go.bits .xor .u8 ((bytesOf s).getD i.toNat 0) (bit8 j)
/-- A text whose byte i has a bit turned. -/
def flipB (s : ByteArray) (i j : Int) : ByteArray := strOfNums ((bytesOf s).set i.toNat (flipV s i j))
theorem wrapu_nonneg (j : Int) : 0 ≤ IntKind.u64.wrap j := by
  show 0 ≤ j % 2 ^ 64
  omega

theorem del_facts {j : Int} {n : Nat} (p : 0 ≤ j) (q : j < (n : Int)) (l : n < 17592186044416) : 0 < n ∧ ((j.toNat : Nat) : Int) = j ∧ wrap64 (j + 1) = j + 1 ∧ j.toNat < n ∧ n ≤ 4611686018427387904 := by
  unfold wrap64
  omega
/-! ### a place of an own row left out -/
theorem delete_pre {W W0 : World} {g cap n e : Nat} {ok : Nat → Prop} {xs : List Int} (h : Kd.R (Kd.int .i64) e W W0.heap.size ok (.slice (some ⟨g, 0, none⟩) n cap) xs) {i : Nat} (hi : i < xs.length) : W0.heap.size ≤ g ∧ n = xs.length ∧ xs.length ≤ cap ∧ cap ≤ 9223372036854775807 ∧ Holds (Value.int .i64) W g 0 xs.toArray := by
  rcases (Kd.own_of_R h).2 with ⟨hv, _⟩ | ⟨g', cap', cur, hv, hb, hg, hn, hc, hs, ht⟩
  · cases hv
  · injection hv with e1 e2 e3
    injection e1 with e1
    injection e1 with e1
    subst e1 e2 e3
    exact ⟨hb, rfl, hn, hc, holds_of_blockI hg (by rw [Nat.mul_one] at ht; exact ht)⟩
theorem delete_row {W : World} {base g cap n e : Nat} {ok : Nat → Prop} {xs : List Int} (h : Kd.R (Kd.int .i64) e W base ok (.slice (some ⟨g, 0, none⟩) n cap) xs) (i q : Nat) (hi : i < xs.length) (W' : World)
    (hW : W' = putRow (Value.int .i64) (Sort.ahead W q) g 0 (xs.take i ++ xs.drop (i + 1) ++ List.replicate 1 0).toArray) : Kd.R (Kd.int .i64) e W' base ok (.slice (some ⟨g, 0, none⟩) (n - 1) cap) (xs.eraseIdx i) ∧ W.grownBy W' (some g) := by
  have hok := h.1
  rcases (Kd.own_of_R h).2 with ⟨hv, _⟩ | ⟨g', cap', cur, hv, hb, hg, hn, hc, hs, ht⟩
  · cases hv
  · injection hv with e1 e2 e3
    injection e1 with e1
    injection e1 with e1
    subst e1 e2 e3
    have hl : (xs.take i ++ xs.drop (i + 1) ++ List.replicate 1 (0 : Int)).length = xs.length := by
      simp only [List.length_append, List.length_take, List.length_drop, List.length_replicate]
      omega
    have he : xs.take i ++ xs.drop (i + 1) = xs.eraseIdx i := (List.eraseIdx_eq_take_drop_succ xs i).symm
    have hel : (xs.eraseIdx i).length = xs.length - 1 := List.length_eraseIdx_of_lt hi
    have h2 := ownsRow_sortedI (n := q) (os := #[]) hl hb hg hn hc hs
    have h3 := grownBy_sortedI (w := W) (g := g) (n := q) (os := #[]) (xs.take i ++ xs.drop (i + 1) ++ List.replicate 1 (0 : Int)).toArray
    rw [grow_empty, ← hW] at h2 h3
    refine ⟨Kd.R_of_own ?_ hok, h3⟩
    rcases h2.2 with ⟨hv, _⟩ | ⟨g2, cap2, cur2, hv, hb2, hg2, hn2, hc2, hs2, ht2⟩
    · cases hv
    · injection hv with e1 e2 e3
      injection e1 with e1
      injection e1 with e1
      subst e1 e3
      refine ⟨by simp [encs], .inr ⟨g, cap, cur2, by rw [hel], hb2, hg2, by omega, hc2, hs2, ?_⟩⟩
      rw [Nat.mul_one] at ht2 ⊢
      have h4 := congrArg (List.take (xs.eraseIdx i).length) ht2
      rw [List.take_take, show min (xs.eraseIdx i).length xs.length = (xs.eraseIdx i).length by omega, ← List.map_take, he, List.take_left' rfl] at h4
      rw [h4]
      rfl

/-- The row that '[]T{}' makes. -/
theorem R_made {α : Type} (d : Kd α) (e : Nat) (w : World) : d.R e (w.alloc (.cells #[] e)) w.heap.size (fun _ => True) (.slice (some ⟨w.heap.size, 0, none⟩) 0 0) [] :=
  ⟨fun _ _ => trivial, [], World.ownsRow_made w #[] 0 (Nat.le_refl _) (Nat.zero_le _) (by simp), by simp [Reps]⟩

/-- Go's > and <= on texts. -/
theorem not_less (x y : List UInt8) : (!(Op.bytesLess x y || x == y)) = Op.bytesLess y x := by
  induction x generalizing y with
  | nil =>
    cases y with
    | nil => rfl
    | cons b y => rfl
  | cons a x ih =>
    cases y with
    | nil => simp [Op.bytesLess]
    | cons b y =>
      have := ih y
      simp only [Op.bytesLess]
      by_cases h1 : a < b
      · have h2 : ¬ b < a := by intro h; have := UInt8.lt_iff_toNat_lt.1 h; have := UInt8.lt_iff_toNat_lt.1 h1; omega
        have h3 : ¬ b = a := by rintro rfl; exact h2 h1
        simp [h1, h2, h3]
      · by_cases h2 : a = b
        · subst h2
          simp [h1, ← this]
        · have h3 : b < a := by
            rw [UInt8.lt_iff_toNat_lt] at h1 ⊢
            have : a.toNat ≠ b.toNat := fun h => h2 (UInt8.toNat_inj.1 h)
            omega
          simp [h1, h2, h3]
theorem run_gtr_string (P : Program) (t : TypeId) (a b : ByteArray) (w : World) : (binOp .gtr t (.string a) (.string b)).run P w = .ok (.bool (Op.bytesLess b.toList a.toList)) w := by
  rw [← not_less]
  rfl
theorem run_leq_string (P : Program) (t : TypeId) (a b : ByteArray) (w : World) : (binOp .leq t (.string a) (.string b)).run P w = .ok (.bool (!Op.bytesLess b.toList a.toList)) w := by
  rw [← not_less, Bool.not_not]
  rfl

/-- An element's row has been written, the element being lent: the whole row of rows again. -/
theorem S_marked {e ie base n co go : Nat} {wc w1 : World} {P oki : Nat → Prop} {xs : List (List Int)} {i : Int} {vr : Value} {t : List Int} (hH : Kd.H (Kd.slice ie (Kd.int .i64)) e wc base P (.slice (some ⟨go, 0, none⟩) n co) xs i oki [vr]) (hK : Kept wc w1 oki) (h1 : ∀ k, vr.ownBlock = some k → oki k) (hR : Kd.R (Kd.int .i64) ie w1 base (fun k => (oki k ∨ wc.heap.size ≤ k)) vr t) :
    Kd.S (Kd.slice ie (Kd.int .i64)) e w1 base P (.slice (some ⟨go, 0, none⟩) n co) (xs.set i.toNat t) :=
  Kd.H_back (Kd.H_step hH (fun k _ hk hlt => hK.2 k hlt hk)) ⟨vr, rfl, Kd.R_reok rfl hR h1⟩ (fun _ hk => hk)
theorem kept_more {w wc w1 : World} {P oki : Nat → Prop} (h : Kept w wc P) (k : Kept wc w1 oki) (hs : ∀ x, oki x → P x) : Kept w w1 P :=
  ⟨Nat.le_trans h.1 k.1, fun x hlt hp => (k.2 x (Nat.lt_of_lt_of_le hlt h.1) (fun ho => hp (hs x ho))).trans (h.2 x hlt hp)⟩

/-- A new row of rows beside an elder one: a number parts their blocks. -/
theorem S_split {α β : Type} {d : Kd α} {d' : Kd β} {e e' base : Nat} {ok okv : Nat → Prop} {W w1 : World} {u v : Value} {xs : List α} {ys : List β} (h : Kd.S d e W base ok u xs) (ho : Kd.S d' e' w1 W.heap.size okv v ys) (hb : Below W.heap.size W w1) :
    ∃ N : Nat, Kd.S d e w1 base (fun k => (ok k ∧ some k ≠ v.ownBlock) ∧ k < N) u xs ∧ Kd.S d' e' w1 W.heap.size (fun k => N ≤ k) v ys :=
  ⟨W.heap.size, Kd.S_mono (Kd.S_elder' (Kd.S_mono (ok' := fun k => ok k ∧ k < W.heap.size) (Kd.S_bound h) (fun k hk => ⟨hk.1, hk.2.2.1⟩)) (Kd.S_base ho) hb) (fun k hk => ⟨⟨hk.1.1, hk.2⟩, hk.1.2⟩), Kd.S_mono (Kd.S_bound ho) (fun k hk => hk.2.1)⟩

end Go.Proofs.Ytlhcibfliapbpaa.Hand
