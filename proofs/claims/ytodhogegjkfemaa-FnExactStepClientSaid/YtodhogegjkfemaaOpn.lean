/- How arguments of a row (slices of any kind, structs by value) are opened to what the walks take: lemmas without a program. Conditions: as each lemma says. -/
import Derived.Test.YtodhogegjkfemaaWMore
import Derived.Deep.Slices
import Derived.Deep.Fields
import Derived.ChangeSame
set_option linter.unusedVariables false
set_option linter.unusedSimpArgs false
namespace Go.Proofs.Ytodhogegjkfemaa.Opn
open Go.RowKit Go.ChangeShapes Go.WideShapes Go.Deep Go.Proofs.YtodhogegjkfemaaW.PrintWords
theorem list2 {α : Type} {l : List α} (h : l.length = 2) : ∃ c0 c1, l = [c0, c1] := by
  match l, h with
  | [c0, c1], _ => exact ⟨_, _, rfl⟩
theorem list3 {α : Type} {l : List α} (h : l.length = 3) : ∃ c0 c1 c2, l = [c0, c1, c2] := by
  match l, h with
  | [c0, c1, c2], _ => exact ⟨_, _, _, rfl⟩
section
variable {H : Type} {enc : TypeId × Value → H} {P : Program} {w : World} {base : Nat} {spare : Nat → Bool} {held : Bool}
def Opens {α : Type} (enc : TypeId × Value → H) (P : Program) (w : World) (base : Nat) (spare : Nat → Bool) (held : Bool) (t : TypeId) (d : Kd α) (good : α → Prop) : Prop :=
  ∀ (fuel : Nat) (cs : List Value) (x : DataW H × List MemPlace), DataW.trod enc P w base spare held fuel t cs = some x → ∃ a, d.K w a cs ∧ good a
theorem opens_int {t : TypeId} {k : IntKind} (ht : P.underlying t = some (.int k)) : Opens enc P w base spare held t (Kd.int k) (fun a => (Lit.int k a).wf = true) := by
  intro fuel cs x h
  obtain ⟨n, rfl, _, hw⟩ := DataW.trod_int ht h
  exact ⟨n, rfl, hw⟩
theorem opens_string {t : TypeId} (ht : P.underlying t = some .string) : Opens enc P w base spare held t Kd.string (fun s => s.size ≤ maxLen) := by
  intro fuel cs x h
  obtain ⟨s, rfl, _, hs⟩ := DataW.trod_string ht h
  exact ⟨s, rfl, hs⟩
theorem choose_list {α : Type} {p : Nat → α → Prop} (n : Nat) (h : ∀ i, i < n → ∃ y, p i y) : ∃ l : List α, l.length = n ∧ ∀ i y, l[i]? = some y → p i y := by
  induction n with
  | zero => exact ⟨[], rfl, fun i y hy => by simp at hy⟩
  | succ n ih =>
    obtain ⟨l, hl, hp⟩ := ih (fun i hi => h i (by omega))
    obtain ⟨y, hy⟩ := h n (by omega)
    refine ⟨l ++ [y], by simp [hl], fun i z hz => ?_⟩
    by_cases hi : i < n
    · rw [List.getElem?_append_left (by omega)] at hz
      exact hp i z hz
    · have hlt := (List.getElem?_eq_some_iff.1 hz).1
      rw [List.length_append, List.length_singleton] at hlt
      have e : i = l.length := by omega
      subst e
      rw [List.getElem?_append_right (by omega)] at hz
      simp at hz
      subst hz
      rw [hl]
      exact hy
theorem opens_slice {α : Type} {t e : TypeId} {d : Kd α} {good : α → Prop} (ht : P.underlying t = some (.slice e)) (hC : P.cellsOf e = d.sz) (he : Opens enc P w base spare held e d good) :
    Opens enc P w base spare held t (Kd.slice e d) (fun l => l.length ≤ maxLen ∧ ∀ x ∈ l, good x) := by
  intro fuel cs x h
  rcases open_slice ht h with ⟨rfl, _⟩ | ⟨a, len, cap, m, n, D, Pl, rfl, hb, hl, hm, hmm, hx, hi⟩
  · exact ⟨[], ⟨none, 0, rfl, by simp, Kd.C_nil _ _⟩, by simp, by simp⟩
  · have hlm : len ≤ m := by
      rw [hmm]
      split <;> omega
    obtain ⟨l, hll, hlp⟩ := choose_list (p := fun i y => good y ∧ ∃ c, c.length = d.sz ∧ d.K w y c ∧ ∀ j u, c[j]? = some u → w.cell? (a.add (i * d.sz + j)) = some u) len (fun i hil => by
      obtain ⟨cs', hc, ht'⟩ := hi i (by omega)
      obtain ⟨y, hK, hg⟩ := he _ _ _ ht'
      rw [hC] at hc
      obtain ⟨_, hcl, hat⟩ := World.cells?_some hc
      refine ⟨y, hg, cs', d.K_len hK, hK, fun j u hu => ?_⟩
      have hj := (List.getElem?_eq_some_iff.1 hu).1
      rw [← Go.Deep.add_add, hat j (by omega)]
      exact hu)
    subst hll
    have hmx : l.length ≤ maxLen := by omega
    refine ⟨l, ⟨some a, cap, rfl, hl, rfl, by simpa [maxLen] using hmx, fun _ => ⟨a, rfl, fun j p hj => ?_⟩⟩, hmx, fun y hy => ?_⟩
    · exact (hlp j p hj).2
    · obtain ⟨i, hi'⟩ := List.mem_iff_getElem?.1 hy
      exact (hlp i y hi').1
theorem slice_cell {α : Type} {t e : TypeId} {d : Kd α} {good : List α → Prop} (h : Opens enc P w base spare held t (Kd.slice e d) good) {v : Value} {n : Nat} {x : DataW H × List MemPlace}
    (hT : DataW.trod enc P w base spare held n t [v] = some x) : ∃ (A : Option Addr) (c : Nat) (l : List α), v = .slice A l.length c ∧ l.length ≤ c ∧ d.C w A l.length l ∧ good l := by
  obtain ⟨l, ⟨A, c, hv, hc, hr⟩, hg⟩ := h _ _ _ hT
  simp at hv
  exact ⟨A, c, l, hv, hc, hr, hg⟩
theorem int_cell {t : TypeId} {k : IntKind} {good : Int → Prop} (h : Opens enc P w base spare held t (Kd.int k) good) {v : Value} {n : Nat} {x : DataW H × List MemPlace}
    (hT : DataW.trod enc P w base spare held n t [v] = some x) : ∃ a : Int, v = .int k a ∧ good a := by
  obtain ⟨a, hv, hg⟩ := h _ _ _ hT
  have hv' : [v] = [Value.int k a] := hv
  simp at hv'
  exact ⟨a, hv', hg⟩
theorem string_cell {t : TypeId} {good : ByteArray → Prop} (h : Opens enc P w base spare held t Kd.string good) {v : Value} {n : Nat} {x : DataW H × List MemPlace}
    (hT : DataW.trod enc P w base spare held n t [v] = some x) : ∃ a : ByteArray, v = .string a ∧ good a := by
  obtain ⟨a, hv, hg⟩ := h _ _ _ hT
  have hv' : [v] = [Value.string a] := hv
  simp at hv'
  exact ⟨a, hv', hg⟩
theorem struct_cells {t : TypeId} {fs : Array Field} {fuel : Nat} {cs : List Value} {x : DataW H × List MemPlace} (hs : P.underlying t = some (.struct fs)) (hone : oneCellFields P fs = true) (hC : P.cellsOf t = fs.size)
    (h : DataW.trod enc P w base spare held fuel t cs = some x) :
    cs.length = fs.size ∧ ∃ n : Nat, ∀ (j : Nat) (f : Field) (v : Value), fs[j]? = some f → cs[j]? = some v → ∃ y, DataW.trod enc P w base spare held n f.type [v] = some y := by
  obtain ⟨ys, n, _, _, hlen, hyl, hf⟩ := DataW.trod_struct hs h
  refine ⟨by rw [hlen, hC], n, fun j f v hj hv => ?_⟩
  obtain ⟨ho, hk⟩ := hone_of hone j f hj
  have h1 := hf j f hj
  have hlt := (Array.getElem?_eq_some_iff.1 hj).1
  have hlc := (List.getElem?_eq_some_iff.1 hv).1
  rw [ho, hk, take1_drop cs j undef hlc] at h1
  rw [List.getElem?_eq_getElem (by omega)] at h1
  have hv2 : cs.getD j undef = v := by rw [List.getD_eq_getElem?_getD, hv]; rfl
  rw [hv2] at h1
  exact ⟨_, h1⟩
theorem struct_arg {t : TypeId} {fs : Array Field} {r : Reach} {b0 : Nat} {v : Value} {d : DataW H} {p : List MemPlace} (hs : P.underlying t = some (.struct fs)) (hone : oneCellFields P fs = true) (hC : P.cellsOf t = fs.size)
    (hv : Value.okWide P w r b0 t v) (h : DataW.Trod enc P w base spare held t v d p) :
    ∃ cs : List Value, v = .agg cs.toArray ∧ cs.length = fs.size ∧ ∃ n : Nat, ∀ (j : Nat) (f : Field) (u : Value), fs[j]? = some f → cs[j]? = some u → ∃ y, DataW.trod enc P w base spare held n f.type [u] = some y := by
  obtain ⟨cs, rfl, hsz⟩ := okWide_struct hs hv
  obtain ⟨l⟩ := cs
  obtain ⟨fuel, hf⟩ := h
  have h2 := struct_cells hs hone hC (cs := l) (by simpa [Value.cells] using hf)
  exact ⟨l, rfl, h2.1, h2.2⟩
end
end Go.Proofs.Ytodhogegjkfemaa.Opn
