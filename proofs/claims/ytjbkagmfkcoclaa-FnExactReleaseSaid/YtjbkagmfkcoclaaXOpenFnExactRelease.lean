/-
  What came in, read as data of a type, is told as a value of its kind: numbers, bools, strings, slices, structs. No condition.
-/
import Derived.Test.YtjbkagmfkcoclaaVFnExactRelease
import Derived.ChangeArms
import Derived.DataElems
import Derived.ChangeSlices
import Derived.ProofKit
namespace Go.Proofs.Ytjbkagmfkcoclaa.XOpen
open Go.RowKit Go.ChangeShapes Go.WideShapes Go.Proofs.YtjbkagmfkcoclaaW.PrintWords
set_option linter.unusedVariables false
/-- What is read as data of type t is of the kind d, and fits G. -/
def Opens (P : Program) {α : Type} (d : Kd α) (t : TypeId) (G : α → Prop) : Prop :=
  ∀ {H : Type} {enc : TypeId × Value → H} {w : World} {base : Nat} {spare : Nat → Bool} {held : Bool} {fuel : Nat} {cs : List Value} {y : DataW H × List MemPlace},
    DataW.trod enc P w base spare held fuel t cs = some y → ∃ x, d.K w x cs ∧ G x
theorem opens_int {P : Program} {t : TypeId} {k : IntKind} (ht : P.underlying t = some (.int k)) : Opens P (Kd.int k) t (fun x => (Lit.int k x).wf = true) := by
  intro H enc w base spare held fuel cs y h
  obtain ⟨m, rfl, _, hw⟩ := DataW.trod_int ht h
  exact ⟨m, rfl, hw⟩
theorem opens_bool {P : Program} {t : TypeId} (ht : P.underlying t = some .bool) : Opens P Kd.bool t (fun _ => True) := by
  intro H enc w base spare held fuel cs y h
  obtain ⟨b, rfl, _⟩ := DataW.trod_bool ht h
  exact ⟨b, rfl, trivial⟩
theorem opens_string {P : Program} {t : TypeId} (ht : P.underlying t = some .string) : Opens P Kd.string t (fun s => s.size ≤ maxLen) := by
  intro H enc w base spare held fuel cs y h
  obtain ⟨s, rfl, _, hs⟩ := DataW.trod_string ht h
  exact ⟨s, rfl, hs⟩
theorem list_of {α : Type} {Q : Nat → α → Prop} : ∀ n, (∀ i, i < n → ∃ x, Q i x) → ∃ xs : List α, xs.length = n ∧ ∀ i x, xs[i]? = some x → Q i x
  | 0, _ => ⟨[], rfl, fun i x h => by simp at h⟩
  | n + 1, h => by
    obtain ⟨xs, hl, hq⟩ := list_of n (fun i hi => h i (by omega))
    obtain ⟨x, hx⟩ := h n (by omega)
    refine ⟨xs ++ [x], by simp [hl], fun i y hy => ?_⟩
    by_cases hi : i < n
    · rw [List.getElem?_append_left (by omega)] at hy
      exact hq i y hy
    · have hlen := (List.getElem?_eq_some_iff.1 hy).1
      simp at hlen
      have hin : i = n := by omega
      subst hin
      rw [List.getElem?_append_right (by omega), hl] at hy
      simp at hy
      subst hy
      exact hx
theorem cells_get {w : World} {base n : Nat} {a : Addr} {cs : List Value} (h : w.cells? base a n = some cs) : cs.length = n ∧ ∀ j u, cs[j]? = some u → w.cell? (a.add j) = some u := by
  unfold World.cells? at h
  split at h
  · have hl := mapM_some_length h
    rw [List.length_range] at hl
    refine ⟨hl, fun j u hu => ?_⟩
    have hj := (List.getElem?_eq_some_iff.1 hu).1
    have hjn : j < n := by omega
    have := mapM_some_get h j j (by rw [List.getElem?_range hjn])
    rw [hu] at this
    exact this
  · cases h
theorem opens_slice {P : Program} {α : Type} {d : Kd α} {t e : TypeId} {G : α → Prop} (ht : P.underlying t = some (.slice e)) (hc : P.cellsOf e = d.sz) (he : Opens P d e G) :
    Opens P (Kd.slice e d) t (fun xs => xs.length ≤ maxLen ∧ ∀ x ∈ xs, G x) := by
  intro H enc w base spare held fuel cs y h
  rcases DataW.trod_slice ht h with ⟨rfl, _⟩ | ⟨a, len, cap, elems, rest, n, _, rfl, _, hb, hl, hm, hlen, hel, _, _⟩
  · exact ⟨[], ⟨none, 0, rfl, Nat.le_refl _, rfl, Nat.zero_le _, fun h => absurd h (by simp)⟩, Nat.zero_le _, fun x hx => by cases hx⟩
  · obtain ⟨xs, hxl, hq⟩ := list_of (Q := fun i x => G x ∧ ∃ c, c.length = d.sz ∧ d.K w x c ∧ ∀ j u, c[j]? = some u → w.cell? (a.add (i * d.sz + j)) = some u) len (by
      intro i hi
      have hsome : elems[i]? = some (elems[i]'(by omega)) := List.getElem?_eq_getElem (by omega)
      have h1 := (hel i hi).trans hsome
      obtain ⟨c, hcs, ht'⟩ := Option.bind_eq_some_iff.1 h1
      obtain ⟨x, hk, hg⟩ := he ht'
      obtain ⟨hl2, hcell⟩ := cells_get hcs
      refine ⟨x, hg, c, by rw [hl2, hc], hk, fun j u hu => ?_⟩
      have := hcell j u hu
      rw [Addr.add_add, hc] at this
      exact this)
    have hml : len ≤ maxLen := Nat.le_trans hl hm
    have hmx : maxLen = 9223372036854775807 := by decide
    refine ⟨xs, ⟨some a, cap, by rw [hxl], by rw [hxl]; exact hl, ?_⟩, by rw [hxl]; exact hml, fun x hx => ?_⟩
    · refine ⟨rfl, by rw [hxl, ← hmx]; exact hml, fun _ => ⟨a, rfl, fun j p hj => ?_⟩⟩
      obtain ⟨_, c, h1, h2, h3⟩ := hq j p hj
      exact ⟨c, h1, h2, h3⟩
    · obtain ⟨i, hi⟩ := List.getElem?_of_mem hx
      exact (hq i x hi).1
/-- The same of a struct's fields, from a place on. -/
def OpensFs (P : Program) {α : Type} (d : Kd α) (fs : List Field) (off : Nat) (G : α → Prop) : Prop :=
  ∀ {H : Type} {enc : TypeId × Value → H} {w : World} {base : Nat} {spare : Nat → Bool} {held : Bool} {n : Nat} {cs : List Value},
    (∀ (i : Nat) (f : Field), fs[i]? = some f → ∃ y, DataW.trod enc P w base spare held n f.type ((cs.drop f.offset).take (P.cellsOf f.type)) = some y) → ∃ x, d.K w x ((cs.drop off).take d.sz) ∧ G x
theorem opensFs_one {P : Program} {α : Type} {d : Kd α} {f : Field} {off : Nat} {G : α → Prop} (h : Opens P d f.type G) (ho : f.offset = off) (hc : P.cellsOf f.type = d.sz) : OpensFs P d [f] off G := by
  intro H enc w base spare held n cs hf
  obtain ⟨y, hy⟩ := hf 0 f rfl
  obtain ⟨x, hk, hg⟩ := h hy
  rw [ho, hc] at hk
  exact ⟨x, hk, hg⟩
theorem opensFs_cons {P : Program} {α β : Type} {a : Kd α} {b : Kd β} {f : Field} {fs : List Field} {off : Nat} {G : α → Prop} {G' : β → Prop} (h : Opens P a f.type G) (ho : f.offset = off) (hc : P.cellsOf f.type = a.sz)
    (hr : OpensFs P b fs (off + a.sz) G') : OpensFs P (Kd.pair a b) (f :: fs) off (fun x => G x.1 ∧ G' x.2) := by
  intro H enc w base spare held n cs hf
  obtain ⟨y, hy⟩ := hf 0 f rfl
  obtain ⟨x, hk, hg⟩ := h hy
  obtain ⟨z, hk2, hg2⟩ := hr (fun i g hi => hf (i + 1) g (by simpa using hi))
  rw [ho, hc] at hk
  refine ⟨(x, z), ⟨_, _, ?_, hk, hk2⟩, hg, hg2⟩
  show (cs.drop off).take (a.sz + b.sz) = _
  rw [List.take_add, List.drop_drop]
theorem opens_struct {P : Program} {α β : Type} {d : Kd α} {t : TypeId} {fs : Array Field} {G : α → Prop} (ht : P.underlying t = some (.struct fs)) (hc : P.cellsOf t = d.sz) (h : OpensFs P d fs.toList 0 G) (f : β → α) (g : α → β) (hfg : ∀ x, f (g x) = x) :
    Opens P (Kd.iso d f) t (fun x => G (f x)) := by
  intro H enc w base spare held fuel cs y hy
  obtain ⟨xs, n, _, _, hl, hxl, hi⟩ := DataW.trod_struct ht hy
  obtain ⟨x, hk, hg⟩ := h (cs := cs) (w := w) (base := base) (spare := spare) (held := held) (enc := enc) (n := n) (fun i f hf => by
    have hf' : fs[i]? = some f := by simpa using hf
    have hlt : i < xs.length := by rw [hxl]; exact (Array.getElem?_eq_some_iff.1 hf').1
    exact ⟨xs[i], (hi i f hf').trans (List.getElem?_eq_getElem hlt)⟩)
  refine ⟨g x, ?_, by show G (f (g x)); rw [hfg]; exact hg⟩
  show d.K w (f (g x)) cs
  rw [hfg]
  rw [List.drop_zero, List.take_of_length_le (by rw [hl, hc]; exact Nat.le_refl _)] at hk
  exact hk
end Go.Proofs.Ytjbkagmfkcoclaa.XOpen
