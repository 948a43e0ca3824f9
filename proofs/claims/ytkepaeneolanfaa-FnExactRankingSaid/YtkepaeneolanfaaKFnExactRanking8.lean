/- For FnExactRanking: part 8: what the functions compute, that Go comes to it, and plain lemmas (declarations that are not reached are left out). -/
import Derived.ChangeArms
import Derived.ChangeSame
import Derived.DataReads
import Derived.WideShapes
import Derived.Deep.Slices
import Derived.Test.YtkepaeneolanfaaKFnExactRanking7
set_option maxHeartbeats 8000000
set_option maxRecDepth 100000
section

namespace Go.Proofs.Ytkepaeneolanfaa.Reads
open Go.RowKit Go.Proofs.YtkepaeneolanfaaW.PrintWords
set_option linter.unusedVariables false
set_option linter.unusedSimpArgs false
section
variable {H : Type} {enc : TypeId × Value → H} {P : Program} {w : World} {base : Nat} {spare : Nat → Bool} {held : Bool}
def Opens (enc : TypeId × Value → H) (P : Program) (w : World) (base : Nat) (spare : Nat → Bool) (held : Bool) (t : TypeId) {α : Type} (d : Kd α) (ok : α → Prop) : Prop :=
  ∀ fuel cs x, DataW.trod enc P w base spare held fuel t cs = some x → ∃ y, d.K w y cs ∧ ok y
theorem opens_int {t : TypeId} {k : IntKind} (ht : P.underlying t = some (.int k)) : Opens enc P w base spare held t (Kd.int k) (fun n => (Lit.int k n).wf = true) := by
  intro fuel cs x h
  obtain ⟨n, rfl, _, hw⟩ := DataW.trod_int ht h
  exact ⟨n, rfl, hw⟩
theorem opens_bool {t : TypeId} (ht : P.underlying t = some .bool) : Opens enc P w base spare held t Kd.bool (fun _ => True) := by
  intro fuel cs x h
  obtain ⟨b, rfl, _⟩ := DataW.trod_bool ht h
  exact ⟨b, rfl, trivial⟩
theorem opens_string {t : TypeId} (ht : P.underlying t = some .string) : Opens enc P w base spare held t Kd.string (fun s => s.size ≤ maxLen) := by
  intro fuel cs x h
  obtain ⟨s, rfl, _, hs⟩ := DataW.trod_string ht h
  exact ⟨s, rfl, hs⟩
theorem list_of {α : Type} {Q : Nat → α → Prop} : ∀ n, (∀ i, i < n → ∃ y, Q i y) → ∃ ys : List α, ys.length = n ∧ ∀ i y, ys[i]? = some y → Q i y
  | 0, _ => ⟨[], rfl, fun i y h => by simp at h⟩
  | n + 1, h => by
    obtain ⟨ys, hl, hq⟩ := list_of n (fun i hi => h i (by omega))
    obtain ⟨y, hy⟩ := h n (by omega)
    refine ⟨ys ++ [y], by simp [hl], fun i z hz => ?_⟩
    rcases Nat.lt_or_ge i n with hi | hi
    · rw [List.getElem?_append_left (by omega)] at hz
      exact hq i z hz
    · rw [List.getElem?_append_right (by omega)] at hz
      have : i = n := by
        rcases Nat.eq_or_lt_of_le hi with e | e
        · exact e.symm
        · rw [List.getElem?_eq_none (by simp; omega)] at hz
          cases hz
      subst this
      rw [hl, Nat.sub_self] at hz
      simp at hz
      exact hz ▸ hy
theorem opens_slice {t e E : TypeId} {α : Type} {d : Kd α} {ok : α → Prop} (ht : P.underlying t = some (.slice e)) (hC : P.cellsOf e = d.sz) (he : Opens enc P w base spare held e d ok) :
    Opens enc P w base spare held t (Kd.slice E d) (fun xs => xs.length ≤ maxLen ∧ ∀ y ∈ xs, ok y) := by
  intro fuel cs x h
  rcases DataW.trod_slice ht h with ⟨rfl, _⟩ | ⟨a, len, cap, elems, rest, n, _, rfl, _, hb, hl, hm, hlen, hel, _⟩
  · exact ⟨[], ⟨none, 0, rfl, Nat.le_refl _, rfl, by simp, fun h => by simp at h⟩, by simp⟩
  · obtain ⟨ys, hyl, hq⟩ := list_of (Q := fun i y => (∃ c, w.cells? base (a.add (i * P.cellsOf e)) (P.cellsOf e) = some c ∧ d.K w y c) ∧ ok y) len (fun i hi => by
      have h1 := hel i hi
      rw [List.getElem?_eq_getElem (show i < elems.length by omega)] at h1
      obtain ⟨c, hc, ht⟩ := Option.bind_eq_some_iff.mp h1
      obtain ⟨y, hk, ho⟩ := he n c _ ht
      exact ⟨y, ⟨c, hc, hk⟩, ho⟩)
    subst hyl
    refine ⟨ys, ⟨some a, cap, rfl, hl, rfl, by unfold maxLen at hm; omega, fun _ => ⟨a, rfl, fun j p hj => ?_⟩⟩, by omega, fun y hy => ?_⟩
    · obtain ⟨⟨c, hc, hk⟩, _⟩ := hq j p hj
      obtain ⟨_, hcl, hcell⟩ := World.cells?_some hc
      refine ⟨c, hcl.trans hC, hk, fun i u hu => ?_⟩
      have hi : i < c.length := (List.getElem?_eq_some_iff.1 hu).1
      have h2 := hcell i (by omega)
      rw [hu, hC] at h2
      rw [← h2, Go.Deep.add_add]
    · obtain ⟨i, hi, rfl⟩ := List.mem_iff_getElem.mp hy
      exact (hq i _ (List.getElem?_eq_getElem hi)).2
def OpensAt (enc : TypeId × Value → H) (P : Program) (w : World) (base : Nat) (spare : Nat → Bool) (held : Bool) (fs : List Field) (o : Nat) {α : Type} (d : Kd α) (ok : α → Prop) : Prop :=
  ∀ fuel (cs : List Value), cs.length = o + d.sz → (∀ f ∈ fs, ∃ x, DataW.trod enc P w base spare held fuel f.type ((cs.drop f.offset).take (P.cellsOf f.type)) = some x) → ∃ y, d.K w y (cs.drop o) ∧ ok y
theorem opensAt_one {f : Field} {o : Nat} {α : Type} {d : Kd α} {ok : α → Prop} (ho : f.offset = o) (hC : P.cellsOf f.type = d.sz) (h : Opens enc P w base spare held f.type d ok) : OpensAt enc P w base spare held [f] o d ok := by
  intro fuel cs hl hf
  obtain ⟨x, hx⟩ := hf f (by simp)
  obtain ⟨y, hk, hy⟩ := h fuel _ x hx
  rw [ho, hC, List.take_of_length_le (by rw [List.length_drop]; omega)] at hk
  exact ⟨y, hk, hy⟩
theorem opensAt_cons {f : Field} {fs : List Field} {o : Nat} {α β : Type} {d : Kd α} {ok : α → Prop} {d' : Kd β} {ok' : β → Prop} (ho : f.offset = o) (hC : P.cellsOf f.type = d.sz) (h : Opens enc P w base spare held f.type d ok)
    (h' : OpensAt enc P w base spare held fs (o + d.sz) d' ok') : OpensAt enc P w base spare held (f :: fs) o (Kd.pair d d') (fun p => ok p.1 ∧ ok' p.2) := by
  intro fuel cs hl hf
  obtain ⟨x, hx⟩ := hf f (by simp)
  obtain ⟨y, hk, hy⟩ := h fuel _ x hx
  have hl' : cs.length = o + (d.sz + d'.sz) := hl
  obtain ⟨y', hk', hy'⟩ := h' fuel cs (by omega) (fun g hg => hf g (by simp [hg]))
  rw [ho, hC] at hk
  exact ⟨(y, y'), ⟨_, _, by rw [← List.drop_drop, List.take_append_drop], hk, hk'⟩, hy, hy'⟩
theorem opens_struct {t : TypeId} {fs : Array Field} {α β : Type} {d : Kd α} {ok : α → Prop} (f : β → α) (g : α → β) (hg : ∀ a, f (g a) = a) (ht : P.underlying t = some (.struct fs)) (hC : P.cellsOf t = d.sz)
    (h : OpensAt enc P w base spare held fs.toList 0 d ok) : Opens enc P w base spare held t (Kd.iso d f) (fun b => ok (f b)) := by
  intro fuel cs x hx
  obtain ⟨xs, n, _, _, hl, hxl, hf⟩ := DataW.trod_struct ht hx
  obtain ⟨y, hk, hy⟩ := h n cs (by omega) (fun fd hfd => by
    obtain ⟨i, hi, rfl⟩ := List.mem_iff_getElem.mp hfd
    have hi' : i < fs.size := by simpa using hi
    have h1 := hf i fs[i] (by simp [hi'])
    rw [List.getElem?_eq_getElem (show i < xs.length by omega)] at h1
    exact ⟨_, by simpa using h1⟩)
  refine ⟨g y, ?_, ?_⟩
  · show d.K w (f (g y)) cs
    rw [hg]
    simpa using hk
  · show ok (f (g y))
    rw [hg]
    exact hy
theorem opens_arg {t : TypeId} {α : Type} {d : Kd α} {ok : α → Prop} {v : Value} {D : DataW H} {p : List MemPlace} (h : Opens enc P w base spare held t d ok) (hT : DataW.Trod enc P w base spare held t v D p) : ∃ y, d.K w y v.cells.toList ∧ ok y := by
  obtain ⟨fuel, hf⟩ := hT
  exact h fuel _ _ hf
end
end Go.Proofs.Ytkepaeneolanfaa.Reads

end
