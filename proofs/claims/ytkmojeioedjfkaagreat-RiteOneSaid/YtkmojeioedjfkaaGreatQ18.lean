/- Part of the proof of a statement about the given program: lemmas and contracts. Conditions: as each says. -/
import Derived.Test.YtkmojeioedjfkaaGreatQ16
import Derived.Test.YtkmojeioedjfkaaGreatQ17
/- How a list of deeds reads in the world in which a law is called. Conditions: none. -/
set_option linter.unusedVariables false
set_option linter.unusedSimpArgs false
namespace Go.X
open Go.RowKit Go.Bl Go.ChangeShapes Go.WideShapes Go.ChangeAt Go.Joins Go.Proofs
section
variable {H : Type} {enc : TypeId × Value → H} {W : World} {base b0 : Nat} {spare : Nat → Bool} {held : Bool} {r : Reach} {v : Value} {d : DataW H} {p : List MemPlace}
set_option maxRecDepth 100000 in
theorem deeds_world (hv : Value.okWide Tryz.prog W r b0 73 v) (h : DataW.Trod enc Tryz.prog W base spare held 73 v d p) : ∃ l, Deeds (wh W) v l := by
  obtain ⟨f, hf⟩ := h
  obtain ⟨a0, len0, cap0, rfl⟩ := okWide_slice Tryz.underlying73 hv
  rcases DataW.trod_slice Tryz.underlying73 hf with ⟨h0, _⟩ | ⟨a, len, cap, elems, rest, n, _, hcs, _, hb, hl, hm, hlen, hel, _, _⟩
  · have h0 : ([Value.slice a0 len0 cap0] : List Value) = [.slice none 0 0] := h0
    injection h0 with h0
    rw [h0]
    exact ⟨[], Deeds.nil _⟩
  have hcs : ([Value.slice a0 len0 cap0] : List Value) = [.slice (some a) len cap] := hcs
  injection hcs with hcs
  rw [hcs]
  rw [show Tryz.prog.cellsOf 52 = 34 by kernel_rfl] at hel
  have one : ∀ i, i < len → ∃ q : QD, (∀ m, m < 34 → W.cell? (a.add (i * 34 + m)) = (qC q)[m]?) ∧ IsDeed (wh W) q.1 q.2 := by
    intro i hi
    have := hel i hi
    rw [List.getElem?_eq_getElem (by omega)] at this
    obtain ⟨cs, h1, h2⟩ := Option.bind_eq_some_iff.1 this
    obtain ⟨bv, dd, rfl, hd⟩ := deed_cells h2
    refine ⟨(bv, dd), fun m hm => ?_, hd⟩
    have := (World.cells?_some h1).2.2 m hm
    rw [add_add] at this
    exact this
  obtain ⟨g, hg⟩ : ∃ g : Nat → QD, ∀ i, i < len → (∀ m, m < 34 → W.cell? (a.add (i * 34 + m)) = (qC (g i))[m]?) ∧ IsDeed (wh W) (g i).1 (g i).2 := by
    refine ⟨fun i => if hi : i < len then (one i hi).choose else zq, fun i hi => ?_⟩
    simp only [hi, dif_pos]
    exact (one i hi).choose_spec
  have hm' : cap ≤ 9223372036854775807 := by simpa [maxLen] using hm
  have hlr : ((List.range len).map g).length = len := by simp
  refine ⟨(List.range len).map g, ⟨cellsL_len _, some a, cap, by rw [hlr], by omega, hm', by omega, (fun h => by cases h), fun j c hj => ?_⟩, fun q hq => ?_⟩
  · have hjl : j < ((List.range len).map g).length * 34 := by
      have := (List.getElem?_eq_some_iff.1 hj).1
      rwa [cellsL_len] at this
    rw [hlr] at hjl
    have hd : j = j / 34 * 34 + j % 34 := by omega
    have hi : j / 34 < len := by omega
    have h2 := flat_get qC_len ((List.range len).map g) (j / 34) (j % 34) (by omega)
    rw [← hd] at h2
    have h3 := (hg (j / 34) hi).1 (j % 34) (by omega)
    rw [← hd] at h3
    refine elem_world (h3.trans ?_)
    have h4 : ((List.range len).map g)[j / 34]? = some (g (j / 34)) := by simp [hi]
    rw [h4, Option.bind_some] at h2
    rw [← h2]
    exact hj
  · obtain ⟨i, hi, rfl⟩ := List.mem_map.1 hq
    exact (hg i (List.mem_range.1 hi)).2
end
end Go.X
