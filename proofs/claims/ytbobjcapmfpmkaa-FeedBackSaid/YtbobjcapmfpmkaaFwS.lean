/- How a list of byte strings, and a way, read in the world in which a law is called. Conditions: none. -/
import Derived.Test.YtbobjcapmfpmkaaFw
import Derived.Test.YtbobjcapmfpmkaaRB
set_option linter.unusedVariables false
set_option linter.unusedSimpArgs false
namespace Go.X
open Go.RowKit Go.Bl Go.ChangeShapes Go.WideShapes Go.ChangeAt Go.Joins Go.Proofs
section
variable {H : Type} {enc : TypeId × Value → H} {W : World} {base b0 : Nat} {spare : Nat → Bool} {held : Bool} {r : Reach} {v : Value} {d : DataW H} {p : List MemPlace}
set_option maxRecDepth 100000 in
theorem strs_world (hv : Value.okWide Try.prog W r b0 53 v) (h : DataW.Trod enc Try.prog W base spare held 53 v d p) : ∃ q, Strs (wh W) v q := by
  obtain ⟨f, hf⟩ := h
  obtain ⟨a0, len0, cap0, rfl⟩ := okWide_slice Try.underlying53 hv
  rcases DataW.trod_slice Try.underlying53 hf with ⟨h0, _⟩ | ⟨a, len, cap, elems, rest, n, _, hcs, _, hb, hl, hm, hlen, hel, _, _⟩
  · have h0 : ([Value.slice a0 len0 cap0] : List Value) = [.slice none 0 0] := h0
    injection h0 with h0
    rw [h0]
    exact ⟨[], ⟨⟨rfl, none, 0, rfl, Nat.le_refl _, by decide, by decide, fun _ => rfl, fun j c hj => by simp [vsL] at hj⟩, fun q hq => by cases hq⟩⟩
  have hcs : ([Value.slice a0 len0 cap0] : List Value) = [.slice (some a) len cap] := hcs
  injection hcs with hcs
  rw [hcs]
  rw [show Try.prog.cellsOf 23 = 1 by kernel_rfl] at hel
  have one : ∀ i, i < len → ∃ q : QS, W.cell? (a.add i) = some q.1 ∧ Ints (wh W) .u8 q.1 q.2 := by
    intro i hi
    have := hel i hi
    rw [List.getElem?_eq_getElem (by omega), Nat.mul_one] at this
    obtain ⟨cs, h1, h2⟩ := Option.bind_eq_some_iff.1 this
    obtain ⟨hb1, hl1, hc1⟩ := World.cells?_some h1
    obtain ⟨u, rfl⟩ : ∃ u, cs = [u] := by
      match cs, hl1 with
      | [u], _ => exact ⟨u, rfl⟩
    obtain ⟨zs, hz⟩ := ints_world (k := .u8) Try.underlying23 Try.underlying5 (by kernel_rfl) h2
    refine ⟨(u, zs), ?_, hz⟩
    have := hc1 0 (by decide)
    simpa [add_add] using this
  obtain ⟨g, hg⟩ : ∃ g : Nat → QS, ∀ i, i < len → W.cell? (a.add i) = some (g i).1 ∧ Ints (wh W) .u8 (g i).1 (g i).2 := by
    refine ⟨fun i => if hi : i < len then (one i hi).choose else (.slice none 0 0, []), fun i hi => ?_⟩
    simp only [hi, dif_pos]
    exact (one i hi).choose_spec
  have hm' : cap ≤ 9223372036854775807 := by simpa [maxLen] using hm
  have hlr : ((List.range len).map g).length = len := by simp
  refine ⟨(List.range len).map g, ⟨by rw [vsL_len, Nat.mul_one], some a, cap, by rw [hlr], by omega, hm', by omega, (fun h => by cases h), fun j c hj => ?_⟩, fun q hq => ?_⟩
  · have hjl : j < len := by
      have := (List.getElem?_eq_some_iff.1 hj).1
      simpa [vsL] using this
    refine elem_world ((hg j hjl).1.trans ?_)
    rw [← hj]
    simp [vsL, hjl]
  · obtain ⟨i, hi, rfl⟩ := List.mem_map.1 hq
    exact (hg i (List.mem_range.1 hi)).2
set_option maxRecDepth 100000 in
theorem way_world (hv : Value.okWide Try.prog W r b0 61 v) (h : DataW.Trod enc Try.prog W base spare held 61 v d p) :
    ∃ q : Int × Int × Value × List Int, v = .agg #[.int .u64 q.1, .int .i64 q.2.1, q.2.2.1] ∧ (0 ≤ q.1 ∧ q.1 ≤ 18446744073709551615) ∧ (-9223372036854775808 ≤ q.2.1 ∧ q.2.1 ≤ 9223372036854775807) ∧ Ints (wh W) .i64 q.2.2.1 q.2.2.2 := by
  obtain ⟨v0, v1, v2, y0, y1, y2, n, rfl, rfl, rfl, h0, h1, h2⟩ := open_agg3 Try.underlying61 (by kernel_rfl) (by kernel_rfl) hv h
  obtain ⟨a, ha, -, wa⟩ := DataW.trod_int Try.underlying28 h0
  obtain ⟨b, hb, -, wb⟩ := DataW.trod_int Try.underlying3 h1
  injection ha with ha
  injection hb with hb
  subst ha
  subst hb
  obtain ⟨ns, hs⟩ := ints_world (k := .i64) Try.underlying59 Try.underlying3 (by kernel_rfl) h2
  have ra : IntKind.u64.min ≤ a ∧ a ≤ IntKind.u64.max := by simpa [Lit.wf] using wa
  have rb : IntKind.i64.min ≤ b ∧ b ≤ IntKind.i64.max := by simpa [Lit.wf] using wb
  rw [show IntKind.i64.min = -9223372036854775808 by decide, show IntKind.i64.max = 9223372036854775807 by decide] at rb
  rw [show IntKind.u64.min = 0 by decide, show IntKind.u64.max = 18446744073709551615 by decide] at ra
  exact ⟨(a, b, _, ns), rfl, ra, rb, hs⟩
end
end Go.X
