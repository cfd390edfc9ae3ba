/- How an outcome, and parameters, read in the world in which a law is called. Conditions: none. -/
import Derived.Test.YtfilkbfkhdaakaaGreatFwG
import Derived.Test.YtfilkbfkhdaakaaGreatUA
set_option linter.unusedVariables false
set_option linter.unusedSimpArgs false
namespace Go.X
open Go.RowKit Go.Bl Go.ChangeShapes Go.WideShapes Go.ChangeAt Go.Joins Go.Proofs
section
variable {H : Type} {enc : TypeId × Value → H} {W : World} {base b0 : Nat} {spare : Nat → Bool} {held : Bool} {r : Reach} {v : Value} {d : DataW H} {p : List MemPlace}
set_option maxHeartbeats 4000000 in
set_option maxRecDepth 100000 in
theorem outcome_cells (n : Nat) (cs : List Value) (x : DataW H × List MemPlace) (hf : DataW.trod enc Tryz.prog W base spare held n 86 cs = some x) : ∃ q : OutD, cs = outC q ∧ OutOk q := by
  obtain ⟨xs, m, rfl, _, hl, fldl, fld⟩ := DataW.trod_struct Tryz.underlying86 hf
  rw [show Tryz.prog.cellsOf 86 = 6 by kernel_rfl] at hl
  have ki : Tryz.prog.cellsOf 3 = 1 := by kernel_rfl
  have ku : Tryz.prog.cellsOf 22 = 1 := by kernel_rfl
  have sfld : ∀ i, i < 6 → (xs[i]?).isSome = true := fun i hi => by
    have : xs.length = 6 := fldl
    simp; omega
  obtain ⟨z0, a0, r0⟩ := icell (off := 0) Tryz.underlying3 ki (fld 0 _ rfl) (sfld 0 (by decide))
  obtain ⟨z1, a1, r1⟩ := icell (off := 1) Tryz.underlying3 ki (fld 1 _ rfl) (sfld 1 (by decide))
  obtain ⟨z2, a2, r2⟩ := icell (off := 2) Tryz.underlying22 ku (fld 2 _ rfl) (sfld 2 (by decide))
  obtain ⟨z3, a3, r3⟩ := icell (off := 3) Tryz.underlying22 ku (fld 3 _ rfl) (sfld 3 (by decide))
  obtain ⟨z4, a4, r4⟩ := icell (off := 4) Tryz.underlying22 ku (fld 4 _ rfl) (sfld 4 (by decide))
  obtain ⟨z5, a5, r5⟩ := icell (off := 5) Tryz.underlying22 ku (fld 5 _ rfl) (sfld 5 (by decide))
  obtain ⟨g0, g1, g2, g3, g4, g5, rfl⟩ := listN6 hl
  simp only [List.drop_succ_cons, List.drop_zero, List.take_succ_cons, List.take_zero, List.getElem?_cons_zero, List.getElem?_cons_succ, List.getElem_cons_succ, List.getElem_cons_zero, Option.some.injEq] at a0 a1 a2 a3 a4 a5
  subst a0
  subst a1
  subst a2
  subst a3
  subst a4
  subst a5
  rw [i64min, i64max] at r0 r1
  rw [u64min, u64max] at r2 r3 r4 r5
  refine ⟨⟨z0, z1, z2, z3, z4, z5⟩, rfl, ⟨?_, ?_⟩⟩
  · intro z hz
    simp only [List.mem_cons, List.not_mem_nil, or_false] at hz
    rcases hz with rfl | rfl
    · exact r0
    · exact r1
  · intro z hz
    simp only [List.mem_cons, List.not_mem_nil, or_false] at hz
    rcases hz with rfl | rfl | rfl | rfl
    · exact r2
    · exact r3
    · exact r4
    · exact r5
set_option maxRecDepth 100000 in
theorem outcome_world (hv : Value.okWide Tryz.prog W r b0 86 v) (h : DataW.Trod enc Tryz.prog W base spare held 86 v d p) : ∃ q : OutD, v = outV q ∧ OutOk q := by
  obtain ⟨cs, rfl, _⟩ := okWide_struct Tryz.underlying86 hv
  obtain ⟨f, hf⟩ := h
  obtain ⟨dd, hc, hd⟩ := outcome_cells _ _ _ hf
  refine ⟨dd, ?_, hd⟩
  have : cs = (outC dd).toArray := by
    apply Array.ext'
    simpa [Value.cells] using hc
  rw [this]
set_option maxRecDepth 100000 in
theorem par_world (hv : Value.okWide Tryz.prog W r b0 24 v) (h : DataW.Trod enc Tryz.prog W base spare held 24 v d p) : ∃ q : ParD, v = parV q ∧ ParOk q := by
  obtain ⟨cs, rfl, _⟩ := okWide_struct Tryz.underlying24 hv
  obtain ⟨f, hf⟩ := h
  obtain ⟨dd, hc, hd⟩ := par_cells _ _ _ hf
  refine ⟨dd, ?_, hd⟩
  have : cs = (parC dd).toArray := by
    apply Array.ext'
    simpa [Value.cells] using hc
  rw [this]
end
end Go.X
