/- Part of the proof of a statement about the given program: lemmas and contracts. Conditions: as each says. -/
import Derived.Test.YtemlppiklgeogaaGreatQ10
import Derived.Test.YtemlppiklgeogaaGreatQ13
import Derived.Test.YtemlppiklgeogaaGreatQ18
/- How a step of a tray's play reads in the world in which a law is called. Conditions: none. -/
set_option linter.unusedVariables false
set_option linter.unusedSimpArgs false
namespace Go.X
open Go.RowKit Go.Bl Go.ChangeShapes Go.WideShapes Go.ChangeAt Go.Joins Go.Proofs
section
variable {H : Type} {enc : TypeId × Value → H} {W : World} {base b0 : Nat} {spare : Nat → Bool} {held : Bool} {r : Reach} {v : Value} {d : DataW H} {p : List MemPlace}
theorem cut37 {cs dl : List Value} {a b c : Value} (hl : cs.length = 37) (hd : dl.length = 34) (h0 : cs[0]? = some a) (h1 : cs[1]? = some b) (h2 : (cs.drop 2).take 34 = dl) (h3 : cs[36]? = some c) : cs = a :: b :: (dl ++ [c]) := by
  apply List.ext_getElem?
  intro i
  rcases (show i = 0 ∨ i = 1 ∨ (2 ≤ i ∧ i < 36) ∨ i = 36 ∨ 37 ≤ i by omega) with rfl | rfl | ⟨hi, hj⟩ | rfl | hi
  · simpa using h0
  · simpa using h1
  · obtain ⟨j, rfl⟩ := Nat.exists_eq_add_of_le hi
    have e : (a :: b :: (dl ++ [c]))[2 + j]? = dl[j]? := by
      rw [show 2 + j = j + 1 + 1 by omega, List.getElem?_cons_succ, List.getElem?_cons_succ, List.getElem?_append_left (by omega)]
    rw [e, ← h2, List.getElem?_take, if_pos (by omega), List.getElem?_drop]
  · have e : (a :: b :: (dl ++ [c]))[36]? = some c := by
      rw [show 36 = 34 + 1 + 1 by rfl, List.getElem?_cons_succ, List.getElem?_cons_succ, List.getElem?_append_right (by omega), hd]
      rfl
    rw [e, h3]
  · rw [List.getElem?_eq_none (by omega), List.getElem?_eq_none (by simp [hd]; omega)]
set_option maxRecDepth 100000 in
theorem op_cells {n : Nat} {cs : List Value} {x : DataW H × List MemPlace} (hf : DataW.trod enc Tryz.prog W base spare held n 105 cs = some x) : ∃ (k i : Int) (bv : Value) (dd : DeedD) (u : Int), cs = opC k i dd bv u ∧ IsDeed (wh W) bv dd := by
  obtain ⟨xs, m, rfl, _, hl, hxl, hfield⟩ := DataW.trod_struct Tryz.underlying105 hf
  rw [show Tryz.prog.cellsOf 105 = 37 by kernel_rfl] at hl
  have sm : ∀ i, i < 4 → (xs[i]?).isSome = true := fun i hi => by
    have : xs.length = 4 := hxl
    simp; omega
  have k3 : Tryz.prog.cellsOf 3 = 1 := by kernel_rfl
  have k28 : Tryz.prog.cellsOf 22 = 1 := by kernel_rfl
  have kd : Tryz.prog.cellsOf 85 = 34 := by kernel_rfl
  have hp : DataW.trod enc Tryz.prog W base spare held m 85 ((cs.drop 2).take (Tryz.prog.cellsOf 85)) = xs[2]? := hfield 2 _ rfl
  rw [kd] at hp
  obtain ⟨y2, hy2⟩ := Option.isSome_iff_exists.1 (sm 2 (by decide))
  rw [hy2] at hp
  obtain ⟨bv, dd, hc, hd⟩ := deed_cells hp
  obtain ⟨z0, a0, r0⟩ := int_cell (off := 0) Tryz.underlying3 k3 (hfield 0 _ rfl) (sm 0 (by decide))
  obtain ⟨z1, a1, r1⟩ := int_cell (off := 1) Tryz.underlying3 k3 (hfield 1 _ rfl) (sm 1 (by decide))
  obtain ⟨z3, a3, r3⟩ := int_cell (off := 36) Tryz.underlying22 k28 (hfield 3 _ rfl) (sm 3 (by decide))
  exact ⟨z0, z1, bv, dd, z3, cut37 hl rfl a0 a1 hc a3, hd⟩
set_option maxRecDepth 100000 in
theorem op_world (hv : Value.okWide Tryz.prog W r b0 105 v) (h : DataW.Trod enc Tryz.prog W base spare held 105 v d p) : ∃ (k i : Int) (bv : Value) (dd : DeedD) (u : Int), v = opV k i dd bv u ∧ IsDeed (wh W) bv dd := by
  obtain ⟨cs, rfl, _⟩ := okWide_struct Tryz.underlying105 hv
  obtain ⟨f, hf⟩ := h
  obtain ⟨k, i, bv, dd, u, hc, hd⟩ := op_cells hf
  refine ⟨k, i, bv, dd, u, ?_, hd⟩
  have : cs = (opC k i dd bv u).toArray := by
    apply Array.ext'
    simpa [Value.cells] using hc
  rw [this]
end
end Go.X
