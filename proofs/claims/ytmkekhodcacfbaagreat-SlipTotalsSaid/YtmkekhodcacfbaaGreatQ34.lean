/- Lemmas and contracts for a statement about the given program. Conditions: as each says. -/
import Derived.Test.YtmkekhodcacfbaaGreatQ10
import Derived.Test.YtmkekhodcacfbaaGreatQ33
set_option linter.unusedVariables false
set_option linter.unusedSimpArgs false
set_option maxHeartbeats 12800000
set_option maxRecDepth 20000
namespace Go.X
open Go.RowKit Go.Bl Go.ChangeShapes Go.WideShapes Go.ChangeAt Go.Joins Go.Proofs
section
variable {H : Type} {enc : TypeId × Value → H} {W : World} {base b0 : Nat} {spare : Nat → Bool} {held : Bool} {r : Reach} {v : Value} {d : DataW H} {p : List MemPlace}
theorem listN8 {cs : List Value} (h : cs.length = 8) : ∃ g0 g1 g2 g3 g4 g5 g6 g7 : Value, cs = g0 :: g1 :: g2 :: g3 :: g4 :: g5 :: g6 :: g7 :: [] := by
 match cs, h with
 | g0 :: g1 :: g2 :: g3 :: g4 :: g5 :: g6 :: g7 :: [], _ => exact ⟨g0, g1, g2, g3, g4, g5, g6, g7, rfl⟩
set_option maxRecDepth 100000 in
theorem slip_cells (n : Nat) (cs : List Value) (x : DataW H × List MemPlace) (hf : DataW.trod enc Tryz.prog W base spare held n 42 cs = some x) : ∃ q : SlD, cs = slC q ∧ SlOk q := by
 obtain ⟨xs, m, rfl, _, hl, fldl, fld⟩ := DataW.trod_struct Tryz.underlying42 hf
 rw [show Tryz.prog.cellsOf 42 = 8 by kernel_rfl] at hl
 have ki : Tryz.prog.cellsOf 3 = 1 := by kernel_rfl
 have kb : Tryz.prog.cellsOf 4 = 1 := by kernel_rfl
 have ku : Tryz.prog.cellsOf 22 = 1 := by kernel_rfl
 have sfld : ∀ i, i < 8 → (xs[i]?).isSome = true := fun i hi => by
  have : xs.length = 8 := fldl
  simp; omega
 obtain ⟨z0, a0, r0⟩ := icell (off := 0) Tryz.underlying3 ki (fld 0 _ rfl) (sfld 0 (by decide))
 obtain ⟨z1, a1⟩ := bcell (off := 1) Tryz.underlying4 kb (fld 1 _ rfl) (sfld 1 (by decide))
 obtain ⟨z2, a2, r2⟩ := icell (off := 2) Tryz.underlying22 ku (fld 2 _ rfl) (sfld 2 (by decide))
 obtain ⟨z3, a3, r3⟩ := icell (off := 3) Tryz.underlying22 ku (fld 3 _ rfl) (sfld 3 (by decide))
 obtain ⟨z4, a4, r4⟩ := icell (off := 4) Tryz.underlying22 ku (fld 4 _ rfl) (sfld 4 (by decide))
 obtain ⟨z5, a5, r5⟩ := icell (off := 5) Tryz.underlying22 ku (fld 5 _ rfl) (sfld 5 (by decide))
 obtain ⟨z6, a6, r6⟩ := icell (off := 6) Tryz.underlying3 ki (fld 6 _ rfl) (sfld 6 (by decide))
 obtain ⟨z7, a7, r7⟩ := icell (off := 7) Tryz.underlying22 ku (fld 7 _ rfl) (sfld 7 (by decide))
 obtain ⟨g0, g1, g2, g3, g4, g5, g6, g7, rfl⟩ := listN8 hl
 simp only [List.drop_succ_cons, List.drop_zero, List.take_succ_cons, List.take_zero, List.getElem?_cons_zero, List.getElem?_cons_succ, List.getElem_cons_succ, List.getElem_cons_zero, Option.some.injEq] at a0 a1 a2 a3 a4 a5 a6 a7
 subst a0
 subst a1
 subst a2
 subst a3
 subst a4
 subst a5
 subst a6
 subst a7
 rw [u64min, u64max] at r2 r3 r4 r5 r7
 exact ⟨⟨z0, z1, z2, z3, z4, z5, z6, z7⟩, rfl, ⟨r2, r3, r4, r5, r7⟩⟩
set_option maxRecDepth 100000 in
theorem slips_world (hv : Value.okWide Tryz.prog W r b0 37 v) (h : DataW.Trod enc Tryz.prog W base spare held 37 v d p) : ∃ l, Recs slC 8 (wh W) v l ∧ ∀ a ∈ l, SlOk a := by
 obtain ⟨f, hf⟩ := h
 obtain ⟨a0, len0, cap0, rfl⟩ := okWide_slice Tryz.underlying37 hv
 exact recs_world zeroSl Tryz.underlying37 (by kernel_rfl) slC_len (by decide) slip_cells hf
end
end Go.X
