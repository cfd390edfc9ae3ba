/- The contract of the law DeedNone. Conditions: the value reads as a deed. -/
import Derived.Test.YtbobjcapmfpmkaaPN
set_option linter.unusedVariables false
set_option linter.unusedSimpArgs false
namespace Go.X
open Go.RowKit Go.Proofs Go.Bl
variable {L : Own} {h : PH} {K : PK}
set_option maxRecDepth 20000 in
theorem dreadnil_any (hk : K (.tuple #[deedV zeroD (.slice none 0 0), .int .i64 1]) L h) : Spec Try.prog 54 [.pointer none] L h K := by
  refine x_enter Try.func54 rfl (rs := [_, _]) rfl rfl mixed (by kernel_rfl) rfl rfl ?_
  simp -dsimp -implicitDefEqProofs (disch := first | with_reducible assumption | omega) [go_sem]
  refine xnew fun b2 n_b2 h_b2 => ?_
  try simp only [Apart] at n_b2
  simp -dsimp -implicitDefEqProofs (disch := first | with_reducible assumption | omega) [go_sem]
  exact fin_tail (fin_here hk)
set_option maxRecDepth 20000 in
theorem dwritenil_any {d : DeedD} (bv : Value) (hb : Ints h .u8 bv d.bits) (hk : K (.int .i64 1) L h) : Spec Try.prog 48 [.pointer none, deedV d bv] L h K := by
  have ob := hb.open
  obtain ⟨x1, y1, rfl, _⟩ := ob
  refine x_enter Try.func48 rfl (rs := [_]) rfl rfl mixed (by kernel_rfl) rfl rfl ?_
  simp -dsimp -implicitDefEqProofs (disch := first | with_reducible assumption | omega) [go_sem]
  refine xnew fun b2 n_b2 h_b2 => ?_
  try simp only [Apart] at n_b2
  simp -dsimp -implicitDefEqProofs (disch := first | with_reducible assumption | omega) [go_sem]
  exact fin_tail (fin_here hk)
set_option maxHeartbeats 1600000 in
set_option maxRecDepth 20000 in
theorem deednone_any (v : Value) (hq : ∃ q : Value × DeedD, v = deedV q.2 q.1 ∧ IsDeed h q.1 q.2) (hk : ∀ h', PH.le h h' → K (.bool true) L h') : Spec Try.prog 10 [v] L h K := by
  obtain ⟨⟨bv, d⟩, rfl, hd0⟩ := hq
  have hd : IsDeed h bv d := hd0
  clear hd0
  change Spec Try.prog 10 [deedV d bv] L h K
  have ob := hd.i.open
  obtain ⟨x1, y1, rfl, _⟩ := ob
  refine x_enter Try.func10 rfl (rs := [_]) rfl rfl mixed (by kernel_rfl) rfl rfl ?_
  simp -dsimp -implicitDefEqProofs (disch := first | with_reducible assumption | omega) [go_sem]
  refine xnew fun b1 n_b1 h_b1 => ?_
  try simp only [Apart] at n_b1
  simp -dsimp -implicitDefEqProofs (disch := first | with_reducible assumption | omega) [go_sem]
  refine Spec.ap (awake8_any fun h2 le2 ap => ?_)
  obtain ⟨q1, _⟩ := ap
  simp -dsimp -implicitDefEqProofs (disch := first | with_reducible assumption | omega) [go_sem]
  by_cases c : (d.bits.length : Int) > 200
  · simp -dsimp -implicitDefEqProofs (disch := first | with_reducible assumption | omega) [go_sem]
    exact fin_tail (fin_here (hk h2 le2))
  simp -dsimp -implicitDefEqProofs (disch := first | with_reducible assumption | omega) [go_sem]
  refine dreadnil_any ?_
  simp -dsimp -implicitDefEqProofs (disch := first | with_reducible assumption | omega) [go_sem]
  refine xnew fun b2 n_b2 h_b2 => ?_
  try simp only [Apart] at n_b2
  simp -dsimp -implicitDefEqProofs (disch := first | with_reducible assumption | omega) [go_sem]
  refine dwritenil_any (d := d) _ (hd.i.up le2) ?_
  simp -dsimp -implicitDefEqProofs (disch := first | with_reducible assumption | omega) [go_sem]
  refine plain8_any (d := zeroD) _ (nil_ints _ .u8) ?_
  simp -dsimp -implicitDefEqProofs (disch := first | with_reducible assumption | omega) [go_sem]
  refine likeD_any zeroD _ _ (nil_ints _ .u8) (nil_ints _ .u8) ?_
  simp -dsimp -implicitDefEqProofs (disch := first | with_reducible assumption | omega) [go_sem]
  exact fin_tail (fin_tail (fin_here (hk h2 le2)))
end Go.X
