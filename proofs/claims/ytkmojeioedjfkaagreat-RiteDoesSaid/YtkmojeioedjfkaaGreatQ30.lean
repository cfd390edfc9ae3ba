/- Lemmas and contracts for a statement about the given program. Conditions: as each says. -/
import Derived.Test.YtkmojeioedjfkaaGreatQ15
set_option linter.unusedVariables false
set_option linter.unusedSimpArgs false
set_option maxHeartbeats 12800000
set_option maxRecDepth 20000
namespace Go.X
open Go.RowKit Go.Proofs Go.Bl
variable {L : Own} {h : PH} {K : PK}
theorem in8_any (n lo hi : Int) (hk : K (.bool (wi n lo hi)) L h) : Spec Tryz.prog 66 [.int .i64 n, .int .i64 lo, .int .i64 hi] L h K := by
 unfold wi at hk
 refine x_enter Tryz.func66 rfl (rs := [_]) rfl rfl mixed (by kernel_rfl) rfl rfl ?_
 simp -dsimp -implicitDefEqProofs (disch := first|with_reducible assumption|omega) [go_sem]
 by_cases c : lo ≤ n
 ·simp -dsimp -implicitDefEqProofs (disch := first|with_reducible assumption|omega) [go_sem]
  exact fin_here (by simpa [c] using hk)
 ·simp -dsimp -implicitDefEqProofs (disch := first|with_reducible assumption|omega) [go_sem]
  exact fin_here (by simpa [c] using hk)
theorem uses_any {d : DeedD} (bv : Value) (hb : Ints h .u8 bv d.bits) (f : Int) (hf : f = 1 ∨ f = 2 ∨ f = 3 ∨ f = 4 ∨ f = 5 ∨ f = 6 ∨ f = 7 ∨ f = 8) (hk : K (.bool (usesB d.kind d.what f)) L h) : Spec Tryz.prog 67 [deedV d bv, .int .i64 f] L h K := by
 have ob := hb.open
 obtain ⟨x1, y1, rfl, _⟩ := ob
 refine x_enter Tryz.func67 rfl (rs := [_]) rfl rfl mixed (by kernel_rfl) rfl rfl ?_
 simp -dsimp -implicitDefEqProofs (disch := first|with_reducible assumption|omega) [go_sem]
 refine xnew fun b1 n_b1 h_b1 => ?_
 try simp only [Apart] at n_b1
 simp -dsimp -implicitDefEqProofs (disch := first|with_reducible assumption|omega) [go_sem]
 by_cases k1 : d.kind = 1
 ·rcases hf with rfl | rfl | rfl | rfl | rfl | rfl | rfl | rfl <;> (simp -dsimp -implicitDefEqProofs (disch := first|with_reducible assumption|omega) [go_sem]; exact fin_tail (fin_here (by simpa [usesB, k1] using hk)))
 by_cases k2 : d.kind = 2
 ·rcases hf with rfl | rfl | rfl | rfl | rfl | rfl | rfl | rfl <;> (simp -dsimp -implicitDefEqProofs (disch := first|with_reducible assumption|omega) [go_sem]; exact fin_tail (fin_here (by simpa [usesB, k2] using hk)))
 by_cases k3 : d.kind = 3
 ·rcases hf with rfl | rfl | rfl | rfl | rfl | rfl | rfl | rfl <;> (simp -dsimp -implicitDefEqProofs (disch := first|with_reducible assumption|omega) [go_sem]; exact fin_tail (fin_here (by simpa [usesB, k3] using hk)))
 by_cases k4 : d.kind = 4
 ·rcases hf with rfl | rfl | rfl | rfl | rfl | rfl | rfl | rfl <;> (simp -dsimp -implicitDefEqProofs (disch := first|with_reducible assumption|omega) [go_sem]; exact fin_tail (fin_here (by simpa [usesB, k4] using hk)))
 by_cases k5 : d.kind = 5
 ·rcases hf with rfl | rfl | rfl | rfl | rfl | rfl | rfl | rfl <;> (simp -dsimp -implicitDefEqProofs (disch := first|with_reducible assumption|omega) [go_sem]; exact fin_tail (fin_here (by simpa [usesB, k5] using hk)))
 by_cases k6 : d.kind = 6
 ·by_cases w1 : d.what = 1
  ·rcases hf with rfl | rfl | rfl | rfl | rfl | rfl | rfl | rfl <;> (simp -dsimp -implicitDefEqProofs (disch := first|with_reducible assumption|omega) [go_sem]; exact fin_tail (fin_here (by simpa [usesB, k6, w1] using hk)))
  by_cases w2 : d.what = 2
  ·rcases hf with rfl | rfl | rfl | rfl | rfl | rfl | rfl | rfl <;> (simp -dsimp -implicitDefEqProofs (disch := first|with_reducible assumption|omega) [go_sem]; exact fin_tail (fin_here (by simpa [usesB, k6, w2] using hk)))
  rcases hf with rfl | rfl | rfl | rfl | rfl | rfl | rfl | rfl <;> (simp -dsimp -implicitDefEqProofs (disch := first|with_reducible assumption|omega) [go_sem]; exact fin_tail (fin_here (by simpa [usesB, k6, w1, w2] using hk)))
 by_cases k7 : d.kind = 7
 ·rcases hf with rfl | rfl | rfl | rfl | rfl | rfl | rfl | rfl <;> (simp -dsimp -implicitDefEqProofs (disch := first|with_reducible assumption|omega) [go_sem]; exact fin_tail (fin_here (by simpa [usesB, k7] using hk)))
 simp -dsimp -implicitDefEqProofs (disch := first|with_reducible assumption|omega) [go_sem]
 exact fin_tail (fin_here (by simpa [usesB, k1, k2, k3, k4, k5, k6, k7] using hk))
end Go.X
