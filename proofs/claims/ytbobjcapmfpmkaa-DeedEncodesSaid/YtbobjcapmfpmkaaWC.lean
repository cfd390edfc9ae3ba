/- Contracts of package ratio's comparisons: math/bits.Mul64, times, less, Less, Two. Conditions: arguments of 64 bits. -/
import Derived.Test.YtbobjcapmfpmkaaTy
import Derived.Test.YtbobjcapmfpmkaaLib
import Derived.Laws.MathBits
set_option linter.unusedVariables false
set_option linter.unusedSimpArgs false
namespace Go.X
open Go.RowKit Go.Proofs Go.Bl
variable {L : Own} {h : PH} {K : PK}
theorem prod_bound (x y : Int) (h0 : 0 ≤ x) (h1 : x ≤ 4294967295) (h2 : 0 ≤ y) (h3 : y ≤ 4294967295) : 0 ≤ x * y ∧ x * y ≤ 18446744065119617025 := by
  constructor
  · exact Int.mul_nonneg h0 h2
  · exact Int.le_trans (Int.mul_le_mul h1 h3 h2 (by decide)) (by decide)
theorem mul_hi (a b : Int) (h0 : 0 ≤ a) (h2 : 0 ≤ b) :
    a / 4294967296 * (b / 4294967296) + (a / 4294967296 * (b % 4294967296) + a % 4294967296 * (b % 4294967296) / 4294967296) / 4294967296 +
      ((a / 4294967296 * (b % 4294967296) + a % 4294967296 * (b % 4294967296) / 4294967296) % 4294967296 + a % 4294967296 * (b / 4294967296)) / 4294967296 = a * b / 18446744073709551616 := by
  have ha : a = a / 4294967296 * 4294967296 + a % 4294967296 := by omega
  have hb : b = b / 4294967296 * 4294967296 + b % 4294967296 := by omega
  have e : a * b = a / 4294967296 * (b / 4294967296) * 18446744073709551616 + (a / 4294967296 * (b % 4294967296) + a % 4294967296 * (b / 4294967296)) * 4294967296 + a % 4294967296 * (b % 4294967296) := by
    generalize a / 4294967296 = a1 at *
    generalize a % 4294967296 = a0 at *
    generalize b / 4294967296 = b1 at *
    generalize b % 4294967296 = b0 at *
    subst ha; subst hb
    rw [Int.add_mul, Int.mul_add, Int.mul_add, Int.add_mul]
    have e1 : a1 * 4294967296 * (b1 * 4294967296) = a1 * b1 * 18446744073709551616 := by
      rw [Int.mul_assoc, Int.mul_comm 4294967296 (b1 * 4294967296), Int.mul_assoc b1, ← Int.mul_assoc a1]; rfl
    have e2 : a1 * 4294967296 * b0 = a1 * b0 * 4294967296 := by rw [Int.mul_assoc, Int.mul_comm 4294967296 b0, ← Int.mul_assoc]
    have e3 : a0 * (b1 * 4294967296) = a0 * b1 * 4294967296 := by rw [Int.mul_assoc]
    rw [e1, e2, e3]
    omega
  have p1 := Int.mul_nonneg (show 0 ≤ a % 4294967296 by omega) (show 0 ≤ b % 4294967296 by omega)
  rw [e]
  generalize a / 4294967296 * (b / 4294967296) = p11
  generalize a / 4294967296 * (b % 4294967296) = p10
  generalize a % 4294967296 * (b / 4294967296) = p01
  generalize a % 4294967296 * (b % 4294967296) = p00 at *
  omega
theorem hi_bound (a b : Int) (h0 : 0 ≤ a) (h1 : a ≤ 18446744073709551615) (h2 : 0 ≤ b) (h3 : b ≤ 18446744073709551615) : 0 ≤ a * b / 18446744073709551616 ∧ a * b / 18446744073709551616 ≤ 18446744073709551614 := by
  have p0 := Int.mul_nonneg h0 h2
  have p1 : a * b ≤ 18446744073709551615 * 18446744073709551615 := Int.mul_le_mul h1 h3 h2 (by decide)
  omega
set_option maxRecDepth 20000 in
theorem mul64_any (a b : Int) (h0 : 0 ≤ a) (h1 : a ≤ 18446744073709551615) (h2 : 0 ≤ b) (h3 : b ≤ 18446744073709551615) (hk : K (.tuple #[.int .u64 (a * b / 18446744073709551616), .int .u64 (a * b % 18446744073709551616)]) L h) :
    Spec Try.prog 153 [.int .u64 a, .int .u64 b] L h K := by
  have a0 := and_low32 a h0 (by omega)
  have b0 := and_low32 b h2 (by omega)
  have q00 := prod_bound (a % 4294967296) (b % 4294967296) (by omega) (by omega) (by omega) (by omega)
  have q10 := prod_bound (a / 4294967296) (b % 4294967296) (by omega) (by omega) (by omega) (by omega)
  have q01 := prod_bound (a % 4294967296) (b / 4294967296) (by omega) (by omega) (by omega) (by omega)
  have q11 := prod_bound (a / 4294967296) (b / 4294967296) (by omega) (by omega) (by omega) (by omega)
  have hh := mul_hi a b h0 h2
  have hb := hi_bound a b h0 h1 h2 h3
  rw [← hh] at hk hb
  have t0 := and_low32 (a / 4294967296 * (b % 4294967296) + a % 4294967296 * (b % 4294967296) / 4294967296) (by omega) (by omega)
  refine x_enter Try.func153 rfl (rs := [_, _]) rfl rfl mixed (by kernel_rfl) rfl rfl ?_
  simp -dsimp -implicitDefEqProofs (disch := first | with_reducible assumption | omega) [go_sem, a0, b0, t0, IntKind.bits]
  rw [wrap_u64_mod]
  exact fin_here hk
theorem times_any (a b : Int) (h0 : 0 ≤ a) (h1 : a ≤ 18446744073709551615) (h2 : 0 ≤ b) (h3 : b ≤ 18446744073709551615) (hk : K (.agg #[.int .u64 (a * b / 18446744073709551616), .int .u64 (a * b % 18446744073709551616)]) L h) :
    Spec Try.prog 131 [.int .u64 a, .int .u64 b] L h K := by
  refine x_enter Try.func131 rfl (rs := [_]) rfl rfl mixed (by kernel_rfl) rfl rfl ?_
  simp -dsimp -implicitDefEqProofs (disch := first | with_reducible assumption | omega) [go_sem]
  refine xnew fun b1 n1 hb1 => ?_
  simp -dsimp -implicitDefEqProofs (disch := first | with_reducible assumption | omega) [go_sem]
  refine mul64_any _ _ h0 h1 h2 h3 ?_
  simp -dsimp -implicitDefEqProofs (disch := first | with_reducible assumption | omega) [go_sem]
  exact fin_tail (fin_here hk)
theorem wless_any (a b c d : Int) (hk : K (.bool (decide (a < c ∨ a = c ∧ b < d))) L h) : Spec Try.prog 132 [.agg #[.int .u64 a, .int .u64 b], .agg #[.int .u64 c, .int .u64 d]] L h K := by
  refine x_enter Try.func132 rfl (rs := [_]) rfl rfl mixed (by kernel_rfl) rfl rfl ?_
  simp -dsimp -implicitDefEqProofs (disch := first | with_reducible assumption | omega) [go_sem]
  refine xnew fun b1 n_b1 h_b1 => ?_
  try simp only [Apart] at n_b1
  simp -dsimp -implicitDefEqProofs (disch := first | with_reducible assumption | omega) [go_sem]
  refine xnew fun b2 n_b2 h_b2 => ?_
  try simp only [Apart] at n_b2
  simp -dsimp -implicitDefEqProofs (disch := first | with_reducible assumption | omega) [go_sem]
  by_cases c1 : a < c
  · simp -dsimp -implicitDefEqProofs (disch := first | with_reducible assumption | omega) [go_sem]
    exact fin_tail (fin_tail (fin_here (by simpa [c1] using hk)))
  · simp -dsimp -implicitDefEqProofs (disch := first | with_reducible assumption | omega) [go_sem]
    by_cases c2 : a = c
    · simp -dsimp -implicitDefEqProofs (disch := first | with_reducible assumption | omega) [go_sem]
      exact fin_tail (fin_tail (fin_here (by simpa [c1, c2] using hk)))
    · simp -dsimp -implicitDefEqProofs (disch := first | with_reducible assumption | omega) [go_sem]
      exact fin_tail (fin_tail (fin_here (by simpa [c1, c2] using hk)))
theorem prod_less (a b c d : Int) : decide (a * b / 18446744073709551616 < c * d / 18446744073709551616 ∨ a * b / 18446744073709551616 = c * d / 18446744073709551616 ∧ a * b % 18446744073709551616 < c * d % 18446744073709551616) = decide (a * b < c * d) := by
  generalize a * b = x
  generalize c * d = y
  rw [decide_eq_decide]; omega
theorem rless_any (a b c d : Int) (ha : 0 ≤ a ∧ a ≤ 18446744073709551615) (hb : 0 ≤ b ∧ b ≤ 18446744073709551615) (hc : 0 ≤ c ∧ c ≤ 18446744073709551615) (hd : 0 ≤ d ∧ d ≤ 18446744073709551615) (hk : K (.bool (decide (a * b < c * d))) L h) :
    Spec Try.prog 81 [.int .u64 a, .int .u64 b, .int .u64 c, .int .u64 d] L h K := by
  refine x_enter Try.func81 rfl (rs := [_]) rfl rfl mixed (by kernel_rfl) rfl rfl ?_
  simp -dsimp -implicitDefEqProofs (disch := first | with_reducible assumption | omega) [go_sem]
  refine times_any _ _ ha.1 ha.2 hb.1 hb.2 ?_
  simp -dsimp -implicitDefEqProofs (disch := first | with_reducible assumption | omega) [go_sem]
  refine times_any _ _ hc.1 hc.2 hd.1 hd.2 ?_
  simp -dsimp -implicitDefEqProofs (disch := first | with_reducible assumption | omega) [go_sem]
  refine wless_any _ _ _ _ ?_
  simp -dsimp -implicitDefEqProofs (disch := first | with_reducible assumption | omega) [go_sem]
  rw [← prod_less] at hk
  exact fin_here (by simpa using hk)
theorem rtwo_any (p a : Int) (hp : 0 ≤ p ∧ p ≤ 18446744073709551615) (ha : 0 ≤ a ∧ a ≤ 18446744073709551615) (hk : K (.bool (decide (0 < a) && decide (2 * a < 3 * p))) L h) :
    Spec Try.prog 31 [.int .u64 p, .int .u64 a] L h K := by
  refine x_enter Try.func31 rfl (rs := [_]) rfl rfl mixed (by kernel_rfl) rfl rfl ?_
  simp -dsimp -implicitDefEqProofs (disch := first | with_reducible assumption | omega) [go_sem]
  by_cases c : 0 < a
  · simp -dsimp -implicitDefEqProofs (disch := first | with_reducible assumption | omega) [go_sem]
    refine rless_any _ _ _ _ (by omega) ha (by omega) hp ?_
    simp -dsimp -implicitDefEqProofs (disch := first | with_reducible assumption | omega) [go_sem]
    exact fin_here (by simpa [c] using hk)
  · simp -dsimp -implicitDefEqProofs (disch := first | with_reducible assumption | omega) [go_sem]
    exact fin_here (by simpa [c] using hk)
end Go.X
