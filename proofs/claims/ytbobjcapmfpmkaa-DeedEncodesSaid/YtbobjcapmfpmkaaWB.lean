/- Contracts of the comparisons of lists: bullionref04.Same, bullionref05.Same, slices.Equal. Conditions: the slices read as lists of integers. -/
import Derived.Test.YtbobjcapmfpmkaaTy
import Derived.Test.YtbobjcapmfpmkaaLib
set_option linter.unusedVariables false
set_option linter.unusedSimpArgs false
namespace Go.X
open Go.RowKit Go.Proofs Go.Bl
variable {L : Own} {h : PH} {K : PK}
theorem at0_ext {xs ys : List Int} (hl : xs.length = ys.length) (he : ∀ j, j < xs.length → at0 xs j = at0 ys j) : xs = ys := by
  apply List.ext_getElem hl
  intro j h1 h2
  rw [at0_lt h1, at0_lt h2]
  exact he j h1
theorem same64 {xs ys : List Int} (v u : Value) (hx : Ints h .u64 v xs) (hy : Ints h .u64 u ys) (hk : K (.bool (decide (xs = ys))) L h) : Spec Try.prog 80 [v, u] L h K := by
  obtain ⟨a, ca, rfl, hna, hca, _, hcx⟩ := hx.open
  obtain ⟨b, cb, rfl, hnb, hcb, _, hcy⟩ := hy.open
  refine x_enter Try.func80 rfl (rs := [_]) rfl rfl mixed (by kernel_rfl) rfl rfl ?_
  simp -dsimp -implicitDefEqProofs (disch := first | with_reducible assumption | omega) [go_sem]
  refine xif_dec (fun c1 => ?_) (fun c1 => ?_)
  · simp -dsimp -implicitDefEqProofs (disch := first | with_reducible assumption | omega) [go_sem]
    refine xloop' (0 : Nat) (fun k => k ≤ xs.length ∧ ∀ j, j < k → at0 xs j = at0 ys j) (fun k => [(5, .int .i64 k), (0, .slice a xs.length ca), (1, .slice b ys.length cb)]) (fun k => xs.length - k) ?_ ?_ ?_
    · exact ⟨Nat.zero_le _, fun j hj => by omega⟩
    · simp [Ent, List.lookup, xEnv]
    intro k ⟨hk1, hk2⟩
    simp -dsimp -implicitDefEqProofs (disch := first | with_reducible assumption | omega) [go_sem]
    refine xif_dec (fun c2 => ?_) (fun c2 => ?_)
    · simp -dsimp -implicitDefEqProofs (disch := first | with_reducible assumption | omega) [go_sem]
      refine xdraw (by kernel_rfl) rfl ?_
      simp -dsimp -implicitDefEqProofs (disch := first | with_reducible assumption | omega) [go_sem, idx hcx, idx hcy]
      refine xif_dec (fun c3 => ?_) (fun c3 => ?_)
      · simp -dsimp -implicitDefEqProofs (disch := first | with_reducible assumption | omega) [go_sem]
        refine ⟨k + 1, ⟨by omega, fun j hj => ?_⟩, by omega, by simp [Ent, List.lookup], Drop.refl _ _⟩
        by_cases e : j = k
        · subst e; exact c3
        · exact hk2 j (by omega)
      · have hne : xs ≠ ys := fun e => c3 (by rw [e])
        rw [decide_eq_false hne] at hk
        simp -dsimp -implicitDefEqProofs (disch := first | with_reducible assumption | omega) [go_sem]
        exact fin_here hk
    · have he : xs = ys := at0_ext (by omega) fun j hj => hk2 j (by omega)
      rw [decide_eq_true he] at hk
      simp -dsimp -implicitDefEqProofs (disch := first | with_reducible assumption | omega) [go_sem]
      exact fin_here hk
  · have hne : xs ≠ ys := fun e => c1 (by rw [e])
    rw [decide_eq_false hne] at hk
    simp -dsimp -implicitDefEqProofs (disch := first | with_reducible assumption | omega) [go_sem]
    exact fin_here hk
theorem same8 {xs ys : List Int} (v u : Value) (hx : Ints h .u8 v xs) (hy : Ints h .u8 u ys) (hk : K (.bool (decide (xs = ys))) L h) : Spec Try.prog 42 [v, u] L h K := by
  obtain ⟨a, ca, rfl, hna, hca, _, hcx⟩ := hx.open
  obtain ⟨b, cb, rfl, hnb, hcb, _, hcy⟩ := hy.open
  refine x_enter Try.func42 rfl (rs := [_]) rfl rfl mixed (by kernel_rfl) rfl rfl ?_
  simp -dsimp -implicitDefEqProofs (disch := first | with_reducible assumption | omega) [go_sem]
  refine xif_dec (fun c1 => ?_) (fun c1 => ?_)
  · simp -dsimp -implicitDefEqProofs (disch := first | with_reducible assumption | omega) [go_sem]
    refine xloop' (0 : Nat) (fun k => k ≤ xs.length ∧ ∀ j, j < k → at0 xs j = at0 ys j) (fun k => [(5, .int .i64 k), (0, .slice a xs.length ca), (1, .slice b ys.length cb)]) (fun k => xs.length - k) ?_ ?_ ?_
    · exact ⟨Nat.zero_le _, fun j hj => by omega⟩
    · simp [Ent, List.lookup, xEnv]
    intro k ⟨hk1, hk2⟩
    simp -dsimp -implicitDefEqProofs (disch := first | with_reducible assumption | omega) [go_sem]
    refine xif_dec (fun c2 => ?_) (fun c2 => ?_)
    · simp -dsimp -implicitDefEqProofs (disch := first | with_reducible assumption | omega) [go_sem]
      refine xdraw (by kernel_rfl) rfl ?_
      simp -dsimp -implicitDefEqProofs (disch := first | with_reducible assumption | omega) [go_sem, idx hcx, idx hcy]
      refine xif_dec (fun c3 => ?_) (fun c3 => ?_)
      · simp -dsimp -implicitDefEqProofs (disch := first | with_reducible assumption | omega) [go_sem]
        refine ⟨k + 1, ⟨by omega, fun j hj => ?_⟩, by omega, by simp [Ent, List.lookup], Drop.refl _ _⟩
        by_cases e : j = k
        · subst e; exact c3
        · exact hk2 j (by omega)
      · have hne : xs ≠ ys := fun e => c3 (by rw [e])
        rw [decide_eq_false hne] at hk
        simp -dsimp -implicitDefEqProofs (disch := first | with_reducible assumption | omega) [go_sem]
        exact fin_here hk
    · have he : xs = ys := at0_ext (by omega) fun j hj => hk2 j (by omega)
      rw [decide_eq_true he] at hk
      simp -dsimp -implicitDefEqProofs (disch := first | with_reducible assumption | omega) [go_sem]
      exact fin_here hk
  · have hne : xs ≠ ys := fun e => c1 (by rw [e])
    rw [decide_eq_false hne] at hk
    simp -dsimp -implicitDefEqProofs (disch := first | with_reducible assumption | omega) [go_sem]
    exact fin_here hk
theorem equal64 {xs ys : List Int} (v u : Value) (hx : Ints h .u64 v xs) (hy : Ints h .u64 u ys) (hk : K (.bool (decide (xs = ys))) L h) : Spec Try.prog 120 [v, u] L h K := by
  obtain ⟨a, ca, rfl, hna, hca, _, hcx⟩ := hx.open
  obtain ⟨b, cb, rfl, hnb, hcb, _, hcy⟩ := hy.open
  refine x_enter Try.func120 rfl (rs := [_]) rfl rfl mixed (by kernel_rfl) rfl rfl ?_
  simp -dsimp -implicitDefEqProofs (disch := first | with_reducible assumption | omega) [go_sem]
  refine xif_dec (fun c1 => ?_) (fun c1 => ?_)
  · simp -dsimp -implicitDefEqProofs (disch := first | with_reducible assumption | omega) [go_sem]
    refine xloop' (0 : Nat) (fun k => k ≤ xs.length ∧ ∀ j, j < k → at0 xs j = at0 ys j) (fun k => [(13, .int .i64 k), (12, .int .i64 xs.length), (0, .slice a xs.length ca), (1, .slice b ys.length cb)]) (fun k => xs.length - k) ?_ ?_ ?_
    · exact ⟨Nat.zero_le _, fun j hj => by omega⟩
    · simp [Ent, List.lookup, xEnv]
    intro k ⟨hk1, hk2⟩
    simp -dsimp -implicitDefEqProofs (disch := first | with_reducible assumption | omega) [go_sem]
    refine xif_dec (fun c2 => ?_) (fun c2 => ?_)
    · simp -dsimp -implicitDefEqProofs (disch := first | with_reducible assumption | omega) [go_sem]
      refine xdraw (by kernel_rfl) rfl ?_
      simp -dsimp -implicitDefEqProofs (disch := first | with_reducible assumption | omega) [go_sem, idx hcx, idx hcy]
      refine xif_dec (fun c3 => ?_) (fun c3 => ?_)
      · simp -dsimp -implicitDefEqProofs (disch := first | with_reducible assumption | omega) [go_sem]
        refine ⟨k + 1, ⟨by omega, fun j hj => ?_⟩, by omega, by simp [Ent, List.lookup], Drop.refl _ _⟩
        by_cases e : j = k
        · subst e; exact c3
        · exact hk2 j (by omega)
      · have hne : xs ≠ ys := fun e => c3 (by rw [e])
        rw [decide_eq_false hne] at hk
        simp -dsimp -implicitDefEqProofs (disch := first | with_reducible assumption | omega) [go_sem]
        exact fin_here hk
    · have he : xs = ys := at0_ext (by omega) fun j hj => hk2 j (by omega)
      rw [decide_eq_true he] at hk
      simp -dsimp -implicitDefEqProofs (disch := first | with_reducible assumption | omega) [go_sem]
      exact fin_here hk
  · have hne : xs ≠ ys := fun e => c1 (by rw [e])
    rw [decide_eq_false hne] at hk
    simp -dsimp -implicitDefEqProofs (disch := first | with_reducible assumption | omega) [go_sem]
    exact fin_here hk
theorem equal8 {xs ys : List Int} (v u : Value) (hx : Ints h .u8 v xs) (hy : Ints h .u8 u ys) (hk : K (.bool (decide (xs = ys))) L h) : Spec Try.prog 133 [v, u] L h K := by
  obtain ⟨a, ca, rfl, hna, hca, _, hcx⟩ := hx.open
  obtain ⟨b, cb, rfl, hnb, hcb, _, hcy⟩ := hy.open
  refine x_enter Try.func133 rfl (rs := [_]) rfl rfl mixed (by kernel_rfl) rfl rfl ?_
  simp -dsimp -implicitDefEqProofs (disch := first | with_reducible assumption | omega) [go_sem]
  refine xif_dec (fun c1 => ?_) (fun c1 => ?_)
  · simp -dsimp -implicitDefEqProofs (disch := first | with_reducible assumption | omega) [go_sem]
    refine xloop' (0 : Nat) (fun k => k ≤ xs.length ∧ ∀ j, j < k → at0 xs j = at0 ys j) (fun k => [(13, .int .i64 k), (12, .int .i64 xs.length), (0, .slice a xs.length ca), (1, .slice b ys.length cb)]) (fun k => xs.length - k) ?_ ?_ ?_
    · exact ⟨Nat.zero_le _, fun j hj => by omega⟩
    · simp [Ent, List.lookup, xEnv]
    intro k ⟨hk1, hk2⟩
    simp -dsimp -implicitDefEqProofs (disch := first | with_reducible assumption | omega) [go_sem]
    refine xif_dec (fun c2 => ?_) (fun c2 => ?_)
    · simp -dsimp -implicitDefEqProofs (disch := first | with_reducible assumption | omega) [go_sem]
      refine xdraw (by kernel_rfl) rfl ?_
      simp -dsimp -implicitDefEqProofs (disch := first | with_reducible assumption | omega) [go_sem, idx hcx, idx hcy]
      refine xif_dec (fun c3 => ?_) (fun c3 => ?_)
      · simp -dsimp -implicitDefEqProofs (disch := first | with_reducible assumption | omega) [go_sem]
        refine ⟨k + 1, ⟨by omega, fun j hj => ?_⟩, by omega, by simp [Ent, List.lookup], Drop.refl _ _⟩
        by_cases e : j = k
        · subst e; exact c3
        · exact hk2 j (by omega)
      · have hne : xs ≠ ys := fun e => c3 (by rw [e])
        rw [decide_eq_false hne] at hk
        simp -dsimp -implicitDefEqProofs (disch := first | with_reducible assumption | omega) [go_sem]
        exact fin_here hk
    · have he : xs = ys := at0_ext (by omega) fun j hj => hk2 j (by omega)
      rw [decide_eq_true he] at hk
      simp -dsimp -implicitDefEqProofs (disch := first | with_reducible assumption | omega) [go_sem]
      exact fin_here hk
  · have hne : xs ≠ ys := fun e => c1 (by rw [e])
    rw [decide_eq_false hne] at hk
    simp -dsimp -implicitDefEqProofs (disch := first | with_reducible assumption | omega) [go_sem]
    exact fin_here hk
end Go.X
