/- Contracts of the document's layers 10, 11, 16, 18, 19, 20, 23 as far as bullionref24.Fits asks for them. Conditions: the values read as such. -/
import Derived.Test.YtfilkbfkhdaakaaGreatSG
set_option linter.unusedVariables false
set_option linter.unusedSimpArgs false
namespace Go.X
open Go.RowKit Go.Proofs Go.Bl
variable {L : Own} {h : PH} {K : PK}
theorem below_any (a b c : Int) (ha : 0 ≤ a ∧ a ≤ 18446744073709551615) (hb : 0 ≤ b) (hc : 0 ≤ c ∧ c ≤ 18446744073709551615) (hk : K (.bool (decide (a + b < c))) L h) : Spec Tryz.prog 212 [.int .u64 a, .int .u64 b, .int .u64 c] L h K := by
  refine x_enter Tryz.func212 rfl (rs := [_]) rfl rfl mixed (by kernel_rfl) rfl rfl ?_
  simp -dsimp -implicitDefEqProofs (disch := first | with_reducible assumption | omega) [go_sem]
  by_cases c1 : a < c
  · have e : decide (a + b < c) = decide (b < c - a) := by apply decide_eq_decide.2; omega
    rw [e] at hk
    simp -dsimp -implicitDefEqProofs (disch := first | with_reducible assumption | omega) [go_sem]
    exact fin_here hk
  · rw [decide_eq_false (show ¬ a + b < c by omega)] at hk
    simp -dsimp -implicitDefEqProofs (disch := first | with_reducible assumption | omega) [go_sem]
    exact fin_here hk
set_option maxHeartbeats 1600000 in
set_option maxRecDepth 20000 in
theorem whole10_any (p : ParD) (b : Int) (h1 : 1 ≤ p.inc) (hb : 0 ≤ b ∧ b ≤ 18446744073709551615) (hk : K (.int .u64 (wholeP p b)) L h) : Spec Tryz.prog 119 [parV p, .int .u64 b] L h K := by
  have e1 := Int.emod_nonneg b (show p.inc ≠ 0 by omega)
  have e3 : b / p.inc * p.inc = b - b % p.inc := by rw [Int.emod_def, Int.mul_comm]; omega
  have e2 : 0 ≤ b / p.inc * p.inc := Int.mul_nonneg (Int.ediv_nonneg hb.1 (by omega)) (by omega)
  have e4 := Int.ediv_nonneg hb.1 (show 0 ≤ p.inc by omega)
  have e5 : b / p.inc ≤ 18446744073709551615 := Int.le_trans (Int.ediv_le_self _ hb.1) hb.2
  have e6 : b / p.inc * p.inc ≤ 18446744073709551615 := by rw [e3]; omega
  unfold wholeP at hk
  rw [← e3] at hk
  refine x_enter Tryz.func119 rfl (rs := [_]) rfl rfl mixed (by kernel_rfl) rfl rfl ?_
  simp -dsimp -implicitDefEqProofs (disch := first | with_reducible assumption | omega) [go_sem]
  refine xnew fun b1 n_b1 h_b1 => ?_
  try simp only [Apart] at n_b1
  simp -dsimp -implicitDefEqProofs (disch := first | with_reducible assumption | omega) [go_sem]
  refine xanyl (.tk 0 (.tk 1 (.tk 4 (.tkl 2 (.tk 3 (.tkl 5 (.tk 6 (.tk 7 (.fin))))))))) (by kernel_rfl) (by kernel_rfl) _ (Drop.refl _ _) ?_
  simp -dsimp -implicitDefEqProofs (disch := first | with_reducible assumption | omega) [go_sem]
  by_cases c : p.maxEff < b / p.inc * p.inc
  · rw [Int.min_eq_right (by omega)] at hk
    simp -dsimp -implicitDefEqProofs (disch := first | with_reducible assumption | omega) [go_sem]
    exact fin_tail (fin_here hk)
  · rw [Int.min_eq_left (by omega)] at hk
    simp -dsimp -implicitDefEqProofs (disch := first | with_reducible assumption | omega) [go_sem]
    exact fin_tail (fin_here hk)
set_option maxHeartbeats 1600000 in
set_option maxRecDepth 20000 in
theorem next10_any (p : ParD) (ok : ParOk p) (h1 : 1 ≤ p.inc) (e b : Int) (he : 0 ≤ e ∧ e ≤ 18446744073709551615) (hb : 0 ≤ b ∧ b ≤ 18446744073709551615) (hk : K (.int .u64 (nextP p e b)) L h) : Spec Tryz.prog 117 [parV p, .int .u64 e, .int .u64 b] L h K := by
  have u1 := ok.w p.down (by simp [wides])
  have u2 := ok.w p.up (by simp [wides])
  unfold nextP farP at hk
  refine x_enter Tryz.func117 rfl (rs := [_]) rfl rfl mixed (by kernel_rfl) rfl rfl ?_
  simp -dsimp -implicitDefEqProofs (disch := first | with_reducible assumption | omega) [go_sem]
  refine xnew fun b1 n_b1 h_b1 => ?_
  try simp only [Apart] at n_b1
  simp -dsimp -implicitDefEqProofs (disch := first | with_reducible assumption | omega) [go_sem]
  refine below_any _ _ _ hb u1.1 he ?_
  cases c1 : decide (b + p.down < e) with
  | true =>
    rw [c1] at hk
    simp -dsimp -implicitDefEqProofs (disch := first | with_reducible assumption | omega) [go_sem]
    refine whole10_any p b h1 hb ?_
    simp -dsimp -implicitDefEqProofs (disch := first | with_reducible assumption | omega) [go_sem]
    exact fin_tail (fin_here (by simpa using hk))
  | false =>
    rw [c1] at hk
    simp -dsimp -implicitDefEqProofs (disch := first | with_reducible assumption | omega) [go_sem]
    refine below_any _ _ _ he u2.1 hb ?_
    cases c2 : decide (e + p.up < b) with
    | true =>
      rw [c2] at hk
      simp -dsimp -implicitDefEqProofs (disch := first | with_reducible assumption | omega) [go_sem]
      refine whole10_any p b h1 hb ?_
      simp -dsimp -implicitDefEqProofs (disch := first | with_reducible assumption | omega) [go_sem]
      exact fin_tail (fin_here (by simpa using hk))
    | false =>
      rw [c2] at hk
      simp -dsimp -implicitDefEqProofs (disch := first | with_reducible assumption | omega) [go_sem]
      exact fin_tail (fin_here (by simpa using hk))
set_option maxHeartbeats 1600000 in
set_option maxRecDepth 20000 in
theorem fits10_any (p : ParD) (ok : ParOk p) (h1 : 1 ≤ p.inc) (e b : Int) (he : 0 ≤ e ∧ e ≤ 18446744073709551615) (hb : 0 ≤ b ∧ b ≤ 18446744073709551615) (hk : K (.bool (gfitsP p e b)) L h) : Spec Tryz.prog 118 [parV p, .int .u64 e, .int .u64 b] L h K := by
  refine x_enter Tryz.func118 rfl (rs := [_]) rfl rfl mixed (by kernel_rfl) rfl rfl ?_
  simp -dsimp -implicitDefEqProofs (disch := first | with_reducible assumption | omega) [go_sem]
  refine xnew fun b1 n_b1 h_b1 => ?_
  try simp only [Apart] at n_b1
  simp -dsimp -implicitDefEqProofs (disch := first | with_reducible assumption | omega) [go_sem]
  by_cases c1 : p.inc ≤ e
  · by_cases c2 : e ≤ p.maxEff
    · by_cases c3 : e % p.inc = 0
      · simp -dsimp -implicitDefEqProofs (disch := first | with_reducible assumption | omega) [go_sem]
        refine next10_any p ok h1 e b he hb ?_
        simp -dsimp -implicitDefEqProofs (disch := first | with_reducible assumption | omega) [go_sem]
        exact fin_tail (fin_here (by simpa [gfitsP, c1, c2, c3] using hk))
      · simp -dsimp -implicitDefEqProofs (disch := first | with_reducible assumption | omega) [go_sem]
        exact fin_tail (fin_here (by simpa [gfitsP, c1, c2, c3] using hk))
    · simp -dsimp -implicitDefEqProofs (disch := first | with_reducible assumption | omega) [go_sem]
      exact fin_tail (fin_here (by simpa [gfitsP, c1, c2] using hk))
  · simp -dsimp -implicitDefEqProofs (disch := first | with_reducible assumption | omega) [go_sem]
    exact fin_tail (fin_here (by simpa [gfitsP, c1] using hk))
set_option maxHeartbeats 1600000 in
set_option maxRecDepth 20000 in
theorem trim11_any (p : ParD) (m : MemD) (hk : K (stdV (trimM p m)) L h) : Spec Tryz.prog 115 [parV p, stdV m] L h K := by
  unfold trimM at hk
  refine x_enter Tryz.func115 rfl (rs := [_]) rfl rfl mixed (by kernel_rfl) rfl rfl ?_
  simp -dsimp -implicitDefEqProofs (disch := first | with_reducible assumption | omega) [go_sem]
  refine xnew fun b1 n_b1 h_b1 => ?_
  try simp only [Apart] at n_b1
  simp -dsimp -implicitDefEqProofs (disch := first | with_reducible assumption | omega) [go_sem]
  refine xnew fun b2 n_b2 h_b2 => ?_
  try simp only [Apart] at n_b2
  simp -dsimp -implicitDefEqProofs (disch := first | with_reducible assumption | omega) [go_sem]
  refine xnew fun b3 n_b3 h_b3 => ?_
  try simp only [Apart] at n_b3
  simp -dsimp -implicitDefEqProofs (disch := first | with_reducible assumption | omega) [go_sem]
  by_cases c1 : p.scoreCap < m.score
  · rw [Int.min_eq_right (by omega)] at hk
    by_cases c2 : m.streak < 0
    · rw [Int.max_eq_right (by omega)] at hk
      by_cases c3 : p.streak < 0
      · rw [Int.min_eq_right (by omega)] at hk
        simp -dsimp -implicitDefEqProofs (disch := first | with_reducible assumption | omega) [go_sem]
        exact fin_tail (fin_tail (fin_tail (fin_here hk)))
      · rw [Int.min_eq_left (by omega)] at hk
        simp -dsimp -implicitDefEqProofs (disch := first | with_reducible assumption | omega) [go_sem]
        exact fin_tail (fin_tail (fin_tail (fin_here hk)))
    · rw [Int.max_eq_left (by omega)] at hk
      by_cases c3 : p.streak < m.streak
      · rw [Int.min_eq_right (by omega)] at hk
        simp -dsimp -implicitDefEqProofs (disch := first | with_reducible assumption | omega) [go_sem]
        exact fin_tail (fin_tail (fin_tail (fin_here hk)))
      · rw [Int.min_eq_left (by omega)] at hk
        simp -dsimp -implicitDefEqProofs (disch := first | with_reducible assumption | omega) [go_sem]
        exact fin_tail (fin_tail (fin_tail (fin_here hk)))
  · rw [Int.min_eq_left (a := m.score) (by omega)] at hk
    by_cases c2 : m.streak < 0
    · rw [Int.max_eq_right (by omega)] at hk
      by_cases c3 : p.streak < 0
      · rw [Int.min_eq_right (by omega)] at hk
        simp -dsimp -implicitDefEqProofs (disch := first | with_reducible assumption | omega) [go_sem]
        exact fin_tail (fin_tail (fin_tail (fin_here hk)))
      · rw [Int.min_eq_left (by omega)] at hk
        simp -dsimp -implicitDefEqProofs (disch := first | with_reducible assumption | omega) [go_sem]
        exact fin_tail (fin_tail (fin_tail (fin_here hk)))
    · rw [Int.max_eq_left (by omega)] at hk
      by_cases c3 : p.streak < m.streak
      · rw [Int.min_eq_right (by omega)] at hk
        simp -dsimp -implicitDefEqProofs (disch := first | with_reducible assumption | omega) [go_sem]
        exact fin_tail (fin_tail (fin_tail (fin_here hk)))
      · rw [Int.min_eq_left (by omega)] at hk
        simp -dsimp -implicitDefEqProofs (disch := first | with_reducible assumption | omega) [go_sem]
        exact fin_tail (fin_tail (fin_tail (fin_here hk)))
theorem counts19_any (m : MemD) (hk : K (.bool (decide (m.status = 2 ∨ m.status = 3))) L h) : Spec Tryz.prog 116 [memV m] L h K := by
  refine x_enter Tryz.func116 rfl (rs := [_]) rfl rfl mixed (by kernel_rfl) rfl rfl ?_
  simp -dsimp -implicitDefEqProofs (disch := first | with_reducible assumption | omega) [go_sem]
  refine xnew fun b1 n_b1 h_b1 => ?_
  try simp only [Apart] at n_b1
  simp -dsimp -implicitDefEqProofs (disch := first | with_reducible assumption | omega) [go_sem]
  by_cases c : m.status = 2
  · rw [decide_eq_true (Or.inl c)] at hk
    simp -dsimp -implicitDefEqProofs (disch := first | with_reducible assumption | omega) [go_sem]
    exact fin_tail (fin_here hk)
  · have e : decide (m.status = 2 ∨ m.status = 3) = decide (m.status = 3) := by apply decide_eq_decide.2; omega
    rw [e] at hk
    simp -dsimp -implicitDefEqProofs (disch := first | with_reducible assumption | omega) [go_sem]
    exact fin_tail (fin_here hk)
theorem xBin_neintsS {P : Program} {T : Nat} {ks : List IntKind} (ht : P.underlying T = some (.struct (P.fieldsOf T))) (hp : P.stoodInHeld T = false) (hg : P.eqGuardType P.depth T = false) (hok : okF P (P.fieldsOf T).toList 0 ks = true) (ps qs : List Int) (ha : ps.length = ks.length) (hb : qs.length = ks.length)
    (x y : Operand) (K : Value → Prop) (t : Tok K) : xBin P .neq T x y (.agg (List.zipWith Value.int ks ps).toArray) (.agg (List.zipWith Value.int ks qs).toArray) K t = K (.bool (!decide (ps = qs))) :=
  xRun_of (fun W => by
    simp only [Sem.run_bind, run_eqGuard_agg W .neq T x y _ _ hg, Result.andThen_ok, run_neq_struct, run_eq_ints ht hp hok ps qs ha hb W]) K
theorem neStd (m q : MemD) (x y : Operand) (K : Value → Prop) (t : Tok K) : xBin Tryz.prog .neq 140 x y (stdV m) (stdV q) K t = K (.bool (!decide (stdL m = stdL q))) :=
  xBin_neintsS (T := 140) (ks := [.u64, .u64, .u64, .i64]) (by kernel_rfl) (by kernel_rfl) (by kernel_rfl) (by kernel_rfl) (stdL m) (stdL q) rfl rfl x y K t
set_option maxHeartbeats 3200000 in
set_option maxRecDepth 20000 in
theorem shape19_any (p : ParD) (ok : ParOk p) (hr : parR p = true) (m : MemD) (mo : MemOk m) (hk : K (.bool (mfitsB p m)) L h) : Spec Tryz.prog 70 [parV p, memV m] L h K := by
  have ub : 0 ≤ m.bal ∧ m.bal ≤ 18446744073709551615 := mo.u _ (by simp)
  have ue : 0 ≤ m.eff ∧ m.eff ≤ 18446744073709551615 := mo.u _ (by simp)
  have h1 := inc_pos hr
  refine x_enter Tryz.func70 rfl (rs := [_]) rfl rfl mixed (by kernel_rfl) rfl rfl ?_
  simp -dsimp -implicitDefEqProofs (disch := first | with_reducible assumption | omega) [go_sem]
  refine xnew fun b1 n_b1 h_b1 => ?_
  try simp only [Apart] at n_b1
  simp -dsimp -implicitDefEqProofs (disch := first | with_reducible assumption | omega) [go_sem]
  refine xnew fun b2 n_b2 h_b2 => ?_
  try simp only [Apart] at n_b2
  simp -dsimp -implicitDefEqProofs (disch := first | with_reducible assumption | omega) [go_sem]
  refine xdraw (by kernel_rfl) rfl ?_
  by_cases c1 : m.owner < 0
  · rw [show mfitsB p m = false by simp [mfitsB, show ¬ 0 ≤ m.owner by omega]] at hk
    simp -dsimp -implicitDefEqProofs (disch := first | with_reducible assumption | omega) [go_sem]
    exact fin_tail (fin_tail (fin_here hk))
  by_cases c2 : 63 < m.owner
  · rw [show mfitsB p m = false by simp [mfitsB, show ¬ m.owner < 64 by omega]] at hk
    simp -dsimp -implicitDefEqProofs (disch := first | with_reducible assumption | omega) [go_sem]
    exact fin_tail (fin_tail (fin_here hk))
  by_cases c3 : m.status < 1
  · rw [show mfitsB p m = false by simp [mfitsB, shapeB, show ¬ (m.status = 2 ∨ m.status = 3) by omega, show ¬ m.status = 1 by omega, show ¬ (m.status = 4 ∨ m.status = 5) by omega]] at hk
    simp -dsimp -implicitDefEqProofs (disch := first | with_reducible assumption | omega) [go_sem]
    exact fin_tail (fin_tail (fin_here hk))
  by_cases c4 : 5 < m.status
  · rw [show mfitsB p m = false by simp [mfitsB, shapeB, show ¬ (m.status = 2 ∨ m.status = 3) by omega, show ¬ m.status = 1 by omega, show ¬ (m.status = 4 ∨ m.status = 5) by omega]] at hk
    simp -dsimp -implicitDefEqProofs (disch := first | with_reducible assumption | omega) [go_sem]
    exact fin_tail (fin_tail (fin_here hk))
  have hf : mfitsB p m = (decide (stdL (trimM p m) = stdL m) && shapeB p m) := by simp [mfitsB, show 0 ≤ m.owner by omega, show m.owner < 64 by omega]
  rw [hf] at hk
  simp -dsimp -implicitDefEqProofs (disch := first | with_reducible assumption | omega) [go_sem]
  refine xdcall _ (trim11_any p m ⟨rfl, rfl, rfl⟩) ?_
  simp -dsimp -implicitDefEqProofs (disch := first | with_reducible assumption | omega) [go_sem, neStd]
  cases hq : decide (stdL (trimM p m) = stdL m) with
  | false =>
    rw [hq] at hk
    simp -dsimp -implicitDefEqProofs (disch := first | with_reducible assumption | omega) [go_sem]
    exact fin_tail (fin_tail (fin_here (by simpa using hk)))
  | true =>
    rw [hq, Bool.true_and] at hk
    unfold shapeB at hk
    simp -dsimp -implicitDefEqProofs (disch := first | with_reducible assumption | omega) [go_sem]
    refine counts19_any m ?_
    by_cases c5 : m.status = 2 ∨ m.status = 3
    · rw [if_pos c5] at hk
      rw [decide_eq_true c5]
      by_cases c6 : p.floor < m.bal
      · by_cases c7 : m.bal ≤ p.cap
        · simp -dsimp -implicitDefEqProofs (disch := first | with_reducible assumption | omega) [go_sem]
          refine fits10_any p ok h1 _ _ ue ub ?_
          simp -dsimp -implicitDefEqProofs (disch := first | with_reducible assumption | omega) [go_sem]
          exact fin_tail (fin_tail (fin_here (by simpa [c6, c7] using hk)))
        · simp -dsimp -implicitDefEqProofs (disch := first | with_reducible assumption | omega) [go_sem]
          exact fin_tail (fin_tail (fin_here (by simpa [c6, c7] using hk)))
      · simp -dsimp -implicitDefEqProofs (disch := first | with_reducible assumption | omega) [go_sem]
        exact fin_tail (fin_tail (fin_here (by simpa [c6] using hk)))
    · rw [if_neg c5] at hk
      rw [decide_eq_false c5]
      by_cases c6 : m.status = 1
      · rw [if_pos c6] at hk
        by_cases c7 : 1 ≤ m.bal
        · by_cases c8 : m.bal ≤ p.cap
          · simp -dsimp -implicitDefEqProofs (disch := first | with_reducible assumption | omega) [go_sem]
            exact fin_tail (fin_tail (fin_here (by simpa [c7, c8] using hk)))
          · simp -dsimp -implicitDefEqProofs (disch := first | with_reducible assumption | omega) [go_sem]
            exact fin_tail (fin_tail (fin_here (by simpa [c7, c8] using hk)))
        · simp -dsimp -implicitDefEqProofs (disch := first | with_reducible assumption | omega) [go_sem]
          exact fin_tail (fin_tail (fin_here (by simpa [c7] using hk)))
      · rw [if_neg c6, if_pos (by omega)] at hk
        by_cases c7 : m.bal = 0
        · simp -dsimp -implicitDefEqProofs (disch := first | with_reducible assumption | omega) [go_sem]
          exact fin_tail (fin_tail (fin_here (by simpa [c7] using hk)))
        · simp -dsimp -implicitDefEqProofs (disch := first | with_reducible assumption | omega) [go_sem]
          exact fin_tail (fin_tail (fin_here (by simpa [c7] using hk)))
end Go.X
