/- Contracts of package deed: within, paid, bare, same. Conditions: the values read as deeds. -/
import Derived.Test.YtbobjcapmfpmkaaPG
import Derived.Test.YtbobjcapmfpmkaaXE
import Derived.Test.YtbobjcapmfpmkaaPlainD
set_option linter.unusedVariables false
set_option linter.unusedSimpArgs false
namespace Go.X
open Go.RowKit Go.Proofs Go.Bl
variable {L : Own} {h : PH} {K : PK}

abbrev deedC (d : DeedD) (bv : Value) : List Value := [.int .i64 d.kind, .int .i64 d.acct, .int .i64 d.mem, .int .i64 d.to, .int .u64 d.amt, .int .i64 d.ep, bv, .int .i64 d.what, .int .u64 d.par.inc, .int .u64 d.par.maxEff, .int .u64 d.par.floor, .int .u64 d.par.cap, .int .u64 d.par.up, .int .u64 d.par.down, .int .u64 d.par.bias, .int .u64 d.par.quot, .int .u64 d.par.biasEm, .int .u64 d.par.quotEm, .int .u64 d.par.recover, .int .u64 d.par.scoreCap, .int .u64 d.par.rate, .int .u64 d.par.bond, .int .i64 d.par.delay, .int .i64 d.par.streak, .int .i64 d.par.boost, .int .i64 d.par.absent, .int .i64 d.par.burn, .int .i64 d.par.churn, .int .i64 d.par.wait, .int .i64 d.par.poll, .int .i64 d.par.enact, .int .i64 d.par.quorum, .int .i64 d.mot, .bool d.yes]
abbrev deedV (d : DeedD) (bv : Value) : Value := .agg #[.int .i64 d.kind, .int .i64 d.acct, .int .i64 d.mem, .int .i64 d.to, .int .u64 d.amt, .int .i64 d.ep, bv, .int .i64 d.what, .int .u64 d.par.inc, .int .u64 d.par.maxEff, .int .u64 d.par.floor, .int .u64 d.par.cap, .int .u64 d.par.up, .int .u64 d.par.down, .int .u64 d.par.bias, .int .u64 d.par.quot, .int .u64 d.par.biasEm, .int .u64 d.par.quotEm, .int .u64 d.par.recover, .int .u64 d.par.scoreCap, .int .u64 d.par.rate, .int .u64 d.par.bond, .int .i64 d.par.delay, .int .i64 d.par.streak, .int .i64 d.par.boost, .int .i64 d.par.absent, .int .i64 d.par.burn, .int .i64 d.par.churn, .int .i64 d.par.wait, .int .i64 d.par.poll, .int .i64 d.par.enact, .int .i64 d.par.quorum, .int .i64 d.mot, .bool d.yes]
structure IsDeed (h : PH) (bv : Value) (d : DeedD) : Prop where
  i : Ints h .u8 bv d.bits
  ok : DeedOk d
theorem IsDeed.up {h h' : PH} (le : PH.le h h') {bv : Value} {d : DeedD} (hd : IsDeed h bv d) : IsDeed h' bv d := ⟨hd.i.up le, hd.ok⟩
theorem dwithin_any (n lo hi : Int) (hk : K (.bool (wi n lo hi)) L h) : Spec Try.prog 108 [.int .i64 n, .int .i64 lo, .int .i64 hi] L h K := by
  unfold wi at hk
  refine x_enter Try.func108 rfl (rs := [_]) rfl rfl mixed (by kernel_rfl) rfl rfl ?_
  simp -dsimp -implicitDefEqProofs (disch := first | with_reducible assumption | omega) [go_sem]
  by_cases c : lo ≤ n
  · simp -dsimp -implicitDefEqProofs (disch := first | with_reducible assumption | omega) [go_sem]
    exact fin_here (by simpa [c] using hk)
  · simp -dsimp -implicitDefEqProofs (disch := first | with_reducible assumption | omega) [go_sem]
    exact fin_here (by simpa [c] using hk)
set_option maxRecDepth 20000 in
theorem paid_any {d : DeedD} (bv : Value) (hd : IsDeed h bv d) (hk : K (.bool (paidD d)) L h) : Spec Try.prog 103 [deedV d bv] L h K := by
  have ob := hd.i.open
  obtain ⟨a, c, rfl, _⟩ := ob
  unfold paidD at hk
  refine x_enter Try.func103 rfl (rs := [_]) rfl rfl mixed (by kernel_rfl) rfl rfl ?_
  simp -dsimp -implicitDefEqProofs (disch := first | with_reducible assumption | omega) [go_sem]
  refine xnew fun b1 n_b1 h_b1 => ?_
  try simp only [Apart] at n_b1
  simp -dsimp -implicitDefEqProofs (disch := first | with_reducible assumption | omega) [go_sem]
  refine dwithin_any _ _ _ ?_
  cases hw : wi d.kind 1 3 with
  | true =>
    rw [hw] at hk
    simp -dsimp -implicitDefEqProofs (disch := first | with_reducible assumption | omega) [go_sem]
    exact fin_tail (fin_here hk)
  | false =>
    rw [hw] at hk
    by_cases k6 : d.kind = 6
    · simp -dsimp -implicitDefEqProofs (disch := first | with_reducible assumption | omega) [go_sem]
      exact fin_tail (fin_here (by simpa [k6] using hk))
    · simp -dsimp -implicitDefEqProofs (disch := first | with_reducible assumption | omega) [go_sem]
      exact fin_tail (fin_here (by simpa [k6] using hk))
set_option maxHeartbeats 4000000 in
set_option maxRecDepth 20000 in
theorem bare_any {d : DeedD} (bv : Value) (hd : IsDeed h bv d) (hk : K (deedV (bareD d) (if d.kind = 5 then bv else .slice none 0 0)) L h) : Spec Try.prog 110 [deedV d bv] L h K := by
  have ob := hd.i.open
  obtain ⟨a, c, rfl, _⟩ := ob
  refine x_enter Try.func110 rfl (rs := [_]) rfl rfl mixed (by kernel_rfl) rfl rfl ?_
  simp -dsimp -implicitDefEqProofs (disch := first | with_reducible assumption | omega) [go_sem]
  refine xnew fun b1 n_b1 h_b1 => ?_
  try simp only [Apart] at n_b1
  simp -dsimp -implicitDefEqProofs (disch := first | with_reducible assumption | omega) [go_sem]
  refine xnew fun b2 n_b2 h_b2 => ?_
  try simp only [Apart] at n_b2
  simp -dsimp -implicitDefEqProofs (disch := first | with_reducible assumption | omega) [go_sem]
  refine xnew fun b3 n_b3 h_b3 => ?_
  try simp only [Apart] at n_b3
  simp -dsimp -implicitDefEqProofs (disch := first | with_reducible assumption | omega) [go_sem]
  by_cases k1 : d.kind = 1
  · have e : bareD d = ⟨d.kind, d.acct, 0, d.to, d.amt, 0, [], 0, zeroP, 0, false⟩ := by simp [bareD, zeroD, k1]
    rw [e, if_neg (by omega)] at hk
    simp -dsimp -implicitDefEqProofs (disch := first | with_reducible assumption | omega) [go_sem]
    refine xanyl (.tk 0 (.tk 2 (.tkl 1 (.tk 4 (.or true 3 (.or false 5 (.tk 6 (.or false 7 (.fin) (.nil))) (.nil)) (.or false 5 (.or true 3 (.tk 6 (.or false 7 (.fin) (.nil))) (.nil)) (.nil))))))) (by kernel_rfl) (by kernel_rfl) [⟨b1, 84, deedC d (.slice a d.bits.length c), 34⟩] (Drop.mem (by simp)) ?_
    repeat' first
      | with_reducible refine xpl_or ?_ ?_
      | with_reducible refine xkp (Drop.mem (by simp)) ?_
      | simp -dsimp -implicitDefEqProofs (disch := first | with_reducible assumption | omega) [go_sem]
    all_goals exact fin_tail (fin_tail (fin_tail (fin_here hk)))
  by_cases k2 : d.kind = 2
  · have e : bareD d = ⟨d.kind, d.acct, 0, 0, d.amt, 0, [], 0, zeroP, 0, false⟩ := by simp [bareD, zeroD, k2]
    rw [e, if_neg (by omega)] at hk
    simp -dsimp -implicitDefEqProofs (disch := first | with_reducible assumption | omega) [go_sem]
    exact fin_tail (fin_tail (fin_tail (fin_here hk)))
  by_cases k3 : d.kind = 3
  · have e : bareD d = ⟨d.kind, d.acct, d.mem, 0, d.amt, 0, [], 0, zeroP, 0, false⟩ := by simp [bareD, zeroD, k3]
    rw [e, if_neg (by omega)] at hk
    simp -dsimp -implicitDefEqProofs (disch := first | with_reducible assumption | omega) [go_sem]
    refine xanyl (.tk 0 (.tk 2 (.tkl 1 (.tk 4 (.or true 3 (.or false 5 (.tk 6 (.or false 7 (.fin) (.nil))) (.nil)) (.or false 5 (.or true 3 (.tk 6 (.or false 7 (.fin) (.nil))) (.nil)) (.nil))))))) (by kernel_rfl) (by kernel_rfl) [⟨b1, 84, deedC d (.slice a d.bits.length c), 34⟩] (Drop.mem (by simp)) ?_
    repeat' first
      | with_reducible refine xpl_or ?_ ?_
      | with_reducible refine xkp (Drop.mem (by simp)) ?_
      | simp -dsimp -implicitDefEqProofs (disch := first | with_reducible assumption | omega) [go_sem]
    all_goals exact fin_tail (fin_tail (fin_tail (fin_here hk)))
  by_cases k4 : d.kind = 4
  · have e : bareD d = ⟨d.kind, d.acct, d.mem, 0, 0, 0, [], 0, zeroP, 0, false⟩ := by simp [bareD, zeroD, k4]
    rw [e, if_neg (by omega)] at hk
    simp -dsimp -implicitDefEqProofs (disch := first | with_reducible assumption | omega) [go_sem]
    exact fin_tail (fin_tail (fin_tail (fin_here hk)))
  by_cases k5 : d.kind = 5
  · have e : bareD d = ⟨d.kind, 0, 0, 0, 0, d.ep, d.bits, 0, zeroP, 0, false⟩ := by simp [bareD, zeroD, k5]
    rw [e, if_pos k5] at hk
    simp -dsimp -implicitDefEqProofs (disch := first | with_reducible assumption | omega) [go_sem]
    refine xanyl (.tk 0 (.tk 2 (.tk 4 (.or true 1 (.or true 3 (.or false 5 (.tk 6 (.or false 7 (.tk 8 (.or false 9 (.fin) (.nil))) (.nil))) (.nil)) (.or false 5 (.tk 6 (.or true 3 (.or false 7 (.tk 8 (.or false 9 (.fin) (.nil))) (.nil)) (.or false 7 (.or true 3 (.tk 8 (.or false 9 (.fin) (.nil))) (.nil)) (.nil)))) (.nil))) (.or true 3 (.or true 1 (.or false 5 (.tk 6 (.or false 7 (.tk 8 (.or false 9 (.fin) (.nil))) (.nil))) (.nil)) (.or false 5 (.or true 1 (.tk 6 (.or false 7 (.tk 8 (.or false 9 (.fin) (.nil))) (.nil))) (.nil)) (.nil))) (.or false 5 (.or true 1 (.tk 6 (.or true 3 (.or false 7 (.tk 8 (.or false 9 (.fin) (.nil))) (.nil)) (.or false 7 (.or true 3 (.tk 8 (.or false 9 (.fin) (.nil))) (.nil)) (.nil)))) (.or true 3 (.or true 1 (.tk 6 (.or false 7 (.tk 8 (.or false 9 (.fin) (.nil))) (.nil))) (.nil)) (.nil))) (.nil))))))) (by kernel_rfl) (by kernel_rfl) [⟨b1, 84, deedC d (.slice a d.bits.length c), 34⟩] (Drop.mem (by simp)) ?_
    repeat' first
      | with_reducible refine xpl_or ?_ ?_
      | with_reducible refine xkp (Drop.mem (by simp)) ?_
      | simp -dsimp -implicitDefEqProofs (disch := first | with_reducible assumption | omega) [go_sem]
    all_goals exact fin_tail (fin_tail (fin_tail (fin_here hk)))
  by_cases k7 : d.kind = 7
  · have e : bareD d = ⟨d.kind, d.acct, d.mem, 0, 0, 0, [], 0, zeroP, d.mot, d.yes⟩ := by simp [bareD, zeroD, k7]
    rw [e, if_neg (by omega)] at hk
    simp -dsimp -implicitDefEqProofs (disch := first | with_reducible assumption | omega) [go_sem]
    refine xanyl (.tk 0 (.tk 2 (.tk 4 (.tkl 1 (.tk 6 (.or true 3 (.or true 5 (.or false 7 (.tk 8 (.or false 9 (.tk 10 (.or false 11 (.fin) (.nil))) (.nil))) (.nil)) (.or false 7 (.tk 8 (.or true 5 (.or false 9 (.tk 10 (.or false 11 (.fin) (.nil))) (.nil)) (.or false 9 (.or true 5 (.tk 10 (.or false 11 (.fin) (.nil))) (.nil)) (.nil)))) (.nil))) (.or true 5 (.or true 3 (.or false 7 (.tk 8 (.or false 9 (.tk 10 (.or false 11 (.fin) (.nil))) (.nil))) (.nil)) (.or false 7 (.or true 3 (.tk 8 (.or false 9 (.tk 10 (.or false 11 (.fin) (.nil))) (.nil))) (.nil)) (.nil))) (.or false 7 (.or true 3 (.tk 8 (.or true 5 (.or false 9 (.tk 10 (.or false 11 (.fin) (.nil))) (.nil)) (.or false 9 (.or true 5 (.tk 10 (.or false 11 (.fin) (.nil))) (.nil)) (.nil)))) (.or true 5 (.or true 3 (.tk 8 (.or false 9 (.tk 10 (.or false 11 (.fin) (.nil))) (.nil))) (.nil)) (.nil))) (.nil))))))))) (by kernel_rfl) (by kernel_rfl) [⟨b1, 84, deedC d (.slice a d.bits.length c), 34⟩] (Drop.mem (by simp)) ?_
    repeat' first
      | with_reducible refine xpl_or ?_ ?_
      | with_reducible refine xkp (Drop.mem (by simp)) ?_
      | simp -dsimp -implicitDefEqProofs (disch := first | with_reducible assumption | omega) [go_sem]
    all_goals exact fin_tail (fin_tail (fin_tail (fin_here hk)))
  by_cases k6 : d.kind = 6
  · by_cases w1 : d.what = 1
    · have e : bareD d = ⟨d.kind, d.acct, 0, 0, 0, 0, [], d.what, d.par, 0, false⟩ := by simp [bareD, zeroD, k6, w1]
      rw [e, if_neg (by omega)] at hk
      simp -dsimp -implicitDefEqProofs (disch := first | with_reducible assumption | omega) [go_sem]
      exact fin_tail (fin_tail (fin_tail (fin_here hk)))
    by_cases w2 : d.what = 2
    · have e : bareD d = ⟨d.kind, d.acct, 0, d.to, d.amt, 0, [], d.what, zeroP, 0, false⟩ := by simp [bareD, zeroD, k6, w2]
      rw [e, if_neg (by omega)] at hk
      simp -dsimp -implicitDefEqProofs (disch := first | with_reducible assumption | omega) [go_sem]
      refine xanyl (.tk 0 (.tk 2 (.tkl 1 (.tk 4 (.or true 3 (.or false 5 (.tk 6 (.or false 7 (.fin) (.nil))) (.nil)) (.or false 5 (.or true 3 (.tk 6 (.or false 7 (.fin) (.nil))) (.nil)) (.nil))))))) (by kernel_rfl) (by kernel_rfl) [⟨b1, 84, deedC d (.slice a d.bits.length c), 34⟩] (Drop.mem (by simp)) ?_
      repeat' first
        | with_reducible refine xpl_or ?_ ?_
        | with_reducible refine xkp (Drop.mem (by simp)) ?_
        | simp -dsimp -implicitDefEqProofs (disch := first | with_reducible assumption | omega) [go_sem]
      all_goals exact fin_tail (fin_tail (fin_tail (fin_here hk)))
    have e : bareD d = ⟨d.kind, d.acct, 0, 0, 0, 0, [], d.what, zeroP, 0, false⟩ := by simp [bareD, zeroD, k6, w1, w2]
    rw [e, if_neg (by omega)] at hk
    simp -dsimp -implicitDefEqProofs (disch := first | with_reducible assumption | omega) [go_sem]
    exact fin_tail (fin_tail (fin_tail (fin_here hk)))
  have e : bareD d = ⟨d.kind, d.acct, 0, 0, 0, 0, [], 0, zeroP, 0, false⟩ := by simp [bareD, zeroD, k1, k2, k3, k4, k5, k6, k7]
  rw [e, if_neg (by omega)] at hk
  simp -dsimp -implicitDefEqProofs (disch := first | with_reducible assumption | omega) [go_sem]
  exact fin_tail (fin_tail (fin_tail (fin_here hk)))
end Go.X
