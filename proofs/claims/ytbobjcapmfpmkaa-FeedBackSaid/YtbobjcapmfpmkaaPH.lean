/- Contracts of package deed: within, paid, bare, same. Conditions: the values read as deeds. -/
import Derived.Test.YtbobjcapmfpmkaaPG
import Derived.Test.YtbobjcapmfpmkaaXA
import Derived.Test.YtbobjcapmfpmkaaPlainA
set_option linter.unusedVariables false
set_option linter.unusedSimpArgs false
namespace Go.X
open Go.RowKit Go.Proofs Go.Bl
variable {L : Own} {h : PH} {K : PK}

abbrev deedC (d : DeedD) (bv : Value) : List Value := [.int .i64 d.kind, .int .i64 d.acct, .int .i64 d.mem, .int .i64 d.to, .int .u64 d.amt, .int .i64 d.ep, bv, .int .i64 d.what, .int .u64 d.par.inc, .int .u64 d.par.maxEff, .int .u64 d.par.floor, .int .u64 d.par.cap, .int .u64 d.par.up, .int .u64 d.par.down, .int .u64 d.par.bias, .int .u64 d.par.quot, .int .u64 d.par.biasEm, .int .u64 d.par.quotEm, .int .u64 d.par.recover, .int .u64 d.par.scoreCap, .int .u64 d.par.rate, .int .u64 d.par.bond, .int .i64 d.par.delay, .int .i64 d.par.streak, .int .i64 d.par.boost, .int .i64 d.par.absent, .int .i64 d.par.burn, .int .i64 d.par.churn, .int .i64 d.par.wait, .int .i64 d.par.poll, .int .i64 d.par.enact, .int .i64 d.par.quorum, .int .i64 d.mot, .bool d.yes]
abbrev deedV (d : DeedD) (bv : Value) : Value := .agg #[.int .i64 d.kind, .int .i64 d.acct, .int .i64 d.mem, .int .i64 d.to, .int .u64 d.amt, .int .i64 d.ep, bv, .int .i64 d.what, .int .u64 d.par.inc, .int .u64 d.par.maxEff, .int .u64 d.par.floor, .int .u64 d.par.cap, .int .u64 d.par.up, .int .u64 d.par.down, .int .u64 d.par.bias, .int .u64 d.par.quot, .int .u64 d.par.biasEm, .int .u64 d.par.quotEm, .int .u64 d.par.recover, .int .u64 d.par.scoreCap, .int .u64 d.par.rate, .int .u64 d.par.bond, .int .i64 d.par.delay, .int .i64 d.par.streak, .int .i64 d.par.boost, .int .i64 d.par.absent, .int .i64 d.par.burn, .int .i64 d.par.churn, .int .i64 d.par.wait, .int .i64 d.par.poll, .int .i64 d.par.enact, .int .i64 d.par.quorum, .int .i64 d.mot, .bool d.yes]
structure IsDeed (h : PH) (bv : Value) (d : DeedD) : Prop where
  i : Ints h .u8 bv d.bits
  ok : DeedOk d
theorem IsDeed.up {h h' : PH} (le : PH.le h h') {bv : Value} {d : DeedD} (hd : IsDeed h bv d) : IsDeed h' bv d := ⟨hd.i.up le, hd.ok⟩
theorem dwithin_any (n lo hi : Int) (hk : K (.bool (wi n lo hi)) L h) : Spec Try.prog 108 [.int .i64 n, .int .i64 lo, .int .i64 hi] L h K := by
  unfold wi at hk
  refine x_enter Try.func108 rfl (rs := [_]) rfl rfl mixed (by kernel_rfl) rfl rfl ?_
  simp -dsimp -implicitDefEqProofs (disch := first | with_reducible assumption | omega) [go_sem]
  by_cases c : lo ≤ n
  · simp -dsimp -implicitDefEqProofs (disch := first | with_reducible assumption | omega) [go_sem]
    exact fin_here (by simpa [c] using hk)
  · simp -dsimp -implicitDefEqProofs (disch := first | with_reducible assumption | omega) [go_sem]
    exact fin_here (by simpa [c] using hk)
set_option maxRecDepth 20000 in
theorem paid_any {d : DeedD} (bv : Value) (hd : IsDeed h bv d) (hk : K (.bool (paidD d)) L h) : Spec Try.prog 103 [deedV d bv] L h K := by
  have ob := hd.i.open
  obtain ⟨a, c, rfl, _⟩ := ob
  unfold paidD at hk
  refine x_enter Try.func103 rfl (rs := [_]) rfl rfl mixed (by kernel_rfl) rfl rfl ?_
  simp -dsimp -implicitDefEqProofs (disch := first | with_reducible assumption | omega) [go_sem]
  refine xnew fun b1 n_b1 h_b1 => ?_
  try simp only [Apart] at n_b1
  simp -dsimp -implicitDefEqProofs (disch := first | with_reducible assumption | omega) [go_sem]
  refine dwithin_any _ _ _ ?_
  cases hw : wi d.kind 1 3 with
  | true =>
    rw [hw] at hk
    simp -dsimp -implicitDefEqProofs (disch := first | with_reducible assumption | omega) [go_sem]
    exact fin_tail (fin_here hk)
  | false =>
    rw [hw] at hk
    by_cases k6 : d.kind = 6
    · simp -dsimp -implicitDefEqProofs (disch := first | with_reducible assumption | omega) [go_sem]
      exact fin_tail (fin_here (by simpa [k6] using hk))
    · simp -dsimp -implicitDefEqProofs (disch := first | with_reducible assumption | omega) [go_sem]
      exact fin_tail (fin_here (by simpa [k6] using hk))
set_option maxHeartbeats 4000000 in
set_option maxRecDepth 20000 in
theorem bare_any {d : DeedD} (bv : Value) (hd : IsDeed h bv d) (hk : K (deedV (bareD d) (if d.kind = 5 then bv else .slice none 0 0)) L h) : Spec Try.prog 110 [deedV d bv] L h K := by
  have ob := hd.i.open
  obtain ⟨a, c, rfl, _⟩ := ob
  refine x_enter Try.func110 rfl (rs := [_]) rfl rfl mixed (by kernel_rfl) rfl rfl ?_
  simp -dsimp -implicitDefEqProofs (disch := first | with_reducible assumption | omega) [go_sem]
  refine xnew fun b1 n_b1 h_b1 => ?_
  try simp only [Apart] at n_b1
  simp -dsimp -implicitDefEqProofs (disch := first | with_reducible assumption | omega) [go_sem]
  refine xnew fun b2 n_b2 h_b2 => ?_
  try simp only [Apart] at n_b2
  simp -dsimp -implicitDefEqProofs (disch := first | with_reducible assumption | omega) [go_sem]
  refine xnew fun b3 n_b3 h_b3 => ?_
  try simp only [Apart] at n_b3
  simp -dsimp -implicitDefEqProofs (disch := first | with_reducible assumption | omega) [go_sem]
  by_cases k1 : d.kind = 1
  · have e : bareD d = ⟨d.kind, d.acct, 0, d.to, d.amt, 0, [], 0, zeroP, 0, false⟩ := by simp [bareD, zeroD, k1]
    rw [e, if_neg (by omega)] at hk
    simp -dsimp -implicitDefEqProofs (disch := first | with_reducible assumption | omega) [go_sem]
    refine xanyl (.tk 0 (.tk 2 (.tkl 1 (.tk 4 (.or true 3 (.or false 5 (.tk 6 (.or false 7 (.fin) (.nil))) (.nil)) (.or false 5 (.or true 3 (.tk 6 (.or false 7 (.fin) (.nil))) (.nil)) (.nil))))))) (by kernel_rfl) (by kernel_rfl) [⟨b1, 84, deedC d (.slice a d.bits.length c), 34⟩] (Drop.mem (by simp)) ?_
    repeat' first
      | with_reducible refine xpl_or ?_ ?_
      | with_reducible refine xkp (Drop.mem (by simp)) ?_
      | simp -dsimp -implicitDefEqProofs (disch := first | with_reducible assumption | omega) [go_sem]
    all_goals exact fin_tail (fin_tail (fin_tail (fin_here hk)))
  by_cases k2 : d.kind = 2
  · have e : bareD d = ⟨d.kind, d.acct, 0, 0, d.amt, 0, [], 0, zeroP, 0, false⟩ := by simp [bareD, zeroD, k2]
    rw [e, if_neg (by omega)] at hk
    simp -dsimp -implicitDefEqProofs (disch := first | with_reducible assumption | omega) [go_sem]
    exact fin_tail (fin_tail (fin_tail (fin_here hk)))
  by_cases k3 : d.kind = 3
  · have e : bareD d = ⟨d.kind, d.acct, d.mem, 0, d.amt, 0, [], 0, zeroP, 0, false⟩ := by simp [bareD, zeroD, k3]
    rw [e, if_neg (by omega)] at hk
    simp -dsimp -implicitDefEqProofs (disch := first | with_reducible assumption | omega) [go_sem]
    refine xanyl (.tk 0 (.tk 2 (.tkl 1 (.tk 4 (.or true 3 (.or false 5 (.tk 6 (.or false 7 (.fin) (.nil))) (.nil)) (.or false 5 (.or true 3 (.tk 6 (.or false 7 (.fin) (.nil))) (.nil)) (.nil))))))) (by kernel_rfl) (by kernel_rfl) [⟨b1, 84, deedC d (.slice a d.bits.length c), 34⟩] (Drop.mem (by simp)) ?_
    repeat' first
      | with_reducible refine xpl_or ?_ ?_
      | with_reducible refine xkp (Drop.mem (by simp)) ?_
      | simp -dsimp -implicitDefEqProofs (disch := first | with_reducible assumption | omega) [go_sem]
    all_goals exact fin_tail (fin_tail (fin_tail (fin_here hk)))
  by_cases k4 : d.kind = 4
  · have e : bareD d = ⟨d.kind, d.acct, d.mem, 0, 0, 0, [], 0, zeroP, 0, false⟩ := by simp [bareD, zeroD, k4]
    rw [e, if_neg (by omega)] at hk
    simp -dsimp -implicitDefEqProofs (disch := first | with_reducible assumption | omega) [go_sem]
    exact fin_tail (fin_tail (fin_tail (fin_here hk)))
  by_cases k5 : d.kind = 5
  · have e : bareD d = ⟨d.kind, 0, 0, 0, 0, d.ep, d.bits, 0, zeroP, 0, false⟩ := by simp [bareD, zeroD, k5]
    rw [e, if_pos k5] at hk
    simp -dsimp -implicitDefEqProofs (disch := first | with_reducible assumption | omega) [go_sem]
    refine xanyl (.tk 0 (.tk 2 (.tk 4 (.or true 1 (.or true 3 (.or false 5 (.tk 6 (.or false 7 (.tk 8 (.or false 9 (.fin) (.nil))) (.nil))) (.nil)) (.or false 5 (.tk 6 (.or true 3 (.or false 7 (.tk 8 (.or false 9 (.fin) (.nil))) (.nil)) (.or false 7 (.or true 3 (.tk 8 (.or false 9 (.fin) (.nil))) (.nil)) (.nil)))) (.nil))) (.or true 3 (.or true 1 (.or false 5 (.tk 6 (.or false 7 (.tk 8 (.or false 9 (.fin) (.nil))) (.nil))) (.nil)) (.or false 5 (.or true 1 (.tk 6 (.or false 7 (.tk 8 (.or false 9 (.fin) (.nil))) (.nil))) (.nil)) (.nil))) (.or false 5 (.or true 1 (.tk 6 (.or true 3 (.or false 7 (.tk 8 (.or false 9 (.fin) (.nil))) (.nil)) (.or false 7 (.or true 3 (.tk 8 (.or false 9 (.fin) (.nil))) (.nil)) (.nil)))) (.or true 3 (.or true 1 (.tk 6 (.or false 7 (.tk 8 (.or false 9 (.fin) (.nil))) (.nil))) (.nil)) (.nil))) (.nil))))))) (by kernel_rfl) (by kernel_rfl) [⟨b1, 84, deedC d (.slice a d.bits.length c), 34⟩] (Drop.mem (by simp)) ?_
    repeat' first
      | with_reducible refine xpl_or ?_ ?_
      | with_reducible refine xkp (Drop.mem (by simp)) ?_
      | simp -dsimp -implicitDefEqProofs (disch := first | with_reducible assumption | omega) [go_sem]
    all_goals exact fin_tail (fin_tail (fin_tail (fin_here hk)))
  by_cases k7 : d.kind = 7
  · have e : bareD d = ⟨d.kind, d.acct, d.mem, 0, 0, 0, [], 0, zeroP, d.mot, d.yes⟩ := by simp [bareD, zeroD, k7]
    rw [e, if_neg (by omega)] at hk
    simp -dsimp -implicitDefEqProofs (disch := first | with_reducible assumption | omega) [go_sem]
    refine xanyl (.tk 0 (.tk 2 (.tk 4 (.tkl 1 (.tk 6 (.or true 3 (.or true 5 (.or false 7 (.tk 8 (.or false 9 (.tk 10 (.or false 11 (.fin) (.nil))) (.nil))) (.nil)) (.or false 7 (.tk 8 (.or true 5 (.or false 9 (.tk 10 (.or false 11 (.fin) (.nil))) (.nil)) (.or false 9 (.or true 5 (.tk 10 (.or false 11 (.fin) (.nil))) (.nil)) (.nil)))) (.nil))) (.or true 5 (.or true 3 (.or false 7 (.tk 8 (.or false 9 (.tk 10 (.or false 11 (.fin) (.nil))) (.nil))) (.nil)) (.or false 7 (.or true 3 (.tk 8 (.or false 9 (.tk 10 (.or false 11 (.fin) (.nil))) (.nil))) (.nil)) (.nil))) (.or false 7 (.or true 3 (.tk 8 (.or true 5 (.or false 9 (.tk 10 (.or false 11 (.fin) (.nil))) (.nil)) (.or false 9 (.or true 5 (.tk 10 (.or false 11 (.fin) (.nil))) (.nil)) (.nil)))) (.or true 5 (.or true 3 (.tk 8 (.or false 9 (.tk 10 (.or false 11 (.fin) (.nil))) (.nil))) (.nil)) (.nil))) (.nil))))))))) (by kernel_rfl) (by kernel_rfl) [⟨b1, 84, deedC d (.slice a d.bits.length c), 34⟩] (Drop.mem (by simp)) ?_
    repeat' first
      | with_reducible refine xpl_or ?_ ?_
      | with_reducible refine xkp (Drop.mem (by simp)) ?_
      | simp -dsimp -implicitDefEqProofs (disch := first | with_reducible assumption | omega) [go_sem]
    all_goals exact fin_tail (fin_tail (fin_tail (fin_here hk)))
  by_cases k6 : d.kind = 6
  · by_cases w1 : d.what = 1
    · have e : bareD d = ⟨d.kind, d.acct, 0, 0, 0, 0, [], d.what, d.par, 0, false⟩ := by simp [bareD, zeroD, k6, w1]
      rw [e, if_neg (by omega)] at hk
      simp -dsimp -implicitDefEqProofs (disch := first | with_reducible assumption | omega) [go_sem]
      exact fin_tail (fin_tail (fin_tail (fin_here hk)))
    by_cases w2 : d.what = 2
    · have e : bareD d = ⟨d.kind, d.acct, 0, d.to, d.amt, 0, [], d.what, zeroP, 0, false⟩ := by simp [bareD, zeroD, k6, w2]
      rw [e, if_neg (by omega)] at hk
      simp -dsimp -implicitDefEqProofs (disch := first | with_reducible assumption | omega) [go_sem]
      refine xanyl (.tk 0 (.tk 2 (.tkl 1 (.tk 4 (.or true 3 (.or false 5 (.tk 6 (.or false 7 (.fin) (.nil))) (.nil)) (.or false 5 (.or true 3 (.tk 6 (.or false 7 (.fin) (.nil))) (.nil)) (.nil))))))) (by kernel_rfl) (by kernel_rfl) [⟨b1, 84, deedC d (.slice a d.bits.length c), 34⟩] (Drop.mem (by simp)) ?_
      repeat' first
        | with_reducible refine xpl_or ?_ ?_
        | with_reducible refine xkp (Drop.mem (by simp)) ?_
        | simp -dsimp -implicitDefEqProofs (disch := first | with_reducible assumption | omega) [go_sem]
      all_goals exact fin_tail (fin_tail (fin_tail (fin_here hk)))
    have e : bareD d = ⟨d.kind, d.acct, 0, 0, 0, 0, [], d.what, zeroP, 0, false⟩ := by simp [bareD, zeroD, k6, w1, w2]
    rw [e, if_neg (by omega)] at hk
    simp -dsimp -implicitDefEqProofs (disch := first | with_reducible assumption | omega) [go_sem]
    exact fin_tail (fin_tail (fin_tail (fin_here hk)))
  have e : bareD d = ⟨d.kind, d.acct, 0, 0, 0, 0, [], 0, zeroP, 0, false⟩ := by simp [bareD, zeroD, k1, k2, k3, k4, k5, k6, k7]
  rw [e, if_neg (by omega)] at hk
  simp -dsimp -implicitDefEqProofs (disch := first | with_reducible assumption | omega) [go_sem]
  exact fin_tail (fin_tail (fin_tail (fin_here hk)))
end Go.X
/-! Contracts of deed.same and deed.Right. Conditions: the values read as deeds. -/
namespace Go.X
open Go.RowKit Go.Proofs Go.Bl
variable {L : Own} {h : PH} {K : PK}

theorem par_ext {p q : ParD} (hpq : wides p ++ narrows p = wides q ++ narrows q) : p = q := by
  cases p; cases q
  simp only [wides, narrows, List.cons_append, List.nil_append, List.cons.injEq] at hpq
  simp only [ParD.mk.injEq]
  simp only [hpq, and_self]
def parK : List IntKind := [.u64, .u64, .u64, .u64, .u64, .u64, .u64, .u64, .u64, .u64, .u64, .u64, .u64, .u64, .i64, .i64, .i64, .i64, .i64, .i64, .i64, .i64, .i64, .i64]
theorem eqPar {T : Nat} (ht : Try.prog.underlying T = some (.struct (Try.prog.fieldsOf T))) (hp : Try.prog.stoodInHeld T = false) (hg : Try.prog.eqGuardType Try.prog.depth T = false) (hok : okF Try.prog (Try.prog.fieldsOf T).toList 0 parK = true)
    (p q : ParD) (x y : Operand) (K : Value → Prop) (t : Tok K) : xBin Try.prog .eql T x y (parV p) (parV q) K t = K (.bool (decide (p = q))) := by
  have e : decide (p = q) = decide (wides p ++ narrows p = wides q ++ narrows q) := by
    rw [decide_eq_decide]
    exact ⟨fun h => by rw [h], par_ext⟩
  rw [e]
  exact xBin_eqints (ks := parK) ht hp hg hok (wides p ++ narrows p) (wides q ++ narrows q) rfl rfl x y K t
@[go_sem ↓] theorem eqPar_api (p q : ParD) (x y : Operand) (K : Value → Prop) (t : Tok K) : xBin Try.prog .eql 82 x y (parV p) (parV q) K t = K (.bool (decide (p = q))) :=
  eqPar (T := 82) (by kernel_rfl) (by kernel_rfl) (by kernel_rfl) (by kernel_rfl) p q x y K t
@[go_sem ↓] theorem eqPar_ref (p q : ParD) (x y : Operand) (K : Value → Prop) (t : Tok K) : xBin Try.prog .eql 93 x y (parV p) (parV q) K t = K (.bool (decide (p = q))) :=
  eqPar (T := 93) (by kernel_rfl) (by kernel_rfl) (by kernel_rfl) (by kernel_rfl) p q x y K t
set_option maxHeartbeats 4000000 in
set_option maxRecDepth 20000 in
theorem dsame_any {a b : DeedD} (bv cv : Value) (ha : Ints h .u8 bv a.bits) (hb : Ints h .u8 cv b.bits) (hk : K (.bool (sameD a b)) L h) : Spec Try.prog 109 [deedV a bv, deedV b cv] L h K := by
  have oa := ha.open
  obtain ⟨x1, y1, rfl, _⟩ := oa
  have ob := hb.open
  obtain ⟨x2, y2, rfl, _⟩ := ob
  refine x_enter Try.func109 rfl (rs := [_]) rfl rfl mixed (by kernel_rfl) rfl rfl ?_
  simp -dsimp -implicitDefEqProofs (disch := first | with_reducible assumption | omega) [go_sem]
  refine xnew fun b1 n_b1 h_b1 => ?_
  try simp only [Apart] at n_b1
  simp -dsimp -implicitDefEqProofs (disch := first | with_reducible assumption | omega) [go_sem]
  refine xnew fun b2 n_b2 h_b2 => ?_
  try simp only [Apart] at n_b2
  by_cases c1 : a.kind = b.kind
  rotate_left
  · rw [show sameD a b = false by simp [sameD, c1]] at hk
    simp -dsimp -implicitDefEqProofs (disch := first | with_reducible assumption | omega) [go_sem, c1]
    exact fin_tail (fin_tail (fin_here hk))
  by_cases c2 : a.acct = b.acct
  rotate_left
  · rw [show sameD a b = false by simp [sameD, c2]] at hk
    simp -dsimp -implicitDefEqProofs (disch := first | with_reducible assumption | omega) [go_sem, c1, c2]
    exact fin_tail (fin_tail (fin_here hk))
  by_cases c3 : a.mem = b.mem
  rotate_left
  · rw [show sameD a b = false by simp [sameD, c3]] at hk
    simp -dsimp -implicitDefEqProofs (disch := first | with_reducible assumption | omega) [go_sem, c1, c2, c3]
    exact fin_tail (fin_tail (fin_here hk))
  by_cases c4 : a.to = b.to
  rotate_left
  · rw [show sameD a b = false by simp [sameD, c4]] at hk
    simp -dsimp -implicitDefEqProofs (disch := first | with_reducible assumption | omega) [go_sem, c1, c2, c3, c4]
    exact fin_tail (fin_tail (fin_here hk))
  by_cases c5 : a.amt = b.amt
  rotate_left
  · rw [show sameD a b = false by simp [sameD, c5]] at hk
    simp -dsimp -implicitDefEqProofs (disch := first | with_reducible assumption | omega) [go_sem, c1, c2, c3, c4, c5]
    exact fin_tail (fin_tail (fin_here hk))
  by_cases c6 : a.ep = b.ep
  rotate_left
  · rw [show sameD a b = false by simp [sameD, c6]] at hk
    simp -dsimp -implicitDefEqProofs (disch := first | with_reducible assumption | omega) [go_sem, c1, c2, c3, c4, c5, c6]
    exact fin_tail (fin_tail (fin_here hk))
  by_cases c7 : a.what = b.what
  rotate_left
  · rw [show sameD a b = false by simp [sameD, c7]] at hk
    simp -dsimp -implicitDefEqProofs (disch := first | with_reducible assumption | omega) [go_sem, c1, c2, c3, c4, c5, c6, c7]
    exact fin_tail (fin_tail (fin_here hk))
  by_cases c8 : a.par = b.par
  rotate_left
  · rw [show sameD a b = false by simp [sameD, c8]] at hk
    simp -dsimp -implicitDefEqProofs (disch := first | with_reducible assumption | omega) [go_sem, c1, c2, c3, c4, c5, c6, c7, c8]
    exact fin_tail (fin_tail (fin_here hk))
  by_cases c9 : a.mot = b.mot
  rotate_left
  · rw [show sameD a b = false by simp [sameD, c9]] at hk
    simp -dsimp -implicitDefEqProofs (disch := first | with_reducible assumption | omega) [go_sem, c1, c2, c3, c4, c5, c6, c7, c8, c9]
    exact fin_tail (fin_tail (fin_here hk))
  by_cases c10 : (a.yes == b.yes) = true
  rotate_left
  · have c10' : (a.yes == b.yes) = false := (Bool.not_eq_true _).mp c10
    rw [show sameD a b = false by simp only [sameD, c10', Bool.false_and, Bool.and_false]] at hk
    simp -dsimp -implicitDefEqProofs (disch := first | with_reducible assumption | omega) [go_sem, c1, c2, c3, c4, c5, c6, c7, c8, c9, c10']
    exact fin_tail (fin_tail (fin_here hk))
  by_cases c11 : (a.bits.length : Int) = b.bits.length
  rotate_left
  · rw [show sameD a b = false by simp [sameD, c11]] at hk
    simp -dsimp -implicitDefEqProofs (disch := first | with_reducible assumption | omega) [go_sem, c1, c2, c3, c4, c5, c6, c7, c8, c9, c10, c11]
    exact fin_tail (fin_tail (fin_here hk))
  rw [show sameD a b = true by simp only [sameD, c1, c2, c3, c4, c5, c6, c7, c8, c9, c10, c11, decide_true, Bool.and_self]] at hk
  simp -dsimp -implicitDefEqProofs (disch := first | with_reducible assumption | omega) [go_sem, c1, c2, c3, c4, c5, c6, c7, c8, c9, c10, c11]
  exact fin_tail (fin_tail (fin_here hk))
set_option maxHeartbeats 4000000 in
set_option maxRecDepth 20000 in
theorem dright_any {d : DeedD} (bv : Value) (hd : IsDeed h bv d) (hk : ∀ h', PH.le h h' → K (.bool (rightD d)) L h') : Spec Try.prog 52 [deedV d bv] L h K := by
  have ob := hd.i.open
  obtain ⟨x1, y1, rfl, _, hlen, _⟩ := ob
  have bad : rightD d = false → K (.bool false) L h := fun e => by
    have := hk h (PH.le_refl h)
    rwa [e] at this
  refine x_enter Try.func52 rfl (rs := [_]) rfl rfl mixed (by kernel_rfl) rfl rfl ?_
  simp -dsimp -implicitDefEqProofs (disch := first | with_reducible assumption | omega) [go_sem]
  refine xnew fun b1 n_b1 h_b1 => ?_
  try simp only [Apart] at n_b1
  simp -dsimp -implicitDefEqProofs (disch := first | with_reducible assumption | omega) [go_sem]
  refine xdraw (by kernel_rfl) rfl ?_
  simp -dsimp -implicitDefEqProofs (disch := first | with_reducible assumption | omega) [go_sem]
  refine xdcall _ (dwithin_any _ _ _ ⟨rfl, rfl, rfl⟩) ?_
  cases g1 : wi d.kind 1 7 with
  | false =>
    simp -dsimp -implicitDefEqProofs (disch := first | with_reducible assumption | omega) [go_sem]
    exact fin_tail (fin_here (bad (by simp [rightD, g1])))
  | true =>
  simp -dsimp -implicitDefEqProofs (disch := first | with_reducible assumption | omega) [go_sem]
  refine xdcall _ (bare_any _ hd ⟨rfl, rfl, rfl⟩) ?_
  simp -dsimp -implicitDefEqProofs (disch := first | with_reducible assumption | omega) [go_sem]
  have hbb : Ints h .u8 (if d.kind = 5 then Value.slice x1 d.bits.length y1 else Value.slice none 0 0) (bareD d).bits := by
    by_cases k5 : d.kind = 5
    · rw [if_pos k5, show (bareD d).bits = d.bits by simp [bareD, k5]]
      exact hd.i
    · have eb : (bareD d).bits = [] := by
        unfold bareD
        rw [if_neg k5]
        repeat' split
        all_goals rfl
      rw [if_neg k5, eb]
      exact nil_ints h .u8
  refine xdcall _ (dsame_any _ _ hd.i hbb ⟨rfl, rfl, rfl⟩) ?_
  cases g2 : sameD d (bareD d) with
  | false =>
    simp -dsimp -implicitDefEqProofs (disch := first | with_reducible assumption | omega) [go_sem]
    exact fin_tail (fin_here (bad (by simp [rightD, g2])))
  | true =>
  simp -dsimp -implicitDefEqProofs (disch := first | with_reducible assumption | omega) [go_sem]
  refine dwithin_any _ _ _ ?_
  cases g3 : wi d.acct 0 63 with
  | false =>
    simp -dsimp -implicitDefEqProofs (disch := first | with_reducible assumption | omega) [go_sem]
    exact fin_tail (fin_here (bad (by simp [rightD, g3])))
  | true =>
  simp -dsimp -implicitDefEqProofs (disch := first | with_reducible assumption | omega) [go_sem]
  refine dwithin_any _ _ _ ?_
  cases g4 : wi d.to 0 63 with
  | false =>
    simp -dsimp -implicitDefEqProofs (disch := first | with_reducible assumption | omega) [go_sem]
    exact fin_tail (fin_here (bad (by simp [rightD, g4])))
  | true =>
  simp -dsimp -implicitDefEqProofs (disch := first | with_reducible assumption | omega) [go_sem]
  refine dwithin_any _ _ _ ?_
  cases g5 : wi d.mem 0 127 with
  | false =>
    simp -dsimp -implicitDefEqProofs (disch := first | with_reducible assumption | omega) [go_sem]
    exact fin_tail (fin_here (bad (by simp [rightD, g5])))
  | true =>
  simp -dsimp -implicitDefEqProofs (disch := first | with_reducible assumption | omega) [go_sem]
  refine dwithin_any _ _ _ ?_
  cases g6 : wi d.mot 0 31 with
  | false =>
    simp -dsimp -implicitDefEqProofs (disch := first | with_reducible assumption | omega) [go_sem]
    exact fin_tail (fin_here (bad (by simp [rightD, g6])))
  | true =>
  simp -dsimp -implicitDefEqProofs (disch := first | with_reducible assumption | omega) [go_sem]
  refine xdraw (by kernel_rfl) rfl ?_
  simp -dsimp -implicitDefEqProofs (disch := first | with_reducible assumption | omega) [go_sem]
  refine xdcall _ (paid_any _ hd ⟨rfl, rfl, rfl⟩) ?_
  cases g7 : (paidD d == decide (0 < d.amt)) with
  | false =>
    simp -dsimp -implicitDefEqProofs (disch := first | with_reducible assumption | omega) [go_sem, g7]
    exact fin_tail (fin_here (bad (by simp only [rightD, g7, Bool.false_and, Bool.and_false])))
  | true =>
  by_cases g8 : d.amt ≤ 4611686018427387904
  rotate_left
  · have g7' : paidD d = true := by simpa [show 0 < d.amt by omega] using g7
    simp -dsimp -implicitDefEqProofs (disch := first | with_reducible assumption | omega) [go_sem, g7']
    exact fin_tail (fin_here (bad (by simp [rightD, g8])))
  simp -dsimp -implicitDefEqProofs (disch := first | with_reducible assumption | omega) [go_sem, g7]
  refine xdcall _ (dwithin_any _ _ _ ⟨rfl, rfl, rfl⟩) ?_
  cases g9 : wi d.ep 0 1073741824 with
  | false =>
    simp -dsimp -implicitDefEqProofs (disch := first | with_reducible assumption | omega) [go_sem]
    exact fin_tail (fin_here (bad (by simp [rightD, g9])))
  | true =>
  by_cases g10 : (d.bits.length : Int) ≤ 32
  rotate_left
  · simp -dsimp -implicitDefEqProofs (disch := first | with_reducible assumption | omega) [go_sem]
    exact fin_tail (fin_here (bad (by simp [rightD, g10])))
  have hbase : rightD d = (decide (d.kind ≠ 6) || (wi d.what 1 4 && (decide (d.what ≠ 1) || parR d.par))) := by
    simp only [rightD, g1, g2, g3, g4, g5, g6, g7, g8, g9, g10, decide_true, Bool.and_self, Bool.true_and]
  rw [hbase] at hk
  by_cases k6 : d.kind = 6
  rotate_left
  · simp -dsimp -implicitDefEqProofs (disch := first | with_reducible assumption | omega) [go_sem]
    exact fin_tail (fin_here (by simpa [k6] using hk h (PH.le_refl h)))
  simp -dsimp -implicitDefEqProofs (disch := first | with_reducible assumption | omega) [go_sem]
  refine dwithin_any _ _ _ ?_
  cases g11 : wi d.what 1 4 with
  | false =>
    simp -dsimp -implicitDefEqProofs (disch := first | with_reducible assumption | omega) [go_sem]
    exact fin_tail (fin_here (by simpa [k6, g11] using hk h (PH.le_refl h)))
  | true =>
  by_cases w1 : d.what = 1
  rotate_left
  · simp -dsimp -implicitDefEqProofs (disch := first | with_reducible assumption | omega) [go_sem]
    exact fin_tail (fin_here (by simpa [k6, g11, w1] using hk h (PH.le_refl h)))
  simp -dsimp -implicitDefEqProofs (disch := first | with_reducible assumption | omega) [go_sem]
  refine Spec.ap (pcheck_any d.par hd.ok.p fun h2 le2 ap => ?_)
  cases g12 : parR d.par with
  | false =>
    simp -dsimp -implicitDefEqProofs (disch := first | with_reducible assumption | omega) [go_sem]
    exact fin_tail (fin_here (by simpa [k6, g11, w1, g12] using hk h2 le2))
  | true =>
    simp -dsimp -implicitDefEqProofs (disch := first | with_reducible assumption | omega) [go_sem]
    exact fin_tail (fin_here (by simpa [k6, w1, g12, show wi 1 1 4 = true by decide] using hk h2 le2))
end Go.X
