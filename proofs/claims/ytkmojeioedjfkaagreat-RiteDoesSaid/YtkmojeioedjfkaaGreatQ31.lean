/- Lemmas and contracts for a statement about the given program. Conditions: as each says. -/
import Derived.Test.YtkmojeioedjfkaaGreatQ20
import Derived.Test.YtkmojeioedjfkaaGreatQ30
set_option linter.unusedVariables false
set_option linter.unusedSimpArgs false
set_option maxHeartbeats 12800000
set_option maxRecDepth 20000
namespace Go.X
open Go.RowKit Go.Proofs Go.Bl
variable {L : Own} {h : PH} {K : PK}
@[go_sem ↓] theorem eqPar_zero (p : ParD) (x y : Operand) (K : Value → Prop) (t : Tok K) : xBin Tryz.prog .eql 57 x y (parV p) (.agg #[.int .u64 0, .int .u64 0, .int .u64 0, .int .u64 0, .int .u64 0, .int .u64 0, .int .u64 0, .int .u64 0, .int .u64 0, .int .u64 0, .int .u64 0, .int .u64 0, .int .u64 0, .int .u64 0, .int .i64 0, .int .i64 0, .int .i64 0, .int .i64 0, .int .i64 0, .int .i64 0, .int .i64 0, .int .i64 0, .int .i64 0, .int .i64 0]) K t = K (.bool (decide (p = zeroP))) :=
 eqPar_ref p zeroP x y K t
theorem right8_1 {d : DeedD} (bv : Value) (hd : IsDeed h bv d) (kk : d.kind = 1) (hk : ∀ h', PH.le h h' → K (.bool (rightD d)) L h') : Spec Tryz.prog 18 [deedV d bv] L h K := by
 have ob := hd.i.open
 obtain ⟨x1, y1, rfl, _, hlen, _⟩ := ob
 have bad : rightD d = false → K (.bool false) L h := fun e => by
  have := hk h (PH.le_refl h)
  rwa [e] at this
 refine x_enter Tryz.func18 rfl (rs := [_]) rfl rfl mixed (by kernel_rfl) rfl rfl ?_
 simp -dsimp -implicitDefEqProofs (disch := first|with_reducible assumption|omega) [go_sem]
 refine xnew fun b1 n_b1 h_b1 => ?_
 try simp only [Apart] at n_b1
 simp -dsimp -implicitDefEqProofs (disch := first|with_reducible assumption|omega) [go_sem]
 refine in8_any _ _ _ ?_
 cases c0 : wi d.kind 1 7 <;> simp -dsimp -implicitDefEqProofs (disch := first|with_reducible assumption|omega) [go_sem]
 ·exact fin_tail (fin_here (bad (by simp [rightD, c0])))
 refine in8_any _ _ _ ?_
 cases c1 : wi d.acct 0 63 <;> simp -dsimp -implicitDefEqProofs (disch := first|with_reducible assumption|omega) [go_sem]
 ·exact fin_tail (fin_here (bad (by simp [rightD, c1])))
 refine in8_any _ _ _ ?_
 cases c2 : wi d.mem 0 127 <;> simp -dsimp -implicitDefEqProofs (disch := first|with_reducible assumption|omega) [go_sem]
 ·exact fin_tail (fin_here (bad (by simp [rightD, c2])))
 refine in8_any _ _ _ ?_
 cases c3 : wi d.to 0 63 <;> simp -dsimp -implicitDefEqProofs (disch := first|with_reducible assumption|omega) [go_sem]
 ·exact fin_tail (fin_here (bad (by simp [rightD, c3])))
 refine in8_any _ _ _ ?_
 cases c4 : wi d.ep 0 1073741824 <;> simp -dsimp -implicitDefEqProofs (disch := first|with_reducible assumption|omega) [go_sem]
 ·exact fin_tail (fin_here (bad (by simp [rightD, c4])))
 refine in8_any _ _ _ ?_
 cases c5 : wi d.mot 0 31 <;> simp -dsimp -implicitDefEqProofs (disch := first|with_reducible assumption|omega) [go_sem]
 ·exact fin_tail (fin_here (bad (by simp [rightD, c5])))
 by_cases c6 : (d.bits.length : Int) > 32
 ·simp -dsimp -implicitDefEqProofs (disch := first|with_reducible assumption|omega) [go_sem]; exact fin_tail (fin_here (bad (by simp [rightD]; omega)))
 by_cases c7 : d.amt > 4611686018427387904 <;> simp -dsimp -implicitDefEqProofs (disch := first|with_reducible assumption|omega) [go_sem]
 ·exact fin_tail (fin_here (bad (by simp [rightD]; omega)))
 refine uses_any _ hd.i 1 (by simp) ?_
 rw [(by simp [usesB, kk] : usesB d.kind d.what 1 = true)]
 simp -dsimp -implicitDefEqProofs (disch := first|with_reducible assumption|omega) [go_sem]
 refine uses_any _ hd.i 2 (by simp) ?_
 rw [(by simp [usesB, kk] : usesB d.kind d.what 2 = false)]
 by_cases z2 : d.mem = 0 <;> simp -dsimp -implicitDefEqProofs (disch := first|with_reducible assumption|omega) [go_sem]
 rotate_left
 ·exact fin_tail (fin_here (bad (by simp [rightD, sameD, bareD, zeroD, kk, z2])))
 refine uses_any _ hd.i 3 (by simp) ?_
 rw [(by simp [usesB, kk] : usesB d.kind d.what 3 = true)]
 simp -dsimp -implicitDefEqProofs (disch := first|with_reducible assumption|omega) [go_sem]
 refine uses_any _ hd.i 5 (by simp) ?_
 rw [(by simp [usesB, kk] : usesB d.kind d.what 5 = false)]
 by_cases z5 : d.ep = 0
 rotate_left
 ·simp -dsimp -implicitDefEqProofs (disch := first|with_reducible assumption|omega) [go_sem]; exact fin_tail (fin_here (bad (by simp [rightD, sameD, bareD, zeroD, kk, z5])))
 by_cases z6 : d.bits = [] <;> simp -dsimp -implicitDefEqProofs (disch := first|with_reducible assumption|omega) [go_sem]
 rotate_left
 ·exact fin_tail (fin_here (bad (by simp [rightD, sameD, bareD, zeroD, kk, z6])))
 refine xdraw (by kernel_rfl) rfl ?_
 simp -dsimp -implicitDefEqProofs (disch := first|with_reducible assumption|omega) [go_sem]
 refine xdcall _ (uses_any _ hd.i 4 (by simp) ⟨rfl, rfl, rfl⟩) ?_
 rw [(by simp [usesB, kk] : usesB d.kind d.what 4 = true)]
 simp -dsimp -implicitDefEqProofs (disch := first|with_reducible assumption|omega) [go_sem]
 by_cases z4 : 0 < d.amt <;> simp -dsimp -implicitDefEqProofs (disch := first|with_reducible assumption|omega) [go_sem]
 rotate_left
 ·exact fin_tail (fin_here (bad (by simp [rightD, paidD, wi, kk, z4])))
 refine xdcall _ (uses_any _ hd.i 8 (by simp) ⟨rfl, rfl, rfl⟩) ?_
 rw [(by simp [usesB, kk] : usesB d.kind d.what 8 = false)]
 by_cases z8 : d.mot = 0
 rotate_left
 ·simp -dsimp -implicitDefEqProofs (disch := first|with_reducible assumption|omega) [go_sem]; exact fin_tail (fin_here (bad (by simp [rightD, sameD, bareD, zeroD, kk, z8])))
 by_cases z9 : d.yes = false
 rotate_left
 ·have z9' : d.yes = true := by simpa using z9
  simp -dsimp -implicitDefEqProofs (disch := first|with_reducible assumption|omega) [go_sem, z9']
  exact fin_tail (fin_here (bad (by simp [rightD, sameD, bareD, zeroD, kk, z9'])))
 simp -dsimp -implicitDefEqProofs (disch := first|with_reducible assumption|omega) [go_sem, z9]
 refine xdraw (by kernel_rfl) rfl ?_
 simp -dsimp -implicitDefEqProofs (disch := first|with_reducible assumption|omega) [go_sem]
 refine xdcall _ (uses_any (d := { d with yes := false }) _ hd.i 6 (by simp) ⟨rfl, rfl, rfl⟩) ?_
 rw [(by simp [usesB, kk] : usesB d.kind d.what 6 = false)]
 simp -dsimp -implicitDefEqProofs (disch := first|with_reducible assumption|omega) [go_sem]
 by_cases y0 : d.what = 0 <;> simp -dsimp -implicitDefEqProofs (disch := first|with_reducible assumption|omega) [go_sem]
 rotate_left
 ·exact fin_tail (fin_here (bad (by simp [rightD, sameD, bareD, zeroD, kk, y0])))
 refine xdcall _ (in8_any _ _ _ ⟨rfl, rfl, rfl⟩) ?_
 cases c8 : wi d.what 0 4
 ·exfalso; simp [wi, y0] at c8
 simp -dsimp -implicitDefEqProofs (disch := first|with_reducible assumption|omega) [go_sem]
 refine uses_any (d := { d with yes := false }) _ hd.i 7 (by simp) ?_
 rw [(by simp [usesB, kk] : usesB d.kind d.what 7 = false)]
 simp -dsimp -implicitDefEqProofs (disch := first|with_reducible assumption|omega) [go_sem]
 obtain ⟨r0, s0⟩ := wi_iff.1 c0
 obtain ⟨r1, s1⟩ := wi_iff.1 c1
 obtain ⟨r2, s2⟩ := wi_iff.1 c2
 obtain ⟨r3, s3⟩ := wi_iff.1 c3
 obtain ⟨r4, s4⟩ := wi_iff.1 c4
 obtain ⟨r5, s5⟩ := wi_iff.1 c5
 have s6 : (d.bits.length : Int) ≤ 32 := by omega
 have s7 : d.amt ≤ 4611686018427387904 := by omega
 have e : rightD d = decide (d.par = zeroP) := by simp [rightD, sameD, bareD, zeroD, kk, paidD, wi, s6, s7, r1, r2, r3, r4, r5, s1, s2, s3, s4, s5, z2, z5, z6, z8, z9, y0, z4]
 have := hk h (PH.le_refl h)
 rw [e] at this
 exact fin_tail (fin_here this)
theorem right8_2 {d : DeedD} (bv : Value) (hd : IsDeed h bv d) (kk : d.kind = 2) (hk : ∀ h', PH.le h h' → K (.bool (rightD d)) L h') : Spec Tryz.prog 18 [deedV d bv] L h K := by
 have ob := hd.i.open
 obtain ⟨x1, y1, rfl, _, hlen, _⟩ := ob
 have bad : rightD d = false → K (.bool false) L h := fun e => by
  have := hk h (PH.le_refl h)
  rwa [e] at this
 refine x_enter Tryz.func18 rfl (rs := [_]) rfl rfl mixed (by kernel_rfl) rfl rfl ?_
 simp -dsimp -implicitDefEqProofs (disch := first|with_reducible assumption|omega) [go_sem]
 refine xnew fun b1 n_b1 h_b1 => ?_
 try simp only [Apart] at n_b1
 simp -dsimp -implicitDefEqProofs (disch := first|with_reducible assumption|omega) [go_sem]
 refine in8_any _ _ _ ?_
 cases c0 : wi d.kind 1 7 <;> simp -dsimp -implicitDefEqProofs (disch := first|with_reducible assumption|omega) [go_sem]
 ·exact fin_tail (fin_here (bad (by simp [rightD, c0])))
 refine in8_any _ _ _ ?_
 cases c1 : wi d.acct 0 63 <;> simp -dsimp -implicitDefEqProofs (disch := first|with_reducible assumption|omega) [go_sem]
 ·exact fin_tail (fin_here (bad (by simp [rightD, c1])))
 refine in8_any _ _ _ ?_
 cases c2 : wi d.mem 0 127 <;> simp -dsimp -implicitDefEqProofs (disch := first|with_reducible assumption|omega) [go_sem]
 ·exact fin_tail (fin_here (bad (by simp [rightD, c2])))
 refine in8_any _ _ _ ?_
 cases c3 : wi d.to 0 63 <;> simp -dsimp -implicitDefEqProofs (disch := first|with_reducible assumption|omega) [go_sem]
 ·exact fin_tail (fin_here (bad (by simp [rightD, c3])))
 refine in8_any _ _ _ ?_
 cases c4 : wi d.ep 0 1073741824 <;> simp -dsimp -implicitDefEqProofs (disch := first|with_reducible assumption|omega) [go_sem]
 ·exact fin_tail (fin_here (bad (by simp [rightD, c4])))
 refine in8_any _ _ _ ?_
 cases c5 : wi d.mot 0 31 <;> simp -dsimp -implicitDefEqProofs (disch := first|with_reducible assumption|omega) [go_sem]
 ·exact fin_tail (fin_here (bad (by simp [rightD, c5])))
 by_cases c6 : (d.bits.length : Int) > 32
 ·simp -dsimp -implicitDefEqProofs (disch := first|with_reducible assumption|omega) [go_sem]; exact fin_tail (fin_here (bad (by simp [rightD]; omega)))
 by_cases c7 : d.amt > 4611686018427387904 <;> simp -dsimp -implicitDefEqProofs (disch := first|with_reducible assumption|omega) [go_sem]
 ·exact fin_tail (fin_here (bad (by simp [rightD]; omega)))
 refine uses_any _ hd.i 1 (by simp) ?_
 rw [(by simp [usesB, kk] : usesB d.kind d.what 1 = true)]
 simp -dsimp -implicitDefEqProofs (disch := first|with_reducible assumption|omega) [go_sem]
 refine uses_any _ hd.i 2 (by simp) ?_
 rw [(by simp [usesB, kk] : usesB d.kind d.what 2 = false)]
 by_cases z2 : d.mem = 0 <;> simp -dsimp -implicitDefEqProofs (disch := first|with_reducible assumption|omega) [go_sem]
 rotate_left
 ·exact fin_tail (fin_here (bad (by simp [rightD, sameD, bareD, zeroD, kk, z2])))
 refine uses_any _ hd.i 3 (by simp) ?_
 rw [(by simp [usesB, kk] : usesB d.kind d.what 3 = false)]
 by_cases z3 : d.to = 0 <;> simp -dsimp -implicitDefEqProofs (disch := first|with_reducible assumption|omega) [go_sem]
 rotate_left
 ·exact fin_tail (fin_here (bad (by simp [rightD, sameD, bareD, zeroD, kk, z3])))
 refine uses_any _ hd.i 5 (by simp) ?_
 rw [(by simp [usesB, kk] : usesB d.kind d.what 5 = false)]
 by_cases z5 : d.ep = 0
 rotate_left
 ·simp -dsimp -implicitDefEqProofs (disch := first|with_reducible assumption|omega) [go_sem]; exact fin_tail (fin_here (bad (by simp [rightD, sameD, bareD, zeroD, kk, z5])))
 by_cases z6 : d.bits = [] <;> simp -dsimp -implicitDefEqProofs (disch := first|with_reducible assumption|omega) [go_sem]
 rotate_left
 ·exact fin_tail (fin_here (bad (by simp [rightD, sameD, bareD, zeroD, kk, z6])))
 refine xdraw (by kernel_rfl) rfl ?_
 simp -dsimp -implicitDefEqProofs (disch := first|with_reducible assumption|omega) [go_sem]
 refine xdcall _ (uses_any _ hd.i 4 (by simp) ⟨rfl, rfl, rfl⟩) ?_
 rw [(by simp [usesB, kk] : usesB d.kind d.what 4 = true)]
 simp -dsimp -implicitDefEqProofs (disch := first|with_reducible assumption|omega) [go_sem]
 by_cases z4 : 0 < d.amt <;> simp -dsimp -implicitDefEqProofs (disch := first|with_reducible assumption|omega) [go_sem]
 rotate_left
 ·exact fin_tail (fin_here (bad (by simp [rightD, paidD, wi, kk, z4])))
 refine xdcall _ (uses_any _ hd.i 8 (by simp) ⟨rfl, rfl, rfl⟩) ?_
 rw [(by simp [usesB, kk] : usesB d.kind d.what 8 = false)]
 by_cases z8 : d.mot = 0
 rotate_left
 ·simp -dsimp -implicitDefEqProofs (disch := first|with_reducible assumption|omega) [go_sem]; exact fin_tail (fin_here (bad (by simp [rightD, sameD, bareD, zeroD, kk, z8])))
 by_cases z9 : d.yes = false
 rotate_left
 ·have z9' : d.yes = true := by simpa using z9
  simp -dsimp -implicitDefEqProofs (disch := first|with_reducible assumption|omega) [go_sem, z9']
  exact fin_tail (fin_here (bad (by simp [rightD, sameD, bareD, zeroD, kk, z9'])))
 simp -dsimp -implicitDefEqProofs (disch := first|with_reducible assumption|omega) [go_sem, z9]
 refine xdraw (by kernel_rfl) rfl ?_
 simp -dsimp -implicitDefEqProofs (disch := first|with_reducible assumption|omega) [go_sem]
 refine xdcall _ (uses_any (d := { d with yes := false }) _ hd.i 6 (by simp) ⟨rfl, rfl, rfl⟩) ?_
 rw [(by simp [usesB, kk] : usesB d.kind d.what 6 = false)]
 simp -dsimp -implicitDefEqProofs (disch := first|with_reducible assumption|omega) [go_sem]
 by_cases y0 : d.what = 0 <;> simp -dsimp -implicitDefEqProofs (disch := first|with_reducible assumption|omega) [go_sem]
 rotate_left
 ·exact fin_tail (fin_here (bad (by simp [rightD, sameD, bareD, zeroD, kk, y0])))
 refine xdcall _ (in8_any _ _ _ ⟨rfl, rfl, rfl⟩) ?_
 cases c8 : wi d.what 0 4
 ·exfalso; simp [wi, y0] at c8
 simp -dsimp -implicitDefEqProofs (disch := first|with_reducible assumption|omega) [go_sem]
 refine uses_any (d := { d with yes := false }) _ hd.i 7 (by simp) ?_
 rw [(by simp [usesB, kk] : usesB d.kind d.what 7 = false)]
 simp -dsimp -implicitDefEqProofs (disch := first|with_reducible assumption|omega) [go_sem]
 obtain ⟨r0, s0⟩ := wi_iff.1 c0
 obtain ⟨r1, s1⟩ := wi_iff.1 c1
 obtain ⟨r2, s2⟩ := wi_iff.1 c2
 obtain ⟨r3, s3⟩ := wi_iff.1 c3
 obtain ⟨r4, s4⟩ := wi_iff.1 c4
 obtain ⟨r5, s5⟩ := wi_iff.1 c5
 have s6 : (d.bits.length : Int) ≤ 32 := by omega
 have s7 : d.amt ≤ 4611686018427387904 := by omega
 have e : rightD d = decide (d.par = zeroP) := by simp [rightD, sameD, bareD, zeroD, kk, paidD, wi, s6, s7, r1, r2, r3, r4, r5, s1, s2, s3, s4, s5, z2, z3, z5, z6, z8, z9, y0, z4]
 have := hk h (PH.le_refl h)
 rw [e] at this
 exact fin_tail (fin_here this)
theorem right8_3 {d : DeedD} (bv : Value) (hd : IsDeed h bv d) (kk : d.kind = 3) (hk : ∀ h', PH.le h h' → K (.bool (rightD d)) L h') : Spec Tryz.prog 18 [deedV d bv] L h K := by
 have ob := hd.i.open
 obtain ⟨x1, y1, rfl, _, hlen, _⟩ := ob
 have bad : rightD d = false → K (.bool false) L h := fun e => by
  have := hk h (PH.le_refl h)
  rwa [e] at this
 refine x_enter Tryz.func18 rfl (rs := [_]) rfl rfl mixed (by kernel_rfl) rfl rfl ?_
 simp -dsimp -implicitDefEqProofs (disch := first|with_reducible assumption|omega) [go_sem]
 refine xnew fun b1 n_b1 h_b1 => ?_
 try simp only [Apart] at n_b1
 simp -dsimp -implicitDefEqProofs (disch := first|with_reducible assumption|omega) [go_sem]
 refine in8_any _ _ _ ?_
 cases c0 : wi d.kind 1 7 <;> simp -dsimp -implicitDefEqProofs (disch := first|with_reducible assumption|omega) [go_sem]
 ·exact fin_tail (fin_here (bad (by simp [rightD, c0])))
 refine in8_any _ _ _ ?_
 cases c1 : wi d.acct 0 63 <;> simp -dsimp -implicitDefEqProofs (disch := first|with_reducible assumption|omega) [go_sem]
 ·exact fin_tail (fin_here (bad (by simp [rightD, c1])))
 refine in8_any _ _ _ ?_
 cases c2 : wi d.mem 0 127 <;> simp -dsimp -implicitDefEqProofs (disch := first|with_reducible assumption|omega) [go_sem]
 ·exact fin_tail (fin_here (bad (by simp [rightD, c2])))
 refine in8_any _ _ _ ?_
 cases c3 : wi d.to 0 63 <;> simp -dsimp -implicitDefEqProofs (disch := first|with_reducible assumption|omega) [go_sem]
 ·exact fin_tail (fin_here (bad (by simp [rightD, c3])))
 refine in8_any _ _ _ ?_
 cases c4 : wi d.ep 0 1073741824 <;> simp -dsimp -implicitDefEqProofs (disch := first|with_reducible assumption|omega) [go_sem]
 ·exact fin_tail (fin_here (bad (by simp [rightD, c4])))
 refine in8_any _ _ _ ?_
 cases c5 : wi d.mot 0 31 <;> simp -dsimp -implicitDefEqProofs (disch := first|with_reducible assumption|omega) [go_sem]
 ·exact fin_tail (fin_here (bad (by simp [rightD, c5])))
 by_cases c6 : (d.bits.length : Int) > 32
 ·simp -dsimp -implicitDefEqProofs (disch := first|with_reducible assumption|omega) [go_sem]; exact fin_tail (fin_here (bad (by simp [rightD]; omega)))
 by_cases c7 : d.amt > 4611686018427387904 <;> simp -dsimp -implicitDefEqProofs (disch := first|with_reducible assumption|omega) [go_sem]
 ·exact fin_tail (fin_here (bad (by simp [rightD]; omega)))
 refine uses_any _ hd.i 1 (by simp) ?_
 rw [(by simp [usesB, kk] : usesB d.kind d.what 1 = true)]
 simp -dsimp -implicitDefEqProofs (disch := first|with_reducible assumption|omega) [go_sem]
 refine uses_any _ hd.i 2 (by simp) ?_
 rw [(by simp [usesB, kk] : usesB d.kind d.what 2 = true)]
 simp -dsimp -implicitDefEqProofs (disch := first|with_reducible assumption|omega) [go_sem]
 refine uses_any _ hd.i 3 (by simp) ?_
 rw [(by simp [usesB, kk] : usesB d.kind d.what 3 = false)]
 by_cases z3 : d.to = 0 <;> simp -dsimp -implicitDefEqProofs (disch := first|with_reducible assumption|omega) [go_sem]
 rotate_left
 ·exact fin_tail (fin_here (bad (by simp [rightD, sameD, bareD, zeroD, kk, z3])))
 refine uses_any _ hd.i 5 (by simp) ?_
 rw [(by simp [usesB, kk] : usesB d.kind d.what 5 = false)]
 by_cases z5 : d.ep = 0
 rotate_left
 ·simp -dsimp -implicitDefEqProofs (disch := first|with_reducible assumption|omega) [go_sem]; exact fin_tail (fin_here (bad (by simp [rightD, sameD, bareD, zeroD, kk, z5])))
 by_cases z6 : d.bits = [] <;> simp -dsimp -implicitDefEqProofs (disch := first|with_reducible assumption|omega) [go_sem]
 rotate_left
 ·exact fin_tail (fin_here (bad (by simp [rightD, sameD, bareD, zeroD, kk, z6])))
 refine xdraw (by kernel_rfl) rfl ?_
 simp -dsimp -implicitDefEqProofs (disch := first|with_reducible assumption|omega) [go_sem]
 refine xdcall _ (uses_any _ hd.i 4 (by simp) ⟨rfl, rfl, rfl⟩) ?_
 rw [(by simp [usesB, kk] : usesB d.kind d.what 4 = true)]
 simp -dsimp -implicitDefEqProofs (disch := first|with_reducible assumption|omega) [go_sem]
 by_cases z4 : 0 < d.amt <;> simp -dsimp -implicitDefEqProofs (disch := first|with_reducible assumption|omega) [go_sem]
 rotate_left
 ·exact fin_tail (fin_here (bad (by simp [rightD, paidD, wi, kk, z4])))
 refine xdcall _ (uses_any _ hd.i 8 (by simp) ⟨rfl, rfl, rfl⟩) ?_
 rw [(by simp [usesB, kk] : usesB d.kind d.what 8 = false)]
 by_cases z8 : d.mot = 0
 rotate_left
 ·simp -dsimp -implicitDefEqProofs (disch := first|with_reducible assumption|omega) [go_sem]; exact fin_tail (fin_here (bad (by simp [rightD, sameD, bareD, zeroD, kk, z8])))
 by_cases z9 : d.yes = false
 rotate_left
 ·have z9' : d.yes = true := by simpa using z9
  simp -dsimp -implicitDefEqProofs (disch := first|with_reducible assumption|omega) [go_sem, z9']
  exact fin_tail (fin_here (bad (by simp [rightD, sameD, bareD, zeroD, kk, z9'])))
 simp -dsimp -implicitDefEqProofs (disch := first|with_reducible assumption|omega) [go_sem, z9]
 refine xdraw (by kernel_rfl) rfl ?_
 simp -dsimp -implicitDefEqProofs (disch := first|with_reducible assumption|omega) [go_sem]
 refine xdcall _ (uses_any (d := { d with yes := false }) _ hd.i 6 (by simp) ⟨rfl, rfl, rfl⟩) ?_
 rw [(by simp [usesB, kk] : usesB d.kind d.what 6 = false)]
 simp -dsimp -implicitDefEqProofs (disch := first|with_reducible assumption|omega) [go_sem]
 by_cases y0 : d.what = 0 <;> simp -dsimp -implicitDefEqProofs (disch := first|with_reducible assumption|omega) [go_sem]
 rotate_left
 ·exact fin_tail (fin_here (bad (by simp [rightD, sameD, bareD, zeroD, kk, y0])))
 refine xdcall _ (in8_any _ _ _ ⟨rfl, rfl, rfl⟩) ?_
 cases c8 : wi d.what 0 4
 ·exfalso; simp [wi, y0] at c8
 simp -dsimp -implicitDefEqProofs (disch := first|with_reducible assumption|omega) [go_sem]
 refine uses_any (d := { d with yes := false }) _ hd.i 7 (by simp) ?_
 rw [(by simp [usesB, kk] : usesB d.kind d.what 7 = false)]
 simp -dsimp -implicitDefEqProofs (disch := first|with_reducible assumption|omega) [go_sem]
 obtain ⟨r0, s0⟩ := wi_iff.1 c0
 obtain ⟨r1, s1⟩ := wi_iff.1 c1
 obtain ⟨r2, s2⟩ := wi_iff.1 c2
 obtain ⟨r3, s3⟩ := wi_iff.1 c3
 obtain ⟨r4, s4⟩ := wi_iff.1 c4
 obtain ⟨r5, s5⟩ := wi_iff.1 c5
 have s6 : (d.bits.length : Int) ≤ 32 := by omega
 have s7 : d.amt ≤ 4611686018427387904 := by omega
 have e : rightD d = decide (d.par = zeroP) := by simp [rightD, sameD, bareD, zeroD, kk, paidD, wi, s6, s7, r1, r2, r3, r4, r5, s1, s2, s3, s4, s5, z3, z5, z6, z8, z9, y0, z4]
 have := hk h (PH.le_refl h)
 rw [e] at this
 exact fin_tail (fin_here this)
theorem right8_4 {d : DeedD} (bv : Value) (hd : IsDeed h bv d) (kk : d.kind = 4) (hk : ∀ h', PH.le h h' → K (.bool (rightD d)) L h') : Spec Tryz.prog 18 [deedV d bv] L h K := by
 have ob := hd.i.open
 obtain ⟨x1, y1, rfl, _, hlen, _⟩ := ob
 have bad : rightD d = false → K (.bool false) L h := fun e => by
  have := hk h (PH.le_refl h)
  rwa [e] at this
 refine x_enter Tryz.func18 rfl (rs := [_]) rfl rfl mixed (by kernel_rfl) rfl rfl ?_
 simp -dsimp -implicitDefEqProofs (disch := first|with_reducible assumption|omega) [go_sem]
 refine xnew fun b1 n_b1 h_b1 => ?_
 try simp only [Apart] at n_b1
 simp -dsimp -implicitDefEqProofs (disch := first|with_reducible assumption|omega) [go_sem]
 refine in8_any _ _ _ ?_
 cases c0 : wi d.kind 1 7 <;> simp -dsimp -implicitDefEqProofs (disch := first|with_reducible assumption|omega) [go_sem]
 ·exact fin_tail (fin_here (bad (by simp [rightD, c0])))
 refine in8_any _ _ _ ?_
 cases c1 : wi d.acct 0 63 <;> simp -dsimp -implicitDefEqProofs (disch := first|with_reducible assumption|omega) [go_sem]
 ·exact fin_tail (fin_here (bad (by simp [rightD, c1])))
 refine in8_any _ _ _ ?_
 cases c2 : wi d.mem 0 127 <;> simp -dsimp -implicitDefEqProofs (disch := first|with_reducible assumption|omega) [go_sem]
 ·exact fin_tail (fin_here (bad (by simp [rightD, c2])))
 refine in8_any _ _ _ ?_
 cases c3 : wi d.to 0 63 <;> simp -dsimp -implicitDefEqProofs (disch := first|with_reducible assumption|omega) [go_sem]
 ·exact fin_tail (fin_here (bad (by simp [rightD, c3])))
 refine in8_any _ _ _ ?_
 cases c4 : wi d.ep 0 1073741824 <;> simp -dsimp -implicitDefEqProofs (disch := first|with_reducible assumption|omega) [go_sem]
 ·exact fin_tail (fin_here (bad (by simp [rightD, c4])))
 refine in8_any _ _ _ ?_
 cases c5 : wi d.mot 0 31 <;> simp -dsimp -implicitDefEqProofs (disch := first|with_reducible assumption|omega) [go_sem]
 ·exact fin_tail (fin_here (bad (by simp [rightD, c5])))
 by_cases c6 : (d.bits.length : Int) > 32
 ·simp -dsimp -implicitDefEqProofs (disch := first|with_reducible assumption|omega) [go_sem]; exact fin_tail (fin_here (bad (by simp [rightD]; omega)))
 by_cases c7 : d.amt > 4611686018427387904 <;> simp -dsimp -implicitDefEqProofs (disch := first|with_reducible assumption|omega) [go_sem]
 ·exact fin_tail (fin_here (bad (by simp [rightD]; omega)))
 refine uses_any _ hd.i 1 (by simp) ?_
 rw [(by simp [usesB, kk] : usesB d.kind d.what 1 = true)]
 simp -dsimp -implicitDefEqProofs (disch := first|with_reducible assumption|omega) [go_sem]
 refine uses_any _ hd.i 2 (by simp) ?_
 rw [(by simp [usesB, kk] : usesB d.kind d.what 2 = true)]
 simp -dsimp -implicitDefEqProofs (disch := first|with_reducible assumption|omega) [go_sem]
 refine uses_any _ hd.i 3 (by simp) ?_
 rw [(by simp [usesB, kk] : usesB d.kind d.what 3 = false)]
 by_cases z3 : d.to = 0 <;> simp -dsimp -implicitDefEqProofs (disch := first|with_reducible assumption|omega) [go_sem]
 rotate_left
 ·exact fin_tail (fin_here (bad (by simp [rightD, sameD, bareD, zeroD, kk, z3])))
 refine uses_any _ hd.i 5 (by simp) ?_
 rw [(by simp [usesB, kk] : usesB d.kind d.what 5 = false)]
 by_cases z5 : d.ep = 0
 rotate_left
 ·simp -dsimp -implicitDefEqProofs (disch := first|with_reducible assumption|omega) [go_sem]; exact fin_tail (fin_here (bad (by simp [rightD, sameD, bareD, zeroD, kk, z5])))
 by_cases z6 : d.bits = [] <;> simp -dsimp -implicitDefEqProofs (disch := first|with_reducible assumption|omega) [go_sem]
 rotate_left
 ·exact fin_tail (fin_here (bad (by simp [rightD, sameD, bareD, zeroD, kk, z6])))
 refine xdraw (by kernel_rfl) rfl ?_
 simp -dsimp -implicitDefEqProofs (disch := first|with_reducible assumption|omega) [go_sem]
 refine xdcall _ (uses_any _ hd.i 4 (by simp) ⟨rfl, rfl, rfl⟩) ?_
 rw [(by simp [usesB, kk] : usesB d.kind d.what 4 = false)]
 simp -dsimp -implicitDefEqProofs (disch := first|with_reducible assumption|omega) [go_sem]
 by_cases z4 : 0 < d.amt <;> simp -dsimp -implicitDefEqProofs (disch := first|with_reducible assumption|omega) [go_sem]
 ·exact fin_tail (fin_here (bad (by simp [rightD, paidD, wi, kk, z4])))
 refine xdcall _ (uses_any _ hd.i 8 (by simp) ⟨rfl, rfl, rfl⟩) ?_
 rw [(by simp [usesB, kk] : usesB d.kind d.what 8 = false)]
 by_cases z8 : d.mot = 0
 rotate_left
 ·simp -dsimp -implicitDefEqProofs (disch := first|with_reducible assumption|omega) [go_sem]; exact fin_tail (fin_here (bad (by simp [rightD, sameD, bareD, zeroD, kk, z8])))
 by_cases z9 : d.yes = false
 rotate_left
 ·have z9' : d.yes = true := by simpa using z9
  simp -dsimp -implicitDefEqProofs (disch := first|with_reducible assumption|omega) [go_sem, z9']
  exact fin_tail (fin_here (bad (by simp [rightD, sameD, bareD, zeroD, kk, z9'])))
 simp -dsimp -implicitDefEqProofs (disch := first|with_reducible assumption|omega) [go_sem, z9]
 refine xdraw (by kernel_rfl) rfl ?_
 simp -dsimp -implicitDefEqProofs (disch := first|with_reducible assumption|omega) [go_sem]
 refine xdcall _ (uses_any (d := { d with yes := false }) _ hd.i 6 (by simp) ⟨rfl, rfl, rfl⟩) ?_
 rw [(by simp [usesB, kk] : usesB d.kind d.what 6 = false)]
 simp -dsimp -implicitDefEqProofs (disch := first|with_reducible assumption|omega) [go_sem]
 by_cases y0 : d.what = 0 <;> simp -dsimp -implicitDefEqProofs (disch := first|with_reducible assumption|omega) [go_sem]
 rotate_left
 ·exact fin_tail (fin_here (bad (by simp [rightD, sameD, bareD, zeroD, kk, y0])))
 refine xdcall _ (in8_any _ _ _ ⟨rfl, rfl, rfl⟩) ?_
 cases c8 : wi d.what 0 4
 ·exfalso; simp [wi, y0] at c8
 simp -dsimp -implicitDefEqProofs (disch := first|with_reducible assumption|omega) [go_sem]
 refine uses_any (d := { d with yes := false }) _ hd.i 7 (by simp) ?_
 rw [(by simp [usesB, kk] : usesB d.kind d.what 7 = false)]
 simp -dsimp -implicitDefEqProofs (disch := first|with_reducible assumption|omega) [go_sem]
 obtain ⟨r0, s0⟩ := wi_iff.1 c0
 obtain ⟨r1, s1⟩ := wi_iff.1 c1
 obtain ⟨r2, s2⟩ := wi_iff.1 c2
 obtain ⟨r3, s3⟩ := wi_iff.1 c3
 obtain ⟨r4, s4⟩ := wi_iff.1 c4
 obtain ⟨r5, s5⟩ := wi_iff.1 c5
 have s6 : (d.bits.length : Int) ≤ 32 := by omega
 have s7 : d.amt ≤ 4611686018427387904 := by omega
 have z4' : d.amt = 0 := by have := hd.ok.a.1; omega
 have e : rightD d = decide (d.par = zeroP) := by simp [rightD, sameD, bareD, zeroD, kk, paidD, wi, s6, s7, r1, r2, r3, r4, r5, s1, s2, s3, s4, s5, z3, z5, z6, z8, z9, y0, z4']
 have := hk h (PH.le_refl h)
 rw [e] at this
 exact fin_tail (fin_here this)
theorem right8_5 {d : DeedD} (bv : Value) (hd : IsDeed h bv d) (kk : d.kind = 5) (hk : ∀ h', PH.le h h' → K (.bool (rightD d)) L h') : Spec Tryz.prog 18 [deedV d bv] L h K := by
 have ob := hd.i.open
 obtain ⟨x1, y1, rfl, _, hlen, _⟩ := ob
 have bad : rightD d = false → K (.bool false) L h := fun e => by
  have := hk h (PH.le_refl h)
  rwa [e] at this
 refine x_enter Tryz.func18 rfl (rs := [_]) rfl rfl mixed (by kernel_rfl) rfl rfl ?_
 simp -dsimp -implicitDefEqProofs (disch := first|with_reducible assumption|omega) [go_sem]
 refine xnew fun b1 n_b1 h_b1 => ?_
 try simp only [Apart] at n_b1
 simp -dsimp -implicitDefEqProofs (disch := first|with_reducible assumption|omega) [go_sem]
 refine in8_any _ _ _ ?_
 cases c0 : wi d.kind 1 7 <;> simp -dsimp -implicitDefEqProofs (disch := first|with_reducible assumption|omega) [go_sem]
 ·exact fin_tail (fin_here (bad (by simp [rightD, c0])))
 refine in8_any _ _ _ ?_
 cases c1 : wi d.acct 0 63 <;> simp -dsimp -implicitDefEqProofs (disch := first|with_reducible assumption|omega) [go_sem]
 ·exact fin_tail (fin_here (bad (by simp [rightD, c1])))
 refine in8_any _ _ _ ?_
 cases c2 : wi d.mem 0 127 <;> simp -dsimp -implicitDefEqProofs (disch := first|with_reducible assumption|omega) [go_sem]
 ·exact fin_tail (fin_here (bad (by simp [rightD, c2])))
 refine in8_any _ _ _ ?_
 cases c3 : wi d.to 0 63 <;> simp -dsimp -implicitDefEqProofs (disch := first|with_reducible assumption|omega) [go_sem]
 ·exact fin_tail (fin_here (bad (by simp [rightD, c3])))
 refine in8_any _ _ _ ?_
 cases c4 : wi d.ep 0 1073741824 <;> simp -dsimp -implicitDefEqProofs (disch := first|with_reducible assumption|omega) [go_sem]
 ·exact fin_tail (fin_here (bad (by simp [rightD, c4])))
 refine in8_any _ _ _ ?_
 cases c5 : wi d.mot 0 31 <;> simp -dsimp -implicitDefEqProofs (disch := first|with_reducible assumption|omega) [go_sem]
 ·exact fin_tail (fin_here (bad (by simp [rightD, c5])))
 by_cases c6 : (d.bits.length : Int) > 32
 ·simp -dsimp -implicitDefEqProofs (disch := first|with_reducible assumption|omega) [go_sem]; exact fin_tail (fin_here (bad (by simp [rightD]; omega)))
 by_cases c7 : d.amt > 4611686018427387904 <;> simp -dsimp -implicitDefEqProofs (disch := first|with_reducible assumption|omega) [go_sem]
 ·exact fin_tail (fin_here (bad (by simp [rightD]; omega)))
 refine uses_any _ hd.i 1 (by simp) ?_
 rw [(by simp [usesB, kk] : usesB d.kind d.what 1 = false)]
 by_cases z1 : d.acct = 0 <;> simp -dsimp -implicitDefEqProofs (disch := first|with_reducible assumption|omega) [go_sem]
 rotate_left
 ·exact fin_tail (fin_here (bad (by simp [rightD, sameD, bareD, zeroD, kk, z1])))
 refine uses_any _ hd.i 2 (by simp) ?_
 rw [(by simp [usesB, kk] : usesB d.kind d.what 2 = false)]
 by_cases z2 : d.mem = 0 <;> simp -dsimp -implicitDefEqProofs (disch := first|with_reducible assumption|omega) [go_sem]
 rotate_left
 ·exact fin_tail (fin_here (bad (by simp [rightD, sameD, bareD, zeroD, kk, z2])))
 refine uses_any _ hd.i 3 (by simp) ?_
 rw [(by simp [usesB, kk] : usesB d.kind d.what 3 = false)]
 by_cases z3 : d.to = 0 <;> simp -dsimp -implicitDefEqProofs (disch := first|with_reducible assumption|omega) [go_sem]
 rotate_left
 ·exact fin_tail (fin_here (bad (by simp [rightD, sameD, bareD, zeroD, kk, z3])))
 refine uses_any _ hd.i 5 (by simp) ?_
 rw [(by simp [usesB, kk] : usesB d.kind d.what 5 = true)]
 simp -dsimp -implicitDefEqProofs (disch := first|with_reducible assumption|omega) [go_sem]
 refine xdraw (by kernel_rfl) rfl ?_
 simp -dsimp -implicitDefEqProofs (disch := first|with_reducible assumption|omega) [go_sem]
 refine xdcall _ (uses_any _ hd.i 4 (by simp) ⟨rfl, rfl, rfl⟩) ?_
 rw [(by simp [usesB, kk] : usesB d.kind d.what 4 = false)]
 simp -dsimp -implicitDefEqProofs (disch := first|with_reducible assumption|omega) [go_sem]
 by_cases z4 : 0 < d.amt <;> simp -dsimp -implicitDefEqProofs (disch := first|with_reducible assumption|omega) [go_sem]
 ·exact fin_tail (fin_here (bad (by simp [rightD, paidD, wi, kk, z4])))
 refine xdcall _ (uses_any _ hd.i 8 (by simp) ⟨rfl, rfl, rfl⟩) ?_
 rw [(by simp [usesB, kk] : usesB d.kind d.what 8 = false)]
 by_cases z8 : d.mot = 0
 rotate_left
 ·simp -dsimp -implicitDefEqProofs (disch := first|with_reducible assumption|omega) [go_sem]; exact fin_tail (fin_here (bad (by simp [rightD, sameD, bareD, zeroD, kk, z8])))
 by_cases z9 : d.yes = false
 rotate_left
 ·have z9' : d.yes = true := by simpa using z9
  simp -dsimp -implicitDefEqProofs (disch := first|with_reducible assumption|omega) [go_sem, z9']
  exact fin_tail (fin_here (bad (by simp [rightD, sameD, bareD, zeroD, kk, z9'])))
 simp -dsimp -implicitDefEqProofs (disch := first|with_reducible assumption|omega) [go_sem, z9]
 refine xdraw (by kernel_rfl) rfl ?_
 simp -dsimp -implicitDefEqProofs (disch := first|with_reducible assumption|omega) [go_sem]
 refine xdcall _ (uses_any (d := { d with yes := false }) _ hd.i 6 (by simp) ⟨rfl, rfl, rfl⟩) ?_
 rw [(by simp [usesB, kk] : usesB d.kind d.what 6 = false)]
 simp -dsimp -implicitDefEqProofs (disch := first|with_reducible assumption|omega) [go_sem]
 by_cases y0 : d.what = 0 <;> simp -dsimp -implicitDefEqProofs (disch := first|with_reducible assumption|omega) [go_sem]
 rotate_left
 ·exact fin_tail (fin_here (bad (by simp [rightD, sameD, bareD, zeroD, kk, y0])))
 refine xdcall _ (in8_any _ _ _ ⟨rfl, rfl, rfl⟩) ?_
 cases c8 : wi d.what 0 4
 ·exfalso; simp [wi, y0] at c8
 simp -dsimp -implicitDefEqProofs (disch := first|with_reducible assumption|omega) [go_sem]
 refine uses_any (d := { d with yes := false }) _ hd.i 7 (by simp) ?_
 rw [(by simp [usesB, kk] : usesB d.kind d.what 7 = false)]
 simp -dsimp -implicitDefEqProofs (disch := first|with_reducible assumption|omega) [go_sem]
 obtain ⟨r0, s0⟩ := wi_iff.1 c0
 obtain ⟨r1, s1⟩ := wi_iff.1 c1
 obtain ⟨r2, s2⟩ := wi_iff.1 c2
 obtain ⟨r3, s3⟩ := wi_iff.1 c3
 obtain ⟨r4, s4⟩ := wi_iff.1 c4
 obtain ⟨r5, s5⟩ := wi_iff.1 c5
 have s6 : (d.bits.length : Int) ≤ 32 := by omega
 have s7 : d.amt ≤ 4611686018427387904 := by omega
 have z4' : d.amt = 0 := by have := hd.ok.a.1; omega
 have e : rightD d = decide (d.par = zeroP) := by simp [rightD, sameD, bareD, zeroD, kk, paidD, wi, s6, s7, r1, r2, r3, r4, r5, s1, s2, s3, s4, s5, z1, z2, z3, z8, z9, y0, z4']
 have := hk h (PH.le_refl h)
 rw [e] at this
 exact fin_tail (fin_here this)
theorem right8_7 {d : DeedD} (bv : Value) (hd : IsDeed h bv d) (kk : d.kind = 7) (hk : ∀ h', PH.le h h' → K (.bool (rightD d)) L h') : Spec Tryz.prog 18 [deedV d bv] L h K := by
 have ob := hd.i.open
 obtain ⟨x1, y1, rfl, _, hlen, _⟩ := ob
 have bad : rightD d = false → K (.bool false) L h := fun e => by
  have := hk h (PH.le_refl h)
  rwa [e] at this
 refine x_enter Tryz.func18 rfl (rs := [_]) rfl rfl mixed (by kernel_rfl) rfl rfl ?_
 simp -dsimp -implicitDefEqProofs (disch := first|with_reducible assumption|omega) [go_sem]
 refine xnew fun b1 n_b1 h_b1 => ?_
 try simp only [Apart] at n_b1
 simp -dsimp -implicitDefEqProofs (disch := first|with_reducible assumption|omega) [go_sem]
 refine in8_any _ _ _ ?_
 cases c0 : wi d.kind 1 7 <;> simp -dsimp -implicitDefEqProofs (disch := first|with_reducible assumption|omega) [go_sem]
 ·exact fin_tail (fin_here (bad (by simp [rightD, c0])))
 refine in8_any _ _ _ ?_
 cases c1 : wi d.acct 0 63 <;> simp -dsimp -implicitDefEqProofs (disch := first|with_reducible assumption|omega) [go_sem]
 ·exact fin_tail (fin_here (bad (by simp [rightD, c1])))
 refine in8_any _ _ _ ?_
 cases c2 : wi d.mem 0 127 <;> simp -dsimp -implicitDefEqProofs (disch := first|with_reducible assumption|omega) [go_sem]
 ·exact fin_tail (fin_here (bad (by simp [rightD, c2])))
 refine in8_any _ _ _ ?_
 cases c3 : wi d.to 0 63 <;> simp -dsimp -implicitDefEqProofs (disch := first|with_reducible assumption|omega) [go_sem]
 ·exact fin_tail (fin_here (bad (by simp [rightD, c3])))
 refine in8_any _ _ _ ?_
 cases c4 : wi d.ep 0 1073741824 <;> simp -dsimp -implicitDefEqProofs (disch := first|with_reducible assumption|omega) [go_sem]
 ·exact fin_tail (fin_here (bad (by simp [rightD, c4])))
 refine in8_any _ _ _ ?_
 cases c5 : wi d.mot 0 31 <;> simp -dsimp -implicitDefEqProofs (disch := first|with_reducible assumption|omega) [go_sem]
 ·exact fin_tail (fin_here (bad (by simp [rightD, c5])))
 by_cases c6 : (d.bits.length : Int) > 32
 ·simp -dsimp -implicitDefEqProofs (disch := first|with_reducible assumption|omega) [go_sem]; exact fin_tail (fin_here (bad (by simp [rightD]; omega)))
 by_cases c7 : d.amt > 4611686018427387904 <;> simp -dsimp -implicitDefEqProofs (disch := first|with_reducible assumption|omega) [go_sem]
 ·exact fin_tail (fin_here (bad (by simp [rightD]; omega)))
 refine uses_any _ hd.i 1 (by simp) ?_
 rw [(by simp [usesB, kk] : usesB d.kind d.what 1 = true)]
 simp -dsimp -implicitDefEqProofs (disch := first|with_reducible assumption|omega) [go_sem]
 refine uses_any _ hd.i 2 (by simp) ?_
 rw [(by simp [usesB, kk] : usesB d.kind d.what 2 = true)]
 simp -dsimp -implicitDefEqProofs (disch := first|with_reducible assumption|omega) [go_sem]
 refine uses_any _ hd.i 3 (by simp) ?_
 rw [(by simp [usesB, kk] : usesB d.kind d.what 3 = false)]
 by_cases z3 : d.to = 0 <;> simp -dsimp -implicitDefEqProofs (disch := first|with_reducible assumption|omega) [go_sem]
 rotate_left
 ·exact fin_tail (fin_here (bad (by simp [rightD, sameD, bareD, zeroD, kk, z3])))
 refine uses_any _ hd.i 5 (by simp) ?_
 rw [(by simp [usesB, kk] : usesB d.kind d.what 5 = false)]
 by_cases z5 : d.ep = 0
 rotate_left
 ·simp -dsimp -implicitDefEqProofs (disch := first|with_reducible assumption|omega) [go_sem]; exact fin_tail (fin_here (bad (by simp [rightD, sameD, bareD, zeroD, kk, z5])))
 by_cases z6 : d.bits = [] <;> simp -dsimp -implicitDefEqProofs (disch := first|with_reducible assumption|omega) [go_sem]
 rotate_left
 ·exact fin_tail (fin_here (bad (by simp [rightD, sameD, bareD, zeroD, kk, z6])))
 refine xdraw (by kernel_rfl) rfl ?_
 simp -dsimp -implicitDefEqProofs (disch := first|with_reducible assumption|omega) [go_sem]
 refine xdcall _ (uses_any _ hd.i 4 (by simp) ⟨rfl, rfl, rfl⟩) ?_
 rw [(by simp [usesB, kk] : usesB d.kind d.what 4 = false)]
 simp -dsimp -implicitDefEqProofs (disch := first|with_reducible assumption|omega) [go_sem]
 by_cases z4 : 0 < d.amt <;> simp -dsimp -implicitDefEqProofs (disch := first|with_reducible assumption|omega) [go_sem]
 ·exact fin_tail (fin_here (bad (by simp [rightD, paidD, wi, kk, z4])))
 refine xdcall _ (uses_any _ hd.i 8 (by simp) ⟨rfl, rfl, rfl⟩) ?_
 rw [(by simp [usesB, kk] : usesB d.kind d.what 8 = true)]
 simp -dsimp -implicitDefEqProofs (disch := first|with_reducible assumption|omega) [go_sem]
 refine xdraw (by kernel_rfl) rfl ?_
 simp -dsimp -implicitDefEqProofs (disch := first|with_reducible assumption|omega) [go_sem]
 refine xdcall _ (uses_any _ hd.i 6 (by simp) ⟨rfl, rfl, rfl⟩) ?_
 rw [(by simp [usesB, kk] : usesB d.kind d.what 6 = false)]
 simp -dsimp -implicitDefEqProofs (disch := first|with_reducible assumption|omega) [go_sem]
 by_cases y0 : d.what = 0 <;> simp -dsimp -implicitDefEqProofs (disch := first|with_reducible assumption|omega) [go_sem]
 rotate_left
 ·exact fin_tail (fin_here (bad (by simp [rightD, sameD, bareD, zeroD, kk, y0])))
 refine xdcall _ (in8_any _ _ _ ⟨rfl, rfl, rfl⟩) ?_
 cases c8 : wi d.what 0 4
 ·exfalso; simp [wi, y0] at c8
 simp -dsimp -implicitDefEqProofs (disch := first|with_reducible assumption|omega) [go_sem]
 refine uses_any _ hd.i 7 (by simp) ?_
 rw [(by simp [usesB, kk] : usesB d.kind d.what 7 = false)]
 simp -dsimp -implicitDefEqProofs (disch := first|with_reducible assumption|omega) [go_sem]
 obtain ⟨r0, s0⟩ := wi_iff.1 c0
 obtain ⟨r1, s1⟩ := wi_iff.1 c1
 obtain ⟨r2, s2⟩ := wi_iff.1 c2
 obtain ⟨r3, s3⟩ := wi_iff.1 c3
 obtain ⟨r4, s4⟩ := wi_iff.1 c4
 obtain ⟨r5, s5⟩ := wi_iff.1 c5
 have s6 : (d.bits.length : Int) ≤ 32 := by omega
 have s7 : d.amt ≤ 4611686018427387904 := by omega
 have z4' : d.amt = 0 := by have := hd.ok.a.1; omega
 have e : rightD d = decide (d.par = zeroP) := by simp [rightD, sameD, bareD, zeroD, kk, paidD, wi, s6, s7, r1, r2, r3, r4, r5, s1, s2, s3, s4, s5, z3, z5, z6, y0, z4']
 have := hk h (PH.le_refl h)
 rw [e] at this
 exact fin_tail (fin_here this)
theorem right8_6w1 {d : DeedD} (bv : Value) (hd : IsDeed h bv d) (kk : d.kind = 6) (ww : d.what = 1) (hk : ∀ h', PH.le h h' → K (.bool (rightD d)) L h') : Spec Tryz.prog 18 [deedV d bv] L h K := by
 have ob := hd.i.open
 obtain ⟨x1, y1, rfl, _, hlen, _⟩ := ob
 have bad : rightD d = false → K (.bool false) L h := fun e => by
  have := hk h (PH.le_refl h)
  rwa [e] at this
 refine x_enter Tryz.func18 rfl (rs := [_]) rfl rfl mixed (by kernel_rfl) rfl rfl ?_
 simp -dsimp -implicitDefEqProofs (disch := first|with_reducible assumption|omega) [go_sem]
 refine xnew fun b1 n_b1 h_b1 => ?_
 try simp only [Apart] at n_b1
 simp -dsimp -implicitDefEqProofs (disch := first|with_reducible assumption|omega) [go_sem]
 refine in8_any _ _ _ ?_
 cases c0 : wi d.kind 1 7 <;> simp -dsimp -implicitDefEqProofs (disch := first|with_reducible assumption|omega) [go_sem]
 ·exact fin_tail (fin_here (bad (by simp [rightD, c0])))
 refine in8_any _ _ _ ?_
 cases c1 : wi d.acct 0 63 <;> simp -dsimp -implicitDefEqProofs (disch := first|with_reducible assumption|omega) [go_sem]
 ·exact fin_tail (fin_here (bad (by simp [rightD, c1])))
 refine in8_any _ _ _ ?_
 cases c2 : wi d.mem 0 127 <;> simp -dsimp -implicitDefEqProofs (disch := first|with_reducible assumption|omega) [go_sem]
 ·exact fin_tail (fin_here (bad (by simp [rightD, c2])))
 refine in8_any _ _ _ ?_
 cases c3 : wi d.to 0 63 <;> simp -dsimp -implicitDefEqProofs (disch := first|with_reducible assumption|omega) [go_sem]
 ·exact fin_tail (fin_here (bad (by simp [rightD, c3])))
 refine in8_any _ _ _ ?_
 cases c4 : wi d.ep 0 1073741824 <;> simp -dsimp -implicitDefEqProofs (disch := first|with_reducible assumption|omega) [go_sem]
 ·exact fin_tail (fin_here (bad (by simp [rightD, c4])))
 refine in8_any _ _ _ ?_
 cases c5 : wi d.mot 0 31 <;> simp -dsimp -implicitDefEqProofs (disch := first|with_reducible assumption|omega) [go_sem]
 ·exact fin_tail (fin_here (bad (by simp [rightD, c5])))
 by_cases c6 : (d.bits.length : Int) > 32
 ·simp -dsimp -implicitDefEqProofs (disch := first|with_reducible assumption|omega) [go_sem]; exact fin_tail (fin_here (bad (by simp [rightD]; omega)))
 by_cases c7 : d.amt > 4611686018427387904 <;> simp -dsimp -implicitDefEqProofs (disch := first|with_reducible assumption|omega) [go_sem]
 ·exact fin_tail (fin_here (bad (by simp [rightD]; omega)))
 refine uses_any _ hd.i 1 (by simp) ?_
 rw [(by simp [usesB, kk, ww] : usesB d.kind d.what 1 = true)]
 simp -dsimp -implicitDefEqProofs (disch := first|with_reducible assumption|omega) [go_sem]
 refine uses_any _ hd.i 2 (by simp) ?_
 rw [(by simp [usesB, kk, ww] : usesB d.kind d.what 2 = false)]
 by_cases z2 : d.mem = 0 <;> simp -dsimp -implicitDefEqProofs (disch := first|with_reducible assumption|omega) [go_sem]
 rotate_left
 ·exact fin_tail (fin_here (bad (by simp [rightD, sameD, bareD, zeroD, kk, ww, z2])))
 refine uses_any _ hd.i 3 (by simp) ?_
 rw [(by simp [usesB, kk, ww] : usesB d.kind d.what 3 = false)]
 by_cases z3 : d.to = 0 <;> simp -dsimp -implicitDefEqProofs (disch := first|with_reducible assumption|omega) [go_sem]
 rotate_left
 ·exact fin_tail (fin_here (bad (by simp [rightD, sameD, bareD, zeroD, kk, ww, z3])))
 refine uses_any _ hd.i 5 (by simp) ?_
 rw [(by simp [usesB, kk, ww] : usesB d.kind d.what 5 = false)]
 by_cases z5 : d.ep = 0
 rotate_left
 ·simp -dsimp -implicitDefEqProofs (disch := first|with_reducible assumption|omega) [go_sem]; exact fin_tail (fin_here (bad (by simp [rightD, sameD, bareD, zeroD, kk, ww, z5])))
 by_cases z6 : d.bits = [] <;> simp -dsimp -implicitDefEqProofs (disch := first|with_reducible assumption|omega) [go_sem]
 rotate_left
 ·exact fin_tail (fin_here (bad (by simp [rightD, sameD, bareD, zeroD, kk, ww, z6])))
 refine xdraw (by kernel_rfl) rfl ?_
 simp -dsimp -implicitDefEqProofs (disch := first|with_reducible assumption|omega) [go_sem]
 refine xdcall _ (uses_any _ hd.i 4 (by simp) ⟨rfl, rfl, rfl⟩) ?_
 rw [(by simp [usesB, kk, ww] : usesB d.kind d.what 4 = false)]
 simp -dsimp -implicitDefEqProofs (disch := first|with_reducible assumption|omega) [go_sem]
 by_cases z4 : 0 < d.amt <;> simp -dsimp -implicitDefEqProofs (disch := first|with_reducible assumption|omega) [go_sem]
 ·exact fin_tail (fin_here (bad (by simp [rightD, paidD, wi, kk, ww, z4])))
 refine xdcall _ (uses_any _ hd.i 8 (by simp) ⟨rfl, rfl, rfl⟩) ?_
 rw [(by simp [usesB, kk, ww] : usesB d.kind d.what 8 = false)]
 by_cases z8 : d.mot = 0
 rotate_left
 ·simp -dsimp -implicitDefEqProofs (disch := first|with_reducible assumption|omega) [go_sem]; exact fin_tail (fin_here (bad (by simp [rightD, sameD, bareD, zeroD, kk, ww, z8])))
 by_cases z9 : d.yes = false
 rotate_left
 ·have z9' : d.yes = true := by simpa using z9
  simp -dsimp -implicitDefEqProofs (disch := first|with_reducible assumption|omega) [go_sem, z9']
  exact fin_tail (fin_here (bad (by simp [rightD, sameD, bareD, zeroD, kk, ww, z9'])))
 simp -dsimp -implicitDefEqProofs (disch := first|with_reducible assumption|omega) [go_sem, z9]
 refine xdraw (by kernel_rfl) rfl ?_
 simp -dsimp -implicitDefEqProofs (disch := first|with_reducible assumption|omega) [go_sem]
 refine xdcall _ (uses_any (d := { d with yes := false }) _ hd.i 6 (by simp) ⟨rfl, rfl, rfl⟩) ?_
 rw [(by simp [usesB, kk, ww] : usesB d.kind d.what 6 = true)]
 simp -dsimp -implicitDefEqProofs (disch := first|with_reducible assumption|omega) [go_sem]
 refine xdcall _ (in8_any _ _ _ ⟨rfl, rfl, rfl⟩) ?_
 cases c8 : wi d.what 0 4
 ·exfalso; simp [wi, ww] at c8
 simp -dsimp -implicitDefEqProofs (disch := first|with_reducible assumption|omega) [go_sem]
 refine uses_any (d := { d with yes := false }) _ hd.i 7 (by simp) ?_
 rw [(by simp [usesB, kk, ww] : usesB d.kind d.what 7 = true)]
 simp -dsimp -implicitDefEqProofs (disch := first|with_reducible assumption|omega) [go_sem]
 obtain ⟨r0, s0⟩ := wi_iff.1 c0
 obtain ⟨r1, s1⟩ := wi_iff.1 c1
 obtain ⟨r2, s2⟩ := wi_iff.1 c2
 obtain ⟨r3, s3⟩ := wi_iff.1 c3
 obtain ⟨r4, s4⟩ := wi_iff.1 c4
 obtain ⟨r5, s5⟩ := wi_iff.1 c5
 have s6 : (d.bits.length : Int) ≤ 32 := by omega
 have s7 : d.amt ≤ 4611686018427387904 := by omega
 have z4' : d.amt = 0 := by have := hd.ok.a.1; omega
 have e : rightD d = parR d.par := by simp [rightD, sameD, bareD, zeroD, kk, ww, paidD, wi, s6, s7, r1, r2, r3, r4, r5, s1, s2, s3, s4, s5, z2, z3, z5, z6, z8, z9, z4']
 refine right7_any _ hd.ok.p fun h' le => ?_
 simp -dsimp -implicitDefEqProofs (disch := first|with_reducible assumption|omega) [go_sem]
 have := hk h' le
 rw [e] at this
 exact fin_tail (fin_here this)
theorem right8_6w2 {d : DeedD} (bv : Value) (hd : IsDeed h bv d) (kk : d.kind = 6) (ww : d.what = 2) (hk : ∀ h', PH.le h h' → K (.bool (rightD d)) L h') : Spec Tryz.prog 18 [deedV d bv] L h K := by
 have ob := hd.i.open
 obtain ⟨x1, y1, rfl, _, hlen, _⟩ := ob
 have bad : rightD d = false → K (.bool false) L h := fun e => by
  have := hk h (PH.le_refl h)
  rwa [e] at this
 refine x_enter Tryz.func18 rfl (rs := [_]) rfl rfl mixed (by kernel_rfl) rfl rfl ?_
 simp -dsimp -implicitDefEqProofs (disch := first|with_reducible assumption|omega) [go_sem]
 refine xnew fun b1 n_b1 h_b1 => ?_
 try simp only [Apart] at n_b1
 simp -dsimp -implicitDefEqProofs (disch := first|with_reducible assumption|omega) [go_sem]
 refine in8_any _ _ _ ?_
 cases c0 : wi d.kind 1 7 <;> simp -dsimp -implicitDefEqProofs (disch := first|with_reducible assumption|omega) [go_sem]
 ·exact fin_tail (fin_here (bad (by simp [rightD, c0])))
 refine in8_any _ _ _ ?_
 cases c1 : wi d.acct 0 63 <;> simp -dsimp -implicitDefEqProofs (disch := first|with_reducible assumption|omega) [go_sem]
 ·exact fin_tail (fin_here (bad (by simp [rightD, c1])))
 refine in8_any _ _ _ ?_
 cases c2 : wi d.mem 0 127 <;> simp -dsimp -implicitDefEqProofs (disch := first|with_reducible assumption|omega) [go_sem]
 ·exact fin_tail (fin_here (bad (by simp [rightD, c2])))
 refine in8_any _ _ _ ?_
 cases c3 : wi d.to 0 63 <;> simp -dsimp -implicitDefEqProofs (disch := first|with_reducible assumption|omega) [go_sem]
 ·exact fin_tail (fin_here (bad (by simp [rightD, c3])))
 refine in8_any _ _ _ ?_
 cases c4 : wi d.ep 0 1073741824 <;> simp -dsimp -implicitDefEqProofs (disch := first|with_reducible assumption|omega) [go_sem]
 ·exact fin_tail (fin_here (bad (by simp [rightD, c4])))
 refine in8_any _ _ _ ?_
 cases c5 : wi d.mot 0 31 <;> simp -dsimp -implicitDefEqProofs (disch := first|with_reducible assumption|omega) [go_sem]
 ·exact fin_tail (fin_here (bad (by simp [rightD, c5])))
 by_cases c6 : (d.bits.length : Int) > 32
 ·simp -dsimp -implicitDefEqProofs (disch := first|with_reducible assumption|omega) [go_sem]; exact fin_tail (fin_here (bad (by simp [rightD]; omega)))
 by_cases c7 : d.amt > 4611686018427387904 <;> simp -dsimp -implicitDefEqProofs (disch := first|with_reducible assumption|omega) [go_sem]
 ·exact fin_tail (fin_here (bad (by simp [rightD]; omega)))
 refine uses_any _ hd.i 1 (by simp) ?_
 rw [(by simp [usesB, kk, ww] : usesB d.kind d.what 1 = true)]
 simp -dsimp -implicitDefEqProofs (disch := first|with_reducible assumption|omega) [go_sem]
 refine uses_any _ hd.i 2 (by simp) ?_
 rw [(by simp [usesB, kk, ww] : usesB d.kind d.what 2 = false)]
 by_cases z2 : d.mem = 0 <;> simp -dsimp -implicitDefEqProofs (disch := first|with_reducible assumption|omega) [go_sem]
 rotate_left
 ·exact fin_tail (fin_here (bad (by simp [rightD, sameD, bareD, zeroD, kk, ww, z2])))
 refine uses_any _ hd.i 3 (by simp) ?_
 rw [(by simp [usesB, kk, ww] : usesB d.kind d.what 3 = true)]
 simp -dsimp -implicitDefEqProofs (disch := first|with_reducible assumption|omega) [go_sem]
 refine uses_any _ hd.i 5 (by simp) ?_
 rw [(by simp [usesB, kk, ww] : usesB d.kind d.what 5 = false)]
 by_cases z5 : d.ep = 0
 rotate_left
 ·simp -dsimp -implicitDefEqProofs (disch := first|with_reducible assumption|omega) [go_sem]; exact fin_tail (fin_here (bad (by simp [rightD, sameD, bareD, zeroD, kk, ww, z5])))
 by_cases z6 : d.bits = [] <;> simp -dsimp -implicitDefEqProofs (disch := first|with_reducible assumption|omega) [go_sem]
 rotate_left
 ·exact fin_tail (fin_here (bad (by simp [rightD, sameD, bareD, zeroD, kk, ww, z6])))
 refine xdraw (by kernel_rfl) rfl ?_
 simp -dsimp -implicitDefEqProofs (disch := first|with_reducible assumption|omega) [go_sem]
 refine xdcall _ (uses_any _ hd.i 4 (by simp) ⟨rfl, rfl, rfl⟩) ?_
 rw [(by simp [usesB, kk, ww] : usesB d.kind d.what 4 = true)]
 simp -dsimp -implicitDefEqProofs (disch := first|with_reducible assumption|omega) [go_sem]
 by_cases z4 : 0 < d.amt <;> simp -dsimp -implicitDefEqProofs (disch := first|with_reducible assumption|omega) [go_sem]
 rotate_left
 ·exact fin_tail (fin_here (bad (by simp [rightD, paidD, wi, kk, ww, z4])))
 refine xdcall _ (uses_any _ hd.i 8 (by simp) ⟨rfl, rfl, rfl⟩) ?_
 rw [(by simp [usesB, kk, ww] : usesB d.kind d.what 8 = false)]
 by_cases z8 : d.mot = 0
 rotate_left
 ·simp -dsimp -implicitDefEqProofs (disch := first|with_reducible assumption|omega) [go_sem]; exact fin_tail (fin_here (bad (by simp [rightD, sameD, bareD, zeroD, kk, ww, z8])))
 by_cases z9 : d.yes = false
 rotate_left
 ·have z9' : d.yes = true := by simpa using z9
  simp -dsimp -implicitDefEqProofs (disch := first|with_reducible assumption|omega) [go_sem, z9']
  exact fin_tail (fin_here (bad (by simp [rightD, sameD, bareD, zeroD, kk, ww, z9'])))
 simp -dsimp -implicitDefEqProofs (disch := first|with_reducible assumption|omega) [go_sem, z9]
 refine xdraw (by kernel_rfl) rfl ?_
 simp -dsimp -implicitDefEqProofs (disch := first|with_reducible assumption|omega) [go_sem]
 refine xdcall _ (uses_any (d := { d with yes := false }) _ hd.i 6 (by simp) ⟨rfl, rfl, rfl⟩) ?_
 rw [(by simp [usesB, kk, ww] : usesB d.kind d.what 6 = true)]
 simp -dsimp -implicitDefEqProofs (disch := first|with_reducible assumption|omega) [go_sem]
 refine xdcall _ (in8_any _ _ _ ⟨rfl, rfl, rfl⟩) ?_
 cases c8 : wi d.what 0 4
 ·exfalso; simp [wi, ww] at c8
 simp -dsimp -implicitDefEqProofs (disch := first|with_reducible assumption|omega) [go_sem]
 refine uses_any (d := { d with yes := false }) _ hd.i 7 (by simp) ?_
 rw [(by simp [usesB, kk, ww] : usesB d.kind d.what 7 = false)]
 simp -dsimp -implicitDefEqProofs (disch := first|with_reducible assumption|omega) [go_sem]
 obtain ⟨r0, s0⟩ := wi_iff.1 c0
 obtain ⟨r1, s1⟩ := wi_iff.1 c1
 obtain ⟨r2, s2⟩ := wi_iff.1 c2
 obtain ⟨r3, s3⟩ := wi_iff.1 c3
 obtain ⟨r4, s4⟩ := wi_iff.1 c4
 obtain ⟨r5, s5⟩ := wi_iff.1 c5
 have s6 : (d.bits.length : Int) ≤ 32 := by omega
 have s7 : d.amt ≤ 4611686018427387904 := by omega
 have e : rightD d = decide (d.par = zeroP) := by simp [rightD, sameD, bareD, zeroD, kk, ww, paidD, wi, s6, s7, r1, r2, r3, r4, r5, s1, s2, s3, s4, s5, z2, z5, z6, z8, z9, z4]
 have := hk h (PH.le_refl h)
 rw [e] at this
 exact fin_tail (fin_here this)
theorem right8_6w3 {d : DeedD} (bv : Value) (hd : IsDeed h bv d) (kk : d.kind = 6) (w1 : ¬ d.what = 1) (w2 : ¬ d.what = 2) (hk : ∀ h', PH.le h h' → K (.bool (rightD d)) L h') : Spec Tryz.prog 18 [deedV d bv] L h K := by
 have ob := hd.i.open
 obtain ⟨x1, y1, rfl, _, hlen, _⟩ := ob
 have bad : rightD d = false → K (.bool false) L h := fun e => by
  have := hk h (PH.le_refl h)
  rwa [e] at this
 refine x_enter Tryz.func18 rfl (rs := [_]) rfl rfl mixed (by kernel_rfl) rfl rfl ?_
 simp -dsimp -implicitDefEqProofs (disch := first|with_reducible assumption|omega) [go_sem]
 refine xnew fun b1 n_b1 h_b1 => ?_
 try simp only [Apart] at n_b1
 simp -dsimp -implicitDefEqProofs (disch := first|with_reducible assumption|omega) [go_sem]
 refine in8_any _ _ _ ?_
 cases c0 : wi d.kind 1 7 <;> simp -dsimp -implicitDefEqProofs (disch := first|with_reducible assumption|omega) [go_sem]
 ·exact fin_tail (fin_here (bad (by simp [rightD, c0])))
 refine in8_any _ _ _ ?_
 cases c1 : wi d.acct 0 63 <;> simp -dsimp -implicitDefEqProofs (disch := first|with_reducible assumption|omega) [go_sem]
 ·exact fin_tail (fin_here (bad (by simp [rightD, c1])))
 refine in8_any _ _ _ ?_
 cases c2 : wi d.mem 0 127 <;> simp -dsimp -implicitDefEqProofs (disch := first|with_reducible assumption|omega) [go_sem]
 ·exact fin_tail (fin_here (bad (by simp [rightD, c2])))
 refine in8_any _ _ _ ?_
 cases c3 : wi d.to 0 63 <;> simp -dsimp -implicitDefEqProofs (disch := first|with_reducible assumption|omega) [go_sem]
 ·exact fin_tail (fin_here (bad (by simp [rightD, c3])))
 refine in8_any _ _ _ ?_
 cases c4 : wi d.ep 0 1073741824 <;> simp -dsimp -implicitDefEqProofs (disch := first|with_reducible assumption|omega) [go_sem]
 ·exact fin_tail (fin_here (bad (by simp [rightD, c4])))
 refine in8_any _ _ _ ?_
 cases c5 : wi d.mot 0 31 <;> simp -dsimp -implicitDefEqProofs (disch := first|with_reducible assumption|omega) [go_sem]
 ·exact fin_tail (fin_here (bad (by simp [rightD, c5])))
 by_cases c6 : (d.bits.length : Int) > 32
 ·simp -dsimp -implicitDefEqProofs (disch := first|with_reducible assumption|omega) [go_sem]; exact fin_tail (fin_here (bad (by simp [rightD]; omega)))
 by_cases c7 : d.amt > 4611686018427387904 <;> simp -dsimp -implicitDefEqProofs (disch := first|with_reducible assumption|omega) [go_sem]
 ·exact fin_tail (fin_here (bad (by simp [rightD]; omega)))
 refine uses_any _ hd.i 1 (by simp) ?_
 rw [(by simp [usesB, kk, w1, w2] : usesB d.kind d.what 1 = true)]
 simp -dsimp -implicitDefEqProofs (disch := first|with_reducible assumption|omega) [go_sem]
 refine uses_any _ hd.i 2 (by simp) ?_
 rw [(by simp [usesB, kk, w1, w2] : usesB d.kind d.what 2 = false)]
 by_cases z2 : d.mem = 0 <;> simp -dsimp -implicitDefEqProofs (disch := first|with_reducible assumption|omega) [go_sem]
 rotate_left
 ·exact fin_tail (fin_here (bad (by simp [rightD, sameD, bareD, zeroD, kk, w1, w2, z2])))
 refine uses_any _ hd.i 3 (by simp) ?_
 rw [(by simp [usesB, kk, w1, w2] : usesB d.kind d.what 3 = false)]
 by_cases z3 : d.to = 0 <;> simp -dsimp -implicitDefEqProofs (disch := first|with_reducible assumption|omega) [go_sem]
 rotate_left
 ·exact fin_tail (fin_here (bad (by simp [rightD, sameD, bareD, zeroD, kk, w1, w2, z3])))
 refine uses_any _ hd.i 5 (by simp) ?_
 rw [(by simp [usesB, kk, w1, w2] : usesB d.kind d.what 5 = false)]
 by_cases z5 : d.ep = 0
 rotate_left
 ·simp -dsimp -implicitDefEqProofs (disch := first|with_reducible assumption|omega) [go_sem]; exact fin_tail (fin_here (bad (by simp [rightD, sameD, bareD, zeroD, kk, w1, w2, z5])))
 by_cases z6 : d.bits = [] <;> simp -dsimp -implicitDefEqProofs (disch := first|with_reducible assumption|omega) [go_sem]
 rotate_left
 ·exact fin_tail (fin_here (bad (by simp [rightD, sameD, bareD, zeroD, kk, w1, w2, z6])))
 refine xdraw (by kernel_rfl) rfl ?_
 simp -dsimp -implicitDefEqProofs (disch := first|with_reducible assumption|omega) [go_sem]
 refine xdcall _ (uses_any _ hd.i 4 (by simp) ⟨rfl, rfl, rfl⟩) ?_
 rw [(by simp [usesB, kk, w1, w2] : usesB d.kind d.what 4 = false)]
 simp -dsimp -implicitDefEqProofs (disch := first|with_reducible assumption|omega) [go_sem]
 by_cases z4 : 0 < d.amt <;> simp -dsimp -implicitDefEqProofs (disch := first|with_reducible assumption|omega) [go_sem]
 ·exact fin_tail (fin_here (bad (by simp [rightD, paidD, wi, kk, w1, w2, z4])))
 refine xdcall _ (uses_any _ hd.i 8 (by simp) ⟨rfl, rfl, rfl⟩) ?_
 rw [(by simp [usesB, kk, w1, w2] : usesB d.kind d.what 8 = false)]
 by_cases z8 : d.mot = 0
 rotate_left
 ·simp -dsimp -implicitDefEqProofs (disch := first|with_reducible assumption|omega) [go_sem]; exact fin_tail (fin_here (bad (by simp [rightD, sameD, bareD, zeroD, kk, w1, w2, z8])))
 by_cases z9 : d.yes = false
 rotate_left
 ·have z9' : d.yes = true := by simpa using z9
  simp -dsimp -implicitDefEqProofs (disch := first|with_reducible assumption|omega) [go_sem, z9']
  exact fin_tail (fin_here (bad (by simp [rightD, sameD, bareD, zeroD, kk, w1, w2, z9'])))
 simp -dsimp -implicitDefEqProofs (disch := first|with_reducible assumption|omega) [go_sem, z9]
 refine xdraw (by kernel_rfl) rfl ?_
 simp -dsimp -implicitDefEqProofs (disch := first|with_reducible assumption|omega) [go_sem]
 refine xdcall _ (uses_any (d := { d with yes := false }) _ hd.i 6 (by simp) ⟨rfl, rfl, rfl⟩) ?_
 rw [(by simp [usesB, kk, w1, w2] : usesB d.kind d.what 6 = true)]
 simp -dsimp -implicitDefEqProofs (disch := first|with_reducible assumption|omega) [go_sem]
 by_cases y0 : d.what = 0 <;> simp -dsimp -implicitDefEqProofs (disch := first|with_reducible assumption|omega) [go_sem]
 ·exact fin_tail (fin_here (bad (by simp [rightD, wi, kk, y0])))
 refine xdcall _ (in8_any _ _ _ ⟨rfl, rfl, rfl⟩) ?_
 cases c8 : wi d.what 0 4
 ·simp -dsimp -implicitDefEqProofs (disch := first|with_reducible assumption|omega) [go_sem]; exact fin_tail (fin_here (bad (by
   have : ¬ (1 ≤ d.what ∧ d.what ≤ 4) := fun hh => by rw [wi_iff.2 ⟨by omega, hh.2⟩] at c8; cases c8
   have : wi d.what 1 4 = false := by cases e : wi d.what 1 4 with | false => rfl | true => exact absurd (wi_iff.1 e) this
   simp [rightD, kk, this])))
 simp -dsimp -implicitDefEqProofs (disch := first|with_reducible assumption|omega) [go_sem]
 refine uses_any (d := { d with yes := false }) _ hd.i 7 (by simp) ?_
 rw [(by simp [usesB, kk, w1, w2] : usesB d.kind d.what 7 = false)]
 simp -dsimp -implicitDefEqProofs (disch := first|with_reducible assumption|omega) [go_sem]
 obtain ⟨r0, s0⟩ := wi_iff.1 c0
 obtain ⟨r1, s1⟩ := wi_iff.1 c1
 obtain ⟨r2, s2⟩ := wi_iff.1 c2
 obtain ⟨r3, s3⟩ := wi_iff.1 c3
 obtain ⟨r4, s4⟩ := wi_iff.1 c4
 obtain ⟨r5, s5⟩ := wi_iff.1 c5
 have s6 : (d.bits.length : Int) ≤ 32 := by omega
 have s7 : d.amt ≤ 4611686018427387904 := by omega
 have z4' : d.amt = 0 := by have := hd.ok.a.1; omega
 have r8 : 1 ≤ d.what := by have := wi_iff.1 c8; omega
 have s8 : d.what ≤ 4 := by have := wi_iff.1 c8; omega
 have e : rightD d = decide (d.par = zeroP) := by simp [rightD, sameD, bareD, zeroD, kk, w1, w2, paidD, wi, s6, s7, r1, r2, r3, r4, r5, s1, s2, s3, s4, s5, r8, s8, z2, z3, z5, z6, z8, z9, z4']
 have := hk h (PH.le_refl h)
 rw [e] at this
 exact fin_tail (fin_here this)
theorem right8_any {d : DeedD} (bv : Value) (hd : IsDeed h bv d) (hk : ∀ h', PH.le h h' → K (.bool (rightD d)) L h') : Spec Tryz.prog 18 [deedV d bv] L h K := by
 by_cases k1 : d.kind = 1
 ·exact right8_1 bv hd k1 hk
 by_cases k2 : d.kind = 2
 ·exact right8_2 bv hd k2 hk
 by_cases k3 : d.kind = 3
 ·exact right8_3 bv hd k3 hk
 by_cases k4 : d.kind = 4
 ·exact right8_4 bv hd k4 hk
 by_cases k5 : d.kind = 5
 ·exact right8_5 bv hd k5 hk
 by_cases k7 : d.kind = 7
 ·exact right8_7 bv hd k7 hk
 by_cases k6 : d.kind = 6
 ·by_cases w1 : d.what = 1
  ·exact right8_6w1 bv hd k6 w1 hk
  by_cases w2 : d.what = 2
  ·exact right8_6w2 bv hd k6 w2 hk
  exact right8_6w3 bv hd k6 w1 w2 hk
 have c0 : wi d.kind 1 7 = false := by
  cases e : wi d.kind 1 7 with
  | false => rfl
  | true => have := wi_iff.1 e; omega
 have ob := hd.i.open
 obtain ⟨x1, y1, rfl, _, hlen, _⟩ := ob
 refine x_enter Tryz.func18 rfl (rs := [_]) rfl rfl mixed (by kernel_rfl) rfl rfl ?_
 simp -dsimp -implicitDefEqProofs (disch := first|with_reducible assumption|omega) [go_sem]
 refine xnew fun b1 n_b1 h_b1 => ?_
 try simp only [Apart] at n_b1
 simp -dsimp -implicitDefEqProofs (disch := first|with_reducible assumption|omega) [go_sem]
 refine in8_any _ _ _ ?_
 rw [c0]
 simp -dsimp -implicitDefEqProofs (disch := first|with_reducible assumption|omega) [go_sem]
 have := hk h (PH.le_refl h)
 rw [show rightD d = false by simp [rightD, c0]] at this
 exact fin_tail (fin_here this)
end Go.X
