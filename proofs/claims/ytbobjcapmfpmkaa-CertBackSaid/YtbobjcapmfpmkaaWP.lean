/- Contracts of bullionref40.Merge and bullionref40.Same. Conditions: certificates. -/
import Derived.Test.YtbobjcapmfpmkaaWO
set_option linter.unusedVariables false
set_option linter.unusedSimpArgs false
namespace Go.X
open Go.RowKit Go.Proofs Go.Bl
variable {L : Own} {h : PH} {K : PK}
set_option maxRecDepth 20000 in
theorem refmerge_any {c d : CertD} (v u : Value) (hc : IsCert h v c) (hd : IsCert h u d) (hk : ∀ h' r e, PH.le h h' → MergeOf h' c d r e → K (.tuple #[r, .int .i64 e]) L h') : Spec Try.prog 28 [v, u] L h K := by
  have hc0 := hc
  have hd0 := hd
  obtain ⟨sv, bv, rfl, hs, hb, r1, r2, r3, r4⟩ := hc
  obtain ⟨su, bu, rfl, hs', hb', q1, q2, q3, q4⟩ := hd
  have os := hs.open
  obtain ⟨a, ca, rfl, _⟩ := os
  have ob := hb.open
  obtain ⟨b, cb, rfl, _⟩ := ob
  have os' := hs'.open
  obtain ⟨a', ca', rfl, _⟩ := os'
  have ob' := hb'.open
  obtain ⟨b', cb', rfl, _⟩ := ob'
  refine x_enter Try.func28 rfl (rs := [_, _]) rfl rfl mixed (by kernel_rfl) rfl rfl ?_
  simp -dsimp -implicitDefEqProofs (disch := first | with_reducible assumption | omega) [go_sem]
  refine xnew fun b1 n_b1 h_b1 => ?_
  try simp only [Apart] at n_b1
  simp -dsimp -implicitDefEqProofs (disch := first | with_reducible assumption | omega) [go_sem]
  refine xnew fun b2 n_b2 h_b2 => ?_
  try simp only [Apart] at n_b2
  simp -dsimp -implicitDefEqProofs (disch := first | with_reducible assumption | omega) [go_sem]
  refine xnew fun b3 n_b3 h_b3 => ?_
  try simp only [Apart] at n_b3
  simp -dsimp -implicitDefEqProofs (disch := first | with_reducible assumption | omega) [go_sem]
  refine refalike_any _ _ hc0 hd0 ?_
  by_cases ha : alikeC c d = 0
  · obtain ⟨hr, hr', em⟩ := alikeC_both ha
    have hh := headC_facts (rightC_head hr)
    rw [ha]
    simp -dsimp -implicitDefEqProofs (disch := first | with_reducible assumption | omega) [go_sem]
    refine Spec.ap (with_any _ _ (-1) c.mem hb hb' (by omega) (by omega) fun h4 r zs le4 iz lz bz ap => ?_)
    simp only [Ap] at ap
    obtain ⟨a3', a2', a1', _⟩ := ap
    have oz := iz.open
    obtain ⟨x3, y3, rfl, _⟩ := oz
    simp -dsimp -implicitDefEqProofs (disch := first | with_reducible assumption | omega) [go_sem]
    refine fin_tail (fin_tail (fin_tail (fin_here (hk h4 _ 0 le4 ⟨ha.symm, ⟨c.ep, c.mem, c.st, zs⟩, ⟨_, _, rfl, hs.up le4, iz, r1, r2, r3, r4⟩, ?_⟩))))
    rw [if_pos ha]
    refine ⟨rfl, rfl, rfl, lz, fun i => ?_⟩
    rw [bz i]
    by_cases e : (i : Int) < c.mem
    · have : ¬ (i : Int) = -1 := by omega
      simp [e, this]
    · simp [e, right_beyond hr i (by omega), right_beyond hr' i (by omega)]
  · simp -dsimp -implicitDefEqProofs (disch := first | with_reducible assumption | omega) [go_sem]
    refine fin_tail (fin_tail (fin_tail (fin_here (hk h _ _ (PH.le_refl h) ⟨rfl, zeroC, zeroC_is h, by rw [if_neg ha]⟩))))

set_option maxRecDepth 20000 in
theorem same40_any {c d : CertD} (v u : Value) (hc : IsCert h v c) (hd : IsCert h u d) (hk : K (.bool (decide (c.ep = d.ep) && decide (c.mem = d.mem) && decide (c.st = d.st) && decide (c.bs = d.bs))) L h) : Spec Try.prog 30 [v, u] L h K := by
  obtain ⟨sv, bv, rfl, hs, hb, r1, r2, r3, r4⟩ := hc
  obtain ⟨su, bu, rfl, hs', hb', q1, q2, q3, q4⟩ := hd
  have os := hs.open
  obtain ⟨a, ca, rfl, _⟩ := os
  have ob := hb.open
  obtain ⟨b, cb, rfl, _⟩ := ob
  have os' := hs'.open
  obtain ⟨a', ca', rfl, _⟩ := os'
  have ob' := hb'.open
  obtain ⟨b', cb', rfl, _⟩ := ob'
  refine x_enter Try.func30 rfl (rs := [_]) rfl rfl mixed (by kernel_rfl) rfl rfl ?_
  simp -dsimp -implicitDefEqProofs (disch := first | with_reducible assumption | omega) [go_sem]
  refine xnew fun b1 n_b1 h_b1 => ?_
  try simp only [Apart] at n_b1
  simp -dsimp -implicitDefEqProofs (disch := first | with_reducible assumption | omega) [go_sem]
  refine xnew fun b2 n_b2 h_b2 => ?_
  try simp only [Apart] at n_b2
  simp -dsimp -implicitDefEqProofs (disch := first | with_reducible assumption | omega) [go_sem]
  by_cases c1 : c.ep = d.ep
  · by_cases c2 : c.mem = d.mem
    · simp -dsimp -implicitDefEqProofs (disch := first | with_reducible assumption | omega) [go_sem]
      refine same64 _ _ hs hs' ?_
      by_cases c3 : c.st = d.st
      · simp -dsimp -implicitDefEqProofs (disch := first | with_reducible assumption | omega) [go_sem]
        refine same8 _ _ hb hb' ?_
        simp -dsimp -implicitDefEqProofs (disch := first | with_reducible assumption | omega) [go_sem]
        exact fin_tail (fin_tail (fin_here (by simpa [c1, c2, c3] using hk)))
      · simp -dsimp -implicitDefEqProofs (disch := first | with_reducible assumption | omega) [go_sem]
        exact fin_tail (fin_tail (fin_here (by simpa [c1, c2, c3] using hk)))
    · simp -dsimp -implicitDefEqProofs (disch := first | with_reducible assumption | omega) [go_sem]
      exact fin_tail (fin_tail (fin_here (by simpa [c1, c2] using hk)))
  · simp -dsimp -implicitDefEqProofs (disch := first | with_reducible assumption | omega) [go_sem]
    exact fin_tail (fin_tail (fin_here (by simpa [c1] using hk)))
end Go.X
