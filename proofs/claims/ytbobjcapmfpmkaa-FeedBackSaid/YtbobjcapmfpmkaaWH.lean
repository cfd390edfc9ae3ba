/- Contracts of what two certificates have in common: alike and Both of package cert and of bullionref40. Conditions: the values read as certificates. -/
import Derived.Test.YtbobjcapmfpmkaaWG
import Derived.Test.YtbobjcapmfpmkaaWA
set_option linter.unusedVariables false
set_option linter.unusedSimpArgs false
namespace Go.X
open Go.RowKit Go.Proofs Go.Bl
variable {L : Own} {h : PH} {K : PK}

set_option maxRecDepth 20000 in
theorem alike_any {c d : CertD} (v u : Value) (hc : IsCert h v c) (hd : IsCert h u d) (hk : K (.int .i64 (alikeC c d)) L h) : Spec Try.prog 68 [v, u] L h K := by
  have hc0 := hc
  have hd0 := hd
  obtain ⟨sv, bv, rfl, hs, hb, r1, r2, r3, r4⟩ := hc
  obtain ⟨su, bu, rfl, hs', hb', q1, q2, q3, q4⟩ := hd
  have os := hs.open
  obtain ⟨a, ca, rfl, _⟩ := os
  have ob := hb.open
  obtain ⟨b, cb, rfl, _⟩ := ob
  have os' := hs'.open
  obtain ⟨a', ca', rfl, _⟩ := os'
  have ob' := hb'.open
  obtain ⟨b', cb', rfl, _⟩ := ob'
  refine x_enter Try.func68 rfl (rs := [_]) rfl rfl mixed (by kernel_rfl) rfl rfl ?_
  simp -dsimp -implicitDefEqProofs (disch := first | with_reducible assumption | omega) [go_sem]
  refine xnew fun b1 n_b1 h_b1 => ?_
  try simp only [Apart] at n_b1
  simp -dsimp -implicitDefEqProofs (disch := first | with_reducible assumption | omega) [go_sem]
  refine xnew fun b2 n_b2 h_b2 => ?_
  try simp only [Apart] at n_b2
  simp -dsimp -implicitDefEqProofs (disch := first | with_reducible assumption | omega) [go_sem]
  refine xnew fun b3 n_b3 h_b3 => ?_
  try simp only [Apart] at n_b3
  simp -dsimp -implicitDefEqProofs (disch := first | with_reducible assumption | omega) [go_sem]
  refine xloop' (0 : Nat) (fun k => k ≤ 2 ∧ (0 < k → rightC c = true) ∧ (1 < k → rightC d = true)) (fun k => [(12, .int .i64 k), (10, .slice (some ⟨b3, 0, none⟩) 2 2), (11, .int .i64 2), (2, .pointer (some ⟨b1, 0, none⟩)), (3, .pointer (some ⟨b2, 0, none⟩))]) (fun k => 2 - k) ?_ ?_ ?_
  · exact ⟨by omega, fun h => by omega, fun h => by omega⟩
  · simp [Ent, List.lookup]
  intro k ⟨k1, k2, k3⟩
  by_cases d1 : k < 2
  · rcases (show k = 0 ∨ k = 1 by omega) with rfl | rfl
    · simp -dsimp -implicitDefEqProofs (disch := first | with_reducible assumption | omega) [go_sem]
      refine xnew fun b4 n_b4 h_b4 => ?_
      try simp only [Apart] at n_b4
      simp -dsimp -implicitDefEqProofs (disch := first | with_reducible assumption | omega) [go_sem]
      refine check_any _ hc0 ?_
      cases hr : rightC c with
      | false =>
        rw [show alikeC c d = 2 by simp [alikeC, hr]] at hk
        simp -dsimp -implicitDefEqProofs (disch := first | with_reducible assumption | omega) [go_sem]
        exact fin_tail (fin_tail (fin_tail (fin_tail (fin_here hk))))
      | true =>
        simp -dsimp -implicitDefEqProofs (disch := first | with_reducible assumption | omega) [go_sem]
        exact ⟨1, by simp [hr], by omega, by simp [Ent, List.lookup], Drop.tail _ _ _⟩
    · have hr := k2 (by omega)
      simp -dsimp -implicitDefEqProofs (disch := first | with_reducible assumption | omega) [go_sem]
      refine xnew fun b4 n_b4 h_b4 => ?_
      try simp only [Apart] at n_b4
      simp -dsimp -implicitDefEqProofs (disch := first | with_reducible assumption | omega) [go_sem]
      refine check_any _ hd0 ?_
      cases hr' : rightC d with
      | false =>
        rw [show alikeC c d = 2 by simp [alikeC, hr, hr']] at hk
        simp -dsimp -implicitDefEqProofs (disch := first | with_reducible assumption | omega) [go_sem]
        exact fin_tail (fin_tail (fin_tail (fin_tail (fin_here hk))))
      | true =>
        simp -dsimp -implicitDefEqProofs (disch := first | with_reducible assumption | omega) [go_sem]
        exact ⟨2, by simp [hr, hr'], by omega, by simp [Ent, List.lookup], Drop.tail _ _ _⟩
  · have hr := k2 (by omega)
    have hr' := k3 (by omega)
    have hk2 : k = 2 := by omega
    subst hk2
    simp -dsimp -implicitDefEqProofs (disch := first | with_reducible assumption | omega) [go_sem]
    by_cases c1 : c.ep = d.ep
    · by_cases c2 : c.mem = d.mem
      · simp -dsimp -implicitDefEqProofs (disch := first | with_reducible assumption | omega) [go_sem]
        refine equal64 _ _ hs hs' ?_
        by_cases c3 : c.st = d.st
        · rw [show alikeC c d = 0 by simp [alikeC, hr, hr', c1, c2, c3]] at hk
          simp -dsimp -implicitDefEqProofs (disch := first | with_reducible assumption | omega) [go_sem]
          exact fin_tail (fin_tail (fin_tail (fin_here hk)))
        · rw [show alikeC c d = 200 by simp [alikeC, hr, hr', c1, c2, c3]] at hk
          simp -dsimp -implicitDefEqProofs (disch := first | with_reducible assumption | omega) [go_sem]
          exact fin_tail (fin_tail (fin_tail (fin_here hk)))
      · rw [show alikeC c d = 200 by simp [alikeC, hr, hr', c1, c2]] at hk
        simp -dsimp -implicitDefEqProofs (disch := first | with_reducible assumption | omega) [go_sem]
        exact fin_tail (fin_tail (fin_tail (fin_here hk)))
    · rw [show alikeC c d = 200 by simp [alikeC, hr, hr', c1]] at hk
      simp -dsimp -implicitDefEqProofs (disch := first | with_reducible assumption | omega) [go_sem]
      exact fin_tail (fin_tail (fin_tail (fin_here hk)))

set_option maxRecDepth 20000 in
theorem refalike_any {c d : CertD} (v u : Value) (hc : IsCert h v c) (hd : IsCert h u d) (hk : K (.int .i64 (alikeC c d)) L h) : Spec Try.prog 70 [v, u] L h K := by
  have hc0 := hc
  have hd0 := hd
  obtain ⟨sv, bv, rfl, hs, hb, r1, r2, r3, r4⟩ := hc
  obtain ⟨su, bu, rfl, hs', hb', q1, q2, q3, q4⟩ := hd
  have os := hs.open
  obtain ⟨a, ca, rfl, _⟩ := os
  have ob := hb.open
  obtain ⟨b, cb, rfl, _⟩ := ob
  have os' := hs'.open
  obtain ⟨a', ca', rfl, _⟩ := os'
  have ob' := hb'.open
  obtain ⟨b', cb', rfl, _⟩ := ob'
  refine x_enter Try.func70 rfl (rs := [_]) rfl rfl mixed (by kernel_rfl) rfl rfl ?_
  simp -dsimp -implicitDefEqProofs (disch := first | with_reducible assumption | omega) [go_sem]
  refine xnew fun b1 n_b1 h_b1 => ?_
  try simp only [Apart] at n_b1
  simp -dsimp -implicitDefEqProofs (disch := first | with_reducible assumption | omega) [go_sem]
  refine xnew fun b2 n_b2 h_b2 => ?_
  try simp only [Apart] at n_b2
  simp -dsimp -implicitDefEqProofs (disch := first | with_reducible assumption | omega) [go_sem]
  refine right_any _ hc0 ?_
  cases hr : rightC c with
  | false =>
    rw [show alikeC c d = 2 by simp [alikeC, hr]] at hk
    simp -dsimp -implicitDefEqProofs (disch := first | with_reducible assumption | omega) [go_sem]
    exact fin_tail (fin_tail (fin_here hk))
  | true =>
    simp -dsimp -implicitDefEqProofs (disch := first | with_reducible assumption | omega) [go_sem]
    refine right_any _ hd0 ?_
    cases hr' : rightC d with
    | false =>
      rw [show alikeC c d = 2 by simp [alikeC, hr, hr']] at hk
      simp -dsimp -implicitDefEqProofs (disch := first | with_reducible assumption | omega) [go_sem]
      exact fin_tail (fin_tail (fin_here hk))
    | true =>
      by_cases c1 : c.ep = d.ep
      · by_cases c2 : c.mem = d.mem
        · simp -dsimp -implicitDefEqProofs (disch := first | with_reducible assumption | omega) [go_sem]
          refine same64 _ _ hs hs' ?_
          by_cases c3 : c.st = d.st
          · rw [show alikeC c d = 0 by simp [alikeC, hr, hr', c1, c2, c3]] at hk
            simp -dsimp -implicitDefEqProofs (disch := first | with_reducible assumption | omega) [go_sem]
            exact fin_tail (fin_tail (fin_here hk))
          · rw [show alikeC c d = 200 by simp [alikeC, hr, hr', c1, c2, c3]] at hk
            simp -dsimp -implicitDefEqProofs (disch := first | with_reducible assumption | omega) [go_sem]
            exact fin_tail (fin_tail (fin_here hk))
        · rw [show alikeC c d = 200 by simp [alikeC, hr, hr', c1, c2]] at hk
          simp -dsimp -implicitDefEqProofs (disch := first | with_reducible assumption | omega) [go_sem]
          exact fin_tail (fin_tail (fin_here hk))
      · rw [show alikeC c d = 200 by simp [alikeC, hr, hr', c1]] at hk
        simp -dsimp -implicitDefEqProofs (disch := first | with_reducible assumption | omega) [go_sem]
        exact fin_tail (fin_tail (fin_here hk))
/-- what Both hands back -/
def bothV (c d : CertD) : Value := if alikeC c d = 0 then .tuple #[.int .u64 (wsum c.st (fun i => getB c.bs i && getB d.bs i) c.st.length), .int .i64 0] else .tuple #[.int .u64 0, .int .i64 (alikeC c d)]
theorem alikeC_right {c d : CertD} (h : alikeC c d = 0) : rightC c = true := by
  unfold alikeC at h
  cases hr : rightC c with
  | true => rfl
  | false => rw [hr] at h; simp at h
set_option maxRecDepth 20000 in
theorem both_any {c d : CertD} (v u : Value) (hc : IsCert h v c) (hd : IsCert h u d) (hk : K (bothV c d) L h) : Spec Try.prog 18 [v, u] L h K := by
  have hc0 := hc
  have hd0 := hd
  obtain ⟨sv, bv, rfl, hs, hb, r1, r2, r3, r4⟩ := hc
  obtain ⟨su, bu, rfl, hs', hb', q1, q2, q3, q4⟩ := hd
  have os := hs.open
  obtain ⟨a, ca, rfl, _⟩ := os
  have ob := hb.open
  obtain ⟨b, cb, rfl, _⟩ := ob
  have os' := hs'.open
  obtain ⟨a', ca', rfl, _⟩ := os'
  have ob' := hb'.open
  obtain ⟨b', cb', rfl, _⟩ := ob'
  refine x_enter Try.func18 rfl (rs := [_, _]) rfl rfl mixed (by kernel_rfl) rfl rfl ?_
  simp -dsimp -implicitDefEqProofs (disch := first | with_reducible assumption | omega) [go_sem]
  refine xnew fun b1 n_b1 h_b1 => ?_
  try simp only [Apart] at n_b1
  simp -dsimp -implicitDefEqProofs (disch := first | with_reducible assumption | omega) [go_sem]
  refine xnew fun b2 n_b2 h_b2 => ?_
  try simp only [Apart] at n_b2
  simp -dsimp -implicitDefEqProofs (disch := first | with_reducible assumption | omega) [go_sem]
  refine alike_any _ _ hc0 hd0 ?_
  unfold bothV at hk
  by_cases ha : alikeC c d = 0
  · rw [if_pos ha] at hk
    rw [ha]
    simp -dsimp -implicitDefEqProofs (disch := first | with_reducible assumption | omega) [go_sem]
    refine weigh_any _ _ (fun i => getB c.bs i && getB d.bs i) hc0 (alikeC_right ha) rfl (fun b3 cs n_b3 h_b3 i hi K hk => ?_) ?_
    · simp only [Apart] at n_b3
      simp -dsimp -implicitDefEqProofs (disch := first | with_reducible assumption | omega) [go_sem]
      refine x_enter Try.func69 rfl (rs := [_]) rfl rfl mixed (by kernel_rfl) rfl rfl ?_
      simp -dsimp -implicitDefEqProofs (disch := first | with_reducible assumption | omega) [go_sem]
      refine signed_any _ _ hc0 (by have := hs.open; omega) ?_
      cases g1 : getB c.bs i with
      | false =>
        rw [g1, Bool.false_and] at hk
        simp -dsimp -implicitDefEqProofs (disch := first | with_reducible assumption | omega) [go_sem]
        exact fin_here hk
      | true =>
        simp -dsimp -implicitDefEqProofs (disch := first | with_reducible assumption | omega) [go_sem]
        refine signed_any _ _ hd0 (by have := hs.open; omega) ?_
        rw [g1, Bool.true_and] at hk
        simp -dsimp -implicitDefEqProofs (disch := first | with_reducible assumption | omega) [go_sem]
        exact fin_here hk
    · simp -dsimp -implicitDefEqProofs (disch := first | with_reducible assumption | omega) [go_sem]
      exact fin_tail (fin_tail (fin_here hk))
  · rw [if_neg ha] at hk
    simp -dsimp -implicitDefEqProofs (disch := first | with_reducible assumption | omega) [go_sem]
    exact fin_tail (fin_tail (fin_here hk))
set_option maxRecDepth 20000 in
theorem refboth_any {c d : CertD} (v u : Value) (hc : IsCert h v c) (hd : IsCert h u d) (hk : K (bothV c d) L h) : Spec Try.prog 19 [v, u] L h K := by
  have hc0 := hc
  have hd0 := hd
  obtain ⟨sv, bv, rfl, hs, hb, r1, r2, r3, r4⟩ := hc
  obtain ⟨su, bu, rfl, hs', hb', q1, q2, q3, q4⟩ := hd
  have os := hs.open
  obtain ⟨a, ca, rfl, _⟩ := os
  have ob := hb.open
  obtain ⟨b, cb, rfl, _⟩ := ob
  have os' := hs'.open
  obtain ⟨a', ca', rfl, _⟩ := os'
  have ob' := hb'.open
  obtain ⟨b', cb', rfl, _⟩ := ob'
  refine x_enter Try.func19 rfl (rs := [_, _]) rfl rfl mixed (by kernel_rfl) rfl rfl ?_
  simp -dsimp -implicitDefEqProofs (disch := first | with_reducible assumption | omega) [go_sem]
  refine xnew fun b1 n_b1 h_b1 => ?_
  try simp only [Apart] at n_b1
  simp -dsimp -implicitDefEqProofs (disch := first | with_reducible assumption | omega) [go_sem]
  refine xnew fun b2 n_b2 h_b2 => ?_
  try simp only [Apart] at n_b2
  simp -dsimp -implicitDefEqProofs (disch := first | with_reducible assumption | omega) [go_sem]
  refine refalike_any _ _ hc0 hd0 ?_
  unfold bothV at hk
  by_cases ha : alikeC c d = 0
  · rw [if_pos ha] at hk
    rw [ha]
    simp -dsimp -implicitDefEqProofs (disch := first | with_reducible assumption | omega) [go_sem]
    refine refweight_any _ _ hc0 (alikeC_right ha) hb' ?_
    simp -dsimp -implicitDefEqProofs (disch := first | with_reducible assumption | omega) [go_sem]
    exact fin_tail (fin_tail (fin_here hk))
  · rw [if_neg ha] at hk
    simp -dsimp -implicitDefEqProofs (disch := first | with_reducible assumption | omega) [go_sem]
    exact fin_tail (fin_tail (fin_here hk))
end Go.X
