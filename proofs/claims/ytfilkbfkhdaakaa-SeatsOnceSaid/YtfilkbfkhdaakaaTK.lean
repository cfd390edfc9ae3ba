/- The examples of layer 36, and the contract of the law SeatsOrder. Conditions: numbers of 64 bits. -/
import Derived.Test.YtfilkbfkhdaakaaTJ
set_option linter.unusedVariables false
set_option linter.unusedSimpArgs false
set_option maxRecDepth 20000
namespace Go.X
open Go.RowKit Go.Proofs Go.Bl
variable {L : Own} {h : PH} {K : PK}
theorem same16_any {xs ys : List Int} (v u : Value) (hx : Ints h .i64 v xs) (hy : Ints h .i64 u ys) (hk : K (.bool (decide (xs = ys))) L h) : Spec Try.prog 10 [v, u] L h K := by
  have hx0 := hx
  have hy0 := hy
  obtain ⟨a, ca, rfl, hna, hca, _, hcx⟩ := hx.open
  obtain ⟨b, cb, rfl, hnb, hcb, _, hcy⟩ := hy.open
  refine x_enter Try.func10 rfl (rs := [_]) rfl rfl mixed (by kernel_rfl) rfl rfl ?_
  simp -dsimp -implicitDefEqProofs (disch := first | with_reducible assumption | omega) [go_sem]
  by_cases c1 : (xs.length : Int) = (ys.length : Int)
  · simp -dsimp -implicitDefEqProofs (disch := first | with_reducible assumption | omega) [go_sem]
    refine xloop' 0 (fun k => k ≤ xs.length ∧ ∀ j, j < k → at0 xs j = at0 ys j) (fun k => [(5, .int .i64 k), (0, .slice a xs.length ca), (1, .slice b ys.length cb)]) (fun k => xs.length - k) ?_ ?_ ?_
    · exact ⟨Nat.zero_le _, fun j hj => by omega⟩
    · simp [Ent, List.lookup, xEnv]
    rintro k ⟨k1, k2⟩
    by_cases c2 : k < xs.length
    · by_cases c3 : at0 xs k = at0 ys k
      · simp -dsimp -implicitDefEqProofs (disch := first | with_reducible assumption | omega) [go_sem]
        refine xdraw (by kernel_rfl) rfl ?_
        simp -dsimp -implicitDefEqProofs (disch := first | with_reducible assumption | omega) [go_sem, idx hcx, idx hcy]
        refine ⟨k + 1, ⟨by omega, fun j hj => ?_⟩, by omega, by simp [Ent, List.lookup], Drop.refl _ _⟩
        by_cases e : j = k
        · subst e; exact c3
        · exact k2 j (by omega)
      · have hne : xs ≠ ys := fun e => c3 (by rw [e])
        rw [decide_eq_false hne] at hk
        simp -dsimp -implicitDefEqProofs (disch := first | with_reducible assumption | omega) [go_sem]
        refine xdraw (by kernel_rfl) rfl ?_
        simp -dsimp -implicitDefEqProofs (disch := first | with_reducible assumption | omega) [go_sem, idx hcx, idx hcy]
        exact fin_here hk
    · have he : xs = ys := at0_ext (by omega) fun j hj => k2 j (by omega)
      rw [decide_eq_true he] at hk
      simp -dsimp -implicitDefEqProofs (disch := first | with_reducible assumption | omega) [go_sem]
      exact fin_here hk
  · have hne : xs ≠ ys := fun e => c1 (by rw [e])
    rw [decide_eq_false hne] at hk
    simp -dsimp -implicitDefEqProofs (disch := first | with_reducible assumption | omega) [go_sem]
    exact fin_here hk
theorem mill_one : mL 0 1 = [16294208416658607535] := by
  rw [mL]
  show [mDr 0 0] = _
  rw [show mDr 0 0 = 16294208416658607535 by decide +kernel]
theorem simp_giveE : giveE simpS 5 = 0 := by
  rw [giveE, simpS_fits, if_pos rfl, if_neg (by decide), if_neg (by decide +kernel)]
theorem simp_giveL : giveL simpS 5 = [2, 3] := by
  rw [giveL, if_pos simp_giveE]
  decide +kernel
set_option maxHeartbeats 3200000 in
theorem awake36_any (hk : ∀ h', PH.le h h' → K (.bool true) L h') : Spec Try.prog 5 [] L h K := by
  refine x_enter Try.func5 rfl (rs := [_]) rfl rfl mixed (by kernel_rfl) rfl rfl ?_
  simp -dsimp -implicitDefEqProofs (disch := first | with_reducible assumption | omega) [go_sem]
  refine smill_pub 0 1 (by decide) (by decide) fun h1 r1 le1 i1 => ?_
  rw [mill_one] at i1
  obtain ⟨a1, c1, rfl, _, _, _, hc1⟩ := i1.open
  simp -dsimp -implicitDefEqProofs (disch := first | with_reducible assumption | omega) [go_sem]
  refine sorder_pub 0 1 (by decide) (by decide) fun h2 r2 le2 i2 => ?_
  obtain ⟨a2, c2, rfl, _, _, _, hc2⟩ := i2.open
  rw [ordL_len]
  simp -dsimp -implicitDefEqProofs (disch := first | with_reducible assumption | omega) [go_sem]
  refine simple24_any fun h3 pa pc fa fc le3 g3 => ?_
  simp -dsimp -implicitDefEqProofs (disch := first | with_reducible assumption | omega) [go_sem]
  refine newsimp_any g3 fun h4 u le4 s4 => ?_
  obtain ⟨s, es⟩ : ∃ s, s = simpS := ⟨_, rfl⟩
  rw [← es] at s4 ⊢
  have fs : FewS s := es ▸ simpS_few
  have ge : giveE s 5 = 0 := es ▸ simp_giveE
  have gl : giveL s 5 = [2, 3] := es ▸ simp_giveL
  clear es
  have s40 := s4
  obtain ⟨pa, pc, ma, mc, ea, ec, xa, xc, oa, oc, da, dc, ta, tc, ka, kc, ra, rc, rfl⟩ := s4.slices
  simp -dsimp -implicitDefEqProofs (disch := first | with_reducible assumption | omega) [go_sem]
  refine xnew fun b5 n_b5 h_b5 => ?_
  try simp only [Apart] at n_b5
  simp -dsimp -implicitDefEqProofs (disch := first | with_reducible assumption | omega) [go_sem]
  refine Spec.ap (give_any (s := s) ⟨.slice pa s.purses.length pc, .slice ma s.members.length mc, .slice ea s.entry.length ec, .slice xa s.exit.length xc, .slice oa s.pool.length oc, .slice da s.dues.length dc, .slice ta s.motions.length tc, .slice ka s.marks.length kc, .slice ra s.ring.length rc⟩ 5 (by decide) s40 fs fun h5 r5 le5 i5 ap => ?_)
  rw [ge]
  rw [gl] at i5
  simp only [Ap] at ap
  obtain ⟨ab5, _⟩ := ap
  have i50 := i5
  obtain ⟨a5, c5, rfl, _, _, _, hc5⟩ := i5.open
  have hc1' : ∀ j, j < 1 → elemCell h5 a1 j = some (Value.int .u64 16294208416658607535) := fun j hj => by
    have := elemCell_up (le2.trans (le3.trans (le4.trans le5))) (hc1 j hj)
    rw [show j = 0 by omega] at this ⊢
    exact this
  simp -dsimp -implicitDefEqProofs (disch := first | with_reducible assumption | omega) [go_sem, idx hc1']
  refine xnew fun b6 n_b6 h_b6 => ?_
  try simp only [Apart] at n_b6
  simp -dsimp -implicitDefEqProofs (disch := first | with_reducible assumption | omega) [go_sem, idx hc1']
  refine call_pub_at (sz := 1) (n := 2) (cap := 2) [] ⟨Nat.le_refl _, by simp [maxLen]⟩ rfl (by decide) h_b6 fun h6 le6 sl _ => ?_
  refine same16_any _ _ (i50.up le6) (ys := [2, 3]) ⟨sl, fun z hz => ?_⟩ ?_
  · simp only [List.mem_cons, List.not_mem_nil, or_false] at hz
    rcases hz with rfl | rfl <;> decide
  simp -dsimp -implicitDefEqProofs (disch := first | with_reducible assumption | omega) [go_sem]
  exact fin_tail (fin_here (hk h6 (le1.trans (le2.trans (le3.trans (le4.trans (le5.trans le6)))))))
theorem seatsorder_any (seed n : Int) (hx : 0 ≤ seed ∧ seed ≤ 18446744073709551615) (hn : -9223372036854775808 ≤ n ∧ n ≤ 9223372036854775807) (hk : ∀ h', PH.le h h' → K (.bool true) L h') : Spec Try.prog 3 [.int .u64 seed, .int .i64 n] L h K := by
  refine x_enter Try.func3 rfl (rs := [_]) rfl rfl mixed (by kernel_rfl) rfl rfl ?_
  simp -dsimp -implicitDefEqProofs (disch := first | with_reducible assumption | omega) [go_sem]
  refine awake36_any fun h1 le1 => ?_
  simp -dsimp -implicitDefEqProofs (disch := first | with_reducible assumption | omega) [go_sem]
  by_cases c : n < 0 ∨ 256 < n
  · refine smill_err seed n c ?_
    simp -dsimp -implicitDefEqProofs (disch := first | with_reducible assumption | omega) [go_sem]
    refine sorder_err seed n c ?_
    have := hk h1 le1
    by_cases c1 : n < 0
    · simp -dsimp -implicitDefEqProofs (disch := first | with_reducible assumption | omega) [go_sem]
      exact fin_here this
    · simp -dsimp -implicitDefEqProofs (disch := first | with_reducible assumption | omega) [go_sem]
      exact fin_here this
  · obtain ⟨N, rfl⟩ : ∃ N : Nat, n = N := ⟨n.toNat, by omega⟩
    refine smill_pub seed N hx (by omega) fun h2 r2 le2 i2 => ?_
    have i20 := i2
    obtain ⟨a2, c2, rfl, _⟩ := i2.open
    simp -dsimp -implicitDefEqProofs (disch := first | with_reducible assumption | omega) [go_sem]
    refine sorder_pub seed N hx (by omega) fun h3 r3 le3 i3 => ?_
    have i30 := i3
    obtain ⟨a3, c3, rfl, _⟩ := i3.open
    simp -dsimp -implicitDefEqProofs (disch := first | with_reducible assumption | omega) [go_sem]
    refine rmill_pub seed N hx (by omega) fun h4 r4 le4 i4 => ?_
    have i40 := i4
    obtain ⟨a4, c4, rfl, _⟩ := i4.open
    simp -dsimp -implicitDefEqProofs (disch := first | with_reducible assumption | omega) [go_sem]
    refine same64 _ _ (i20.up (le3.trans le4)) i40 ?_
    simp -dsimp -implicitDefEqProofs (disch := first | with_reducible assumption | omega) [go_sem]
    refine rorder_any seed N hx (by omega) fun h5 r5 le5 i5 => ?_
    have i50 := i5
    obtain ⟨a5, c5, rfl, _⟩ := i5.open
    simp -dsimp -implicitDefEqProofs (disch := first | with_reducible assumption | omega) [go_sem]
    refine same16_any _ _ (i30.up (le4.trans le5)) i50 ?_
    simp -dsimp -implicitDefEqProofs (disch := first | with_reducible assumption | omega) [go_sem]
    exact fin_here (hk _ (le1.trans (le2.trans (le3.trans (le4.trans le5)))))
end Go.X
