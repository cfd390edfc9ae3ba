/- The simple genesis, and the examples of layer 36. Conditions: none. -/
import Derived.Test.YtfilkbfkhdaakaaGreatTH
set_option linter.unusedVariables false
set_option linter.unusedSimpArgs false
set_option maxRecDepth 20000
namespace Go.X
open Go.RowKit Go.Proofs Go.Bl
variable {L : Own} {h : PH} {K : PK}
def simpP : ParD where
  inc := 10
  maxEff := 30
  floor := 10
  cap := 40
  up := 10
  down := 5
  bias := 4
  quot := 100
  biasEm := 8
  quotEm := 50
  recover := 2
  scoreCap := 100
  rate := 1048576
  bond := 1
  delay := 2
  streak := 4
  boost := 100
  absent := 100
  burn := 5000
  churn := 2
  wait := 2
  poll := 2
  enact := 1
  quorum := 3000
def simpG : GenD := ⟨simpP, 1073741824, [500, 200], [⟨0, 25⟩, ⟨1, 40⟩]⟩
theorem simpP_ok : ParOk simpP := by
  constructor
  · intro z hz
    simp only [wides, simpP, List.mem_cons, List.not_mem_nil, or_false] at hz
    omega
  · intro z hz
    simp only [narrows, simpP, List.mem_cons, List.not_mem_nil, or_false] at hz
    omega
theorem simple07_any (hk : K (parV simpP) L h) : Spec Tryz.prog 108 [] L h K := by
  refine x_enter Tryz.func108 rfl (rs := [_]) rfl rfl mixed (by kernel_rfl) rfl rfl ?_
  simp -dsimp -implicitDefEqProofs (disch := first | with_reducible assumption | omega) [go_sem]
  refine xnew fun b0 n_b0 h_b0 => ?_
  try simp only [Apart] at n_b0
  simp -dsimp -implicitDefEqProofs (disch := first | with_reducible assumption | omega) [go_sem]
  exact fin_tail (fin_here hk)
theorem simple24_any (hk : ∀ h' pa pc fa fc, PH.le h h' → IsGen h' (.slice pa 2 pc) (.slice fa 2 fc) simpG → K (genV simpG (.slice pa 2 pc) (.slice fa 2 fc)) L h') : Spec Tryz.prog 51 [] L h K := by
  refine x_enter Tryz.func51 rfl (rs := [_]) rfl rfl mixed (by kernel_rfl) rfl rfl ?_
  simp -dsimp -implicitDefEqProofs (disch := first | with_reducible assumption | omega) [go_sem]
  refine xnew fun b0 n_b0 h_b0 => ?_
  try simp only [Apart] at n_b0
  simp -dsimp -implicitDefEqProofs (disch := first | with_reducible assumption | omega) [go_sem]
  refine simple07_any ?_
  simp -dsimp -implicitDefEqProofs (disch := first | with_reducible assumption | omega) [go_sem]
  refine xnew fun b1 n_b1 h_b1 => ?_
  try simp only [Apart] at n_b1
  simp -dsimp -implicitDefEqProofs (disch := first | with_reducible assumption | omega) [go_sem]
  refine xnew fun b2 n_b2 h_b2 => ?_
  try simp only [Apart] at n_b2
  simp -dsimp -implicitDefEqProofs (disch := first | with_reducible assumption | omega) [go_sem]
  have s1 : Sl (pub h b1 [.int .u64 500, .int .u64 200]) (.slice (some ⟨b1, 0, none⟩) 2 2) 2 1 [.int .u64 500, .int .u64 200] := pub_sl (o := some (b1, 2)) ⟨Nat.le_refl _, by simp [maxLen]⟩ rfl (by decide)
  have s2 : Sl (pub (pub h b1 [.int .u64 500, .int .u64 200]) b2 [.int .i64 0, .int .u64 25, .int .i64 1, .int .u64 40]) (.slice (some ⟨b2, 0, none⟩) 2 2) 2 2 [.int .i64 0, .int .u64 25, .int .i64 1, .int .u64 40] := pub_sl (o := some (b2, 2)) ⟨Nat.le_refl _, by simp [maxLen]⟩ rfl (by decide)
  have n2 : (pub h b1 [.int .u64 500, .int .u64 200]) b2 = noC := pubO_noC (o := some (b1, 2)) (by first | exact n_b2.1 | exact Ne.symm n_b2.1) h_b2
  have l1 := pub_le (h := h) h_b1 [.int .u64 500, .int .u64 200]
  have l2 := pub_le n2 [.int .i64 0, .int .u64 25, .int .i64 1, .int .u64 40]
  refine ⟨L, _, ?_, hk _ _ _ _ _ (l1.trans l2) ⟨simpP_ok, by decide, ⟨s1.up l2, fun z hz => ?_⟩, ⟨fouC_len, s2⟩, fun x hx => ?_⟩⟩
  · first
    | exact (Drop.perm _ (List.Perm.swap _ _ _)).trans ((pub_drop_at b1 _ _ _ [] _ h (by decide)).trans ((pub_drop_at b2 _ _ _ [] _ _ (by decide)).trans (Drop.tail _ _ _)))
    | exact (pub_drop_at b1 _ _ _ [_] _ h (by decide)).trans ((pub_drop_at b2 _ _ _ [] _ _ (by decide)).trans (Drop.tail _ _ _))
  · simp only [simpG, List.mem_cons, List.not_mem_nil, or_false] at hz
    rw [show IntKind.u64.min = 0 by decide, show IntKind.u64.max = 18446744073709551615 by decide]
    omega
  · simp only [simpG, List.mem_cons, List.not_mem_nil, or_false] at hx
    rcases hx with rfl | rfl
    · exact ⟨by decide, by decide⟩
    · exact ⟨by decide, by decide⟩
def simpS : StD := ⟨simpP, 1073741824, 765, 0, 0, 0, 0, 0, false, [500, 200], [⟨25, 20, 0, 0, 0, 2⟩, ⟨40, 30, 0, 0, 1, 2⟩], [], [], [], [], [], List.replicate 16 0, []⟩
theorem simp_newB : newB simpG = true := by decide +kernel
theorem simp_new : newR simpG = simpS := by
  rw [newR, simp_newB]
  show newS simpG = simpS
  have e1 : tot (genAll simpG) = 765 := by decide +kernel
  have e2 : wholeP simpP 25 = 20 := by decide +kernel
  have e3 : wholeP simpP 40 = 30 := by decide +kernel
  rw [newS, e1]
  simp only [simpS, simpG, List.map_cons, List.map_nil, memF, e2, e3]
theorem simpS_few : FewS simpS := by
  constructor <;> decide
theorem simpS_fits : fitsS simpS = true := by decide +kernel
theorem newsimp_any {pv fv : Value} (hg : IsGen h pv fv simpG) (hk : ∀ h' u, PH.le h h' → IsSt h' u simpS → K (.tuple #[stV simpS u, .int .i64 0]) L h') : Spec Tryz.prog 52 [genV simpG pv fv] L h K := by
  have e := simp_new
  refine new_any pv fv hg (by decide) fun h' u le hs => ?_
  rw [e, simp_newB] at *
  exact hk h' u le hs
end Go.X
/-! The examples of layer 36, and the contract of the law SeatsOrder. Conditions: numbers of 64 bits. -/
set_option maxRecDepth 20000
namespace Go.X
open Go.RowKit Go.Proofs Go.Bl
variable {L : Own} {h : PH} {K : PK}
theorem same16_any {xs ys : List Int} (v u : Value) (hx : Ints h .i64 v xs) (hy : Ints h .i64 u ys) (hk : K (.bool (decide (xs = ys))) L h) : Spec Tryz.prog 36 [v, u] L h K := by
  have hx0 := hx
  have hy0 := hy
  obtain ⟨a, ca, rfl, hna, hca, _, hcx⟩ := hx.open
  obtain ⟨b, cb, rfl, hnb, hcb, _, hcy⟩ := hy.open
  refine x_enter Tryz.func36 rfl (rs := [_]) rfl rfl mixed (by kernel_rfl) rfl rfl ?_
  simp -dsimp -implicitDefEqProofs (disch := first | with_reducible assumption | omega) [go_sem]
  by_cases c1 : (xs.length : Int) = (ys.length : Int)
  · simp -dsimp -implicitDefEqProofs (disch := first | with_reducible assumption | omega) [go_sem]
    refine xloop' 0 (fun k => k ≤ xs.length ∧ ∀ j, j < k → at0 xs j = at0 ys j) (fun k => [(5, .int .i64 k), (0, .slice a xs.length ca), (1, .slice b ys.length cb)]) (fun k => xs.length - k) ?_ ?_ ?_
    · exact ⟨Nat.zero_le _, fun j hj => by omega⟩
    · simp [Ent, List.lookup, xEnv]
    rintro k ⟨k1, k2⟩
    by_cases c2 : k < xs.length
    · by_cases c3 : at0 xs k = at0 ys k
      · simp -dsimp -implicitDefEqProofs (disch := first | with_reducible assumption | omega) [go_sem]
        refine xdraw (by kernel_rfl) rfl ?_
        simp -dsimp -implicitDefEqProofs (disch := first | with_reducible assumption | omega) [go_sem, idx hcx, idx hcy]
        refine ⟨k + 1, ⟨by omega, fun j hj => ?_⟩, by omega, by simp [Ent, List.lookup], Drop.refl _ _⟩
        by_cases e : j = k
        · subst e; exact c3
        · exact k2 j (by omega)
      · have hne : xs ≠ ys := fun e => c3 (by rw [e])
        rw [decide_eq_false hne] at hk
        simp -dsimp -implicitDefEqProofs (disch := first | with_reducible assumption | omega) [go_sem]
        refine xdraw (by kernel_rfl) rfl ?_
        simp -dsimp -implicitDefEqProofs (disch := first | with_reducible assumption | omega) [go_sem, idx hcx, idx hcy]
        exact fin_here hk
    · have he : xs = ys := at0_ext (by omega) fun j hj => k2 j (by omega)
      rw [decide_eq_true he] at hk
      simp -dsimp -implicitDefEqProofs (disch := first | with_reducible assumption | omega) [go_sem]
      exact fin_here hk
  · have hne : xs ≠ ys := fun e => c1 (by rw [e])
    rw [decide_eq_false hne] at hk
    simp -dsimp -implicitDefEqProofs (disch := first | with_reducible assumption | omega) [go_sem]
    exact fin_here hk
theorem mill_one : mL 0 1 = [16294208416658607535] := by
  rw [mL]
  show [mDr 0 0] = _
  rw [show mDr 0 0 = 16294208416658607535 by decide +kernel]
theorem simp_giveE : giveE simpS 5 = 0 := by
  rw [giveE, simpS_fits, if_pos rfl, if_neg (by decide), if_neg (by decide +kernel)]
theorem simp_giveL : giveL simpS 5 = [2, 3] := by
  rw [giveL, if_pos simp_giveE]
  decide +kernel
set_option maxHeartbeats 3200000 in
theorem awake36_any (hk : ∀ h', PH.le h h' → K (.bool true) L h') : Spec Tryz.prog 29 [] L h K := by
  refine x_enter Tryz.func29 rfl (rs := [_]) rfl rfl mixed (by kernel_rfl) rfl rfl ?_
  simp -dsimp -implicitDefEqProofs (disch := first | with_reducible assumption | omega) [go_sem]
  refine smill_pub 0 1 (by decide) (by decide) fun h1 r1 le1 i1 => ?_
  rw [mill_one] at i1
  obtain ⟨a1, c1, rfl, _, _, _, hc1⟩ := i1.open
  simp -dsimp -implicitDefEqProofs (disch := first | with_reducible assumption | omega) [go_sem]
  refine sorder_pub 0 1 (by decide) (by decide) fun h2 r2 le2 i2 => ?_
  obtain ⟨a2, c2, rfl, _, _, _, hc2⟩ := i2.open
  rw [ordL_len]
  simp -dsimp -implicitDefEqProofs (disch := first | with_reducible assumption | omega) [go_sem]
  refine simple24_any fun h3 pa pc fa fc le3 g3 => ?_
  simp -dsimp -implicitDefEqProofs (disch := first | with_reducible assumption | omega) [go_sem]
  refine newsimp_any g3 fun h4 u le4 s4 => ?_
  obtain ⟨s, es⟩ : ∃ s, s = simpS := ⟨_, rfl⟩
  rw [← es] at s4 ⊢
  have fs : FewS s := es ▸ simpS_few
  have ge : giveE s 5 = 0 := es ▸ simp_giveE
  have gl : giveL s 5 = [2, 3] := es ▸ simp_giveL
  clear es
  have s40 := s4
  obtain ⟨pa, pc, ma, mc, ea, ec, xa, xc, oa, oc, da, dc, ta, tc, ka, kc, ra, rc, rfl⟩ := s4.slices
  simp -dsimp -implicitDefEqProofs (disch := first | with_reducible assumption | omega) [go_sem]
  refine xnew fun b5 n_b5 h_b5 => ?_
  try simp only [Apart] at n_b5
  simp -dsimp -implicitDefEqProofs (disch := first | with_reducible assumption | omega) [go_sem]
  refine Spec.ap (give_any (s := s) ⟨.slice pa s.purses.length pc, .slice ma s.members.length mc, .slice ea s.entry.length ec, .slice xa s.exit.length xc, .slice oa s.pool.length oc, .slice da s.dues.length dc, .slice ta s.motions.length tc, .slice ka s.marks.length kc, .slice ra s.ring.length rc⟩ 5 (by decide) s40 fs fun h5 r5 le5 i5 ap => ?_)
  rw [ge]
  rw [gl] at i5
  simp only [Ap] at ap
  obtain ⟨ab5, _⟩ := ap
  have i50 := i5
  obtain ⟨a5, c5, rfl, _, _, _, hc5⟩ := i5.open
  have hc1' : ∀ j, j < 1 → elemCell h5 a1 j = some (Value.int .u64 16294208416658607535) := fun j hj => by
    have := elemCell_up (le2.trans (le3.trans (le4.trans le5))) (hc1 j hj)
    rw [show j = 0 by omega] at this ⊢
    exact this
  simp -dsimp -implicitDefEqProofs (disch := first | with_reducible assumption | omega) [go_sem, idx hc1']
  refine xnew fun b6 n_b6 h_b6 => ?_
  try simp only [Apart] at n_b6
  simp -dsimp -implicitDefEqProofs (disch := first | with_reducible assumption | omega) [go_sem, idx hc1']
  refine call_pub_at (sz := 1) (n := 2) (cap := 2) [] ⟨Nat.le_refl _, by simp [maxLen]⟩ rfl (by decide) h_b6 fun h6 le6 sl _ => ?_
  refine same16_any _ _ (i50.up le6) (ys := [2, 3]) ⟨sl, fun z hz => ?_⟩ ?_
  · simp only [List.mem_cons, List.not_mem_nil, or_false] at hz
    rcases hz with rfl | rfl <;> decide
  simp -dsimp -implicitDefEqProofs (disch := first | with_reducible assumption | omega) [go_sem]
  exact fin_tail (fin_here (hk h6 (le1.trans (le2.trans (le3.trans (le4.trans (le5.trans le6)))))))
end Go.X
