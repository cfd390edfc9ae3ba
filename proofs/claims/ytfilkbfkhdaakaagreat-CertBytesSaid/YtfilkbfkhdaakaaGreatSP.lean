/- The contract of the law CertBytes. Conditions: the values read as a state, a certificate, bytes. -/
import Derived.Test.YtfilkbfkhdaakaaGreatSN
import Derived.Test.YtfilkbfkhdaakaaGreatSO
import Derived.Test.YtfilkbfkhdaakaaGreatWJ
import Derived.Test.YtfilkbfkhdaakaaGreatST
set_option linter.unusedVariables false
set_option linter.unusedSimpArgs false
set_option maxRecDepth 20000
namespace Go.X
open Go.RowKit Go.Proofs Go.Bl
variable {L : Own} {h : PH} {K : PK}
theorem same40c_any {c d : CertD} (v u : Value) (hc : IsCert h v c) (hd : IsCert h u d) (hk : K (.bool (decide (c.ep = d.ep) && decide (c.mem = d.mem) && decide (c.st = d.st) && decide (c.bs = d.bs))) L h) : Spec Tryz.prog 19 [v, u] L h K := by
  obtain ⟨sv, bv, rfl, hs, hb, r1, r2, r3, r4⟩ := hc
  obtain ⟨su, bu, rfl, hs', hb', q1, q2, q3, q4⟩ := hd
  have os := hs.open
  obtain ⟨a, ca, rfl, _⟩ := os
  have ob := hb.open
  obtain ⟨b, cb, rfl, _⟩ := ob
  have os' := hs'.open
  obtain ⟨a', ca', rfl, _⟩ := os'
  have ob' := hb'.open
  obtain ⟨b', cb', rfl, _⟩ := ob'
  refine x_enter Tryz.func19 rfl (rs := [_]) rfl rfl mixed (by kernel_rfl) rfl rfl ?_
  simp -dsimp -implicitDefEqProofs (disch := first | with_reducible assumption | omega) [go_sem]
  refine xnew fun b1 n_b1 h_b1 => ?_
  try simp only [Apart] at n_b1
  simp -dsimp -implicitDefEqProofs (disch := first | with_reducible assumption | omega) [go_sem]
  refine xnew fun b2 n_b2 h_b2 => ?_
  try simp only [Apart] at n_b2
  simp -dsimp -implicitDefEqProofs (disch := first | with_reducible assumption | omega) [go_sem]
  by_cases c1 : c.ep = d.ep
  · by_cases c2 : c.mem = d.mem
    · simp -dsimp -implicitDefEqProofs (disch := first | with_reducible assumption | omega) [go_sem]
      refine same64 _ _ hs hs' ?_
      by_cases c3 : c.st = d.st
      · simp -dsimp -implicitDefEqProofs (disch := first | with_reducible assumption | omega) [go_sem]
        refine same8 _ _ hb hb' ?_
        simp -dsimp -implicitDefEqProofs (disch := first | with_reducible assumption | omega) [go_sem]
        exact fin_tail (fin_tail (fin_here (by simpa [c1, c2, c3] using hk)))
      · simp -dsimp -implicitDefEqProofs (disch := first | with_reducible assumption | omega) [go_sem]
        exact fin_tail (fin_tail (fin_here (by simpa [c1, c2, c3] using hk)))
    · simp -dsimp -implicitDefEqProofs (disch := first | with_reducible assumption | omega) [go_sem]
      exact fin_tail (fin_tail (fin_here (by simpa [c1, c2] using hk)))
  · simp -dsimp -implicitDefEqProofs (disch := first | with_reducible assumption | omega) [go_sem]
    exact fin_tail (fin_tail (fin_here (by simpa [c1] using hk)))
theorem same40_self {c : CertD} (v u : Value) (hc : IsCert h v c) (hd : IsCert h u c) (hk : K (.bool true) L h) : Spec Tryz.prog 19 [v, u] L h K :=
  same40c_any v u hc hd (by simpa using hk)
theorem IsCert.lit {v : Value} {c : CertD} (hc : IsCert h v c) : ∃ a ca b cb, v = .agg #[.int .i64 c.ep, .int .i64 c.mem, .slice a c.st.length ca, .slice b c.bs.length cb] := by
  obtain ⟨sv, bv, rfl, hs, hb, r1, r2, r3, r4⟩ := hc
  obtain ⟨a, ca, rfl, _⟩ := hs.open
  obtain ⟨b, cb, rfl, _⟩ := hb.open
  exact ⟨_, _, _, _, rfl⟩
set_option maxHeartbeats 25600000 in
theorem certbytes_any {c : CertD} {bs : List Int} (w v u : Value) (hS : ∃ q : SV × StD, w = stV q.2 q.1 ∧ IsSt h q.1 q.2) (hc0 : IsCert h v c) (hu0 : Ints h .u8 u bs) (hk : ∀ h', PH.le h h' → K (.bool true) L h') : Spec Tryz.prog 3 [w, v, u] L h K := by
  obtain ⟨⟨sv0, s⟩, rfl, hs0⟩ := hS
  simp only at hs0 ⊢
  obtain ⟨pa, pc, ma, mc, ea, ec, xa, xc, oa, oc, da, dc, ta, tc, ka, kc, ra, rc, rfl⟩ := hs0.slices
  obtain ⟨a, ca, b, cb, rfl⟩ := hc0.lit
  have ou := hu0.open
  obtain ⟨a', ca', rfl, _⟩ := ou
  refine x_enter Tryz.func3 rfl (rs := [_]) rfl rfl mixed (by kernel_rfl) rfl rfl ?_
  simp -dsimp -implicitDefEqProofs (disch := first | with_reducible assumption | omega) [go_sem]
  refine xnew fun b1 n_b1 h_b1 => ?_
  try simp only [Apart] at n_b1
  simp -dsimp -implicitDefEqProofs (disch := first | with_reducible assumption | omega) [go_sem]
  refine xnew fun b2 n_b2 h_b2 => ?_
  try simp only [Apart] at n_b2
  simp -dsimp -implicitDefEqProofs (disch := first | with_reducible assumption | omega) [go_sem]
  refine Spec.ap (awake40_any fun h1 le1 ap => ?_)
  simp only [Ap] at ap
  obtain ⟨a12, a11, _⟩ := ap
  simp -dsimp -implicitDefEqProofs (disch := first | with_reducible assumption | omega) [go_sem]
  refine few24_any (s := s) ⟨.slice pa s.purses.length pc, .slice ma s.members.length mc, .slice ea s.entry.length ec, .slice xa s.exit.length xc, .slice oa s.pool.length oc, .slice da s.dues.length dc, .slice ta s.motions.length tc, .slice ka s.marks.length kc, .slice ra s.ring.length rc⟩ (hs0.up le1) ?_
  cases f1 : fewB s with
  | false =>
    simp -dsimp -implicitDefEqProofs (disch := first | with_reducible assumption | omega) [go_sem]
    exact fin_tail (fin_tail (fin_here (hk h1 le1)))
  | true =>
  have fS := fewB_S f1
  have fT := fewB_T f1
  simp -dsimp -implicitDefEqProofs (disch := first | with_reducible assumption | omega) [go_sem]
  refine few_any _ (hc0.up le1) ?_
  by_cases l1 : ¬ ((c.st.length : Int) ≤ 300 ∧ (c.bs.length : Int) ≤ 100)
  · have : (decide ((c.st.length : Int) ≤ 300) && decide ((c.bs.length : Int) ≤ 100)) = false := by
      rw [← Bool.decide_and]; exact decide_eq_false l1
    rw [this]
    simp -dsimp -implicitDefEqProofs (disch := first | with_reducible assumption | omega) [go_sem]
    exact fin_tail (fin_tail (fin_here (hk h1 le1)))
  have e1 : (decide ((c.st.length : Int) ≤ 300) && decide ((c.bs.length : Int) ≤ 100)) = true := by
    rw [← Bool.decide_and]; exact decide_eq_true (Decidable.not_not.1 l1)
  rw [e1]
  by_cases l2 : (bs.length : Int) > 3000
  · simp -dsimp -implicitDefEqProofs (disch := first | with_reducible assumption | omega) [go_sem]
    exact fin_tail (fin_tail (fin_here (hk h1 le1)))
  simp -dsimp -implicitDefEqProofs (disch := first | with_reducible assumption | omega) [go_sem]
  refine Spec.ap (draft_any (s := s) ⟨.slice pa s.purses.length pc, .slice ma s.members.length mc, .slice ea s.entry.length ec, .slice xa s.exit.length xc, .slice oa s.pool.length oc, .slice da s.dues.length dc, .slice ta s.motions.length tc, .slice ka s.marks.length kc, .slice ra s.ring.length rc⟩ (hs0.up le1) fS fun h2 r2 le2 ic2 ap => ?_)
  simp only [Ap] at ap
  obtain ⟨a22, a21, _⟩ := ap
  obtain ⟨x1, x2, x3, x4, rfl⟩ := ic2.lit
  simp -dsimp -implicitDefEqProofs (disch := first | with_reducible assumption | omega) [go_sem]
  refine xnew fun b7 n_b7 h_b7 => ?_
  try simp only [Apart] at n_b7
  simp -dsimp -implicitDefEqProofs (disch := first | with_reducible assumption | omega) [go_sem]
  refine Spec.ap (plain24_any (s := s) (v := ⟨.slice pa s.purses.length pc, .slice ma s.members.length mc, .slice ea s.entry.length ec, .slice xa s.exit.length xc, .slice oa s.pool.length oc, .slice da s.dues.length dc, .slice ta s.motions.length tc, .slice ka s.marks.length kc, .slice ra s.ring.length rc⟩) (hs0.up (le1.trans le2)) fS.m fS.o fS.d fS.t fun h3 u3 le3 hs3 ap => ?_)
  simp only [Ap] at ap
  obtain ⟨a37, a32, a31, _⟩ := ap
  obtain ⟨pa2, pc2, ma2, mc2, ea2, ec2, xa2, xc2, oa2, oc2, da2, dc2, ta2, tc2, ka2, kc2, ra2, rc2, rfl⟩ := hs3.slices
  simp -dsimp -implicitDefEqProofs (disch := first | with_reducible assumption | omega) [go_sem]
  refine xnew fun b9 n_b9 h_b9 => ?_
  try simp only [Apart] at n_b9
  simp -dsimp -implicitDefEqProofs (disch := first | with_reducible assumption | omega) [go_sem]
  refine Spec.ap (fits24_any (s := s) ⟨.slice pa2 s.purses.length pc2, .slice ma2 s.members.length mc2, .slice ea2 s.entry.length ec2, .slice xa2 s.exit.length xc2, .slice oa2 s.pool.length oc2, .slice da2 s.dues.length dc2, .slice ta2 s.motions.length tc2, .slice ka2 s.marks.length kc2, .slice ra2 s.ring.length rc2⟩ hs3 fS fT fun h4 le4 ap => ?_)
  simp only [Ap] at ap
  obtain ⟨a49, a47, a42, a41, _⟩ := ap
  have le04 := le1.trans (le2.trans (le3.trans le4))
  have ic4 := ic2.up (le3.trans le4)
  have hc4 := hc0.up le04
  cases q1 : fitsS s with
  | false =>
    have er : draftR s = zeroC := by rw [draftR, q1]; rfl
    simp -dsimp -implicitDefEqProofs (disch := first | with_reducible assumption | omega) [go_sem]
    refine plain_any _ ic4 ?_
    rw [er] at ic4 ⊢
    simp -dsimp -implicitDefEqProofs (disch := first | with_reducible assumption | omega) [go_sem]
    refine same40_self _ _ ic4 (zeroC_is h4) ?_
    --END1
    simp -dsimp -implicitDefEqProofs (disch := first | with_reducible assumption | omega) [go_sem]
    refine Spec.ap (encode_any _ (hc0.up le04) fun h6 r6 le6 hr6 ap => ?_)
    simp only [Ap] at ap
    obtain ⟨a69, a67, a62, a61, _⟩ := ap
    simp -dsimp -implicitDefEqProofs (disch := first | with_reducible assumption | omega) [go_sem]
    refine plain_any _ (hc0.up (le04.trans le6)) ?_
    simp -dsimp -implicitDefEqProofs (disch := first | with_reducible assumption | omega) [go_sem]
    refine right_any _ (hc0.up (le04.trans le6)) ?_
    cases q2 : rightC c with
    | false =>
      rw [q2] at hr6
      simp only [Bool.false_eq_true, if_false] at hr6 ⊢
      subst hr6
      simp -dsimp -implicitDefEqProofs (disch := first | with_reducible assumption | omega) [go_sem]
      refine Spec.ap (decode_any _ (hu0.up (le04.trans le6)) (by omega) fun h8 r8 le8 ic8 ap => ?_)
      simp only [Ap] at ap
      obtain ⟨a89, a87, a82, a81, _⟩ := ap
      obtain ⟨z1, z2, z3, z4, rfl⟩ := ic8.lit
      simp -dsimp -implicitDefEqProofs (disch := first | with_reducible assumption | omega) [go_sem]
      refine xnew fun b12 n_b12 h_b12 => ?_
      try simp only [Apart] at n_b12
      simp -dsimp -implicitDefEqProofs (disch := first | with_reducible assumption | omega) [go_sem]
      refine Spec.ap (decode40_any _ (hu0.up (le04.trans (le6.trans le8))) (by omega) fun h9 r9 le9 ic9 ap => ?_)
      simp only [Ap] at ap
      obtain ⟨a9c, a99, a97, a92, a91, _⟩ := ap
      obtain ⟨w1, w2, w3, w4, rfl⟩ := ic9.lit
      simp -dsimp -implicitDefEqProofs (disch := first | with_reducible assumption | omega) [go_sem]
      refine xnew fun b14 n_b14 h_b14 => ?_
      try simp only [Apart] at n_b14
      simp -dsimp -implicitDefEqProofs (disch := first | with_reducible assumption | omega) [go_sem]
      refine xdraw (by kernel_rfl) rfl ?_
      simp -dsimp -implicitDefEqProofs (disch := first | with_reducible assumption | omega) [go_sem]
      refine xdcall _ (plain_any _ (ic8.up le9) ⟨rfl, rfl, rfl⟩) ?_
      simp -dsimp -implicitDefEqProofs (disch := first | with_reducible assumption | omega) [go_sem]
      refine xdcall _ (same40_self _ _ (ic8.up le9) ic9 ⟨rfl, rfl, rfl⟩) ?_
      simp -dsimp -implicitDefEqProofs (disch := first | with_reducible assumption | omega) [go_sem]
      exact fin_tail (fin_tail (fin_tail (fin_tail (fin_tail (fin_tail (fin_here (hk h9 (le04.trans (le6.trans (le8.trans le9))))))))))
    | true =>
      rw [q2] at hr6
      simp only [if_true] at hr6 ⊢
      have hr60 := hr6
      obtain ⟨y1, y2, rfl, _⟩ := hr6.open
      simp -dsimp -implicitDefEqProofs (disch := first | with_reducible assumption | omega) [go_sem]
      refine plain_any _ (hc0.up (le04.trans le6)) ?_
      simp -dsimp -implicitDefEqProofs (disch := first | with_reducible assumption | omega) [go_sem]
      refine Spec.ap (form40_any _ (hc0.up (le04.trans le6)) q2 fun h7 r7 le7 ir7 ap => ?_)
      simp only [Ap] at ap
      obtain ⟨a79, a77, a72, a71, _⟩ := ap
      simp -dsimp -implicitDefEqProofs (disch := first | with_reducible assumption | omega) [go_sem]
      refine same8 _ _ (hr60.up le7) ir7 ?_
      rw [decide_eq_true rfl]
      simp -dsimp -implicitDefEqProofs (disch := first | with_reducible assumption | omega) [go_sem]
      refine Spec.ap (decode_any _ (hu0.up (le04.trans (le6.trans le7))) (by omega) fun h8 r8 le8 ic8 ap => ?_)
      simp only [Ap] at ap
      obtain ⟨a89, a87, a82, a81, _⟩ := ap
      obtain ⟨z1, z2, z3, z4, rfl⟩ := ic8.lit
      simp -dsimp -implicitDefEqProofs (disch := first | with_reducible assumption | omega) [go_sem]
      refine xnew fun b12 n_b12 h_b12 => ?_
      try simp only [Apart] at n_b12
      simp -dsimp -implicitDefEqProofs (disch := first | with_reducible assumption | omega) [go_sem]
      refine Spec.ap (decode40_any _ (hu0.up (le04.trans (le6.trans (le7.trans le8)))) (by omega) fun h9 r9 le9 ic9 ap => ?_)
      simp only [Ap] at ap
      obtain ⟨a9c, a99, a97, a92, a91, _⟩ := ap
      obtain ⟨w1, w2, w3, w4, rfl⟩ := ic9.lit
      simp -dsimp -implicitDefEqProofs (disch := first | with_reducible assumption | omega) [go_sem]
      refine xnew fun b14 n_b14 h_b14 => ?_
      try simp only [Apart] at n_b14
      simp -dsimp -implicitDefEqProofs (disch := first | with_reducible assumption | omega) [go_sem]
      refine xdraw (by kernel_rfl) rfl ?_
      simp -dsimp -implicitDefEqProofs (disch := first | with_reducible assumption | omega) [go_sem]
      refine xdcall _ (plain_any _ (ic8.up le9) ⟨rfl, rfl, rfl⟩) ?_
      simp -dsimp -implicitDefEqProofs (disch := first | with_reducible assumption | omega) [go_sem]
      refine xdcall _ (same40_self _ _ (ic8.up le9) ic9 ⟨rfl, rfl, rfl⟩) ?_
      simp -dsimp -implicitDefEqProofs (disch := first | with_reducible assumption | omega) [go_sem]
      exact fin_tail (fin_tail (fin_tail (fin_tail (fin_tail (fin_tail (fin_here (hk h9 (le04.trans (le6.trans (le7.trans (le8.trans le9)))))))))))
  | true =>
    have er : draftR s = draftC s := by rw [draftR, q1]; rfl
    simp -dsimp -implicitDefEqProofs (disch := first | with_reducible assumption | omega) [go_sem]
    refine xanyl (.tk 0 (.tk 1 (.tk 2 (.tkl 3 (.tkl 5 (.or true 4 (.or true 6 (.or true 7 (.tk 8 (.tk 9 (.tk 10 (.tkl 11 (.or true 12 (.tk 13 (.tk 14 (.fin))) (.nil)))))) (.nil)) (.nil)) (.nil))))))) (by kernel_rfl) (by kernel_rfl) _ (Drop.refl _ _) ?_
    simp -dsimp -implicitDefEqProofs (disch := first | with_reducible assumption | omega) [go_sem]
    refine plain_any _ ic4 ?_
    simp -dsimp -implicitDefEqProofs (disch := first | with_reducible assumption | omega) [go_sem]
    refine Spec.ap (draft40_any (s := s) ⟨.slice pa2 s.purses.length pc2, .slice ma2 s.members.length mc2, .slice ea2 s.entry.length ec2, .slice xa2 s.exit.length xc2, .slice oa2 s.pool.length oc2, .slice da2 s.dues.length dc2, .slice ta2 s.motions.length tc2, .slice ka2 s.marks.length kc2, .slice ra2 s.ring.length rc2⟩ (hs3.up le4) fS fun h5 r5 le5 ic5 ap => ?_)
    simp only [Ap] at ap
    obtain ⟨a59, a57, a52, a51, _⟩ := ap
    refine xkp (Drop.forget le5) ?_
    simp -dsimp -implicitDefEqProofs (disch := first | with_reducible assumption | omega) [go_sem]
    have ic5' := ic4.up le5
    rw [er] at ic5' ⊢
    refine same40_self _ _ ic5' ic5 ?_
    refine xkp (Drop.forget le5) ?_
    simp -dsimp -implicitDefEqProofs (disch := first | with_reducible assumption | omega) [go_sem]
    refine check_any _ ic5' ?_
    rw [draft_right hs0 fS q1]
    refine xkp (Drop.forget le5) ?_
    --END2
    have le05 := le04.trans le5
    simp -dsimp -implicitDefEqProofs (disch := first | with_reducible assumption | omega) [go_sem]
    refine Spec.ap (encode_any _ (hc0.up le05) fun h6 r6 le6 hr6 ap => ?_)
    simp only [Ap] at ap
    obtain ⟨a69, a67, a62, a61, _⟩ := ap
    simp -dsimp -implicitDefEqProofs (disch := first | with_reducible assumption | omega) [go_sem]
    refine plain_any _ (hc0.up (le05.trans le6)) ?_
    simp -dsimp -implicitDefEqProofs (disch := first | with_reducible assumption | omega) [go_sem]
    refine right_any _ (hc0.up (le05.trans le6)) ?_
    cases q2 : rightC c with
    | false =>
      rw [q2] at hr6
      simp only [Bool.false_eq_true, if_false] at hr6 ⊢
      subst hr6
      simp -dsimp -implicitDefEqProofs (disch := first | with_reducible assumption | omega) [go_sem]
      refine Spec.ap (decode_any _ (hu0.up (le05.trans le6)) (by omega) fun h8 r8 le8 ic8 ap => ?_)
      simp only [Ap] at ap
      obtain ⟨a89, a87, a82, a81, _⟩ := ap
      obtain ⟨z1, z2, z3, z4, rfl⟩ := ic8.lit
      simp -dsimp -implicitDefEqProofs (disch := first | with_reducible assumption | omega) [go_sem]
      refine xnew fun b12 n_b12 h_b12 => ?_
      try simp only [Apart] at n_b12
      simp -dsimp -implicitDefEqProofs (disch := first | with_reducible assumption | omega) [go_sem]
      refine Spec.ap (decode40_any _ (hu0.up (le05.trans (le6.trans le8))) (by omega) fun h9 r9 le9 ic9 ap => ?_)
      simp only [Ap] at ap
      obtain ⟨a9c, a99, a97, a92, a91, _⟩ := ap
      obtain ⟨w1, w2, w3, w4, rfl⟩ := ic9.lit
      simp -dsimp -implicitDefEqProofs (disch := first | with_reducible assumption | omega) [go_sem]
      refine xnew fun b14 n_b14 h_b14 => ?_
      try simp only [Apart] at n_b14
      simp -dsimp -implicitDefEqProofs (disch := first | with_reducible assumption | omega) [go_sem]
      refine xdraw (by kernel_rfl) rfl ?_
      simp -dsimp -implicitDefEqProofs (disch := first | with_reducible assumption | omega) [go_sem]
      refine xdcall _ (plain_any _ (ic8.up le9) ⟨rfl, rfl, rfl⟩) ?_
      simp -dsimp -implicitDefEqProofs (disch := first | with_reducible assumption | omega) [go_sem]
      refine xdcall _ (same40_self _ _ (ic8.up le9) ic9 ⟨rfl, rfl, rfl⟩) ?_
      simp -dsimp -implicitDefEqProofs (disch := first | with_reducible assumption | omega) [go_sem]
      exact fin_tail (fin_tail (fin_tail (fin_tail (fin_tail (fin_tail (fin_here (hk h9 (le05.trans (le6.trans (le8.trans le9))))))))))
    | true =>
      rw [q2] at hr6
      simp only [if_true] at hr6 ⊢
      have hr60 := hr6
      obtain ⟨y1, y2, rfl, _⟩ := hr6.open
      simp -dsimp -implicitDefEqProofs (disch := first | with_reducible assumption | omega) [go_sem]
      refine plain_any _ (hc0.up (le05.trans le6)) ?_
      simp -dsimp -implicitDefEqProofs (disch := first | with_reducible assumption | omega) [go_sem]
      refine Spec.ap (form40_any _ (hc0.up (le05.trans le6)) q2 fun h7 r7 le7 ir7 ap => ?_)
      simp only [Ap] at ap
      obtain ⟨a79, a77, a72, a71, _⟩ := ap
      simp -dsimp -implicitDefEqProofs (disch := first | with_reducible assumption | omega) [go_sem]
      refine same8 _ _ (hr60.up le7) ir7 ?_
      rw [decide_eq_true rfl]
      simp -dsimp -implicitDefEqProofs (disch := first | with_reducible assumption | omega) [go_sem]
      refine Spec.ap (decode_any _ (hu0.up (le05.trans (le6.trans le7))) (by omega) fun h8 r8 le8 ic8 ap => ?_)
      simp only [Ap] at ap
      obtain ⟨a89, a87, a82, a81, _⟩ := ap
      obtain ⟨z1, z2, z3, z4, rfl⟩ := ic8.lit
      simp -dsimp -implicitDefEqProofs (disch := first | with_reducible assumption | omega) [go_sem]
      refine xnew fun b12 n_b12 h_b12 => ?_
      try simp only [Apart] at n_b12
      simp -dsimp -implicitDefEqProofs (disch := first | with_reducible assumption | omega) [go_sem]
      refine Spec.ap (decode40_any _ (hu0.up (le05.trans (le6.trans (le7.trans le8)))) (by omega) fun h9 r9 le9 ic9 ap => ?_)
      simp only [Ap] at ap
      obtain ⟨a9c, a99, a97, a92, a91, _⟩ := ap
      obtain ⟨w1, w2, w3, w4, rfl⟩ := ic9.lit
      simp -dsimp -implicitDefEqProofs (disch := first | with_reducible assumption | omega) [go_sem]
      refine xnew fun b14 n_b14 h_b14 => ?_
      try simp only [Apart] at n_b14
      simp -dsimp -implicitDefEqProofs (disch := first | with_reducible assumption | omega) [go_sem]
      refine xdraw (by kernel_rfl) rfl ?_
      simp -dsimp -implicitDefEqProofs (disch := first | with_reducible assumption | omega) [go_sem]
      refine xdcall _ (plain_any _ (ic8.up le9) ⟨rfl, rfl, rfl⟩) ?_
      simp -dsimp -implicitDefEqProofs (disch := first | with_reducible assumption | omega) [go_sem]
      refine xdcall _ (same40_self _ _ (ic8.up le9) ic9 ⟨rfl, rfl, rfl⟩) ?_
      simp -dsimp -implicitDefEqProofs (disch := first | with_reducible assumption | omega) [go_sem]
      exact fin_tail (fin_tail (fin_tail (fin_tail (fin_tail (fin_tail (fin_here (hk h9 (le05.trans (le6.trans (le7.trans (le8.trans le9)))))))))))
end Go.X
