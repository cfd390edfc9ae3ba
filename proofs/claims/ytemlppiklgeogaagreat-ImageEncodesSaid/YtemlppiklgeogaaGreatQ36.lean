/- Part of the proof of a statement about the given program: lemmas and contracts. Conditions: as each says. -/
import Derived.Test.YtemlppiklgeogaaGreatQ30
import Derived.Test.YtemlppiklgeogaaGreatQ31
import Derived.Test.YtemlppiklgeogaaGreatQ34
import Derived.Test.YtemlppiklgeogaaGreatQ35
/- The law ImageEncodes: any state has the document's image, or does not fit. Conditions: none. -/
set_option linter.unusedVariables false
set_option linter.unusedSimpArgs false
set_option maxRecDepth 20000
namespace Go.X
open Go.RowKit Go.Proofs Go.Bl
variable {L : Own} {h : PH} {K : PK}
theorem fewB_T26 {s : StD} (hf : fewB s = true) : FewT s := by
  have := few9_len (fewB_9 hf)
  exact ⟨by omega, by omega, by omega, by omega⟩
set_option maxHeartbeats 6400000 in
theorem imageencodes_any (w : Value) (hS : ∃ q : SV × StD, w = stV q.2 q.1 ∧ IsSt h q.1 q.2) (hk : ∀ h', PH.le h h' → K (.bool true) L h') : Spec Tryz.prog 3 [w] L h K := by
  obtain ⟨⟨sv0, s⟩, rfl, hs0⟩ := hS
  simp only at hs0 ⊢
  obtain ⟨pa, pc, ma, mc, ea, ec, xa, xc, oa, oc, da, dc, ta, tc, ka, kc, ra, rc, rfl⟩ := hs0.slices
  refine x_enter Tryz.func3 rfl (rs := [_]) rfl rfl mixed (by kernel_rfl) rfl rfl ?_
  simp -dsimp -implicitDefEqProofs (disch := first | with_reducible assumption | omega) [go_sem]
  refine xnew fun b1 n_b1 h_b1 => ?_
  try simp only [Apart] at n_b1
  simp -dsimp -implicitDefEqProofs (disch := first | with_reducible assumption | omega) [go_sem]
  refine Spec.ap (awake26_any fun h1 le1 ap => ?_)
  simp only [Ap] at ap
  obtain ⟨a11, _⟩ := ap
  simp -dsimp -implicitDefEqProofs (disch := first | with_reducible assumption | omega) [go_sem]
  refine few24_any (s := s) ⟨.slice pa s.purses.length pc, .slice ma s.members.length mc, .slice ea s.entry.length ec, .slice xa s.exit.length xc, .slice oa s.pool.length oc, .slice da s.dues.length dc, .slice ta s.motions.length tc, .slice ka s.marks.length kc, .slice ra s.ring.length rc⟩ (hs0.up le1) ?_
  cases f1 : fewB s with
  | false =>
    simp -dsimp -implicitDefEqProofs (disch := first | with_reducible assumption | omega) [go_sem]
    exact fin_tail (fin_here (hk h1 le1))
  | true =>
  have fS := fewB_S f1
  have fT := fewB_T26 f1
  have fd := few9_len (fewB_9 f1)
  simp -dsimp -implicitDefEqProofs (disch := first | with_reducible assumption | omega) [go_sem]
  refine Spec.ap (ienc_any (s := s) ⟨.slice pa s.purses.length pc, .slice ma s.members.length mc, .slice ea s.entry.length ec, .slice xa s.exit.length xc, .slice oa s.pool.length oc, .slice da s.dues.length dc, .slice ta s.motions.length tc, .slice ka s.marks.length kc, .slice ra s.ring.length rc⟩ (hs0.up le1) f1 fun h2 r le2 i1 i2 ap => ?_)
  simp only [Ap] at ap
  obtain ⟨a21, _⟩ := ap
  have le02 := le1.trans le2
  cases f2 : fitsS s with
  | false =>
    have er := i2 f2
    subst er
    simp -dsimp -implicitDefEqProofs (disch := first | with_reducible assumption | omega) [go_sem]
    refine Spec.ap (plain24_any (s := s) (v := ⟨.slice pa s.purses.length pc, .slice ma s.members.length mc, .slice ea s.entry.length ec, .slice xa s.exit.length xc, .slice oa s.pool.length oc, .slice da s.dues.length dc, .slice ta s.motions.length tc, .slice ka s.marks.length kc, .slice ra s.ring.length rc⟩) (hs0.up le02) fS.m fS.o fS.d fS.t fun h3 u le3 hs3 ap => ?_)
    simp only [Ap] at ap
    obtain ⟨a31, _⟩ := ap
    obtain ⟨pa2, pc2, ma2, mc2, ea2, ec2, xa2, xc2, oa2, oc2, da2, dc2, ta2, tc2, ka2, kc2, ra2, rc2, rfl⟩ := hs3.slices
    simp -dsimp -implicitDefEqProofs (disch := first | with_reducible assumption | omega) [go_sem]
    refine xnew fun b5 n_b5 h_b5 => ?_
    try simp only [Apart] at n_b5
    simp -dsimp -implicitDefEqProofs (disch := first | with_reducible assumption | omega) [go_sem]
    refine Spec.ap (fits24_any (s := s) ⟨.slice pa2 s.purses.length pc2, .slice ma2 s.members.length mc2, .slice ea2 s.entry.length ec2, .slice xa2 s.exit.length xc2, .slice oa2 s.pool.length oc2, .slice da2 s.dues.length dc2, .slice ta2 s.motions.length tc2, .slice ka2 s.marks.length kc2, .slice ra2 s.ring.length rc2⟩ hs3 fS fT fun h4 le4 ap => ?_)
    simp only [Ap] at ap
    obtain ⟨a45, a41, _⟩ := ap
    rw [f2]
    simp -dsimp -implicitDefEqProofs (disch := first | with_reducible assumption | omega) [go_sem]
    exact fin_tail (fin_tail (fin_here (hk h4 (le02.trans (le3.trans le4)))))
  | true =>
    have ir := i1 f2
    have ir0 := ir
    obtain ⟨y1, y2, rfl, _⟩ := ir0.open
    have hW := stw_of hs0 (by omega) f2
    simp -dsimp -implicitDefEqProofs (disch := first | with_reducible assumption | omega) [go_sem]
    refine Spec.ap (plain24_any (s := s) (v := ⟨.slice pa s.purses.length pc, .slice ma s.members.length mc, .slice ea s.entry.length ec, .slice xa s.exit.length xc, .slice oa s.pool.length oc, .slice da s.dues.length dc, .slice ta s.motions.length tc, .slice ka s.marks.length kc, .slice ra s.ring.length rc⟩) (hs0.up le02) fS.m fS.o fS.d fS.t fun h3 u le3 hs3 ap => ?_)
    simp only [Ap] at ap
    obtain ⟨a31, _⟩ := ap
    obtain ⟨pa2, pc2, ma2, mc2, ea2, ec2, xa2, xc2, oa2, oc2, da2, dc2, ta2, tc2, ka2, kc2, ra2, rc2, rfl⟩ := hs3.slices
    simp -dsimp -implicitDefEqProofs (disch := first | with_reducible assumption | omega) [go_sem]
    refine xnew fun b5 n_b5 h_b5 => ?_
    try simp only [Apart] at n_b5
    simp -dsimp -implicitDefEqProofs (disch := first | with_reducible assumption | omega) [go_sem]
    refine Spec.ap (fits24_any (s := s) ⟨.slice pa2 s.purses.length pc2, .slice ma2 s.members.length mc2, .slice ea2 s.entry.length ec2, .slice xa2 s.exit.length xc2, .slice oa2 s.pool.length oc2, .slice da2 s.dues.length dc2, .slice ta2 s.motions.length tc2, .slice ka2 s.marks.length kc2, .slice ra2 s.ring.length rc2⟩ hs3 fS fT fun h4 le4 ap => ?_)
    simp only [Ap] at ap
    obtain ⟨a45, a41, _⟩ := ap
    rw [f2]
    simp -dsimp -implicitDefEqProofs (disch := first | with_reducible assumption | omega) [go_sem]
    refine form26_any (s := s) ⟨.slice pa2 s.purses.length pc2, .slice ma2 s.members.length mc2, .slice ea2 s.entry.length ec2, .slice xa2 s.exit.length xc2, .slice oa2 s.pool.length oc2, .slice da2 s.dues.length dc2, .slice ta2 s.motions.length tc2, .slice ka2 s.marks.length kc2, .slice ra2 s.ring.length rc2⟩ (hs3.up le4) hW fun o ko ao lo => ?_
    simp -dsimp -implicitDefEqProofs (disch := first | with_reducible assumption | omega) [go_sem]
    refine call_pub (n := (encS s).length) ko (by simp) (by omega) ao fun h5 le5 sl => ?_
    refine same8 _ _ (ir.up (le3.trans (le4.trans le5))) (form_ints (encS_byte hs0) sl) ?_
    rw [decide_eq_true rfl]
    simp -dsimp -implicitDefEqProofs (disch := first | with_reducible assumption | omega) [go_sem]
    exact fin_tail (fin_tail (fin_here (hk h5 (le02.trans (le3.trans (le4.trans le5))))))
end Go.X
