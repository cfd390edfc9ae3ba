/- Part of the proof of a statement about the given program: lemmas and contracts. Conditions: as each says. -/
import Derived.Test.YtemlppiklgeogaaGreatQ31
import Derived.Test.YtemlppiklgeogaaGreatQ32
/- The law ImageOne: what is decoded fits, and is encoded as the same bytes. Conditions: none. -/
set_option linter.unusedVariables false
set_option linter.unusedSimpArgs false
set_option maxRecDepth 20000
namespace Go.X
open Go.RowKit Go.Proofs Go.Bl
variable {L : Own} {h : PH} {K : PK}
theorem len_flat3 : ∀ l : List DueD, 3 * l.length ≤ (l.flatMap dueEnc).length
  | [] => Nat.le_refl _
  | a :: l => by
    have := len_flat3 l
    have h1 := formN_pos a.acct.toNat
    have h2 := formN_pos a.at'.toNat
    have h3 := formN_pos a.amt.toNat
    simp only [List.flatMap_cons, List.length_append, List.length_cons, dueEnc]
    omega
theorem dues_of_enc {s : StD} (hl : (encS s).length ≤ 5000) : s.dues.length ≤ 1700 := by
  have l6 := len_flat3 s.dues
  unfold encS at hl
  simp only [List.length_append] at hl
  omega
set_option maxHeartbeats 6400000 in
theorem imageone_any {bs : List Int} (v : Value) (hu0 : Ints h .u8 v bs) (hk : ∀ h', PH.le h h' → K (.bool true) L h') : Spec Tryz.prog 5 [v] L h K := by
  have hu := hu0
  obtain ⟨a, ca, rfl, _⟩ := hu0.open
  refine x_enter Tryz.func5 rfl (rs := [_]) rfl rfl mixed (by kernel_rfl) rfl rfl ?_
  simp -dsimp -implicitDefEqProofs (disch := first | with_reducible assumption | omega) [go_sem]
  refine awake26_any fun h1 le1 => ?_
  simp -dsimp -implicitDefEqProofs (disch := first | with_reducible assumption | omega) [go_sem]
  by_cases l1 : (bs.length : Int) > 5000
  · simp -dsimp -implicitDefEqProofs (disch := first | with_reducible assumption | omega) [go_sem]
    exact fin_here (hk h1 le1)
  simp -dsimp -implicitDefEqProofs (disch := first | with_reducible assumption | omega) [go_sem]
  refine idec_any _ (hu.up le1) (by omega) fun h2 w le2 id => ?_
  have hs := decS_sound (byte_of hu)
  have hz : (decS bs).2 ≠ 0 → (decS bs).1 = zeroS := fun hh => by
    unfold decS at hh ⊢
    simp only at hh ⊢
    rw [if_neg hh]
  obtain ⟨q, hd⟩ : ∃ q, q = decS bs := ⟨_, rfl⟩
  rw [← hd] at id hs hz ⊢
  obtain ⟨s, e⟩ := q
  simp only at id hs hz ⊢
  obtain ⟨pa2, pc2, ma2, mc2, ea2, ec2, xa2, xc2, oa2, oc2, da2, dc2, ta2, tc2, ka2, kc2, ra2, rc2, rfl⟩ := id.slices
  simp -dsimp -implicitDefEqProofs (disch := first | with_reducible assumption | omega) [go_sem]
  refine xnew fun b3 n_b3 h_b3 => ?_
  try simp only [Apart] at n_b3
  simp -dsimp -implicitDefEqProofs (disch := first | with_reducible assumption | omega) [go_sem]
  by_cases c : e = 0
  · obtain ⟨f1, f2, _⟩ := hs c
    subst c
    have fl : (encS s).length ≤ 5000 := by rw [f2]; omega
    have fS := few_of_enc (s := s) (by omega)
    simp -dsimp -implicitDefEqProofs (disch := first | with_reducible assumption | omega) [go_sem]
    refine Spec.ap (ienc0_any (s := s) ⟨.slice pa2 s.purses.length pc2, .slice ma2 s.members.length mc2, .slice ea2 s.entry.length ec2, .slice xa2 s.exit.length xc2, .slice oa2 s.pool.length oc2, .slice da2 s.dues.length dc2, .slice ta2 s.motions.length tc2, .slice ka2 s.marks.length kc2, .slice ra2 s.ring.length rc2⟩ id fS (fun hf => stw_of id (dues_of_enc fl) hf) (encS_byte id) fun h3 r le3 i1 i2 ap => ?_)
    simp only [Ap] at ap
    obtain ⟨a33, _⟩ := ap
    have ir := i1 f1
    rw [f1]
    have ir0 := ir
    obtain ⟨y1, y2, rfl, _⟩ := ir0.open
    simp -dsimp -implicitDefEqProofs (disch := first | with_reducible assumption | omega) [go_sem]
    refine fits_any (s := s) ⟨.slice pa2 s.purses.length pc2, .slice ma2 s.members.length mc2, .slice ea2 s.entry.length ec2, .slice xa2 s.exit.length xc2, .slice oa2 s.pool.length oc2, .slice da2 s.dues.length dc2, .slice ta2 s.motions.length tc2, .slice ka2 s.marks.length kc2, .slice ra2 s.ring.length rc2⟩ (id.up le3) fS ?_
    rw [f1]
    simp -dsimp -implicitDefEqProofs (disch := first | with_reducible assumption | omega) [go_sem]
    rw [f2] at ir ⊢
    refine same8 _ _ ir (hu.up (le1.trans (le2.trans le3))) ?_
    rw [decide_eq_true rfl]
    simp -dsimp -implicitDefEqProofs (disch := first | with_reducible assumption | omega) [go_sem]
    exact fin_tail (fin_here (hk h3 (le1.trans (le2.trans le3))))
  · have e0 := hz c
    subst e0
    simp -dsimp -implicitDefEqProofs (disch := first | with_reducible assumption | omega) [go_sem]
    refine Spec.ap (plain24_any (s := zeroS) (v := ⟨.slice pa2 zeroS.purses.length pc2, .slice ma2 zeroS.members.length mc2, .slice ea2 zeroS.entry.length ec2, .slice xa2 zeroS.exit.length xc2, .slice oa2 zeroS.pool.length oc2, .slice da2 zeroS.dues.length dc2, .slice ta2 zeroS.motions.length tc2, .slice ka2 zeroS.marks.length kc2, .slice ra2 zeroS.ring.length rc2⟩) id (by decide) (by decide) (by decide) (by decide) fun h3 u le3 hs3 ap => ?_)
    simp only [Ap] at ap
    obtain ⟨a33, _⟩ := ap
    simp -dsimp -implicitDefEqProofs (disch := first | with_reducible assumption | omega) [go_sem]
    refine same24_like (s := zeroS) (u := nilV) hs3 (isSt_zero h3) ?_
    simp -dsimp -implicitDefEqProofs (disch := first | with_reducible assumption | omega) [go_sem]
    exact fin_tail (fin_here (hk h3 (le1.trans (le2.trans le3))))
end Go.X
