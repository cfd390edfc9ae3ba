/- Lemmas and contracts for a statement about the given program. Conditions: as each says. -/
import Derived.Test.YtkmojeioedjfkaaGreatQ39
import Derived.Test.YtkmojeioedjfkaaGreatQ40
set_option linter.unusedVariables false
set_option linter.unusedSimpArgs false
set_option maxHeartbeats 12800000
set_option maxRecDepth 20000
namespace Go.X
open Go.RowKit Go.Proofs Go.Bl
variable {L : Own} {h : PH} {K : PK}
def dR (n : Int) : DeedD := ⟨1, 1, 0, 0, n, 0, [], 0, zeroP, 0, false⟩
theorem dR_is (h : PH) (n : Int) (hn : 0 ≤ n ∧ n ≤ 1000) : IsDeed h (.slice none 0 0) (dR n) := by
 refine ⟨nil_ints h .u8, ⟨fun z hz => ?_, ⟨hn.1, by simp only [dR]; omega⟩, zeroP_ok'⟩⟩
 simp only [dR, List.mem_cons, List.not_mem_nil, or_false] at hz
 omega
theorem simpS_ownR : OwnFew simpS := by
 constructor <;> first | decide | (intro x hx; cases hx)
theorem rite_1 : (riteP simpS (dR 201)).2 = 171 := by decide +kernel
theorem rite_2 : (riteP simpS (dR 200)).2 = 0 ∧ (riteP simpS (dR 200)).1.purses = [700, 0] := by decide +kernel
theorem rite_3 : (blockP simpS [2, 4, 0, 0, 4, 0, 0]).2 = (1, 191) := by decide +kernel
theorem awake25_any (hk : ∀ h', PH.le h h' → K (.bool true) L h') : Spec Tryz.prog 11 [] L h K := by
 refine x_enter Tryz.func11 rfl (rs := [_]) rfl rfl mixed (by kernel_rfl) rfl rfl ?_
 simp -dsimp -implicitDefEqProofs (disch := first|with_reducible assumption|omega) [go_sem]
 refine simple24_any fun h3 pa pc fa fc le3 g3 => ?_
 simp -dsimp -implicitDefEqProofs (disch := first|with_reducible assumption|omega) [go_sem]
 refine newsimp_any g3 fun h4 u le4 s4 => ?_
 obtain ⟨s, es⟩ : ∃ s, s = simpS := ⟨_, rfl⟩
 rw [← es] at s4 ⊢
 have os : OwnFew s := es ▸ simpS_ownR
 have r1 : (riteP s (dR 201)).2 = 171 := es ▸ rite_1
 have r2 : (riteP s (dR 200)).2 = 0 ∧ (riteP s (dR 200)).1.purses = [700, 0] := es ▸ rite_2
 have r3 : (blockP s [2, 4, 0, 0, 4, 0, 0]).2 = (1, 191) := es ▸ rite_3
 clear es
 obtain ⟨pa, pc, ma, mc, ea, ec, xa, xc, oa, oc, da, dc, ta, tc, ka, kc, ra, rc, rfl⟩ := s4.slices
 simp -dsimp -implicitDefEqProofs (disch := first|with_reducible assumption|omega) [go_sem]
 refine xnew fun b1 n_b1 h_b1 => ?_
 try simp only [Apart] at n_b1
 simp -dsimp -implicitDefEqProofs (disch := first|with_reducible assumption|omega) [go_sem]
 refine Spec.ap (rdo_any (s := s) (v := ⟨.slice pa s.purses.length pc, .slice ma s.members.length mc, .slice ea s.entry.length ec, .slice xa s.exit.length xc, .slice oa s.pool.length oc, .slice da s.dues.length dc, .slice ta s.motions.length tc, .slice ka s.marks.length kc, .slice ra s.ring.length rc⟩) (d := dR 201) (bv := .slice none 0 0) s4 os (dR_is _ _ (by decide)) fun h5 v5 le5 s5 ap => ?_)
 simp only [Ap] at ap
 obtain ⟨a51, _⟩ := ap
 rw [r1]
 generalize (riteP s (dR 201)).1 = t1 at s5 ⊢
 obtain ⟨pa2, pc2, ma2, mc2, ea2, ec2, xa2, xc2, oa2, oc2, da2, dc2, ta2, tc2, ka2, kc2, ra2, rc2, rfl⟩ := s5.slices
 simp -dsimp -implicitDefEqProofs (disch := first|with_reducible assumption|omega) [go_sem]
 refine xnew fun b3 n_b3 h_b3 => ?_
 try simp only [Apart] at n_b3
 simp -dsimp -implicitDefEqProofs (disch := first|with_reducible assumption|omega) [go_sem]
 refine Spec.ap (rdo_any (s := s) (v := ⟨.slice pa s.purses.length pc, .slice ma s.members.length mc, .slice ea s.entry.length ec, .slice xa s.exit.length xc, .slice oa s.pool.length oc, .slice da s.dues.length dc, .slice ta s.motions.length tc, .slice ka s.marks.length kc, .slice ra s.ring.length rc⟩) (d := dR 200) (bv := .slice none 0 0) (s4.up le5) os (dR_is _ _ (by decide)) fun h6 v6 le6 s6 ap => ?_)
 simp only [Ap] at ap
 obtain ⟨a63, a61, _⟩ := ap
 rw [r2.1]
 obtain ⟨_, r2⟩ := r2
 generalize (riteP s (dR 200)).1 = t2 at s6 r2 ⊢
 obtain ⟨pa3, pc3, ma3, mc3, ea3, ec3, xa3, xc3, oa3, oc3, da3, dc3, ta3, tc3, ka3, kc3, ra3, rc3, rfl⟩ := s6.slices
 simp -dsimp -implicitDefEqProofs (disch := first|with_reducible assumption|omega) [go_sem]
 refine xnew fun b5 n_b5 h_b5 => ?_
 try simp only [Apart] at n_b5
 simp -dsimp -implicitDefEqProofs (disch := first|with_reducible assumption|omega) [go_sem]
 refine xnew fun b6 n_b6 h_b6 => ?_
 try simp only [Apart] at n_b6
 simp -dsimp -implicitDefEqProofs (disch := first|with_reducible assumption|omega) [go_sem]
 obtain ⟨m65, m63, m61, _⟩ := n_b6
 refine call_pub_at (e := 5) (b := b6) (sz := 1) (n := 7) (cap := 7) (xs := [.int .u8 2, .int .u8 4, .int .u8 0, .int .u8 0, .int .u8 4, .int .u8 0, .int .u8 0]) [] ⟨by decide, by decide⟩ rfl (by decide) h_b6 fun h7 le7 sl same => ?_
 have a71 : h7 b1 = noC := by rw [same b1 (by first | exact m61 | exact Ne.symm m61)]; exact a61
 have a73 : h7 b3 = noC := by rw [same b3 (by first | exact m63 | exact Ne.symm m63)]; exact a63
 have a75 : h7 b5 = noC := by rw [same b5 (by first | exact m65 | exact Ne.symm m65)]; exact h_b5
 have ib : Ints h7 .u8 (.slice (some ⟨b6, 0, none⟩) 7 7) [2, 4, 0, 0, 4, 0, 0] := ⟨sl, by decide⟩
 refine Spec.ap (rblock_any (s := s) (v := ⟨.slice pa s.purses.length pc, .slice ma s.members.length mc, .slice ea s.entry.length ec, .slice xa s.exit.length xc, .slice oa s.pool.length oc, .slice da s.dues.length dc, .slice ta s.motions.length tc, .slice ka s.marks.length kc, .slice ra s.ring.length rc⟩) (xs := [2, 4, 0, 0, 4, 0, 0]) (s4.up (le5.trans (le6.trans le7))) os ib fun h8 v8 le8 s8 ap => ?_)
 simp only [Ap, List.nil_append] at ap
 obtain ⟨a85, a83, a81, _⟩ := ap
 rw [r3]
 generalize (blockP s [2, 4, 0, 0, 4, 0, 0]).1 = t3 at s8 ⊢
 obtain ⟨pa4, pc4, ma4, mc4, ea4, ec4, xa4, xc4, oa4, oc4, da4, dc4, ta4, tc4, ka4, kc4, ra4, rc4, rfl⟩ := s8.slices
 have s68 := (s6.up (le7.trans le8)).p
 obtain ⟨pa', pc', ep, _, _, _, hcp⟩ := s68.open
 injection ep with ep1 ep2 ep3
 subst ep1
 have hp2 : t2.purses.length = 2 := by rw [r2]; rfl
 have hp1 : at0 t2.purses 0 = 700 := by rw [r2]; rfl
 rw [hp2] at hcp
 simp only [hp2]
 simp -dsimp -implicitDefEqProofs (disch := first|with_reducible assumption|omega) [go_sem]
 refine xnew fun b7 n_b7 h_b7 => ?_
 try simp only [Apart] at n_b7
 simp -dsimp -implicitDefEqProofs (disch := first|with_reducible assumption|omega) [go_sem, idx hcp, hp1]
 exact fin_tail (fin_tail (fin_tail (fin_tail (fin_here (hk h8 (le3.trans (le4.trans (le5.trans (le6.trans (le7.trans le8))))))))))
end Go.X
