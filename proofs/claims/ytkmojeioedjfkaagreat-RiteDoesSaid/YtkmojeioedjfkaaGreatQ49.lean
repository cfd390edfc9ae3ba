/- Lemmas and contracts for a statement about the given program. Conditions: as each says. -/
import Derived.Test.YtkmojeioedjfkaaGreatQ41
import Derived.Test.YtkmojeioedjfkaaGreatQ46
import Derived.Test.YtkmojeioedjfkaaGreatQ47
import Derived.Test.YtkmojeioedjfkaaGreatQ48
set_option linter.unusedVariables false
set_option linter.unusedSimpArgs false
set_option maxHeartbeats 12800000
set_option maxRecDepth 20000
namespace Go.X
open Go.RowKit Go.Proofs Go.Bl
variable {L : Own} {h : PH} {K : PK}
theorem fewB_ownD {s : StD} (hf : fewB s = true) : OwnFew s := by
 have h9 := few9_len (fewB_9 hf)
 simp only [fewB, Bool.and_eq_true, List.all_eq_true, decide_eq_true_eq] at hf
 exact ⟨by omega, by omega, by omega, by omega, by omega, by omega, by omega, by omega, by omega, fun m hm => by have := hf.2 m hm; omega, fun b hb => by have := hf.1.2 b hb; omega⟩
theorem ownp_any {s : StD} (v : SV) (hs : IsSt h v s) (few : OwnFew s) (hk : ∀ h' v', PH.le h h' → IsSt h' v' s → K (stV s v') L h') : Spec Tryz.prog 13 [stV s v] L h K := by
 refine Spec.fin (Spec.apn (own24_any v hs few fun h5 u om ox le5 ok1 ok2 hn ap nd => ?_))
 have two := ap_two0 ap nd
 have hh := Hd.of hs hn ok1 ok2
 refine fin_pub2 (n1 := s.exit.length) (n2 := s.members.length) ok2 (by simp) (okO_le ok2) ok1 (by rw [flatG_len memC_len]) (okO_le ok1) two.1 two.2 fun h7 le7 sx sm => fin_here ?_
 refine hk h7 _ (le5.trans le7) (Hd.st (hh.up le7) (Recs.pub memC_len sm) ⟨by simpa using sx, hs.x.2⟩)
theorem ritedoes_any (w bv0 : Value) (hS : ∃ q : SV × StD, w = stV q.2 q.1 ∧ IsSt h q.1 q.2) (hD : ∃ q : Value × DeedD, bv0 = deedV q.2 q.1 ∧ IsDeed h q.1 q.2) (hk : ∀ h', PH.le h h' → K (.bool true) L h') : Spec Tryz.prog 4 [w, bv0] L h K := by
 obtain ⟨⟨v, s⟩, rfl, hs⟩ := hS
 obtain ⟨⟨bv, d⟩, rfl, hd⟩ := hD
 simp only at hs hd ⊢
 have hd0 := hd
 obtain ⟨pa, pc, ma, mc, ea, ec, xa, xc, oa, oc, da, dc, ta, tc, ka, kc, ra, rc, rfl⟩ := hs.slices
 obtain ⟨x1, y1, rfl, _⟩ := hd.i.open
 refine x_enter Tryz.func4 rfl (rs := [_]) rfl rfl mixed (by kernel_rfl) rfl rfl ?_
 simp -dsimp -implicitDefEqProofs (disch := first|with_reducible assumption|omega) [go_sem]
 refine xnew fun b2 n_b2 h_b2 => ?_
 try simp only [Apart] at n_b2
 simp -dsimp -implicitDefEqProofs (disch := first|with_reducible assumption|omega) [go_sem]
 refine xnew fun b3 n_b3 h_b3 => ?_
 try simp only [Apart] at n_b3
 simp -dsimp -implicitDefEqProofs (disch := first|with_reducible assumption|omega) [go_sem]
 refine Spec.ap (awake25_any fun h1 le1 ap => ?_)
 simp only [Ap] at ap
 obtain ⟨a13, a12, _⟩ := ap
 simp -dsimp -implicitDefEqProofs (disch := first|with_reducible assumption|omega) [go_sem]
 refine few24_any (s := s) ⟨.slice pa s.purses.length pc, .slice ma s.members.length mc, .slice ea s.entry.length ec, .slice xa s.exit.length xc, .slice oa s.pool.length oc, .slice da s.dues.length dc, .slice ta s.motions.length tc, .slice ka s.marks.length kc, .slice ra s.ring.length rc⟩ (hs.up le1) ?_
 cases hf : fewB s with
 | false =>
  simp -dsimp -implicitDefEqProofs (disch := first|with_reducible assumption|omega) [go_sem]
  exact fin_tail (fin_tail (fin_here (hk h1 le1)))
 | true =>
 simp -dsimp -implicitDefEqProofs (disch := first|with_reducible assumption|omega) [go_sem]
 by_cases c0 : (100 : Int) < d.bits.length
 ·simp -dsimp -implicitDefEqProofs (disch := first|with_reducible assumption|omega) [go_sem]
  exact fin_tail (fin_tail (fin_here (hk h1 le1)))
 simp -dsimp -implicitDefEqProofs (disch := first|with_reducible assumption|omega) [go_sem]
 have hown := fewB_ownD hf
 refine Spec.ap (ownp_any (s := s) ⟨.slice pa s.purses.length pc, .slice ma s.members.length mc, .slice ea s.entry.length ec, .slice xa s.exit.length xc, .slice oa s.pool.length oc, .slice da s.dues.length dc, .slice ta s.motions.length tc, .slice ka s.marks.length kc, .slice ra s.ring.length rc⟩ (hs.up le1) hown fun h2 v2 le2 s2 ap => ?_)
 simp only [Ap] at ap
 obtain ⟨a23, a22, _⟩ := ap
 obtain ⟨pa2, pc2, ma2, mc2, ea2, ec2, xa2, xc2, oa2, oc2, da2, dc2, ta2, tc2, ka2, kc2, ra2, rc2, rfl⟩ := s2.slices
 simp -dsimp -implicitDefEqProofs (disch := first|with_reducible assumption|omega) [go_sem]
 refine xnew fun b5 n_b5 h_b5 => ?_
 try simp only [Apart] at n_b5
 simp -dsimp -implicitDefEqProofs (disch := first|with_reducible assumption|omega) [go_sem]
 have le12 := le1.trans le2
 refine Spec.ap (rdo_any (s := s) (v := ⟨.slice pa2 s.purses.length pc2, .slice ma2 s.members.length mc2, .slice ea2 s.entry.length ec2, .slice xa2 s.exit.length xc2, .slice oa2 s.pool.length oc2, .slice da2 s.dues.length dc2, .slice ta2 s.motions.length tc2, .slice ka2 s.marks.length kc2, .slice ra2 s.ring.length rc2⟩) (d := d) (bv := .slice x1 d.bits.length y1) s2 hown (hd0.up le12) fun h3 v3 le3 s3 ap => ?_)
 simp only [Ap] at ap
 obtain ⟨a35, a33, a32, _⟩ := ap
 obtain ⟨t, e, eR⟩ : ∃ t e, riteP s d = (t, e) := ⟨_, _, rfl⟩
 rw [eR] at s3 ⊢
 simp only at s3
 obtain ⟨pa3, pc3, ma3, mc3, ea3, ec3, xa3, xc3, oa3, oc3, da3, dc3, ta3, tc3, ka3, kc3, ra3, rc3, rfl⟩ := s3.slices
 simp -dsimp -implicitDefEqProofs (disch := first|with_reducible assumption|omega) [go_sem]
 refine xnew fun b6 n_b6 h_b6 => ?_
 try simp only [Apart] at n_b6
 simp -dsimp -implicitDefEqProofs (disch := first|with_reducible assumption|omega) [go_sem]
 have b26 : NeB b6 b2 := by first | exact Ne.symm n_b6.2.2.1 | exact n_b6.2.2.1
 have b36 : NeB b6 b3 := by first | exact Ne.symm n_b6.2.1 | exact n_b6.2.1
 have b56 : NeB b6 b5 := by first | exact Ne.symm n_b6.1 | exact n_b6.1
 have b25 : NeB b5 b2 := by first | exact Ne.symm n_b5.2.1 | exact n_b5.2.1
 have b35 : NeB b5 b3 := by first | exact Ne.symm n_b5.1 | exact n_b5.1
 have b23 : NeB b3 b2 := by first | exact Ne.symm n_b3.1 | exact n_b3.1
 clear n_b6 n_b5 n_b3 n_b2
 have ln1 : s.members.length ≤ 100000 := by have := hown.m; omega
 have ln2 : s.pool.length ≤ 100000 := by have := hown.o; omega
 have ln3 : s.dues.length ≤ 100000 := by have := hown.d; omega
 have ln4 : s.motions.length ≤ 100000 := by have := hown.t; omega
 have le13 := le12.trans le3
 refine xanyl (.tkl 0 (.tkl 2 (.or true 1 (.or true 3 (.or true 4 (.tk 5 (.fin)) (.nil)) (.nil)) (.nil)))) (by kernel_rfl) (by kernel_rfl) _ (Drop.refl _ _) ?_
 simp -dsimp -implicitDefEqProofs (disch := first|with_reducible assumption|omega) [go_sem]
 refine Spec.ap (plain24_any (s := s) (v := ⟨.slice pa2 s.purses.length pc2, .slice ma2 s.members.length mc2, .slice ea2 s.entry.length ec2, .slice xa2 s.exit.length xc2, .slice oa2 s.pool.length oc2, .slice da2 s.dues.length dc2, .slice ta2 s.motions.length tc2, .slice ka2 s.marks.length kc2, .slice ra2 s.ring.length rc2⟩) (s2.up le3) ln1 ln2 ln3 ln4 fun h4 u4 le4 s4 ap => ?_)
 simp only [Ap] at ap
 obtain ⟨a46, a45, a43, a42, _⟩ := ap
 refine xkp (Drop.forget le4) ?_
 simp -dsimp -implicitDefEqProofs (disch := first|with_reducible assumption|omega) [go_sem]
 refine Spec.ap (plain24_any (s := s) (v := ⟨.slice pa s.purses.length pc, .slice ma s.members.length mc, .slice ea s.entry.length ec, .slice xa s.exit.length xc, .slice oa s.pool.length oc, .slice da s.dues.length dc, .slice ta s.motions.length tc, .slice ka s.marks.length kc, .slice ra s.ring.length rc⟩) (hs.up (le13.trans le4)) ln1 ln2 ln3 ln4 fun h5 u5 le5 s5 ap => ?_)
 simp only [Ap] at ap
 obtain ⟨a56, a55, a53, a52, _⟩ := ap
 refine xkp (Drop.forget (le4.trans le5)) ?_
 obtain ⟨pa4, pc4, ma4, mc4, ea4, ec4, xa4, xc4, oa4, oc4, da4, dc4, ta4, tc4, ka4, kc4, ra4, rc4, rfl⟩ := s4.slices
 obtain ⟨pa5, pc5, ma5, mc5, ea5, ec5, xa5, xc5, oa5, oc5, da5, dc5, ta5, tc5, ka5, kc5, ra5, rc5, rfl⟩ := s5.slices
 simp -dsimp -implicitDefEqProofs (disch := first|with_reducible assumption|omega) [go_sem]
 refine same24_like (s := s) (v := ⟨.slice pa4 s.purses.length pc4, .slice ma4 s.members.length mc4, .slice ea4 s.entry.length ec4, .slice xa4 s.exit.length xc4, .slice oa4 s.pool.length oc4, .slice da4 s.dues.length dc4, .slice ta4 s.motions.length tc4, .slice ka4 s.marks.length kc4, .slice ra4 s.ring.length rc4⟩) (u := ⟨.slice pa5 s.purses.length pc5, .slice ma5 s.members.length mc5, .slice ea5 s.entry.length ec5, .slice xa5 s.exit.length xc5, .slice oa5 s.pool.length oc5, .slice da5 s.dues.length dc5, .slice ta5 s.motions.length tc5, .slice ka5 s.marks.length kc5, .slice ra5 s.ring.length rc5⟩) (s4.up le5) s5 ?_
 refine xkp (Drop.forget (le4.trans le5)) ?_
 simp -dsimp -implicitDefEqProofs (disch := first|with_reducible assumption|omega) [go_sem]
 have le15 := le13.trans (le4.trans le5)
 refine Spec.ap (plain24_any (s := s) (v := ⟨.slice pa s.purses.length pc, .slice ma s.members.length mc, .slice ea s.entry.length ec, .slice xa s.exit.length xc, .slice oa s.pool.length oc, .slice da s.dues.length dc, .slice ta s.motions.length tc, .slice ka s.marks.length kc, .slice ra s.ring.length rc⟩) (hs.up le15) ln1 ln2 ln3 ln4 fun h6 u6 le6 s6 ap => ?_)
 simp only [Ap] at ap
 obtain ⟨a66, a65, a63, a62, _⟩ := ap
 clear a56 a55 a53 a52 a46 a45 a43 a42 a35 a33 a32 a23 a22 a13 a12
 obtain ⟨pa6, pc6, ma6, mc6, ea6, ec6, xa6, xc6, oa6, oc6, da6, dc6, ta6, tc6, ka6, kc6, ra6, rc6, rfl⟩ := s6.slices
 simp -dsimp -implicitDefEqProofs (disch := first|with_reducible assumption|omega) [go_sem]
 refine xnew fun b8 n_b8 h_b8 => ?_
 try simp only [Apart] at n_b8
 have b86 : NeB b8 b6 := by first | exact Ne.symm n_b8.1 | exact n_b8.1
 have b85 : NeB b8 b5 := by first | exact Ne.symm n_b8.2.1 | exact n_b8.2.1
 have b83 : NeB b8 b3 := by first | exact Ne.symm n_b8.2.2.1 | exact n_b8.2.2.1
 have b82 : NeB b8 b2 := by first | exact Ne.symm n_b8.2.2.2.1 | exact n_b8.2.2.2.1
 clear n_b8
 have le16 := le15.trans le6
 simp -dsimp -implicitDefEqProofs (disch := first|with_reducible assumption|omega) [go_sem]
 refine Spec.ap (fits24_any (s := s) ⟨.slice pa6 s.purses.length pc6, .slice ma6 s.members.length mc6, .slice ea6 s.entry.length ec6, .slice xa6 s.exit.length xc6, .slice oa6 s.pool.length oc6, .slice da6 s.dues.length dc6, .slice ta6 s.motions.length tc6, .slice ka6 s.marks.length kc6, .slice ra6 s.ring.length rc6⟩ s6 (own_fewS hown) ⟨by have := hown.p; omega, by have := hown.m; omega, by have := hown.o; omega, by have := hown.d; omega⟩ fun h7 le7 ap => ?_)
 simp only [Ap] at ap
 obtain ⟨a78, a76, a75, a73, a72, _⟩ := ap
 have le17 := le16.trans le7
 have s37 := s3.up ((le4.trans le5).trans (le6.trans le7))
 cases hft : fitsS s with
 | false =>
  have eR2 : riteP s d = (zeroS, 291) := by rw [riteP, hft]; rfl
  rw [eR2] at eR
  simp only [Prod.mk.injEq] at eR
  obtain ⟨rfl, rfl⟩ := eR
  simp -dsimp -implicitDefEqProofs (disch := first|with_reducible assumption|omega) [go_sem]
  refine Spec.ap (plain24_any (s := zeroS) (v := ⟨.slice pa3 zeroS.purses.length pc3, .slice ma3 zeroS.members.length mc3, .slice ea3 zeroS.entry.length ec3, .slice xa3 zeroS.exit.length xc3, .slice oa3 zeroS.pool.length oc3, .slice da3 zeroS.dues.length dc3, .slice ta3 zeroS.motions.length tc3, .slice ka3 zeroS.marks.length kc3, .slice ra3 zeroS.ring.length rc3⟩) s37 (by decide) (by decide) (by decide) (by decide) fun h9 u9 le9 s9 ap => ?_)
  simp only [Ap] at ap
  obtain ⟨a98, a96, a95, a93, a92, _⟩ := ap
  obtain ⟨pa9, pc9, ma9, mc9, ea9, ec9, xa9, xc9, oa9, oc9, da9, dc9, ta9, tc9, ka9, kc9, ra9, rc9, rfl⟩ := s9.slices
  simp -dsimp -implicitDefEqProofs (disch := first|with_reducible assumption|omega) [go_sem]
  refine same24_like (s := zeroS) (v := ⟨.slice pa9 zeroS.purses.length pc9, .slice ma9 zeroS.members.length mc9, .slice ea9 zeroS.entry.length ec9, .slice xa9 zeroS.exit.length xc9, .slice oa9 zeroS.pool.length oc9, .slice da9 zeroS.dues.length dc9, .slice ta9 zeroS.motions.length tc9, .slice ka9 zeroS.marks.length kc9, .slice ra9 zeroS.ring.length rc9⟩) (u := nilV) s9 (isSt_zero h9) ?_
  simp -dsimp -implicitDefEqProofs (disch := first|with_reducible assumption|omega) [go_sem]
  exact fin_tail (fin_tail (fin_tail (fin_tail (fin_tail (fin_here (hk h9 (le17.trans le9)))))))
 | true =>
 simp -dsimp -implicitDefEqProofs (disch := first|with_reducible assumption|omega) [go_sem]
 refine plain8_any (d := d) (.slice x1 d.bits.length y1) (hd0.up le17).i ?_
 simp -dsimp -implicitDefEqProofs (disch := first|with_reducible assumption|omega) [go_sem]
 refine Spec.ap (right8_any (d := d) (.slice x1 d.bits.length y1) (hd0.up le17) fun h8 le8 ap => ?_)
 simp only [Ap] at ap
 obtain ⟨a88, a86, a85, a83, a82, _⟩ := ap
 have le18 := le17.trans le8
 have s38 := s37.up le8
 cases hrt : rightD d with
 | false =>
  have eR2 : riteP s d = (zeroS, 80) := by rw [riteP, hft, hrt]; rfl
  rw [eR2] at eR
  simp only [Prod.mk.injEq] at eR
  obtain ⟨rfl, rfl⟩ := eR
  simp -dsimp -implicitDefEqProofs (disch := first|with_reducible assumption|omega) [go_sem]
  refine Spec.ap (plain24_any (s := zeroS) (v := ⟨.slice pa3 zeroS.purses.length pc3, .slice ma3 zeroS.members.length mc3, .slice ea3 zeroS.entry.length ec3, .slice xa3 zeroS.exit.length xc3, .slice oa3 zeroS.pool.length oc3, .slice da3 zeroS.dues.length dc3, .slice ta3 zeroS.motions.length tc3, .slice ka3 zeroS.marks.length kc3, .slice ra3 zeroS.ring.length rc3⟩) s38 (by decide) (by decide) (by decide) (by decide) fun h9 u9 le9 s9 ap => ?_)
  simp only [Ap] at ap
  obtain ⟨a98, a96, a95, a93, a92, _⟩ := ap
  obtain ⟨pa9, pc9, ma9, mc9, ea9, ec9, xa9, xc9, oa9, oc9, da9, dc9, ta9, tc9, ka9, kc9, ra9, rc9, rfl⟩ := s9.slices
  simp -dsimp -implicitDefEqProofs (disch := first|with_reducible assumption|omega) [go_sem]
  refine same24_like (s := zeroS) (v := ⟨.slice pa9 zeroS.purses.length pc9, .slice ma9 zeroS.members.length mc9, .slice ea9 zeroS.entry.length ec9, .slice xa9 zeroS.exit.length xc9, .slice oa9 zeroS.pool.length oc9, .slice da9 zeroS.dues.length dc9, .slice ta9 zeroS.motions.length tc9, .slice ka9 zeroS.marks.length kc9, .slice ra9 zeroS.ring.length rc9⟩) (u := nilV) s9 (isSt_zero h9) ?_
  simp -dsimp -implicitDefEqProofs (disch := first|with_reducible assumption|omega) [go_sem]
  exact fin_tail (fin_tail (fin_tail (fin_tail (fin_tail (fin_here (hk h9 (le18.trans le9)))))))
 | true =>
 simp -dsimp -implicitDefEqProofs (disch := first|with_reducible assumption|omega) [go_sem]
 refine xanyl (.tkl 0 (.tkl 1 (.or true 2 (.or true 3 (.tk 4 (.tk 5 (.tk 6 (.or false 7 (.tk 8 (.fin)) (.nil))))) (.nil)) (.nil)))) (by kernel_rfl) (by kernel_rfl) _ (Drop.refl _ _) ?_
 simp -dsimp -implicitDefEqProofs (disch := first|with_reducible assumption|omega) [go_sem]
 refine plain8_any (d := d) (.slice x1 d.bits.length y1) (hd0.up le18).i ?_
 refine xkp (Drop.refl _ _) ?_
 simp -dsimp -implicitDefEqProofs (disch := first|with_reducible assumption|omega) [go_sem]
 have eDR : riteP s d = if (doP s d).2 = 0 then doP s d else (zeroS, (doP s d).2) := by rw [riteP, if_pos hft, if_pos hrt]
 refine Spec.ap (rdo25_any (s := s) (v := ⟨.slice pa6 s.purses.length pc6, .slice ma6 s.members.length mc6, .slice ea6 s.entry.length ec6, .slice xa6 s.exit.length xc6, .slice oa6 s.pool.length oc6, .slice da6 s.dues.length dc6, .slice ta6 s.motions.length tc6, .slice ka6 s.marks.length kc6, .slice ra6 s.ring.length rc6⟩) (d := d) (bv := .slice x1 d.bits.length y1) (s6.up (le7.trans le8)) hown hft hrt (hd0.up le18) (fun h9 v9 le9 e0 s9 ap => ?_) (fun h9 t9 u9 le9 on ne ap => ?_))
 ·simp only [Ap] at ap
  obtain ⟨a98, a96, a95, a93, a92, _⟩ := ap
  have hfit := doP_fits hft hrt hd0.ok.a.1 (hs.ok.p.1 _ (by simp [wides])).1 (fun i => hs.k.byte i) (fun i => hd0.i.byte i) e0
  have hof := own_few hfit (by rw [doP_dues]; exact hown.d)
  rw [if_pos e0, eR] at eDR
  rw [← eDR] at e0 s9 hof ⊢
  simp only at e0 s9 hof ⊢
  clear hfit
  subst e0
  have s39 := s38.up le9
  refine xkp (Drop.forget le9) ?_
  obtain ⟨pa9, pc9, ma9, mc9, ea9, ec9, xa9, xc9, oa9, oc9, da9, dc9, ta9, tc9, ka9, kc9, ra9, rc9, rfl⟩ := s9.slices
  simp -dsimp -implicitDefEqProofs (disch := first|with_reducible assumption|omega) [go_sem]
  refine xanyl (.tk 0 (.tk 1 (.tk 2 (.tkl 3 (.tkl 5 (.or true 4 (.or true 6 (.tk 7 (.tk 8 (.fin))) (.nil)) (.nil))))))) (by kernel_rfl) (by kernel_rfl) _ (Drop.refl _ _) ?_
  simp -dsimp -implicitDefEqProofs (disch := first|with_reducible assumption|omega) [go_sem]
  refine Spec.ap (plain24_any (s := t) (v := ⟨.slice pa3 t.purses.length pc3, .slice ma3 t.members.length mc3, .slice ea3 t.entry.length ec3, .slice xa3 t.exit.length xc3, .slice oa3 t.pool.length oc3, .slice da3 t.dues.length dc3, .slice ta3 t.motions.length tc3, .slice ka3 t.marks.length kc3, .slice ra3 t.ring.length rc3⟩) s39 (by have := hof.m; omega) (by have := hof.o; omega) (by have := hof.d; omega) (by have := hof.t; omega) fun h10 u10 le10 s10 ap => ?_)
  simp only [Ap] at ap
  obtain ⟨a108, a106, a105, a103, a102, _⟩ := ap
  refine xkp (Drop.forget le10) ?_
  obtain ⟨pa7, pc7, ma7, mc7, ea7, ec7, xa7, xc7, oa7, oc7, da7, dc7, ta7, tc7, ka7, kc7, ra7, rc7, rfl⟩ := s10.slices
  simp -dsimp -implicitDefEqProofs (disch := first|with_reducible assumption|omega) [go_sem]
  refine same24_like (s := t) (v := ⟨.slice pa7 t.purses.length pc7, .slice ma7 t.members.length mc7, .slice ea7 t.entry.length ec7, .slice xa7 t.exit.length xc7, .slice oa7 t.pool.length oc7, .slice da7 t.dues.length dc7, .slice ta7 t.motions.length tc7, .slice ka7 t.marks.length kc7, .slice ra7 t.ring.length rc7⟩) (u := ⟨.slice pa9 t.purses.length pc9, .slice ma9 t.members.length mc9, .slice ea9 t.entry.length ec9, .slice xa9 t.exit.length xc9, .slice oa9 t.pool.length oc9, .slice da9 t.dues.length dc9, .slice ta9 t.motions.length tc9, .slice ka9 t.marks.length kc9, .slice ra9 t.ring.length rc9⟩) s10 (s9.up le10) ?_
  refine xkp (Drop.forget le10) ?_
  simp -dsimp -implicitDefEqProofs (disch := first|with_reducible assumption|omega) [go_sem]
  exact fin_tail (fin_tail (fin_tail (fin_tail (fin_tail (fin_here (hk h10 (le18.trans (le9.trans le10))))))))
 ·simp only [Ap] at ap
  obtain ⟨a98, a96, a95, a93, a92, _⟩ := ap
  rw [if_neg ne, eR] at eDR
  simp only [Prod.mk.injEq] at eDR
  obtain ⟨rfl, e9⟩ := eDR
  rw [← e9] at ne ⊢
  have s39 := s38.up le9
  refine xkp (Drop.forget le9) ?_
  simp -dsimp -implicitDefEqProofs (disch := first|with_reducible assumption|omega) [go_sem]
  refine ⟨on, ?_⟩
  refine Spec.ap (plain24_any (s := zeroS) (v := ⟨.slice pa3 zeroS.purses.length pc3, .slice ma3 zeroS.members.length mc3, .slice ea3 zeroS.entry.length ec3, .slice xa3 zeroS.exit.length xc3, .slice oa3 zeroS.pool.length oc3, .slice da3 zeroS.dues.length dc3, .slice ta3 zeroS.motions.length tc3, .slice ka3 zeroS.marks.length kc3, .slice ra3 zeroS.ring.length rc3⟩) s39 (by decide) (by decide) (by decide) (by decide) fun h10 u10 le10 s10 ap => ?_)
  simp only [Ap] at ap
  obtain ⟨a108, a106, a105, a103, a102, _⟩ := ap
  obtain ⟨pa7, pc7, ma7, mc7, ea7, ec7, xa7, xc7, oa7, oc7, da7, dc7, ta7, tc7, ka7, kc7, ra7, rc7, rfl⟩ := s10.slices
  simp -dsimp -implicitDefEqProofs (disch := first|with_reducible assumption|omega) [go_sem]
  refine same24_like (s := zeroS) (v := ⟨.slice pa7 zeroS.purses.length pc7, .slice ma7 zeroS.members.length mc7, .slice ea7 zeroS.entry.length ec7, .slice xa7 zeroS.exit.length xc7, .slice oa7 zeroS.pool.length oc7, .slice da7 zeroS.dues.length dc7, .slice ta7 zeroS.motions.length tc7, .slice ka7 zeroS.marks.length kc7, .slice ra7 zeroS.ring.length rc7⟩) (u := nilV) s10 (isSt_zero h10) ?_
  simp -dsimp -implicitDefEqProofs (disch := first|with_reducible assumption|omega) [go_sem]
  exact fin_tail (fin_tail (fin_tail (fin_tail (fin_tail (fin_here (hk h10 (le18.trans (le9.trans le10))))))))
end Go.X
