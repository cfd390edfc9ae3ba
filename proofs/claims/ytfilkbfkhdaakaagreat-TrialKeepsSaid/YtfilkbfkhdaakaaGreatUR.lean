/- The contract of the law TrialKeeps: what is adopted fits, and no money is lost or made; the same parameters change nothing. Conditions: the values read as a state and as parameters. -/
import Derived.Test.YtfilkbfkhdaakaaGreatUQ
import Derived.Test.YtfilkbfkhdaakaaGreatUO
set_option linter.unusedVariables false
set_option linter.unusedSimpArgs false
set_option maxRecDepth 20000
namespace Go.X
open Go.RowKit Go.Proofs Go.Bl
variable {L : Own} {h : PH} {K : PK}
theorem ad_few {s : StD} {q : ParD} (fe : fewB s = true) : FewS (adS s q) := by
  have fl := few9_len (fewB_9 fe)
  have fS := fewB_S fe
  have h1 : (adMem s q).length = s.members.length := by
    rw [adMem, upN_len, upN_len]; exact (clN_len q (s.members, s.purses) s.members.length).1
  have h2 : ∀ k, (duN q (adX s q).1 (s.ep + s.par.wait) s.dues k).length ≤ s.dues.length + k := fun k => by
    induction k with
    | zero => exact Nat.le_refl _
    | succ k ih =>
      rw [duN]
      split
      · have := oweL_len (duN q (adX s q).1 (s.ep + s.par.wait) s.dues k) (dueOf (s.ep + s.par.wait) (gr zeroM (adX s q).1 k))
        omega
      · omega
  have h3 := h2 s.members.length
  have h4 := exN_len q (adX s q).1 s.exit s.members.length
  have h5 := (clN_len q (s.members, s.purses) s.members.length).2
  have e1 : (adS s q).purses.length = s.purses.length := h5
  have e2 : (adS s q).members.length = s.members.length := h1
  have e3 : (adS s q).exit.length ≤ s.exit.length := h4
  have e4 : (adS s q).dues.length ≤ s.dues.length + s.members.length := h3
  exact ⟨by rw [e1]; exact fS.p, by rw [e2]; exact fS.m, fS.e, by omega, fS.o, by omega, fS.t, fS.r⟩
theorem neParA (p : ParD) (x y : Operand) (K : Value → Prop) (t : Tok K) : xBin Tryz.prog .neq 24 x y (parV p) (parV p) K t = K (.bool false) := xBin_neflat _ (by kernel_rfl) (by kernel_rfl) x y K t
set_option maxHeartbeats 6400000 in
theorem trialkeeps_any (w v : Value) (hS : ∃ q : SV × StD, w = stV q.2 q.1 ∧ IsSt h q.1 q.2) (hP : ∃ q, v = parV q ∧ ParOk q) (hk : ∀ h', PH.le h h' → K (.bool true) L h') : Spec Tryz.prog 7 [w, v] L h K := by
  obtain ⟨⟨sv0, s⟩, rfl, hs0⟩ := hS
  obtain ⟨q, rfl, okq⟩ := hP
  simp only at hs0 ⊢
  obtain ⟨pa, pc, ma, mc, ea, ec, xa, xc, oa, oc, da, dc, ta, tc, ka, kc, ra, rc, rfl⟩ := hs0.slices
  refine x_enter Tryz.func7 rfl (rs := [_]) rfl rfl mixed (by kernel_rfl) rfl rfl ?_
  simp -dsimp -implicitDefEqProofs (disch := first | with_reducible assumption | omega) [go_sem]
  refine xnew fun b2 n_b2 h_b2 => ?_
  try simp only [Apart] at n_b2
  simp -dsimp -implicitDefEqProofs (disch := first | with_reducible assumption | omega) [go_sem]
  refine xnew fun b3 n_b3 h_b3 => ?_
  try simp only [Apart] at n_b3
  simp -dsimp -implicitDefEqProofs (disch := first | with_reducible assumption | omega) [go_sem]
  refine Spec.ap (awake42_any fun h1 le1 ap => ?_)
  simp only [Ap] at ap
  obtain ⟨a13, a12, _⟩ := ap
  simp -dsimp -implicitDefEqProofs (disch := first | with_reducible assumption | omega) [go_sem]
  refine few24_any (s := s) ⟨.slice pa s.purses.length pc, .slice ma s.members.length mc, .slice ea s.entry.length ec, .slice xa s.exit.length xc, .slice oa s.pool.length oc, .slice da s.dues.length dc, .slice ta s.motions.length tc, .slice ka s.marks.length kc, .slice ra s.ring.length rc⟩ (hs0.up le1) ?_
  cases f1 : fewB s with
  | false =>
    simp -dsimp -implicitDefEqProofs (disch := first | with_reducible assumption | omega) [go_sem]
    exact fin_tail (fin_tail (fin_here (hk h1 le1)))
  | true =>
  have fS := fewB_S f1
  simp -dsimp -implicitDefEqProofs (disch := first | with_reducible assumption | omega) [go_sem]
  refine fits_any (s := s) ⟨.slice pa s.purses.length pc, .slice ma s.members.length mc, .slice ea s.entry.length ec, .slice xa s.exit.length xc, .slice oa s.pool.length oc, .slice da s.dues.length dc, .slice ta s.motions.length tc, .slice ka s.marks.length kc, .slice ra s.ring.length rc⟩ (hs0.up le1) fS ?_
  cases f2 : fitsS s with
  | false =>
    simp -dsimp -implicitDefEqProofs (disch := first | with_reducible assumption | omega) [go_sem]
    exact fin_tail (fin_tail (fin_here (hk h1 le1)))
  | true =>
  simp -dsimp -implicitDefEqProofs (disch := first | with_reducible assumption | omega) [go_sem]
  refine plain07_any q ?_
  simp -dsimp -implicitDefEqProofs (disch := first | with_reducible assumption | omega) [go_sem]
  refine Spec.ap (right7_any q okq fun h2 le2 ap => ?_)
  simp only [Ap] at ap
  obtain ⟨a23, a22, _⟩ := ap
  cases f3 : parR q with
  | false =>
    simp -dsimp -implicitDefEqProofs (disch := first | with_reducible assumption | omega) [go_sem]
    exact fin_tail (fin_tail (fin_here (hk h2 (le1.trans le2))))
  | true =>
  simp -dsimp -implicitDefEqProofs (disch := first | with_reducible assumption | omega) [go_sem]
  refine Spec.ap (adopt_any (s := s) ⟨.slice pa s.purses.length pc, .slice ma s.members.length mc, .slice ea s.entry.length ec, .slice xa s.exit.length xc, .slice oa s.pool.length oc, .slice da s.dues.length dc, .slice ta s.motions.length tc, .slice ka s.marks.length kc, .slice ra s.ring.length rc⟩ (hs0.up (le1.trans le2)) f1 f2 q f3 okq fun h3 u3 r3 le3 i3 ir3 ap => ?_)
  simp only [Ap] at ap
  obtain ⟨a33, a32, _⟩ := ap
  have le03 := le1.trans (le2.trans le3)
  have fits := ad_fits (hs0.up le03) f1 f2 f3 okq
  have fewT := ad_few (q := q) f1
  have hout := fun (i : Int) (hi : i ∈ adOut s q) => ad_out (q := q) hi
  have e1 : (adS s q).par = q := rfl
  have e2 : (adS s q).mint = s.mint := rfl
  have e3 : (adS s q).burn = s.burn := rfl
  have e4 : (adS s q).treas = s.treas := rfl
  have e5 : (adS s q).members.length = s.members.length := (adX_len s q).1 ▸ (by
    show (adMem s q).length = _
    rw [adMem, upN_len, upN_len])
  obtain ⟨t, ht⟩ : ∃ t, t = adS s q := ⟨_, rfl⟩
  obtain ⟨O, hO⟩ : ∃ O, O = adOut s q := ⟨_, rfl⟩
  rw [← ht] at i3 fits fewT hout e1 e2 e3 e4 e5 ⊢
  rw [← hO] at ir3 hout
  obtain ⟨pa2, pc2, ma2, mc2, ea2, ec2, xa2, xc2, oa2, oc2, da2, dc2, ta2, tc2, ka2, kc2, ra2, rc2, rfl⟩ := i3.slices
  have ir0 := ir3
  obtain ⟨oa', oc', rfl, _, hol, _, hcx⟩ := ir3.open
  simp -dsimp -implicitDefEqProofs (disch := first | with_reducible assumption | omega) [go_sem]
  refine xnew fun b5 n_b5 h_b5 => ?_
  try simp only [Apart] at n_b5
  simp -dsimp -implicitDefEqProofs (disch := first | with_reducible assumption | omega) [go_sem]
  refine fits_any (s := t) ⟨.slice pa2 t.purses.length pc2, .slice ma2 t.members.length mc2, .slice ea2 t.entry.length ec2, .slice xa2 t.exit.length xc2, .slice oa2 t.pool.length oc2, .slice da2 t.dues.length dc2, .slice ta2 t.motions.length tc2, .slice ka2 t.marks.length kc2, .slice ra2 t.ring.length rc2⟩ i3 fewT ?_
  rw [fits.1]
  simp -dsimp -implicitDefEqProofs (disch := first | with_reducible assumption | omega) [go_sem]
  refine holds_any (s := t) ⟨.slice pa2 t.purses.length pc2, .slice ma2 t.members.length mc2, .slice ea2 t.entry.length ec2, .slice xa2 t.exit.length xc2, .slice oa2 t.pool.length oc2, .slice da2 t.dues.length dc2, .slice ta2 t.motions.length tc2, .slice ka2 t.marks.length kc2, .slice ra2 t.ring.length rc2⟩ i3 fewT ?_
  rw [fits.2]
  simp -dsimp -implicitDefEqProofs (disch := first | with_reducible assumption | omega) [go_sem, e1, e2, e3, e4, neParA]
  have hmR : Recs memC 6 h3 (.slice ma2 t.members.length mc2) t.members := i3.m
  refine xloop (γ := Nat) 0 (fun k => k ≤ O.length) (fun k => [(77, .int .i64 k), (76, .int .i64 O.length), (75, .slice oa' O.length oc'), (2, .pointer (some ⟨b2, 0, none⟩)), (3, .pointer (some ⟨b3, 0, none⟩)), (5, .pointer (some ⟨b5, 0, none⟩))])
    (fun _ => ⟨b5, 34, stC t ⟨.slice pa2 t.purses.length pc2, .slice ma2 t.members.length mc2, .slice ea2 t.entry.length ec2, .slice xa2 t.exit.length xc2, .slice oa2 t.pool.length oc2, .slice da2 t.dues.length dc2, .slice ta2 t.motions.length tc2, .slice ka2 t.marks.length kc2, .slice ra2 t.ring.length rc2⟩, 41⟩ :: ⟨b3, 24, parC q, 24⟩ :: ⟨b2, 34, stC s ⟨.slice pa s.purses.length pc, .slice ma s.members.length mc, .slice ea s.entry.length ec, .slice xa s.exit.length xc, .slice oa s.pool.length oc, .slice da s.dues.length dc, .slice ta s.motions.length tc, .slice ka s.marks.length kc, .slice ra s.ring.length rc⟩, 41⟩ :: L) (fun _ => h3) (fun k => O.length - k) ?_ ?_ ?_ ?_
  · exact Nat.zero_le _
  · simp [Ent, List.lookup, xEnv]
  · simp only [stC, e1, e2, e3, e4]
    exact Drop.refl _ _
  rintro k k1
  by_cases c1 : k < O.length
  · have hmem : at0 O k ∈ O := by rw [← at0_lt c1]; exact List.getElem_mem c1
    obtain ⟨j, j1, j2, j3, j4⟩ := hout _ hmem
    have hj : j < t.members.length := by omega
    have g5 : ∀ (L : Own) (K : Value → Prop) (t : Tok K), xCell L h3 (elem ma2 (j * 6 + 5)) 0 K t = K (.int .i64 4) := fun L K t => Recs.fld zeroM hmR hj (o := 5) (by rw [← j3]; rfl) L K t
    have g0 : ∀ (L : Own) (K : Value → Prop) (t : Tok K), xCell L h3 (elem ma2 (j * 6)) 0 K t = K (.int .u64 0) := fun L K t => Recs.fld zeroM hmR hj (o := 0) (by rw [← j4]; rfl) L K t
    have g0' : ∀ (L : Own) (K : Value → Prop) (t : Tok K), xCell L h3 (elem ma2 (j * 6 + 0)) 0 K t = K (.int .u64 0) := g0
    simp -dsimp -implicitDefEqProofs (disch := first | with_reducible assumption | omega) [go_sem, idx hcx, j1, ↓idxR zeroM (by decide) hmR, g5, g0, g0']
    exact ⟨k + 1, by omega, by omega, by simp [Ent, List.lookup], Drop.refl _ _⟩
  have hr : parR s.par = true := by simp only [fitsS, Bool.and_eq_true] at f2; exact f2.1.1.1.1.1.1.1.1
  simp -dsimp -implicitDefEqProofs (disch := first | with_reducible assumption | omega) [go_sem]
  refine Spec.ap (adopt_any (s := s) ⟨.slice pa s.purses.length pc, .slice ma s.members.length mc, .slice ea s.entry.length ec, .slice xa s.exit.length xc, .slice oa s.pool.length oc, .slice da s.dues.length dc, .slice ta s.motions.length tc, .slice ka s.marks.length kc, .slice ra s.ring.length rc⟩ (hs0.up le03) f1 f2 s.par hr hs0.ok.p fun h4 u4 r4 le4 i4 ir4 ap => ?_)
  simp only [Ap] at ap
  obtain ⟨a45, a43, a42, _⟩ := ap
  have hsame := ad_same f2
  rw [hsame.1] at i4 ⊢
  rw [hsame.2] at ir4
  obtain ⟨pa4, pc4, ma4, mc4, ea4, ec4, xa4, xc4, oa4, oc4, da4, dc4, ta4, tc4, ka4, kc4, ra4, rc4, rfl⟩ := i4.slices
  obtain ⟨oa4', oc4', rfl, _⟩ := ir4.open
  simp -dsimp -implicitDefEqProofs (disch := first | with_reducible assumption | omega) [go_sem]
  refine xnew fun b10 n_b10 h_b10 => ?_
  try simp only [Apart] at n_b10
  simp -dsimp -implicitDefEqProofs (disch := first | with_reducible assumption | omega) [go_sem]
  refine xanyl (.tk 0 (.tk 1 (.tk 2 (.tk 3 (.tk 4 (.tk 5 (.tk 6 (.tk 7 (.tkl 8 (.tkl 10 (.or true 9 (.or true 11 (.or true 12 (.tk 13 (.tk 14 (.fin))) (.nil)) (.nil)) (.nil)))))))))))) (by kernel_rfl) (by kernel_rfl) _ (Drop.refl _ _) ?_
  repeat' first
    | with_reducible refine xpl_or ?_ ?_
    | simp -dsimp -implicitDefEqProofs (disch := first | with_reducible assumption | omega) [go_sem]
    | with_reducible refine xkp (Drop.refl _ _) ?_
    | with_reducible refine xkp (Drop.forget (le5.trans le6)) ?_
    | with_reducible refine xkp (Drop.forget le5) ?_
    | (fail_if_success (have hh := le5)
       with_reducible show xCall Tryz.prog 17 _ _ _ _
       refine Spec.ap (plain24_any (s := s) (v := ⟨.slice pa4 s.purses.length pc4, .slice ma4 s.members.length mc4, .slice ea4 s.entry.length ec4, .slice xa4 s.exit.length xc4, .slice oa4 s.pool.length oc4, .slice da4 s.dues.length dc4, .slice ta4 s.motions.length tc4, .slice ka4 s.marks.length kc4, .slice ra4 s.ring.length rc4⟩) i4 fS.m fS.o fS.d fS.t fun h5 u5 le5 i5 ap5 => ?_)
       simp only [Ap] at ap5
       obtain ⟨x10, x5, x3, x2, _⟩ := ap5
       obtain ⟨pa5, pc5, ma5, mc5, ea5, ec5, xa5, xc5, oa5, oc5, da5, dc5, ta5, tc5, ka5, kc5, ra5, rc5, rfl⟩ := i5.slices)
    | (with_reducible show xCall Tryz.prog 17 _ _ _ _
       refine Spec.ap (plain24_any (s := s) (v := ⟨.slice pa s.purses.length pc, .slice ma s.members.length mc, .slice ea s.entry.length ec, .slice xa s.exit.length xc, .slice oa s.pool.length oc, .slice da s.dues.length dc, .slice ta s.motions.length tc, .slice ka s.marks.length kc, .slice ra s.ring.length rc⟩) (hs0.up (le03.trans (le4.trans le5))) fS.m fS.o fS.d fS.t fun h6 u6 le6 i6 ap6 => ?_)
       simp only [Ap] at ap6
       obtain ⟨y10, y5, y3, y2, _⟩ := ap6
       obtain ⟨pa6, pc6, ma6, mc6, ea6, ec6, xa6, xc6, oa6, oc6, da6, dc6, ta6, tc6, ka6, kc6, ra6, rc6, rfl⟩ := i6.slices)
    | (with_reducible show xCall Tryz.prog 41 _ _ _ _
       refine same24_like (s := s) (v := ⟨.slice pa5 s.purses.length pc5, .slice ma5 s.members.length mc5, .slice ea5 s.entry.length ec5, .slice xa5 s.exit.length xc5, .slice oa5 s.pool.length oc5, .slice da5 s.dues.length dc5, .slice ta5 s.motions.length tc5, .slice ka5 s.marks.length kc5, .slice ra5 s.ring.length rc5⟩) (u := ⟨.slice pa6 s.purses.length pc6, .slice ma6 s.members.length mc6, .slice ea6 s.entry.length ec6, .slice xa6 s.exit.length xc6, .slice oa6 s.pool.length oc6, .slice da6 s.dues.length dc6, .slice ta6 s.motions.length tc6, .slice ka6 s.marks.length kc6, .slice ra6 s.ring.length rc6⟩) (i5.up le6) i6 ?_)
  all_goals
    exact fin_tail (fin_tail (fin_tail (fin_tail (fin_here (hk h6 (le03.trans (le4.trans (le5.trans le6))))))))
end Go.X
