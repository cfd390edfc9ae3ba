/- Part of the proof of a statement about the given program: lemmas and contracts. Conditions: as each says. -/
import Derived.Test.YtkmojeioedjfkaaGreatQ42
import Derived.Test.YtkmojeioedjfkaaGreatQ44
import Derived.Test.YtkmojeioedjfkaaGreatQ45
/- The contract of the law RiteOne. Conditions: the arguments read as a state and as a list of deeds. -/
set_option linter.unusedVariables false
set_option linter.unusedSimpArgs false
set_option maxRecDepth 20000
namespace Go.X
open Go.RowKit Go.Proofs Go.Bl
variable {L : Own} {h : PH} {K : PK}
structure OneG where
  k : Nat
  t : StD
  h : PH
  v : SV
theorem fewB_own {s : StD} (hf : fewB s = true) : OwnFew s := by
  have h9 := few9_len (fewB_9 hf)
  simp only [fewB, Bool.and_eq_true, List.all_eq_true, decide_eq_true_eq] at hf
  exact ⟨by omega, by omega, by omega, by omega, by omega, by omega, by omega, by omega, by omega, fun m hm => by have := hf.2 m hm; omega, fun b hb => by have := hf.1.2 b hb; omega⟩
set_option maxHeartbeats 12800000 in
theorem riteone_any (w dv : Value) (hS : ∃ q : SV × StD, w = stV q.2 q.1 ∧ IsSt h q.1 q.2) (hD : ∃ l, Deeds h dv l) (hk : ∀ h', PH.le h h' → K (.bool true) L h') : Spec Tryz.prog 5 [w, dv] L h K := by
  obtain ⟨⟨v, s⟩, rfl, hs⟩ := hS
  obtain ⟨l, hd0⟩ := hD
  simp only at hs ⊢
  obtain ⟨pa, pc, ma, mc, ea, ec, xa, xc, oa, oc, da, dc, ta, tc, ka, kc, ra, rc, rfl⟩ := hs.slices
  obtain ⟨la, lc, rfl, _, _, _, hd⟩ := hd0.open
  refine x_enter Tryz.func5 rfl (rs := [_]) rfl rfl mixed (by kernel_rfl) rfl rfl ?_
  simp -dsimp -implicitDefEqProofs (disch := first | with_reducible assumption | omega) [go_sem]
  refine xnew fun b2 n_b2 h_b2 => ?_
  try simp only [Apart] at n_b2
  simp -dsimp -implicitDefEqProofs (disch := first | with_reducible assumption | omega) [go_sem]
  refine Spec.ap (awake25_any fun h1 le1 ap => ?_)
  simp only [Ap] at ap
  obtain ⟨a12, _⟩ := ap
  simp -dsimp -implicitDefEqProofs (disch := first | with_reducible assumption | omega) [go_sem]
  refine few24_any (s := s) ⟨.slice pa s.purses.length pc, .slice ma s.members.length mc, .slice ea s.entry.length ec, .slice xa s.exit.length xc, .slice oa s.pool.length oc, .slice da s.dues.length dc, .slice ta s.motions.length tc, .slice ka s.marks.length kc, .slice ra s.ring.length rc⟩ (hs.up le1) ?_
  cases hf : fewB s with
  | false =>
    simp -dsimp -implicitDefEqProofs (disch := first | with_reducible assumption | omega) [go_sem]
    exact fin_tail (fin_here (hk h1 le1))
  | true =>
  simp -dsimp -implicitDefEqProofs (disch := first | with_reducible assumption | omega) [go_sem]
  refine fits_any (s := s) ⟨.slice pa s.purses.length pc, .slice ma s.members.length mc, .slice ea s.entry.length ec, .slice xa s.exit.length xc, .slice oa s.pool.length oc, .slice da s.dues.length dc, .slice ta s.motions.length tc, .slice ka s.marks.length kc, .slice ra s.ring.length rc⟩ (hs.up le1) (fewB_S hf) ?_
  cases hft : fitsS s with
  | false =>
    simp -dsimp -implicitDefEqProofs (disch := first | with_reducible assumption | omega) [go_sem]
    exact fin_tail (fin_here (hk h1 le1))
  | true =>
  simp -dsimp -implicitDefEqProofs (disch := first | with_reducible assumption | omega) [go_sem]
  refine xnew fun b7 n_b7 h_b7 => ?_
  try simp only [Apart] at n_b7
  simp -dsimp -implicitDefEqProofs (disch := first | with_reducible assumption | omega) [go_sem]
  obtain ⟨m72, _⟩ := n_b7
  refine call_pub_at (e := 76) (b := b7) (sz := 2) (n := 1) (cap := 1) (xs := [.int .i64 0, .slice la l.length lc]) [] ⟨by decide, by decide⟩ rfl (by decide) h_b7 fun h2 le2 sl same => ?_
  have a22 : h2 b2 = noC := by rw [same b2 (by first | exact m72 | exact Ne.symm m72)]; exact a12
  clear same a12 h_b7
  refine few25_any (l := l) (dv := .slice la l.length lc) ⟨fun _ => rfl, sl⟩ (hd.up (le1.trans le2)) ?_
  cases hf25 : few25 (dl l) with
  | false =>
    simp -dsimp -implicitDefEqProofs (disch := first | with_reducible assumption | omega) [go_sem]
    exact fin_tail (fin_here (hk h2 (le1.trans le2)))
  | true =>
  have hl64 := (few25_iff.1 hf25).1
  simp -dsimp -implicitDefEqProofs (disch := first | with_reducible assumption | omega) [go_sem]
  refine Spec.ap (bytes25_any (hd.up (le1.trans le2)) hl64 fun h3 r le3 ib ap => ?_)
  simp only [Ap] at ap
  obtain ⟨a32, _⟩ := ap
  have ib0 := ib
  obtain ⟨ba, bc, rfl, _⟩ := ib0.open
  have le13 := le1.trans (le2.trans le3)
  simp -dsimp -implicitDefEqProofs (disch := first | with_reducible assumption | omega) [go_sem]
  by_cases c1 : bytes25 (dl l) = []
  · simp -dsimp -implicitDefEqProofs (disch := first | with_reducible assumption | omega) [go_sem]
    exact fin_tail (fin_here (hk h3 le13))
  simp -dsimp -implicitDefEqProofs (disch := first | with_reducible assumption | omega) [go_sem]
  by_cases c2 : (131072 : Int) < (bytes25 (dl l)).length
  · simp -dsimp -implicitDefEqProofs (disch := first | with_reducible assumption | omega) [go_sem]
    exact fin_tail (fin_here (hk h3 le13))
  simp -dsimp -implicitDefEqProofs (disch := first | with_reducible assumption | omega) [go_sem]
  have hall : (dl l).all rightD = true := by
    cases e : (dl l).all rightD with
    | true => rfl
    | false => exact absurd (by rw [bytes25, e]; rfl) c1
  have eb : bytes25 (dl l) = encB (dl l) := by rw [bytes25, hall]; rfl
  have allr : AllR (dl l) := fun d hdm => by
    refine ⟨?_, List.all_eq_true.1 hall d hdm⟩
    obtain ⟨q, hq, rfl⟩ := List.mem_map.1 hdm
    exact (hd.d q hq).ok
  have edec : bdec (encB (dl l)) = (dl l, 0, 0) := bdec_enc allr (by rw [dl_len]; exact hl64)
  have hown := fewB_own hf
  refine Spec.ap (rblock_any (s := s) (v := ⟨.slice pa s.purses.length pc, .slice ma s.members.length mc, .slice ea s.entry.length ec, .slice xa s.exit.length xc, .slice oa s.pool.length oc, .slice da s.dues.length dc, .slice ta s.motions.length tc, .slice ka s.marks.length kc, .slice ra s.ring.length rc⟩) (xs := bytes25 (dl l)) (hs.up le13) hown ib fun h4 v4 le4 s4 ap => ?_)
  simp only [Ap] at ap
  obtain ⟨a42, _⟩ := ap
  have eR : blockP s (bytes25 (dl l)) = runB s (dl l) 0 := by rw [eb, blockP, if_pos hft, edec]; rfl
  rw [eR] at s4 ⊢
  obtain ⟨t4, at4, e4, hR⟩ : ∃ t at' e, runB s (dl l) 0 = (t, at', e) := ⟨_, _, _, rfl⟩
  rw [hR] at s4 ⊢
  simp only at s4
  have le14 := le13.trans le4
  obtain ⟨pa4, pc4, ma4, mc4, ea4, ec4, xa4, xc4, oa4, oc4, da4, dc4, ta4, tc4, ka4, kc4, ra4, rc4, rfl⟩ := s4.slices
  simp -dsimp -implicitDefEqProofs (disch := first | with_reducible assumption | omega) [go_sem]
  refine xnew fun b6 n_b6 h_b6 => ?_
  try simp only [Apart] at n_b6
  simp -dsimp -implicitDefEqProofs (disch := first | with_reducible assumption | omega) [go_sem]
  refine xnew fun b9 n_b9 h_b9 => ?_
  try simp only [Apart] at n_b9
  simp -dsimp -implicitDefEqProofs (disch := first | with_reducible assumption | omega) [go_sem]
  have n96 : b9 ≠ b6 := by first | exact n_b9.1 | exact Ne.symm n_b9.1
  refine xloop (γ := OneG) ⟨0, s, h4, ⟨.slice pa s.purses.length pc, .slice ma s.members.length mc, .slice ea s.entry.length ec, .slice xa s.exit.length xc, .slice oa s.pool.length oc, .slice da s.dues.length dc, .slice ta s.motions.length tc, .slice ka s.marks.length kc, .slice ra s.ring.length rc⟩⟩
    (fun x => x.k ≤ l.length ∧ PH.le h4 x.h ∧ IsSt x.h x.v x.t ∧ fitsS x.t = true ∧ x.t.dues.length ≤ 1000 ∧ runB s (dl l) 0 = runB x.t ((dl l).drop x.k) x.k ∧ x.h b9 = noC ∧ x.h b6 = noC)
    (fun x => [(51, .int .i64 x.k), (50, .int .i64 l.length), (49, .slice la l.length lc), (9, .pointer (some ⟨b9, 0, none⟩)), (8, .int .i64 e4), (7, .int .i64 at4), (6, .pointer (some ⟨b6, 0, none⟩))])
    (fun x => sB b9 x.t x.v :: sB b6 t4 ⟨.slice pa4 t4.purses.length pc4, .slice ma4 t4.members.length mc4, .slice ea4 t4.entry.length ec4, .slice xa4 t4.exit.length xc4, .slice oa4 t4.pool.length oc4, .slice da4 t4.dues.length dc4, .slice ta4 t4.motions.length tc4, .slice ka4 t4.marks.length kc4, .slice ra4 t4.ring.length rc4⟩ :: sB b2 s ⟨.slice pa s.purses.length pc, .slice ma s.members.length mc, .slice ea s.entry.length ec, .slice xa s.exit.length xc, .slice oa s.pool.length oc, .slice da s.dues.length dc, .slice ta s.motions.length tc, .slice ka s.marks.length kc, .slice ra s.ring.length rc⟩ :: L) (fun x => x.h) (fun x => l.length - x.k) ?_ ?_ ?_ ?_
  · exact ⟨Nat.zero_le _, PH.le_refl _, hs.up le14, hft, hown.d, rfl, h_b9, h_b6⟩
  · simp [Ent, List.lookup, xEnv]
  · exact Drop.refl _ _
  clear h_b9 h_b6 n_b9 n_b6 a42 a32 a22
  rintro ⟨k, t, hg, v⟩ ⟨i1, i2, i3, i4, i5, i6, i7, i8⟩
  simp only at i1 i2 i3 i4 i5 i6 i7 i8 ⊢
  have hdg : Deeds hg (.slice la l.length lc) l := hd.up (le14.trans i2)
  obtain ⟨pa2, pc2, ma2, mc2, ea2, ec2, xa2, xc2, oa2, oc2, da2, dc2, ta2, tc2, ka2, kc2, ra2, rc2, rfl⟩ := i3.slices
  by_cases ck : k < l.length
  · have hdk : IsDeed hg (gq l k).1 (gq l k).2 := hdg.at ck
    have hdrop : (dl l).drop k = (gq l k).2 :: (dl l).drop (k + 1) := by
      have hck : k < (dl l).length := by rw [dl_len]; exact ck
      rw [List.drop_eq_getElem_cons hck]
      congr 1
      rw [gq_lt ck]; simp [dl]
    have hright := (allr _ (mem_gq ck)).2
    obtain ⟨xq, yq, eq, _⟩ := hdk.i.open
    rw [eq] at hdk
    simp -dsimp -implicitDefEqProofs (disch := first | with_reducible assumption | omega) [go_sem, ↓idxD hdg, eq]
    refine xnew fun b11 n_b11 h_b11 => ?_
    try simp only [Apart] at n_b11
    simp -dsimp -implicitDefEqProofs (disch := first | with_reducible assumption | omega) [go_sem, ↓idxD hdg, eq]
    refine Spec.ap (rdo_any (s := t) (v := ⟨.slice pa2 t.purses.length pc2, .slice ma2 t.members.length mc2, .slice ea2 t.entry.length ec2, .slice xa2 t.exit.length xc2, .slice oa2 t.pool.length oc2, .slice da2 t.dues.length dc2, .slice ta2 t.motions.length tc2, .slice ka2 t.marks.length kc2, .slice ra2 t.ring.length rc2⟩) (d := (gq l k).2) (bv := .slice xq (gq l k).2.bits.length yq) i3 (own_few i4 i5) hdk fun h5 v5 le5 s5 ap => ?_)
    simp only [Ap] at ap
    obtain ⟨a511, a59, a56, _⟩ := ap
    have eP : riteP t (gq l k).2 = if (doP t (gq l k).2).2 = 0 then doP t (gq l k).2 else (zeroS, (doP t (gq l k).2).2) := by rw [riteP, if_pos i4, if_pos hright]
    rw [eP] at s5 ⊢
    rw [hdrop, runB, hR] at i6
    by_cases e : (doP t (gq l k).2).2 = 0
    · rw [if_pos e] at i6 s5 ⊢
      have hfit := doP_fits i4 hright hdk.ok.a.1 (i3.ok.p.1 _ (by simp [wides])).1 (fun i => i3.k.byte i) (fun i => hdk.i.byte i) e
      have hdues : (doP t (gq l k).2).1.dues = t.dues := doP_dues
      generalize doP t (gq l k).2 = R at *
      obtain ⟨tn, c⟩ := R
      simp only at *
      subst e
      obtain ⟨pa5, pc5, ma5, mc5, ea5, ec5, xa5, xc5, oa5, oc5, da5, dc5, ta5, tc5, ka5, kc5, ra5, rc5, rfl⟩ := s5.slices
      simp -dsimp -implicitDefEqProofs (disch := first | with_reducible assumption | omega) [go_sem]
      refine xnew fun b12 n_b12 h_b12 => ?_
      try simp only [Apart] at n_b12
      simp -dsimp -implicitDefEqProofs (disch := first | with_reducible assumption | omega) [go_sem]
      refine ⟨⟨k + 1, tn, h5, ⟨.slice pa5 tn.purses.length pc5, .slice ma5 tn.members.length mc5, .slice ea5 tn.entry.length ec5, .slice xa5 tn.exit.length xc5, .slice oa5 tn.pool.length oc5, .slice da5 tn.dues.length dc5, .slice ta5 tn.motions.length tc5, .slice ka5 tn.marks.length kc5, .slice ra5 tn.ring.length rc5⟩⟩, ⟨by simp only; omega, i2.trans le5, s5, hfit, by simp only [hdues]; exact i5, by rw [hR]; exact i6, a59, a56⟩, by simp only; omega, by simp [Ent, List.lookup], ?_⟩
      exact (Drop.tail _ _ _).trans (Drop.tail _ _ _)
    · rw [if_neg e] at i6 s5 ⊢
      simp only [Prod.mk.injEq] at i6
      obtain ⟨_, e1, e2⟩ := i6
      subst e1
      subst e2
      simp only at s5
      obtain ⟨pa5, pc5, ma5, mc5, ea5, ec5, xa5, xc5, oa5, oc5, da5, dc5, ta5, tc5, ka5, kc5, ra5, rc5, rfl⟩ := s5.slices
      simp -dsimp -implicitDefEqProofs (disch := first | with_reducible assumption | omega) [go_sem]
      refine xnew fun b12 n_b12 h_b12 => ?_
      try simp only [Apart] at n_b12
      simp -dsimp -implicitDefEqProofs (disch := first | with_reducible assumption | omega) [go_sem]
      exact fin_tail (fin_tail (fin_tail (fin_tail (fin_tail (fin_here (hk h5 (le14.trans (i2.trans le5))))))))
  · have hke : k = l.length := by omega
    subst hke
    rw [List.drop_of_length_le (by rw [dl_len]; omega), runB, hR] at i6
    simp only [Prod.mk.injEq] at i6
    obtain ⟨e0, e1, e2⟩ := i6
    subst e0
    subst e1
    subst e2
    simp -dsimp -implicitDefEqProofs (disch := first | with_reducible assumption | omega) [go_sem]
    refine xanyl (.tk 0 (.tk 1 (.tk 2 (.tkl 3 (.tkl 5 (.or true 4 (.or true 6 (.or true 7 (.tk 8 (.tk 9 (.fin))) (.nil)) (.nil)) (.nil))))))) (by kernel_rfl) (by kernel_rfl) _ (Drop.refl _ _) ?_
    simp -dsimp -implicitDefEqProofs (disch := first | with_reducible assumption | omega) [go_sem]
    have of := own_few i4 i5
    refine Spec.ap (plain24_any (s := t4) (v := ⟨.slice pa4 t4.purses.length pc4, .slice ma4 t4.members.length mc4, .slice ea4 t4.entry.length ec4, .slice xa4 t4.exit.length xc4, .slice oa4 t4.pool.length oc4, .slice da4 t4.dues.length dc4, .slice ta4 t4.motions.length tc4, .slice ka4 t4.marks.length kc4, .slice ra4 t4.ring.length rc4⟩) (s4.up i2) (by have := of.m; omega) (by have := of.o; omega) (by have := of.d; omega) (by have := of.t; omega) fun h5 u5 le5 s5 ap => ?_)
    obtain ⟨a59, a56, _⟩ := ap
    simp only at a59 a56
    refine xkp (Drop.forget le5) ?_
    simp -dsimp -implicitDefEqProofs (disch := first | with_reducible assumption | omega) [go_sem]
    refine Spec.ap (plain24_any (s := t4) (v := ⟨.slice pa2 t4.purses.length pc2, .slice ma2 t4.members.length mc2, .slice ea2 t4.entry.length ec2, .slice xa2 t4.exit.length xc2, .slice oa2 t4.pool.length oc2, .slice da2 t4.dues.length dc2, .slice ta2 t4.motions.length tc2, .slice ka2 t4.marks.length kc2, .slice ra2 t4.ring.length rc2⟩) (i3.up le5) (by have := of.m; omega) (by have := of.o; omega) (by have := of.d; omega) (by have := of.t; omega) fun h6 u6 le6 s6 ap => ?_)
    obtain ⟨a69, a66, _⟩ := ap
    simp only at a69 a66
    refine xkp (Drop.forget (le5.trans le6)) ?_
    obtain ⟨pa5, pc5, ma5, mc5, ea5, ec5, xa5, xc5, oa5, oc5, da5, dc5, ta5, tc5, ka5, kc5, ra5, rc5, rfl⟩ := s5.slices
    obtain ⟨pa6, pc6, ma6, mc6, ea6, ec6, xa6, xc6, oa6, oc6, da6, dc6, ta6, tc6, ka6, kc6, ra6, rc6, rfl⟩ := s6.slices
    simp -dsimp -implicitDefEqProofs (disch := first | with_reducible assumption | omega) [go_sem]
    refine same24_like (s := t4) (v := ⟨.slice pa5 t4.purses.length pc5, .slice ma5 t4.members.length mc5, .slice ea5 t4.entry.length ec5, .slice xa5 t4.exit.length xc5, .slice oa5 t4.pool.length oc5, .slice da5 t4.dues.length dc5, .slice ta5 t4.motions.length tc5, .slice ka5 t4.marks.length kc5, .slice ra5 t4.ring.length rc5⟩) (u := ⟨.slice pa6 t4.purses.length pc6, .slice ma6 t4.members.length mc6, .slice ea6 t4.entry.length ec6, .slice xa6 t4.exit.length xc6, .slice oa6 t4.pool.length oc6, .slice da6 t4.dues.length dc6, .slice ta6 t4.motions.length tc6, .slice ka6 t4.marks.length kc6, .slice ra6 t4.ring.length rc6⟩) (s5.up le6) s6 ?_
    refine xkp (Drop.forget (le5.trans le6)) ?_
    simp -dsimp -implicitDefEqProofs (disch := first | with_reducible assumption | omega) [go_sem]
    exact fin_tail (fin_tail (fin_tail (fin_here (hk h6 (le14.trans (i2.trans (le5.trans le6)))))))
end Go.X
