/- The contract of the law TrialAdopts: any state, any parameters. Conditions: the values read as a state and as parameters. -/
import Derived.Test.YtfilkbfkhdaakaaGreatUN
import Derived.Test.YtfilkbfkhdaakaaGreatUK
import Derived.Test.YtfilkbfkhdaakaaGreatST
set_option linter.unusedVariables false
set_option linter.unusedSimpArgs false
set_option maxRecDepth 20000
namespace Go.X
open Go.RowKit Go.Proofs Go.Bl
variable {L : Own} {h : PH} {K : PK}
/-- what adoption answers: an error's number, the state, who is put out -/
def adE (s : StD) (q : ParD) : Int := if fitsS s then (if parR q then 0 else 70) else 291
def adT (s : StD) (q : ParD) : StD := if adE s q = 0 then adS s q else zeroS
def adO (s : StD) (q : ParD) : List Int := if adE s q = 0 then adOut s q else []
theorem adE_ok {s : StD} {q : ParD} (h1 : fitsS s = true) (h2 : parR q = true) : adE s q = 0 := by rw [adE, h1, h2]; rfl
theorem adT_ok {s : StD} {q : ParD} (h1 : fitsS s = true) (h2 : parR q = true) : adT s q = adS s q := if_pos (adE_ok h1 h2)
theorem adO_ok {s : StD} {q : ParD} (h1 : fitsS s = true) (h2 : parR q = true) : adO s q = adOut s q := if_pos (adE_ok h1 h2)
theorem adT_no {s : StD} {q : ParD} (h1 : adE s q ≠ 0) : adT s q = zeroS := if_neg h1
theorem adO_no {s : StD} {q : ParD} (h1 : adE s q ≠ 0) : adO s q = [] := if_neg h1
set_option maxHeartbeats 1600000 in
theorem adoptA_any {s : StD} (v : SV) (hs : IsSt h v s) (fe : fewB s = true) (q : ParD) (okq : ParOk q)
    (hk : ∀ h' u r, PH.le h h' → IsSt h' u (adT s q) → Ints h' .i64 r (adO s q) → K (.tuple #[stV (adT s q) u, r, .int .i64 (adE s q)]) L h') : Spec Tryz.prog 38 [stV s v, parV q] L h K := by
  cases h1 : fitsS s with
  | true =>
    cases h2 : parR q with
    | true =>
      rw [adT_ok h1 h2, adO_ok h1 h2, adE_ok h1 h2] at hk
      exact adopt_any v hs fe h1 q h2 okq hk
    | false =>
      have e1 : adE s q = 70 := by rw [adE, h1, h2]; rfl
      rw [adT_no (by rw [e1]; decide), adO_no (by rw [e1]; decide), e1] at hk
      have hk1 := hk h nilV (.slice none 0 0) (PH.le_refl _) (isSt_zero h) (nil_ints h .i64)
      have few := fewB_S fe
      obtain ⟨pa, pc, ma, mc, ea, ec, xa, xc, oa, oc, da, dc, ta, tc, ka, kc, ra, rc, rfl⟩ := hs.slices
      refine x_enter Tryz.func38 rfl (rs := [_, _, _]) rfl rfl mixed (by kernel_rfl) rfl rfl ?_
      simp -dsimp -implicitDefEqProofs (disch := first | with_reducible assumption | omega) [go_sem]
      refine xnew fun b2 n_b2 h_b2 => ?_
      try simp only [Apart] at n_b2
      simp -dsimp -implicitDefEqProofs (disch := first | with_reducible assumption | omega) [go_sem]
      refine xnew fun b3 n_b3 h_b3 => ?_
      try simp only [Apart] at n_b3
      simp -dsimp -implicitDefEqProofs (disch := first | with_reducible assumption | omega) [go_sem]
      refine xnew fun b4 n_b4 h_b4 => ?_
      try simp only [Apart] at n_b4
      simp -dsimp -implicitDefEqProofs (disch := first | with_reducible assumption | omega) [go_sem]
      refine fits_any (s := s) ⟨.slice pa s.purses.length pc, .slice ma s.members.length mc, .slice ea s.entry.length ec, .slice xa s.exit.length xc, .slice oa s.pool.length oc, .slice da s.dues.length dc, .slice ta s.motions.length tc, .slice ka s.marks.length kc, .slice ra s.ring.length rc⟩ hs few ?_
      rw [h1]
      simp -dsimp -implicitDefEqProofs (disch := first | with_reducible assumption | omega) [go_sem]
      refine pcheck0 q okq ?_
      rw [h2]
      simp -dsimp -implicitDefEqProofs (disch := first | with_reducible assumption | omega) [go_sem]
      exact fin_tail (fin_tail (fin_tail (fin_here hk1)))
  | false =>
    have e1 : adE s q = 291 := by rw [adE, h1]; rfl
    rw [adT_no (by rw [e1]; decide), adO_no (by rw [e1]; decide), e1] at hk
    have hk1 := hk h nilV (.slice none 0 0) (PH.le_refl _) (isSt_zero h) (nil_ints h .i64)
    have few := fewB_S fe
    obtain ⟨pa, pc, ma, mc, ea, ec, xa, xc, oa, oc, da, dc, ta, tc, ka, kc, ra, rc, rfl⟩ := hs.slices
    refine x_enter Tryz.func38 rfl (rs := [_, _, _]) rfl rfl mixed (by kernel_rfl) rfl rfl ?_
    simp -dsimp -implicitDefEqProofs (disch := first | with_reducible assumption | omega) [go_sem]
    refine xnew fun b2 n_b2 h_b2 => ?_
    try simp only [Apart] at n_b2
    simp -dsimp -implicitDefEqProofs (disch := first | with_reducible assumption | omega) [go_sem]
    refine xnew fun b3 n_b3 h_b3 => ?_
    try simp only [Apart] at n_b3
    simp -dsimp -implicitDefEqProofs (disch := first | with_reducible assumption | omega) [go_sem]
    refine xnew fun b4 n_b4 h_b4 => ?_
    try simp only [Apart] at n_b4
    simp -dsimp -implicitDefEqProofs (disch := first | with_reducible assumption | omega) [go_sem]
    refine fits_any (s := s) ⟨.slice pa s.purses.length pc, .slice ma s.members.length mc, .slice ea s.entry.length ec, .slice xa s.exit.length xc, .slice oa s.pool.length oc, .slice da s.dues.length dc, .slice ta s.motions.length tc, .slice ka s.marks.length kc, .slice ra s.ring.length rc⟩ hs few ?_
    rw [h1]
    simp -dsimp -implicitDefEqProofs (disch := first | with_reducible assumption | omega) [go_sem]
    exact fin_tail (fin_tail (fin_tail (fin_here hk1)))
set_option maxHeartbeats 1600000 in
theorem radoptA_any {s : StD} (v : SV) (hs : IsSt h v s) (fe : fewB s = true) (q : ParD) (okq : ParOk q)
    (hk : ∀ h' u r, PH.le h h' → IsSt h' u (adT s q) → Ints h' .i64 r (adO s q) → K (.tuple #[stV (adT s q) u, r, .int .i64 (adE s q)]) L h') : Spec Tryz.prog 39 [stV s v, parV q] L h K := by
  cases h1 : fitsS s with
  | true =>
    cases h2 : parR q with
    | true =>
      rw [adT_ok h1 h2, adO_ok h1 h2, adE_ok h1 h2] at hk
      exact radopt_any v hs fe h1 q h2 okq hk
    | false =>
      have e1 : adE s q = 70 := by rw [adE, h1, h2]; rfl
      rw [adT_no (by rw [e1]; decide), adO_no (by rw [e1]; decide), e1] at hk
      have few := fewB_S fe
      have fT := fewB_T' fe
      obtain ⟨pa, pc, ma, mc, ea, ec, xa, xc, oa, oc, da, dc, ta, tc, ka, kc, ra, rc, rfl⟩ := hs.slices
      refine x_enter Tryz.func39 rfl (rs := [_, _, _]) rfl rfl mixed (by kernel_rfl) rfl rfl ?_
      simp -dsimp -implicitDefEqProofs (disch := first | with_reducible assumption | omega) [go_sem]
      refine xnew fun b2 n_b2 h_b2 => ?_
      try simp only [Apart] at n_b2
      simp -dsimp -implicitDefEqProofs (disch := first | with_reducible assumption | omega) [go_sem]
      refine xnew fun b3 n_b3 h_b3 => ?_
      try simp only [Apart] at n_b3
      simp -dsimp -implicitDefEqProofs (disch := first | with_reducible assumption | omega) [go_sem]
      refine xnew fun b4 n_b4 h_b4 => ?_
      try simp only [Apart] at n_b4
      simp -dsimp -implicitDefEqProofs (disch := first | with_reducible assumption | omega) [go_sem]
      refine Spec.ap (fits24_any (s := s) ⟨.slice pa s.purses.length pc, .slice ma s.members.length mc, .slice ea s.entry.length ec, .slice xa s.exit.length xc, .slice oa s.pool.length oc, .slice da s.dues.length dc, .slice ta s.motions.length tc, .slice ka s.marks.length kc, .slice ra s.ring.length rc⟩ hs few fT fun h1' le1 ap => ?_)
      simp only [Ap] at ap
      obtain ⟨a14, a13, a12, _⟩ := ap
      rw [h1]
      simp -dsimp -implicitDefEqProofs (disch := first | with_reducible assumption | omega) [go_sem]
      refine Spec.ap (right7_any q okq fun h2' le2 ap => ?_)
      simp only [Ap] at ap
      obtain ⟨a24, a23, a22, _⟩ := ap
      rw [h2]
      simp -dsimp -implicitDefEqProofs (disch := first | with_reducible assumption | omega) [go_sem]
      exact fin_tail (fin_tail (fin_tail (fin_here (hk h2' nilV (.slice none 0 0) (le1.trans le2) (isSt_zero _) (nil_ints _ .i64)))))
  | false =>
    have e1 : adE s q = 291 := by rw [adE, h1]; rfl
    rw [adT_no (by rw [e1]; decide), adO_no (by rw [e1]; decide), e1] at hk
    have few := fewB_S fe
    have fT := fewB_T' fe
    obtain ⟨pa, pc, ma, mc, ea, ec, xa, xc, oa, oc, da, dc, ta, tc, ka, kc, ra, rc, rfl⟩ := hs.slices
    refine x_enter Tryz.func39 rfl (rs := [_, _, _]) rfl rfl mixed (by kernel_rfl) rfl rfl ?_
    simp -dsimp -implicitDefEqProofs (disch := first | with_reducible assumption | omega) [go_sem]
    refine xnew fun b2 n_b2 h_b2 => ?_
    try simp only [Apart] at n_b2
    simp -dsimp -implicitDefEqProofs (disch := first | with_reducible assumption | omega) [go_sem]
    refine xnew fun b3 n_b3 h_b3 => ?_
    try simp only [Apart] at n_b3
    simp -dsimp -implicitDefEqProofs (disch := first | with_reducible assumption | omega) [go_sem]
    refine xnew fun b4 n_b4 h_b4 => ?_
    try simp only [Apart] at n_b4
    simp -dsimp -implicitDefEqProofs (disch := first | with_reducible assumption | omega) [go_sem]
    refine Spec.ap (fits24_any (s := s) ⟨.slice pa s.purses.length pc, .slice ma s.members.length mc, .slice ea s.entry.length ec, .slice xa s.exit.length xc, .slice oa s.pool.length oc, .slice da s.dues.length dc, .slice ta s.motions.length tc, .slice ka s.marks.length kc, .slice ra s.ring.length rc⟩ hs few fT fun h1' le1 ap => ?_)
    simp only [Ap] at ap
    obtain ⟨a14, a13, a12, _⟩ := ap
    rw [h1]
    simp -dsimp -implicitDefEqProofs (disch := first | with_reducible assumption | omega) [go_sem]
    exact fin_tail (fin_tail (fin_tail (fin_here (hk h1' nilV (.slice none 0 0) le1 (isSt_zero _) (nil_ints _ .i64)))))
theorem adT_len {s : StD} {q : ParD} (fe : fewB s = true) : (adT s q).members.length ≤ 100000 ∧ (adT s q).pool.length ≤ 100000 ∧ (adT s q).dues.length ≤ 100000 ∧ (adT s q).motions.length ≤ 100000 := by
  have fl := few9_len (fewB_9 fe)
  unfold adT
  split
  · have h1 : (adMem s q).length = s.members.length := by
      rw [adMem, upN_len, upN_len]; exact (clN_len q (s.members, s.purses) s.members.length).1
    have h2 : ∀ k, (duN q (adX s q).1 (s.ep + s.par.wait) s.dues k).length ≤ s.dues.length + k := fun k => by
      induction k with
      | zero => exact Nat.le_refl _
      | succ k ih =>
        rw [duN]
        split
        · have := oweL_len (duN q (adX s q).1 (s.ep + s.par.wait) s.dues k) (dueOf (s.ep + s.par.wait) (gr zeroM (adX s q).1 k))
          omega
        · omega
    have h3 := h2 s.members.length
    simp only [adS, adDues]
    omega
  · simp [zeroS]
theorem plain07_any (q : ParD) (hk : K (parV q) L h) : Spec Tryz.prog 40 [parV q] L h K := by
  refine x_enter Tryz.func40 rfl (rs := [_]) rfl rfl mixed (by kernel_rfl) rfl rfl ?_
  simp -dsimp -implicitDefEqProofs (disch := first | with_reducible assumption | omega) [go_sem]
  refine xnew fun b1 n_b1 h_b1 => ?_
  try simp only [Apart] at n_b1
  simp -dsimp -implicitDefEqProofs (disch := first | with_reducible assumption | omega) [go_sem]
  refine xnew fun b2 n_b2 h_b2 => ?_
  try simp only [Apart] at n_b2
  simp -dsimp -implicitDefEqProofs (disch := first | with_reducible assumption | omega) [go_sem]
  exact fin_tail (fin_tail (fin_here hk))
theorem drop_sub {L L0 : Own} {h : PH} (hs : L0.Sublist L) : Drop L h L0 h := fun W hg =>
  ⟨⟨hg.sub, fun e he => hg.own e (hs.subset he), hg.nodup.sublist (hs.map _), fun e he => hg.apart e (hs.subset he)⟩, fun e he => List.mem_map_of_mem (hs.subset he)⟩
set_option maxHeartbeats 6400000 in
theorem trialadopts_any (w v : Value) (hS : ∃ q : SV × StD, w = stV q.2 q.1 ∧ IsSt h q.1 q.2) (hP : ∃ q, v = parV q ∧ ParOk q) (hk : ∀ h', PH.le h h' → K (.bool true) L h') : Spec Tryz.prog 5 [w, v] L h K := by
  obtain ⟨⟨sv0, s⟩, rfl, hs0⟩ := hS
  obtain ⟨q, rfl, okq⟩ := hP
  simp only at hs0 ⊢
  obtain ⟨pa, pc, ma, mc, ea, ec, xa, xc, oa, oc, da, dc, ta, tc, ka, kc, ra, rc, rfl⟩ := hs0.slices
  refine x_enter Tryz.func5 rfl (rs := [_]) rfl rfl mixed (by kernel_rfl) rfl rfl ?_
  simp -dsimp -implicitDefEqProofs (disch := first | with_reducible assumption | omega) [go_sem]
  refine xnew fun b2 n_b2 h_b2 => ?_
  try simp only [Apart] at n_b2
  simp -dsimp -implicitDefEqProofs (disch := first | with_reducible assumption | omega) [go_sem]
  refine xnew fun b3 n_b3 h_b3 => ?_
  try simp only [Apart] at n_b3
  simp -dsimp -implicitDefEqProofs (disch := first | with_reducible assumption | omega) [go_sem]
  refine Spec.ap (awake42_any fun h1 le1 ap => ?_)
  simp only [Ap] at ap
  obtain ⟨a13, a12, _⟩ := ap
  simp -dsimp -implicitDefEqProofs (disch := first | with_reducible assumption | omega) [go_sem]
  refine few24_any (s := s) ⟨.slice pa s.purses.length pc, .slice ma s.members.length mc, .slice ea s.entry.length ec, .slice xa s.exit.length xc, .slice oa s.pool.length oc, .slice da s.dues.length dc, .slice ta s.motions.length tc, .slice ka s.marks.length kc, .slice ra s.ring.length rc⟩ (hs0.up le1) ?_
  cases f1 : fewB s with
  | false =>
    simp -dsimp -implicitDefEqProofs (disch := first | with_reducible assumption | omega) [go_sem]
    exact fin_tail (fin_tail (fin_here (hk h1 le1)))
  | true =>
  have fS := fewB_S f1
  simp -dsimp -implicitDefEqProofs (disch := first | with_reducible assumption | omega) [go_sem]
  refine Spec.ap (adoptA_any (s := s) ⟨.slice pa s.purses.length pc, .slice ma s.members.length mc, .slice ea s.entry.length ec, .slice xa s.exit.length xc, .slice oa s.pool.length oc, .slice da s.dues.length dc, .slice ta s.motions.length tc, .slice ka s.marks.length kc, .slice ra s.ring.length rc⟩ (hs0.up le1) f1 q okq fun h2 u2 r2 le2 i2 ir2 ap => ?_)
  simp only [Ap] at ap
  obtain ⟨a23, a22, _⟩ := ap
  have tl := adT_len (q := q) f1
  obtain ⟨t, ht⟩ : ∃ t, t = adT s q := ⟨_, rfl⟩
  obtain ⟨O, hO⟩ : ∃ O, O = adO s q := ⟨_, rfl⟩
  obtain ⟨E, hE⟩ : ∃ E, E = adE s q := ⟨_, rfl⟩
  rw [← ht] at i2 tl ⊢
  rw [← hO] at ir2
  rw [← hE]
  obtain ⟨pa2, pc2, ma2, mc2, ea2, ec2, xa2, xc2, oa2, oc2, da2, dc2, ta2, tc2, ka2, kc2, ra2, rc2, rfl⟩ := i2.slices
  have ir0 := ir2
  obtain ⟨oa', oc', rfl, _⟩ := ir2.open
  simp -dsimp -implicitDefEqProofs (disch := first | with_reducible assumption | omega) [go_sem]
  refine xnew fun b5 n_b5 h_b5 => ?_
  try simp only [Apart] at n_b5
  simp -dsimp -implicitDefEqProofs (disch := first | with_reducible assumption | omega) [go_sem]
  refine xany_cut (.tkl 0 (.tkl 2 (.or true 1 (.or true 3 (.or true 4 (.tk 5 (.tk 6 (.tk 7 (.tk 8 (.or true 9 (.or false 10 (.tk 11 (.tk 12 (.fin))) (.nil)) (.nil)))))) (.or true 9 (.or true 4 (.tk 5 (.tk 6 (.tk 7 (.tk 8 (.or false 10 (.tk 11 (.tk 12 (.fin))) (.nil)))))) (.nil)) (.nil))) (.or true 9 (.or true 3 (.or true 4 (.tk 5 (.tk 6 (.tk 7 (.tk 8 (.or false 10 (.tk 11 (.tk 12 (.fin))) (.nil)))))) (.nil)) (.nil)) (.nil))) (.or true 9 (.or true 1 (.or true 3 (.or true 4 (.tk 5 (.tk 6 (.tk 7 (.tk 8 (.or false 10 (.tk 11 (.tk 12 (.fin))) (.nil)))))) (.nil)) (.nil)) (.nil)) (.nil))))) (by kernel_rfl) (by kernel_rfl) [(2, .pointer (some ⟨b2, 0, none⟩)), (3, .pointer (some ⟨b3, 0, none⟩)), (5, .pointer (some ⟨b5, 0, none⟩)), (6, .slice oa' O.length oc'), (7, .int .i64 E)] (⟨b5, 34, stC t ⟨.slice pa2 t.purses.length pc2, .slice ma2 t.members.length mc2, .slice ea2 t.entry.length ec2, .slice xa2 t.exit.length xc2, .slice oa2 t.pool.length oc2, .slice da2 t.dues.length dc2, .slice ta2 t.motions.length tc2, .slice ka2 t.marks.length kc2, .slice ra2 t.ring.length rc2⟩, 41⟩ :: ⟨b3, 24, parC q, 24⟩ :: ⟨b2, 34, stC s ⟨.slice pa s.purses.length pc, .slice ma s.members.length mc, .slice ea s.entry.length ec, .slice xa s.exit.length xc, .slice oa s.pool.length oc, .slice da s.dues.length dc, .slice ta s.motions.length tc, .slice ka s.marks.length kc, .slice ra s.ring.length rc⟩, 41⟩ :: L) (γ := Nat × PH × SV × Value)
    (fun x => PH.le h2 x.2.1 ∧ (x.2.1 x.1 = noC ∧ x.2.1 b5 = noC) ∧ x.1 ≠ b5 ∧ IsSt x.2.1 x.2.2.1 t ∧ Ints x.2.1 .i64 x.2.2.2 O)
    (fun x => [(5, .pointer (some ⟨b5, 0, none⟩)), (6, .slice oa' O.length oc'), (7, .int .i64 E), (8, .pointer (some ⟨x.1, 0, none⟩)), (9, x.2.2.2), (10, .int .i64 E)])
    (fun x => ⟨x.1, 49, stC t x.2.2.1, 41⟩ :: ⟨b5, 34, stC t ⟨.slice pa2 t.purses.length pc2, .slice ma2 t.members.length mc2, .slice ea2 t.entry.length ec2, .slice xa2 t.exit.length xc2, .slice oa2 t.pool.length oc2, .slice da2 t.dues.length dc2, .slice ta2 t.motions.length tc2, .slice ka2 t.marks.length kc2, .slice ra2 t.ring.length rc2⟩, 41⟩ :: L)
    (fun x => x.2.1) (by simp [Ent, List.lookup]) (Drop.refl _ _) ?_ ?_
  · repeat' first
      | with_reducible refine xpl_or ?_ ?_
      | simp -dsimp -implicitDefEqProofs (disch := first | with_reducible assumption | omega) [go_sem]
      | (with_reducible refine xnew fun b8 n_b8 h_b8 => ?_
         simp only [Apart] at n_b8)
      | with_reducible refine xkp (Drop.refl _ _) ?_
      | with_reducible refine xkp (Drop.tail _ _ _) ?_
      | with_reducible refine xkp (Drop.forget (le3.trans le4)) ?_
      | with_reducible refine xkp ((Drop.tail _ _ _).trans (Drop.forget (le3.trans le4))) ?_
      | with_reducible refine xkp (Drop.forget le3) ?_
      | with_reducible refine xkp ((Drop.tail _ _ _).trans (Drop.forget le3)) ?_
      | (with_reducible show xCall Tryz.prog 17 _ _ _ _
         refine Spec.ap (plain24_any (s := s) (v := ⟨.slice pa s.purses.length pc, .slice ma s.members.length mc, .slice ea s.entry.length ec, .slice xa s.exit.length xc, .slice oa s.pool.length oc, .slice da s.dues.length dc, .slice ta s.motions.length tc, .slice ka s.marks.length kc, .slice ra s.ring.length rc⟩) (hs0.up (le1.trans le2)) fS.m fS.o fS.d fS.t fun h3 u3 le3 hs3 ap3 => ?_)
         simp only [Ap] at ap3
         first
         | obtain ⟨q8, q5, q3, q2, _⟩ := ap3
         | obtain ⟨q5, q3, q2, _⟩ := ap3
         obtain ⟨pa3, pc3, ma3, mc3, ea3, ec3, xa3, xc3, oa3, oc3, da3, dc3, ta3, tc3, ka3, kc3, ra3, rc3, rfl⟩ := hs3.slices)
      | (with_reducible show xCall Tryz.prog 40 _ _ _ _
         refine plain07_any q ?_)
      | (with_reducible show xCall Tryz.prog 39 _ _ _ _
         refine Spec.ap (radoptA_any (s := s) ⟨.slice pa3 s.purses.length pc3, .slice ma3 s.members.length mc3, .slice ea3 s.entry.length ec3, .slice xa3 s.exit.length xc3, .slice oa3 s.pool.length oc3, .slice da3 s.dues.length dc3, .slice ta3 s.motions.length tc3, .slice ka3 s.marks.length kc3, .slice ra3 s.ring.length rc3⟩ hs3 f1 q okq fun h4 u4 r4 le4 i4 ir4 ap4 => ?_)
         simp only [Ap] at ap4
         first
         | obtain ⟨w8, w5, w3, w2, _⟩ := ap4
         | obtain ⟨w5, w3, w2, _⟩ := ap4
         rw [← ht, ← hE]
         rw [← ht] at i4
         rw [← hO] at ir4
         obtain ⟨pa4, pc4, ma4, mc4, ea4, ec4, xa4, xc4, oa4, oc4, da4, dc4, ta4, tc4, ka4, kc4, ra4, rc4, rfl⟩ := i4.slices
         have ir5 := ir4
         obtain ⟨oa4', oc4', rfl, _⟩ := ir4.open)
    all_goals
      first
      | exact ⟨b8, h4, ⟨.slice pa4 t.purses.length pc4, .slice ma4 t.members.length mc4, .slice ea4 t.entry.length ec4, .slice xa4 t.exit.length xc4, .slice oa4 t.pool.length oc4, .slice da4 t.dues.length dc4, .slice ta4 t.motions.length tc4, .slice ka4 t.marks.length kc4, .slice ra4 t.ring.length rc4⟩, _, ⟨le3.trans le4, ⟨w8, w5⟩, fun e => n_b8.1 e.symm, i4, ir5⟩, by simp [Ent, List.lookup], drop_sub (List.Sublist.cons_cons _ (List.Sublist.cons_cons _ (List.Sublist.cons _ (List.Sublist.cons _ (List.Sublist.refl _)))))⟩
      | exact ⟨b8, h4, ⟨.slice pa4 t.purses.length pc4, .slice ma4 t.members.length mc4, .slice ea4 t.entry.length ec4, .slice xa4 t.exit.length xc4, .slice oa4 t.pool.length oc4, .slice da4 t.dues.length dc4, .slice ta4 t.motions.length tc4, .slice ka4 t.marks.length kc4, .slice ra4 t.ring.length rc4⟩, _, ⟨le3.trans le4, ⟨h_b8, w5⟩, fun e => n_b8.1 e.symm, i4, ir5⟩, by simp [Ent, List.lookup], drop_sub (List.Sublist.cons_cons _ (List.Sublist.cons_cons _ (List.Sublist.cons _ (List.Sublist.cons _ (List.Sublist.refl _)))))⟩
  rintro ⟨b8, h4, u4, r4⟩ ⟨le4, ⟨w8, w5⟩, n85, i4, ir4⟩
  simp only at le4 w8 w5 n85 i4 ir4 ⊢
  obtain ⟨pa4, pc4, ma4, mc4, ea4, ec4, xa4, xc4, oa4, oc4, da4, dc4, ta4, tc4, ka4, kc4, ra4, rc4, rfl⟩ := i4.slices
  have ir5 := ir4
  obtain ⟨oa4', oc4', rfl, _⟩ := ir4.open
  simp -dsimp -implicitDefEqProofs (disch := first | with_reducible assumption | omega) [go_sem]
  refine xanyl (.tkl 0 (.tkl 2 (.or true 1 (.or true 3 (.tk 4 (.tk 5 (.tk 6 (.or true 7 (.tk 8 (.tk 9 (.tk 10 (.tk 11 (.tk 12 (.tk 13 (.tk 14 (.fin)))))))) (.nil))))) (.nil)) (.nil)))) (by kernel_rfl) (by kernel_rfl) _ (Drop.refl _ _) ?_
  simp -dsimp -implicitDefEqProofs (disch := first | with_reducible assumption | omega) [go_sem]
  refine Spec.ap (plain24_any (s := t) (v := ⟨.slice pa2 t.purses.length pc2, .slice ma2 t.members.length mc2, .slice ea2 t.entry.length ec2, .slice xa2 t.exit.length xc2, .slice oa2 t.pool.length oc2, .slice da2 t.dues.length dc2, .slice ta2 t.motions.length tc2, .slice ka2 t.marks.length kc2, .slice ra2 t.ring.length rc2⟩) (i2.up le4) tl.1 tl.2.1 tl.2.2.1 tl.2.2.2 fun h5 u5 le5 hs5 ap => ?_)
  simp only [Ap] at ap
  obtain ⟨x8, x5, _⟩ := ap
  obtain ⟨pa5, pc5, ma5, mc5, ea5, ec5, xa5, xc5, oa5, oc5, da5, dc5, ta5, tc5, ka5, kc5, ra5, rc5, rfl⟩ := hs5.slices
  have le15 := le1.trans (le2.trans (le4.trans le5))
  first
  | refine xkp (Drop.forget le5) ?_
  | skip
  repeat' first
    | with_reducible refine xpl_or ?_ ?_
    | simp -dsimp -implicitDefEqProofs (disch := first | with_reducible assumption | omega) [go_sem]
    | with_reducible refine xkp (Drop.refl _ _) ?_
    | with_reducible refine xkp (Drop.forget le5) ?_
    | (with_reducible show xCall Tryz.prog 41 _ _ _ _
       refine same24_like (s := t) (v := ⟨.slice pa5 t.purses.length pc5, .slice ma5 t.members.length mc5, .slice ea5 t.entry.length ec5, .slice xa5 t.exit.length xc5, .slice oa5 t.pool.length oc5, .slice da5 t.dues.length dc5, .slice ta5 t.motions.length tc5, .slice ka5 t.marks.length kc5, .slice ra5 t.ring.length rc5⟩) (u := ⟨.slice pa4 t.purses.length pc4, .slice ma4 t.members.length mc4, .slice ea4 t.entry.length ec4, .slice xa4 t.exit.length xc4, .slice oa4 t.pool.length oc4, .slice da4 t.dues.length dc4, .slice ta4 t.motions.length tc4, .slice ka4 t.marks.length kc4, .slice ra4 t.ring.length rc4⟩) hs5 (i4.up le5) ?_)
    | (with_reducible show xCall Tryz.prog 36 _ _ _ _
       refine ints16_same _ _ (ir0.up (le4.trans le5)) (ir5.up le5) ?_)
  all_goals
    first
    | exact fin_tail (fin_tail (fin_here (hk h5 le15)))
    | trace_state
end Go.X
