/- The examples of layer 42, and the contract of the law TrialBetter. Conditions: numbers of 64 bits. -/
import Derived.Test.YtfilkbfkhdaakaaGreatUF
import Derived.Test.YtfilkbfkhdaakaaGreatUA
import Derived.Test.YtfilkbfkhdaakaaGreatTJ
set_option linter.unusedVariables false
set_option linter.unusedSimpArgs false
set_option maxRecDepth 20000
namespace Go.X
open Go.RowKit Go.Proofs Go.Bl
variable {L : Own} {h : PH} {K : PK}
def simpQ : ParD := { simpP with cap := 30 }
theorem simpQ_ok : ParOk simpQ := by
  constructor
  · intro z hz
    simp only [wides, simpQ, simpP, List.mem_cons, List.not_mem_nil, or_false] at hz
    omega
  · intro z hz
    simp only [narrows, simpQ, simpP, List.mem_cons, List.not_mem_nil, or_false] at hz
    omega
theorem simpQ_right : parR simpQ = true := by decide +kernel
theorem simpS_own : OwnFew simpS := by
  constructor <;> first | decide | (intro x hx; cases hx)
theorem simp_adX : adX simpS simpQ = ([⟨25, 20, 0, 0, 0, 2⟩, ⟨30, 30, 0, 0, 1, 2⟩], [500, 210]) := by
  kernel_rfl
theorem simp_no (k : Nat) (hk : k < simpS.members.length) : ¬ ejP simpQ (gr zeroM (adX simpS simpQ).1 k) := by
  rw [simp_adX]
  have : k < 2 := hk
  rcases (by omega : k = 0 ∨ k = 1) with rfl | rfl
  · simp [gr, ejP, cntM, simpQ, simpP]
  · simp [gr, ejP, cntM, simpQ, simpP]
theorem simp_ad : (adS0 simpS simpQ).members = [⟨25, 20, 0, 0, 0, 2⟩, ⟨30, 30, 0, 0, 1, 2⟩] ∧ (adS0 simpS simpQ).purses = [500, 210] := by
  exact ⟨by kernel_rfl, by kernel_rfl⟩
set_option maxHeartbeats 6400000 in
theorem awake42_any (hk : ∀ h', PH.le h h' → K (.bool true) L h') : Spec Tryz.prog 37 [] L h K := by
  refine x_enter Tryz.func37 rfl (rs := [_]) rfl rfl mixed (by kernel_rfl) rfl rfl ?_
  simp -dsimp -implicitDefEqProofs (disch := first | with_reducible assumption | omega) [go_sem]
  refine simple24_any fun h3 pa pc fa fc le3 g3 => ?_
  simp -dsimp -implicitDefEqProofs (disch := first | with_reducible assumption | omega) [go_sem]
  refine newsimp_any g3 fun h4 u le4 s4 => ?_
  obtain ⟨s, es⟩ : ∃ s, s = simpS := ⟨_, rfl⟩
  rw [← es] at s4 ⊢
  have fs : FewS s := es ▸ simpS_few
  have os : OwnFew s := es ▸ simpS_own
  have ff : fitsS s = true := es ▸ simpS_fits
  have nn : ∀ k, k < s.members.length → ¬ ejP simpQ (gr zeroM (adX s simpQ).1 k) := es ▸ simp_no
  have am : (adS0 s simpQ).members = [⟨25, 20, 0, 0, 0, 2⟩, ⟨30, 30, 0, 0, 1, 2⟩] ∧ (adS0 s simpQ).purses = [500, 210] := es ▸ simp_ad
  clear es
  have s40 := s4
  obtain ⟨pa, pc, ma, mc, ea, ec, xa, xc, oa, oc, da, dc, ta, tc, ka, kc, ra, rc, rfl⟩ := s4.slices
  simp -dsimp -implicitDefEqProofs (disch := first | with_reducible assumption | omega) [go_sem]
  refine xnew fun b1 n_b1 h_b1 => ?_
  try simp only [Apart] at n_b1
  simp -dsimp -implicitDefEqProofs (disch := first | with_reducible assumption | omega) [go_sem]
  refine simple07_any ?_
  simp -dsimp -implicitDefEqProofs (disch := first | with_reducible assumption | omega) [go_sem]
  refine xnew fun b2 n_b2 h_b2 => ?_
  try simp only [Apart] at n_b2
  simp -dsimp -implicitDefEqProofs (disch := first | with_reducible assumption | omega) [go_sem]
  refine Spec.ap (adopt0_any (s := s) ⟨.slice pa s.purses.length pc, .slice ma s.members.length mc, .slice ea s.entry.length ec, .slice xa s.exit.length xc, .slice oa s.pool.length oc, .slice da s.dues.length dc, .slice ta s.motions.length tc, .slice ka s.marks.length kc, .slice ra s.ring.length rc⟩ s40 fs os ff simpQ simpQ_right simpQ_ok nn fun h5 u5 le5 s5 ap => ?_)
  simp only [Ap] at ap
  obtain ⟨a2, a1, _⟩ := ap
  obtain ⟨t, et⟩ : ∃ t, t = adS0 s simpQ := ⟨_, rfl⟩
  rw [← et] at s5 am ⊢
  clear et
  obtain ⟨am1, am2⟩ := am
  have hm2 : t.members.length = 2 := by rw [am1]; rfl
  have hp2 : t.purses.length = 2 := by rw [am2]; rfl
  obtain ⟨pa2, pc2, ma2, mc2, ea2, ec2, xa2, xc2, oa2, oc2, da2, dc2, ta2, tc2, ka2, kc2, ra2, rc2, rfl⟩ := s5.slices
  have hd : Recs memC 6 h5 (.slice ma2 t.members.length mc2) t.members := s5.m
  obtain ⟨pa', pc', ep, _, _, _, hcp⟩ := s5.p.open
  injection ep with ep1 ep2 ep3
  subst ep1
  rw [hp2] at hcp
  have hb1 : gr zeroM t.members 1 = ⟨30, 30, 0, 0, 1, 2⟩ := by rw [am1]; rfl
  have hp1 : at0 t.purses 1 = 210 := by rw [am2]; rfl
  rw [hm2] at hd
  simp only [hm2, hp2]
  simp -dsimp -implicitDefEqProofs (disch := first | with_reducible assumption | omega) [go_sem]
  refine xnew fun b4 n_b4 h_b4 => ?_
  try simp only [Apart] at n_b4
  have hcl : elemCell h5 ma2 (6 + 0) = some (.int .u64 30) := by
    have := hd.cell (z := zeroM) (i := 1) (m := 0) (by rw [hm2]; decide) (by decide)
    rw [hb1] at this
    exact this
  have hne : ma2 ≠ none := fun e => by rw [e] at hcl; cases hcl
  have f1 : ∀ (K : Value → Prop) (t : Tok K), xAddO (.pointer (elem ma2 6)) 0 K t = K (.pointer (elem ma2 6)) := fun K t => xAddO_elem hne _ _ K
  have f2 : ∀ (K : Option Addr → Prop) (t : Tok K), xPtr (.pointer (elem ma2 6)) K t = K (elem ma2 6) := fun K t => xPtr_elem hne K
  have f3 : ∀ (L : Own) (K : Value → Prop) (t : Tok K), xCell L h5 (elem ma2 6) 0 K t = K (.int .u64 30) := fun L K t => xCell_elem hcl K
  simp -dsimp -implicitDefEqProofs (disch := first | with_reducible assumption | omega) [go_sem, ↓idxR zeroM (by decide) hd, memC, f1, f2, f3, idx hcp, hp1]
  refine better_any ⟨0, 0, 0, 0, 0, 0⟩ ⟨3, 0, 0, 0, 0, 0⟩ ⟨by simp, by simp⟩ ⟨by simp, by simp⟩ (by decide) (by decide) ?_
  rw [show betB ⟨0, 0, 0, 0, 0, 0⟩ ⟨3, 0, 0, 0, 0, 0⟩ = true by decide +kernel]
  simp -dsimp -implicitDefEqProofs (disch := first | with_reducible assumption | omega) [go_sem]
  exact fin_tail (fin_tail (fin_tail (fin_here (hk h5 (le3.trans (le4.trans le5))))))
theorem trialbetter_any (v0 v1 : Value) (e0 : ∃ q : OutD, v0 = outV q ∧ OutOk q) (e1 : ∃ q : OutD, v1 = outV q ∧ OutOk q) (hk : ∀ h', PH.le h h' → K (.bool true) L h') : Spec Tryz.prog 6 [v0, v1] L h K := by
  obtain ⟨a, rfl, oa⟩ := e0
  obtain ⟨b, rfl, ob⟩ := e1
  refine x_enter Tryz.func6 rfl (rs := [_]) rfl rfl mixed (by kernel_rfl) rfl rfl ?_
  simp -dsimp -implicitDefEqProofs (disch := first | with_reducible assumption | omega) [go_sem]
  refine xnew fun b2 n_b2 h_b2 => ?_
  try simp only [Apart] at n_b2
  simp -dsimp -implicitDefEqProofs (disch := first | with_reducible assumption | omega) [go_sem]
  refine xnew fun b3 n_b3 h_b3 => ?_
  try simp only [Apart] at n_b3
  simp -dsimp -implicitDefEqProofs (disch := first | with_reducible assumption | omega) [go_sem]
  refine Spec.ap (awake42_any fun h1 le1 ap => ?_)
  simp only [Ap] at ap
  obtain ⟨a3, a2, _⟩ := ap
  have hk1 := hk h1 le1
  simp -dsimp -implicitDefEqProofs (disch := first | with_reducible assumption | omega) [go_sem]
  by_cases c1 : a.q < 0
  · simp -dsimp -implicitDefEqProofs (disch := first | with_reducible assumption | omega) [go_sem]
    exact fin_tail (fin_tail (fin_here hk1))
  by_cases c2 : b.q < 0
  · simp -dsimp -implicitDefEqProofs (disch := first | with_reducible assumption | omega) [go_sem]
    exact fin_tail (fin_tail (fin_here hk1))
  simp -dsimp -implicitDefEqProofs (disch := first | with_reducible assumption | omega) [go_sem]
  refine xany_cut (.tkl 0 (.or true 1 (.or true 2 (.or true 3 (.or false 4 (.or false 5 (.fin) (.nil)) (.nil)) (.nil)) (.or true 3 (.or true 2 (.or false 4 (.or false 5 (.fin) (.nil)) (.nil)) (.nil)) (.nil))) (.or true 2 (.or true 1 (.or true 3 (.or false 4 (.or false 5 (.fin) (.nil)) (.nil)) (.nil)) (.or true 3 (.or true 1 (.or false 4 (.or false 5 (.fin) (.nil)) (.nil)) (.or false 4 (.or true 1 (.or false 5 (.fin) (.nil)) (.nil)) (.nil))) (.nil))) (.or true 3 (.or true 1 (.or true 2 (.or false 4 (.or false 5 (.fin) (.nil)) (.nil)) (.nil)) (.or true 2 (.or true 1 (.or false 4 (.or false 5 (.fin) (.nil)) (.nil)) (.or false 4 (.or true 1 (.or false 5 (.fin) (.nil)) (.nil)) (.nil))) (.nil))) (.nil))))) (by kernel_rfl) (by kernel_rfl) [(2, .pointer (some ⟨b2, 0, none⟩)), (3, .pointer (some ⟨b3, 0, none⟩))] (⟨b3, 86, outC b, 6⟩ :: ⟨b2, 86, outC a, 6⟩ :: L) (γ := Nat × Nat)
    (fun s => h1 s.1 = noC ∧ h1 s.2 = noC ∧ s.1 ≠ s.2 ∧ b3 ≠ s.1 ∧ b2 ≠ s.1 ∧ b3 ≠ s.2 ∧ b2 ≠ s.2)
    (fun s => [(2, .pointer (some ⟨b2, 0, none⟩)), (3, .pointer (some ⟨b3, 0, none⟩)), (5, .pointer (some ⟨s.1, 0, none⟩)), (6, .pointer (some ⟨s.2, 0, none⟩))])
    (fun s => ⟨s.1, 87, outC a, 6⟩ :: ⟨s.2, 87, outC b, 6⟩ :: ⟨b3, 86, outC b, 6⟩ :: ⟨b2, 86, outC a, 6⟩ :: L) (fun _ => h1) (by simp [Ent, List.lookup]) (Drop.refl _ _) ?_ ?_
  · repeat' first
      | with_reducible refine xpl_or ?_ ?_
      | with_reducible refine xkp (Drop.tail _ _ _) ?_
      | with_reducible refine xkp ((Drop.tail _ _ _).trans (Drop.tail _ _ _)) ?_
      | simp -dsimp -implicitDefEqProofs (disch := first | with_reducible assumption | omega) [go_sem]
      | (fail_if_success (have hh := h_bA)
         with_reducible refine xnew fun bA n_bA h_bA => ?_
         simp only [Apart] at n_bA)
      | (with_reducible refine xnew fun bB n_bB h_bB => ?_
         simp only [Apart] at n_bB)
    all_goals
      first
      | exact ⟨bA, bB, ⟨h_bA, h_bB, n_bB.1, n_bA.1, n_bA.2.1, n_bB.2.1, n_bB.2.2.1⟩, by simp [Ent, List.lookup], Drop.perm _ (List.Perm.swap _ _ _)⟩
      | exact ⟨bB, bA, ⟨h_bB, h_bA, Ne.symm n_bB.1, n_bB.2.1, n_bB.2.2.1, n_bA.1, n_bA.2.1⟩, by simp [Ent, List.lookup], Drop.refl _ _⟩
  rintro ⟨b5, b6⟩ ⟨q5, q6, n56, n35, n25, n36, n26⟩
  simp only at q5 q6 n56 n35 n25 n36 n26 ⊢
  have ha0 : 0 ≤ a.q := by omega
  have hb0 : 0 ≤ b.q := by omega
  have e1 := bet_same a b oa ob ha0 hb0
  have e2 := bet_same b a ob oa hb0 ha0
  have e3 := bet_self a
  have e4 := bet_not a b
  have d1 : ∀ {L : Own} {K : PK}, K (.bool (betB a b)) L h1 → Spec Tryz.prog 42 [outV a, outV b] L h1 K := fun hk => better_any a b oa ob ha0 hb0 hk
  have d2 : ∀ {L : Own} {K : PK}, K (.bool (betB b a)) L h1 → Spec Tryz.prog 42 [outV b, outV a] L h1 K := fun hk => better_any b a ob oa hb0 ha0 hk
  have d3 : ∀ {L : Own} {K : PK}, K (.bool (betB a a)) L h1 → Spec Tryz.prog 42 [outV a, outV a] L h1 K := fun hk => better_any a a oa oa ha0 ha0 hk
  have d4 : ∀ {L : Own} {K : PK}, K (.bool (betB a b)) L h1 → Spec Tryz.prog 43 [outV a, outV b] L h1 K := fun hk => rbet_any a b (by rw [← e1]; exact hk)
  have d5 : ∀ {L : Own} {K : PK}, K (.bool (betB b a)) L h1 → Spec Tryz.prog 43 [outV b, outV a] L h1 K := fun hk => rbet_any b a (by rw [← e2]; exact hk)
  rw [e3] at d3
  cases x1 : betB a b with
  | true =>
    have x2 := e4 x1
    rw [x1] at d1 d4
    rw [x2] at d2 d5
    simp -dsimp -implicitDefEqProofs (disch := first | with_reducible assumption | omega) [go_sem]
    refine xdraw (by kernel_rfl) rfl ?_
    simp -dsimp -implicitDefEqProofs (disch := first | with_reducible assumption | omega) [go_sem]
    refine xdcall _ (d1 ⟨rfl, rfl, rfl⟩) ?_
    simp -dsimp -implicitDefEqProofs (disch := first | with_reducible assumption | omega) [go_sem]
    refine xdcall _ (d4 ⟨rfl, rfl, rfl⟩) ?_
    simp -dsimp -implicitDefEqProofs (disch := first | with_reducible assumption | omega) [go_sem]
    refine xdcall _ (d2 ⟨rfl, rfl, rfl⟩) ?_
    simp -dsimp -implicitDefEqProofs (disch := first | with_reducible assumption | omega) [go_sem]
    refine xdcall _ (d5 ⟨rfl, rfl, rfl⟩) ?_
    simp -dsimp -implicitDefEqProofs (disch := first | with_reducible assumption | omega) [go_sem]
    refine xdcall _ (d3 ⟨rfl, rfl, rfl⟩) ?_
    simp -dsimp -implicitDefEqProofs (disch := first | with_reducible assumption | omega) [go_sem]
    refine xdcall _ (d1 ⟨rfl, rfl, rfl⟩) ?_
    simp -dsimp -implicitDefEqProofs (disch := first | with_reducible assumption | omega) [go_sem]
    refine xdcall _ (d2 ⟨rfl, rfl, rfl⟩) ?_
    simp -dsimp -implicitDefEqProofs (disch := first | with_reducible assumption | omega) [go_sem]
    exact fin_tail (fin_tail (fin_tail (fin_tail (fin_here hk1))))
  | false =>
    rw [x1] at d1 d4
    cases x2 : betB b a with
    | true =>
      rw [x2] at d2 d5
      simp -dsimp -implicitDefEqProofs (disch := first | with_reducible assumption | omega) [go_sem]
      refine xdraw (by kernel_rfl) rfl ?_
      simp -dsimp -implicitDefEqProofs (disch := first | with_reducible assumption | omega) [go_sem]
      refine xdcall _ (d1 ⟨rfl, rfl, rfl⟩) ?_
      simp -dsimp -implicitDefEqProofs (disch := first | with_reducible assumption | omega) [go_sem]
      refine xdcall _ (d4 ⟨rfl, rfl, rfl⟩) ?_
      simp -dsimp -implicitDefEqProofs (disch := first | with_reducible assumption | omega) [go_sem]
      refine xdcall _ (d2 ⟨rfl, rfl, rfl⟩) ?_
      simp -dsimp -implicitDefEqProofs (disch := first | with_reducible assumption | omega) [go_sem]
      refine xdcall _ (d5 ⟨rfl, rfl, rfl⟩) ?_
      simp -dsimp -implicitDefEqProofs (disch := first | with_reducible assumption | omega) [go_sem]
      refine xdcall _ (d3 ⟨rfl, rfl, rfl⟩) ?_
      simp -dsimp -implicitDefEqProofs (disch := first | with_reducible assumption | omega) [go_sem]
      refine xdcall _ (d1 ⟨rfl, rfl, rfl⟩) ?_
      simp -dsimp -implicitDefEqProofs (disch := first | with_reducible assumption | omega) [go_sem]
      exact fin_tail (fin_tail (fin_tail (fin_tail (fin_here hk1))))
    | false =>
      rw [x2] at d2 d5
      simp -dsimp -implicitDefEqProofs (disch := first | with_reducible assumption | omega) [go_sem]
      refine xdraw (by kernel_rfl) rfl ?_
      simp -dsimp -implicitDefEqProofs (disch := first | with_reducible assumption | omega) [go_sem]
      refine xdcall _ (d1 ⟨rfl, rfl, rfl⟩) ?_
      simp -dsimp -implicitDefEqProofs (disch := first | with_reducible assumption | omega) [go_sem]
      refine xdcall _ (d4 ⟨rfl, rfl, rfl⟩) ?_
      simp -dsimp -implicitDefEqProofs (disch := first | with_reducible assumption | omega) [go_sem]
      refine xdcall _ (d2 ⟨rfl, rfl, rfl⟩) ?_
      simp -dsimp -implicitDefEqProofs (disch := first | with_reducible assumption | omega) [go_sem]
      refine xdcall _ (d5 ⟨rfl, rfl, rfl⟩) ?_
      simp -dsimp -implicitDefEqProofs (disch := first | with_reducible assumption | omega) [go_sem]
      refine xdcall _ (d3 ⟨rfl, rfl, rfl⟩) ?_
      simp -dsimp -implicitDefEqProofs (disch := first | with_reducible assumption | omega) [go_sem]
      refine xdcall _ (d1 ⟨rfl, rfl, rfl⟩) ?_
      simp -dsimp -implicitDefEqProofs (disch := first | with_reducible assumption | omega) [go_sem]
      exact fin_tail (fin_tail (fin_tail (fin_tail (fin_here hk1))))
end Go.X
