/- The contract of the law CertMeets. Conditions: the values read as a certificate and as bytes. -/
import Derived.Test.YtbobjcapmfpmkaaWR
import Derived.Test.YtbobjcapmfpmkaaXB
set_option linter.unusedVariables false
set_option linter.unusedSimpArgs false
namespace Go.X
open Go.RowKit Go.Proofs Go.Bl
variable {L : Own} {h : PH} {K : PK}
theorem finC_right {c : CertD} (h : finC c = true) : rightC c = true ∧ 0 < actv c ∧ 2 * actv c < 3 * pres c := by
  simp only [finC, Bool.and_eq_true, decide_eq_true_eq] at h
  exact ⟨h.1, h.2.1, h.2.2⟩
theorem finC_of {c : CertD} (h : rightC c = true) (h1 : 0 < actv c) (h2 : 2 * actv c < 3 * pres c) : finC c = true := by
  simp [finC, h, h1, h2]
theorem sign_final {c : CertD} (i : Int) (hb : ∀ i, 0 ≤ at0 c.bs i ∧ at0 c.bs i ≤ 255) (h0 : ∀ i, 0 ≤ at0 c.st i) (he : (signC c i).2 = 0) (hf : finC c = true) : finC (signC c i).1 = true := by
  obtain ⟨hr, f1, f2⟩ := finC_right hf
  have hl := rightC_len hr
  have hh := headC_facts (rightC_head hr)
  unfold signC at he ⊢
  rw [if_neg (by simp [hr])] at he ⊢
  by_cases h1 : i < 0 ∨ c.mem ≤ i ∨ at0 c.st i.toNat = 0
  · rw [if_pos h1] at he; simp at he
  rw [if_neg h1] at he ⊢
  cases hg : getB c.bs i with
  | true => rw [hg, if_pos rfl] at he; simp at he
  | false =>
    rw [if_neg (by simp)]
    refine finC_of (right_signed i hb hr (by omega) (by omega) (by omega)) f1 ?_
    have : wsum c.st (sgn c) c.st.length ≤ wsum c.st (sgn { c with bs := setB c.bs i }) c.st.length := wsum_mono c.st h0 _ _ (fun j hj => by
      simp only [sgn] at hj ⊢
      rw [getB_setB hb i (by omega) (by omega) j, hj]; simp) _
    have e1 : actv { c with bs := setB c.bs i } = actv c := rfl
    unfold pres at f2 ⊢
    rw [e1]
    simp only at this ⊢
    omega
set_option maxHeartbeats 1600000 in
set_option maxRecDepth 20000 in
theorem certmeets_any {c : CertD} {bs : List Int} (v u : Value) (i : Int) (hc : IsCert h v c) (hu : Ints h .u8 u bs) (hi0 : -9223372036854775808 ≤ i ∧ i ≤ 9223372036854775807) (hk : ∀ h', PH.le h h' → K (.bool true) L h') : Spec Try.prog 5 [v, u, .int .i64 i] L h K := by
  have hi := hi0.2
  have hc0 := hc
  obtain ⟨sv, bv, rfl, hs, hb, r1, r2, r3, r4⟩ := hc
  have hsw := hs.word
  have hbb := hb.byte
  have os := hs.open
  obtain ⟨a, ca, rfl, _⟩ := os
  have ob := hb.open
  obtain ⟨b, cb, rfl, _⟩ := ob
  have ou := hu.open
  obtain ⟨a', ca', rfl, _⟩ := ou
  obtain ⟨d, hdd⟩ : ∃ d : CertD, d = ⟨c.ep, c.mem, c.st, bs⟩ := ⟨_, rfl⟩
  have g1 : d.ep = c.ep := by rw [hdd]
  have g2 : d.mem = c.mem := by rw [hdd]
  have g3 : d.st = c.st := by rw [hdd]
  have hd0 : IsCert h (.agg #[.int .i64 c.ep, .int .i64 c.mem, .slice a c.st.length ca, .slice a' bs.length ca']) d := by
    subst hdd
    exact ⟨_, _, rfl, hs, hu, r1, r2, r3, r4⟩
  refine x_enter Try.func5 rfl (rs := [_]) rfl rfl mixed (by kernel_rfl) rfl rfl ?_
  simp -dsimp -implicitDefEqProofs (disch := first | with_reducible assumption | omega) [go_sem]
  refine xnew fun b1 n_b1 h_b1 => ?_
  try simp only [Apart] at n_b1
  simp -dsimp -implicitDefEqProofs (disch := first | with_reducible assumption | omega) [go_sem]
  refine Spec.ap (awake40_any fun h1 le1 ap => ?_)
  simp only [Ap] at ap
  obtain ⟨a1, _⟩ := ap
  simp -dsimp -implicitDefEqProofs (disch := first | with_reducible assumption | omega) [go_sem]
  refine few_any _ (hc0.up le1) ?_
  by_cases l1 : ¬ ((c.st.length : Int) ≤ 300 ∧ (c.bs.length : Int) ≤ 100)
  · have : (decide ((c.st.length : Int) ≤ 300) && decide ((c.bs.length : Int) ≤ 100)) = false := by
      rw [← Bool.decide_and]; exact decide_eq_false l1
    rw [this]
    simp -dsimp -implicitDefEqProofs (disch := first | with_reducible assumption | omega) [go_sem]
    exact fin_tail (fin_here (hk h1 le1))
  have e1 : (decide ((c.st.length : Int) ≤ 300) && decide ((c.bs.length : Int) ≤ 100)) = true := by
    rw [← Bool.decide_and]; exact decide_eq_true (Decidable.not_not.1 l1)
  rw [e1]
  by_cases l2 : (bs.length : Int) > 100
  · simp -dsimp -implicitDefEqProofs (disch := first | with_reducible assumption | omega) [go_sem]
    exact fin_tail (fin_here (hk h1 le1))
  simp -dsimp -implicitDefEqProofs (disch := first | with_reducible assumption | omega) [go_sem]
  refine check_any _ (hc0.up le1) ?_
  cases hr : rightC c with
  | false =>
    simp only [Bool.false_eq_true, if_false]
    simp -dsimp -implicitDefEqProofs (disch := first | with_reducible assumption | omega) [go_sem]
    exact fin_tail (fin_here (hk h1 le1))
  | true =>
  simp only [if_true]
  simp -dsimp -implicitDefEqProofs (disch := first | with_reducible assumption | omega) [go_sem]
  refine xnew fun b2 n_b2 h_b2 => ?_
  try simp only [Apart] at n_b2
  simp -dsimp -implicitDefEqProofs (disch := first | with_reducible assumption | omega) [go_sem]
  refine check_any _ (hd0.up le1) ?_
  cases hr' : rightC d with
  | false =>
    simp only [Bool.false_eq_true, if_false]
    simp -dsimp -implicitDefEqProofs (disch := first | with_reducible assumption | omega) [go_sem]
    exact fin_tail (fin_tail (fin_here (hk h1 le1)))
  | true =>
  simp only [if_true]
  have hal : alikeC c d = 0 := by simp [alikeC, hr, hr', g1, g2, g3]
  have eo : actv d = actv c := by unfold actv; rw [g3]
  have eb : bothV c d = .tuple #[.int .u64 (wsum c.st (fun i => getB c.bs i && getB d.bs i) c.st.length), .int .i64 0] := by unfold bothV; rw [if_pos hal]
  have b1' := wsum_le hc0 hr (sgn c)
  have b2' := wsum_le hc0 hr (sgn d)
  have b3' := wsum_le hc0 hr (fun _ => true)
  have b4' := wsum_le hc0 hr (fun i => getB c.bs i && getB d.bs i)
  have b5' := wsum_le hc0 hr (fun i => getB c.bs i || getB d.bs i)
  have ep : pres d = wsum c.st (sgn d) c.st.length := by unfold pres; rw [g3]
  have oa : wsum c.st (fun i => getB c.bs i || getB d.bs i) c.st.length + wsum c.st (fun i => getB c.bs i && getB d.bs i) c.st.length = pres c + pres d := by
    rw [ep]; exact wsum_or_and c.st (sgn c) (sgn d) c.st.length
  have om : wsum c.st (fun i => getB c.bs i || getB d.bs i) c.st.length ≤ actv c := wsum_mono c.st (fun i => (hsw i).1) _ _ (fun _ _ => rfl) _
  have oc : wsum c.st (fun i => getB c.bs i && getB d.bs i) c.st.length ≤ pres c := wsum_mono c.st (fun i => (hsw i).1) _ _ (fun j hj => by simp only [sgn]; simp only [Bool.and_eq_true] at hj; exact hj.1) _
  have oc' : pres c ≤ wsum c.st (fun i => getB c.bs i || getB d.bs i) c.st.length := wsum_mono c.st (fun i => (hsw i).1) _ _ (fun j hj => by simp only [sgn] at hj; simp [hj]) _
  have p0 : 0 ≤ pres c ∧ pres c ≤ 140737488355328 := b1'
  have p1 : 0 ≤ pres d ∧ pres d ≤ 140737488355328 := by rw [ep]; exact b2'
  have p2 : 0 ≤ actv c ∧ actv c ≤ 140737488355328 := b3'
  have fc : finC c = (decide (0 < actv c) && decide (2 * actv c < 3 * pres c)) := by simp [finC, hr]
  simp -dsimp -implicitDefEqProofs (disch := first | with_reducible assumption | omega) [go_sem]
  refine weight_any _ (hc0.up le1) ?_
  simp only [hr, if_true]
  simp -dsimp -implicitDefEqProofs (disch := first | with_reducible assumption | omega) [go_sem]
  refine weight_any _ (hd0.up le1) ?_
  simp only [hr', if_true, eo]
  simp -dsimp -implicitDefEqProofs (disch := first | with_reducible assumption | omega) [go_sem]
  refine both_any _ _ (hc0.up le1) (hd0.up le1) ?_
  rw [eb]
  simp -dsimp -implicitDefEqProofs (disch := first | with_reducible assumption | omega) [go_sem]
  refine Spec.ap (merge_any _ _ (hc0.up le1) (hd0.up le1) fun h4 m e le4 im ap => ?_)
  simp only [Ap] at ap
  obtain ⟨s2, s1, _⟩ := ap
  obtain ⟨em, mc, imc, hm⟩ := im
  rw [if_pos hal] at hm
  obtain ⟨m1, m2, m3, m4, m5⟩ := hm
  rw [hal] at em
  subst em
  have imc0 := imc
  obtain ⟨ma, mb, rfl, hma, hmb, _⟩ := imc
  have hrm : rightC mc = true := right_merged hmb.byte hr hr' g2 g3 m1 m2 m3 m4 m5
  have em1 : actv mc = actv c := by unfold actv; rw [m3]
  have em2 : pres mc = wsum c.st (fun i => getB c.bs i || getB d.bs i) c.st.length := by
    unfold pres; rw [m3]; exact wsum_congr _ _ _ (fun j => by simp only [sgn]; exact m5 j) _
  have oma := hma.open
  obtain ⟨ua, va, rfl, _⟩ := oma
  have omb := hmb.open
  obtain ⟨ub, vb, rfl, _⟩ := omb
  simp -dsimp -implicitDefEqProofs (disch := first | with_reducible assumption | omega) [go_sem]
  refine xnew fun b3 n_b3 h_b3 => ?_
  try simp only [Apart] at n_b3
  simp -dsimp -implicitDefEqProofs (disch := first | with_reducible assumption | omega) [go_sem]
  refine weight_any _ imc0 ?_
  simp only [hrm, if_true, em1, em2]
  simp -dsimp -implicitDefEqProofs (disch := first | with_reducible assumption | omega) [go_sem]
  refine final_any _ (hc0.up (le1.trans le4)) ?_
  simp -dsimp -implicitDefEqProofs (disch := first | with_reducible assumption | omega) [go_sem]
  refine rtwo_any _ _ (by omega) (by omega) ?_
  rw [← fc]
  cases hf : finC c with
  | false =>
    simp -dsimp -implicitDefEqProofs (disch := first | with_reducible assumption | omega) [go_sem]
    refine final_any _ (hc0.up (le1.trans le4)) ?_
    rw [hf]
    simp -dsimp -implicitDefEqProofs (disch := first | with_reducible assumption | omega) [go_sem]
    refine final_any _ (hc0.up (le1.trans le4)) ?_
    rw [hf]
    simp -dsimp -implicitDefEqProofs (disch := first | with_reducible assumption | omega) [go_sem]
    refine Spec.ap (sign_any _ i (hc0.up (le1.trans le4)) hi fun h5 r le5 is ap => ?_)
    simp only [Ap] at ap
    obtain ⟨t3, t2, t1, _⟩ := ap
    have is0 := is
    obtain ⟨sa, sb, rfl, hsa, hsb, _⟩ := is
    have osa := hsa.open
    obtain ⟨xa, ya, rfl, _⟩ := osa
    have osb := hsb.open
    obtain ⟨xb, yb, rfl, _⟩ := osb
    simp -dsimp -implicitDefEqProofs (disch := first | with_reducible assumption | omega) [go_sem]
    refine xnew fun b4 n_b4 h_b4 => ?_
    try simp only [Apart] at n_b4
    by_cases h0 : (signC c i).2 = 0
    · simp -dsimp -implicitDefEqProofs (disch := first | with_reducible assumption | omega) [go_sem]
      refine final_any _ (hc0.up (le1.trans (le4.trans le5))) ?_
      rw [hf]
      simp -dsimp -implicitDefEqProofs (disch := first | with_reducible assumption | omega) [go_sem]
      exact fin_tail (fin_tail (fin_tail (fin_tail (fin_here (hk h5 (le1.trans (le4.trans le5)))))))
    · simp -dsimp -implicitDefEqProofs (disch := first | with_reducible assumption | omega) [go_sem]
      exact fin_tail (fin_tail (fin_tail (fin_tail (fin_here (hk h5 (le1.trans (le4.trans le5)))))))
  | true =>
    obtain ⟨_, f1, f2⟩ := finC_right hf
    have hfm : finC mc = true := finC_of hrm (by omega) (by omega)
    simp -dsimp -implicitDefEqProofs (disch := first | with_reducible assumption | omega) [go_sem]
    refine final_any _ (hc0.up (le1.trans le4)) ?_
    rw [hf]
    simp -dsimp -implicitDefEqProofs (disch := first | with_reducible assumption | omega) [go_sem]
    refine final_any _ imc0 ?_
    rw [hfm]
    simp -dsimp -implicitDefEqProofs (disch := first | with_reducible assumption | omega) [go_sem]
    refine final_any _ (hc0.up (le1.trans le4)) ?_
    rw [hf]
    simp -dsimp -implicitDefEqProofs (disch := first | with_reducible assumption | omega) [go_sem]
    refine final_any _ (hd0.up (le1.trans le4)) ?_
    have key : finC d = true → ¬ (3 * wsum c.st (fun i => getB c.bs i && getB d.bs i) c.st.length ≤ actv c) := fun hfd => by
      obtain ⟨_, _, f4⟩ := finC_right hfd
      rw [eo] at f4
      omega
    cases hfd : finC d
    all_goals
      try have key' := key hfd
      simp -dsimp -implicitDefEqProofs (disch := first | with_reducible assumption | omega) [go_sem]
      refine Spec.ap (sign_any _ i (hc0.up (le1.trans le4)) hi fun h5 r le5 is ap => ?_)
      simp only [Ap] at ap
      obtain ⟨t3, t2, t1, _⟩ := ap
      have is0 := is
      obtain ⟨sa, sb, rfl, hsa, hsb, _⟩ := is
      have osa := hsa.open
      obtain ⟨xa, ya, rfl, _⟩ := osa
      have osb := hsb.open
      obtain ⟨xb, yb, rfl, _⟩ := osb
      simp -dsimp -implicitDefEqProofs (disch := first | with_reducible assumption | omega) [go_sem]
      refine xnew fun b4 n_b4 h_b4 => ?_
      try simp only [Apart] at n_b4
      by_cases h0 : (signC c i).2 = 0
      · have hfs := sign_final i hbb (fun j => (hsw j).1) h0 hf
        simp -dsimp -implicitDefEqProofs (disch := first | with_reducible assumption | omega) [go_sem]
        refine final_any _ (hc0.up (le1.trans (le4.trans le5))) ?_
        rw [hf]
        simp -dsimp -implicitDefEqProofs (disch := first | with_reducible assumption | omega) [go_sem]
        refine final_any _ is0 ?_
        rw [hfs]
        simp -dsimp -implicitDefEqProofs (disch := first | with_reducible assumption | omega) [go_sem]
        exact fin_tail (fin_tail (fin_tail (fin_tail (fin_here (hk h5 (le1.trans (le4.trans le5)))))))
      · simp -dsimp -implicitDefEqProofs (disch := first | with_reducible assumption | omega) [go_sem]
        exact fin_tail (fin_tail (fin_tail (fin_tail (fin_here (hk h5 (le1.trans (le4.trans le5)))))))
end Go.X
