/- The contract of the law CertSigns. Conditions: the values read as certificates. -/
import Derived.Test.YtbobjcapmfpmkaaWR
import Derived.Test.YtbobjcapmfpmkaaXB
set_option linter.unusedVariables false
set_option linter.unusedSimpArgs false
namespace Go.X
open Go.RowKit Go.Proofs Go.Bl
variable {L : Own} {h : PH} {K : PK}
/-- what Merge hands back is told by what it is -/
theorem merge_same {h h' : PH} {v v' : Value} {c d m n : CertD} (hm : IsCert h v m) (hn : IsCert h' v' n)
    (h1 : if alikeC c d = 0 then m.ep = c.ep ∧ m.mem = c.mem ∧ m.st = c.st ∧ (m.bs.length : Int) = (c.mem + 7) / 8 ∧ ∀ i : Nat, getB m.bs i = (getB c.bs i || getB d.bs i) else m = zeroC)
    (h2 : if alikeC c d = 0 then n.ep = c.ep ∧ n.mem = c.mem ∧ n.st = c.st ∧ (n.bs.length : Int) = (c.mem + 7) / 8 ∧ ∀ i : Nat, getB n.bs i = (getB c.bs i || getB d.bs i) else n = zeroC) : m = n := by
  obtain ⟨_, _, _, _, hb, _⟩ := hm
  obtain ⟨_, _, _, _, hb', _⟩ := hn
  by_cases ha : alikeC c d = 0
  · rw [if_pos ha] at h1 h2
    obtain ⟨a1, a2, a3, a4, a5⟩ := h1
    obtain ⟨b1, b2, b3, b4, b5⟩ := h2
    have : m.bs = n.bs := bits_ext hb.byte hb'.byte (by omega) fun i _ => by rw [a5 i, b5 i]
    cases m; cases n
    simp_all
  · rw [if_neg ha] at h1 h2
    rw [h1, h2]
set_option maxHeartbeats 4000000 in
set_option maxRecDepth 20000 in
theorem certsigns_any {c d : CertD} (v u : Value) (i : Int) (hc : IsCert h v c) (hd : IsCert h u d) (hi0 : -9223372036854775808 ≤ i ∧ i ≤ 9223372036854775807) (hk : ∀ h', PH.le h h' → K (.bool true) L h') : Spec Try.prog 4 [v, u, .int .i64 i] L h K := by
  have hi := hi0.2
  have hc0 := hc
  have hd0 := hd
  obtain ⟨sv, bv, rfl, hs, hb, r1, r2, r3, r4⟩ := hc
  obtain ⟨su, bu, rfl, hs', hb', q1, q2, q3, q4⟩ := hd
  have os := hs.open
  obtain ⟨a, ca, rfl, _⟩ := os
  have ob := hb.open
  obtain ⟨b, cb, rfl, _⟩ := ob
  have os' := hs'.open
  obtain ⟨a', ca', rfl, _⟩ := os'
  have ob' := hb'.open
  obtain ⟨b', cb', rfl, _⟩ := ob'
  refine x_enter Try.func4 rfl (rs := [_]) rfl rfl mixed (by kernel_rfl) rfl rfl ?_
  simp -dsimp -implicitDefEqProofs (disch := first | with_reducible assumption | omega) [go_sem]
  refine xnew fun b1 n_b1 h_b1 => ?_
  try simp only [Apart] at n_b1
  simp -dsimp -implicitDefEqProofs (disch := first | with_reducible assumption | omega) [go_sem]
  refine xnew fun b2 n_b2 h_b2 => ?_
  try simp only [Apart] at n_b2
  simp -dsimp -implicitDefEqProofs (disch := first | with_reducible assumption | omega) [go_sem]
  refine Spec.ap (awake40_any fun h1 le1 ap => ?_)
  simp only [Ap] at ap
  obtain ⟨a2, a1, _⟩ := ap
  simp -dsimp -implicitDefEqProofs (disch := first | with_reducible assumption | omega) [go_sem]
  refine few_any _ (hc0.up le1) ?_
  by_cases l1 : ¬ ((c.st.length : Int) ≤ 300 ∧ (c.bs.length : Int) ≤ 100)
  · have : (decide ((c.st.length : Int) ≤ 300) && decide ((c.bs.length : Int) ≤ 100)) = false := by
      rw [← Bool.decide_and]; exact decide_eq_false l1
    rw [this]
    simp -dsimp -implicitDefEqProofs (disch := first | with_reducible assumption | omega) [go_sem]
    exact fin_tail (fin_tail (fin_here (hk h1 le1)))
  have e1 : (decide ((c.st.length : Int) ≤ 300) && decide ((c.bs.length : Int) ≤ 100)) = true := by
    rw [← Bool.decide_and]; exact decide_eq_true (Decidable.not_not.1 l1)
  rw [e1]
  simp -dsimp -implicitDefEqProofs (disch := first | with_reducible assumption | omega) [go_sem]
  refine few_any _ (hd0.up le1) ?_
  by_cases l2 : ¬ ((d.st.length : Int) ≤ 300 ∧ (d.bs.length : Int) ≤ 100)
  · have : (decide ((d.st.length : Int) ≤ 300) && decide ((d.bs.length : Int) ≤ 100)) = false := by
      rw [← Bool.decide_and]; exact decide_eq_false l2
    rw [this]
    simp -dsimp -implicitDefEqProofs (disch := first | with_reducible assumption | omega) [go_sem]
    exact fin_tail (fin_tail (fin_here (hk h1 le1)))
  have e2 : (decide ((d.st.length : Int) ≤ 300) && decide ((d.bs.length : Int) ≤ 100)) = true := by
    rw [← Bool.decide_and]; exact decide_eq_true (Decidable.not_not.1 l2)
  rw [e2]
  simp -dsimp -implicitDefEqProofs (disch := first | with_reducible assumption | omega) [go_sem]
  refine Spec.ap (sign_any _ i (hc0.up le1) hi fun h2 r le2 is ap => ?_)
  simp only [Ap] at ap
  obtain ⟨a2', a1', _⟩ := ap
  have is0 := is
  obtain ⟨sa, sb, rfl, hsa, hsb, _⟩ := is
  have osa := hsa.open
  obtain ⟨xa, ya, rfl, _⟩ := osa
  have osb := hsb.open
  obtain ⟨xb, yb, rfl, _⟩ := osb
  simp -dsimp -implicitDefEqProofs (disch := first | with_reducible assumption | omega) [go_sem]
  refine xnew fun b3 n_b3 h_b3 => ?_
  try simp only [Apart] at n_b3
  simp -dsimp -implicitDefEqProofs (disch := first | with_reducible assumption | omega) [go_sem]
  refine plain_any _ (hc0.up (le1.trans le2)) ?_
  simp -dsimp -implicitDefEqProofs (disch := first | with_reducible assumption | omega) [go_sem]
  refine Spec.ap (refsign_any _ i (hc0.up (le1.trans le2)) hi fun h3 r' le3 it ap => ?_)
  simp only [Ap] at ap
  obtain ⟨p3, p2, p1, _⟩ := ap
  have it0 := it
  obtain ⟨ta, tb, rfl, hta, htb, _⟩ := it
  have ota := hta.open
  obtain ⟨za, wa, rfl, _⟩ := ota
  have otb := htb.open
  obtain ⟨zb, wb, rfl, _⟩ := otb
  simp -dsimp -implicitDefEqProofs (disch := first | with_reducible assumption | omega) [go_sem]
  refine xnew fun b4 n_b4 h_b4 => ?_
  try simp only [Apart] at n_b4
  simp -dsimp -implicitDefEqProofs (disch := first | with_reducible assumption | omega) [go_sem]
  refine Spec.ap (merge_any _ _ (hc0.up (le1.trans (le2.trans le3))) (hd0.up (le1.trans (le2.trans le3))) fun h4 m e le4 im ap => ?_)
  simp only [Ap] at ap
  obtain ⟨s4, s3, s2, s1, _⟩ := ap
  obtain ⟨em, mc, imc, hm⟩ := im
  have imc0 := imc
  obtain ⟨ma, mb, rfl, hma, hmb, _⟩ := imc
  have oma := hma.open
  obtain ⟨ua, va, rfl, _⟩ := oma
  have omb := hmb.open
  obtain ⟨ub, vb, rfl, _⟩ := omb
  simp -dsimp -implicitDefEqProofs (disch := first | with_reducible assumption | omega) [go_sem]
  refine xnew fun b5 n_b5 h_b5 => ?_
  try simp only [Apart] at n_b5
  simp -dsimp -implicitDefEqProofs (disch := first | with_reducible assumption | omega) [go_sem]
  have hcx := hc0.up (le1.trans (le2.trans (le3.trans le4)))
  have hdx := hd0.up (le1.trans (le2.trans (le3.trans le4)))
  refine xany_cut (.tkl 0 (.tkl 2 (.or true 1 (.or true 3 (.or true 4 (.tk 5 (.tk 6 (.tk 7 (.or true 8 (.or false 9 (.tk 10 (.fin)) (.nil)) (.nil))))) (.or true 8 (.or true 4 (.tk 5 (.tk 6 (.tk 7 (.or false 9 (.tk 10 (.fin)) (.nil))))) (.nil)) (.nil))) (.or true 8 (.or true 3 (.or true 4 (.tk 5 (.tk 6 (.tk 7 (.or false 9 (.tk 10 (.fin)) (.nil))))) (.nil)) (.nil)) (.nil))) (.or true 8 (.or true 1 (.or true 3 (.or true 4 (.tk 5 (.tk 6 (.tk 7 (.or false 9 (.tk 10 (.fin)) (.nil))))) (.nil)) (.nil)) (.nil)) (.nil))))) (by kernel_rfl) (by kernel_rfl) [(3, .pointer (some ⟨b1, 0, none⟩)), (4, .pointer (some ⟨b2, 0, none⟩)), (7, .pointer (some ⟨b3, 0, none⟩)), (9, .pointer (some ⟨b4, 0, none⟩)), (11, .pointer (some ⟨b5, 0, none⟩)), (8, .int .i64 (signC c i).2), (10, .int .i64 (signC c i).2), (12, .int .i64 e)] _ (γ := CertD × Value × Value × Int × Nat × PH)
    (fun s => PH.le h4 s.2.2.2.2.2 ∧ IsCert s.2.2.2.2.2 (.agg #[.int .i64 s.1.ep, .int .i64 s.1.mem, s.2.1, s.2.2.1]) s.1 ∧ (s.2.2.2.1 = alikeC c d ∧ if alikeC c d = 0 then s.1.ep = c.ep ∧ s.1.mem = c.mem ∧ s.1.st = c.st ∧ (s.1.bs.length : Int) = (c.mem + 7) / 8 ∧ ∀ i : Nat, getB s.1.bs i = (getB c.bs i || getB d.bs i) else s.1 = zeroC) ∧
      (s.2.2.2.2.2 s.2.2.2.2.1 = noC ∧ s.2.2.2.2.2 b5 = noC ∧ s.2.2.2.2.2 b4 = noC ∧ s.2.2.2.2.2 b3 = noC ∧ s.2.2.2.2.2 b2 = noC ∧ s.2.2.2.2.2 b1 = noC) ∧ (b5 ≠ s.2.2.2.2.1 ∧ b4 ≠ s.2.2.2.2.1 ∧ b3 ≠ s.2.2.2.2.1 ∧ b2 ≠ s.2.2.2.2.1 ∧ b1 ≠ s.2.2.2.2.1))
    (fun s => [(3, .pointer (some ⟨b1, 0, none⟩)), (7, .pointer (some ⟨b3, 0, none⟩)), (9, .pointer (some ⟨b4, 0, none⟩)), (11, .pointer (some ⟨b5, 0, none⟩)), (13, .pointer (some ⟨s.2.2.2.2.1, 0, none⟩)), (8, .int .i64 (signC c i).2), (10, .int .i64 (signC c i).2), (12, .int .i64 e), (14, .int .i64 s.2.2.2.1)])
    (fun s => ⟨s.2.2.2.2.1, 36, [.int .i64 s.1.ep, .int .i64 s.1.mem, s.2.1, s.2.2.1], 4⟩ :: ⟨b5, 25, [.int .i64 mc.ep, .int .i64 mc.mem, .slice ua mc.st.length va, .slice ub mc.bs.length vb], 4⟩ :: ⟨b4, 36, [.int .i64 (signC c i).1.ep, .int .i64 (signC c i).1.mem, .slice za (signC c i).1.st.length wa, .slice zb (signC c i).1.bs.length wb], 4⟩ :: ⟨b3, 25, [.int .i64 (signC c i).1.ep, .int .i64 (signC c i).1.mem, .slice xa (signC c i).1.st.length ya, .slice xb (signC c i).1.bs.length yb], 4⟩ :: ⟨b2, 25, [.int .i64 d.ep, .int .i64 d.mem, .slice a' d.st.length ca', .slice b' d.bs.length cb'], 4⟩ :: ⟨b1, 25, [.int .i64 c.ep, .int .i64 c.mem, .slice a c.st.length ca, .slice b c.bs.length cb], 4⟩ :: L)
    (fun s => s.2.2.2.2.2) (by simp [Ent, List.lookup]) (Drop.refl _ _) ?_ ?_
  · repeat' first
      | refine xpl_or ?_ ?_
      | refine xkp (Drop.tail _ _ _) ?_
      | refine xkp (Drop.forget (by assumption)) ?_
      | refine xkp ((Drop.tail _ _ _).trans (Drop.forget (by assumption))) ?_
      | (refine xnew fun b6 n_b6 h_b6 => ?_
         simp only [Apart] at n_b6)
      | refine plain_any _ hcx ?_
      | refine plain_any _ hdx ?_
      | (refine Spec.ap (refmerge_any _ _ hcx hdx fun h5 m5 e5 le5 im5 ap => ?_)
         obtain ⟨em5, mc5, imc5, hm5⟩ := im5
         have imc50 := imc5
         obtain ⟨ma5, mb5, rfl, hma5, hmb5, hrest5⟩ := imc5
         have oma5 := hma5.open
         obtain ⟨ua5, va5, rfl, _⟩ := oma5
         have omb5 := hmb5.open
         obtain ⟨ub5, vb5, rfl, _⟩ := omb5)
      | simp -dsimp -implicitDefEqProofs (disch := first | with_reducible assumption | omega) [go_sem]
    all_goals
      refine ⟨mc5, _, _, e5, b6, h5, ⟨le5, imc50, ⟨em5, hm5⟩, ?_, ?_⟩, by simp [Ent, List.lookup], Drop.refl _ _⟩
      · simp only [Ap] at ap
        simp only [ap, h_b6, and_self]
      · simp only [n_b6, not_false_eq_true, and_self]
  · rintro ⟨m2, sv2, bv2, e2', b6, h5⟩ ⟨le5, im2, ⟨hE, hm2⟩, ⟨u6, u5, u4, u3, u2, u1⟩, ⟨w5, w4, w3, w2, w1⟩⟩
    simp only at le5 im2 hE hm2 u1 u2 u3 u4 u5 u6 w1 w2 w3 w4 w5 ⊢
    have hmn : m2 = mc := merge_same im2 imc0 hm2 hm
    have hc5 := hc0.up (le1.trans (le2.trans (le3.trans (le4.trans le5))))
    have hs5 := is0.up (le3.trans (le4.trans le5))
    have ht5 := it0.up (le4.trans le5)
    have hm5 := imc0.up le5
    subst hmn
    subst hE
    subst em
    simp -dsimp -implicitDefEqProofs (disch := first | with_reducible assumption | omega) [go_sem]
    refine plain_any _ hc5 ?_
    simp -dsimp -implicitDefEqProofs (disch := first | with_reducible assumption | omega) [go_sem]
    refine right_any _ hc5 ?_
    simp -dsimp -implicitDefEqProofs (disch := first | with_reducible assumption | omega) [go_sem]
    cases hr : rightC c with
    | true =>
      refine xdraw (by kernel_rfl) rfl ?_
      simp -dsimp -implicitDefEqProofs (disch := first | with_reducible assumption | omega) [go_sem]
      refine xdcall _ (check_any _ hc5 ⟨rfl, rfl, rfl⟩) ?_
      simp only [hr, if_true]
      simp -dsimp -implicitDefEqProofs (disch := first | with_reducible assumption | omega) [go_sem]
      refine xdcall _ (plain_any _ hs5 ⟨rfl, rfl, rfl⟩) ?_
      simp -dsimp -implicitDefEqProofs (disch := first | with_reducible assumption | omega) [go_sem]
      refine xdcall _ (same40_any _ _ hs5 ht5 ⟨rfl, rfl, rfl⟩) ?_
      simp -dsimp -implicitDefEqProofs (disch := first | with_reducible assumption | omega) [go_sem]
      refine xdcall _ (plain_any _ hm5 ⟨rfl, rfl, rfl⟩) ?_
      simp -dsimp -implicitDefEqProofs (disch := first | with_reducible assumption | omega) [go_sem]
      refine xdcall _ (same40_any _ _ hm5 im2 ⟨rfl, rfl, rfl⟩) ?_
      simp -dsimp -implicitDefEqProofs (disch := first | with_reducible assumption | omega) [go_sem]
      exact fin_tail (fin_tail (fin_tail (fin_tail (fin_tail (fin_tail (fin_here (hk h5 (le1.trans (le2.trans (le3.trans (le4.trans le5))))))))))) 
    | false =>
      refine xdraw (by kernel_rfl) rfl ?_
      simp -dsimp -implicitDefEqProofs (disch := first | with_reducible assumption | omega) [go_sem]
      refine xdcall _ (check_any _ hc5 ⟨rfl, rfl, rfl⟩) ?_
      simp only [hr, Bool.false_eq_true, if_false]
      simp -dsimp -implicitDefEqProofs (disch := first | with_reducible assumption | omega) [go_sem]
      refine xdcall _ (check_any _ hc5 ⟨rfl, rfl, rfl⟩) ?_
      simp only [hr, Bool.false_eq_true, if_false]
      simp -dsimp -implicitDefEqProofs (disch := first | with_reducible assumption | omega) [go_sem]
      refine xdcall _ (plain_any _ hs5 ⟨rfl, rfl, rfl⟩) ?_
      simp -dsimp -implicitDefEqProofs (disch := first | with_reducible assumption | omega) [go_sem]
      refine xdcall _ (same40_any _ _ hs5 ht5 ⟨rfl, rfl, rfl⟩) ?_
      simp -dsimp -implicitDefEqProofs (disch := first | with_reducible assumption | omega) [go_sem]
      refine xdcall _ (plain_any _ hm5 ⟨rfl, rfl, rfl⟩) ?_
      simp -dsimp -implicitDefEqProofs (disch := first | with_reducible assumption | omega) [go_sem]
      refine xdcall _ (same40_any _ _ hm5 im2 ⟨rfl, rfl, rfl⟩) ?_
      simp -dsimp -implicitDefEqProofs (disch := first | with_reducible assumption | omega) [go_sem]
      exact fin_tail (fin_tail (fin_tail (fin_tail (fin_tail (fin_tail (fin_here (hk h5 (le1.trans (le2.trans (le3.trans (le4.trans le5))))))))))) 
end Go.X
