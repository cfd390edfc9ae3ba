/- Contracts of member.Counts, bullionlaw24.Few, bullionref36.Stakes, cert.Draft, bullionref40.Draft. Conditions: the value reads as a member, as a state. -/
import Derived.Test.YtfilkbfkhdaakaaGreatSL
import Derived.Test.YtfilkbfkhdaakaaGreatSM0
import Derived.Test.YtfilkbfkhdaakaaGreatWX
import Derived.Test.YtfilkbfkhdaakaaGreatWG
set_option linter.unusedVariables false
set_option linter.unusedSimpArgs false
set_option maxRecDepth 20000
namespace Go.X
open Go.RowKit Go.Proofs Go.Bl
variable {L : Own} {h : PH} {K : PK}
theorem fewB_T {s : StD} (hf : fewB s = true) : FewT s := by
  have := few9_len (fewB_9 hf)
  exact ⟨by omega, by omega, by omega, by omega⟩
set_option maxHeartbeats 6400000 in
theorem stakes36_any {s : StD} (v : SV) (hs : IsSt h v s) (few : FewS s) (hk : ∀ h' r, PH.le h h' → Ints h' .u64 r (stkL s) → K r L h') : Spec Tryz.prog 77 [stV s v] L h K := by
  obtain ⟨pa, pc, ma, mc, ea, ec, xa, xc, oa, oc, da, dc, ta, tc, ka, kc, ra, rc, rfl⟩ := hs.slices
  have fm := few.m
  have hm : Recs memC 6 h (.slice ma s.members.length mc) s.members := hs.m
  refine x_enter Tryz.func77 rfl (rs := [_]) rfl rfl mixed (by kernel_rfl) rfl rfl ?_
  simp -dsimp -implicitDefEqProofs (disch := first | with_reducible assumption | omega) [go_sem]
  refine xnew fun b1 n_b1 h_b1 => ?_
  try simp only [Apart] at n_b1
  simp -dsimp -implicitDefEqProofs (disch := first | with_reducible assumption | omega) [go_sem]
  refine xloop (γ := Nat × Option (Nat × Nat)) (0, none) (fun q => q.1 ≤ s.members.length ∧ okO q.2 q.1 ∧ apO q.2 (⟨b1, 49, stC s ⟨.slice pa s.purses.length pc, .slice ma s.members.length mc, .slice ea s.entry.length ec, .slice xa s.exit.length xc, .slice oa s.pool.length oc, .slice da s.dues.length dc, .slice ta s.motions.length tc, .slice ka s.marks.length kc, .slice ra s.ring.length rc⟩, 41⟩ :: L) h) (fun q => [(4, .int .i64 q.1), (3, ovs q.2 q.1), (1, .pointer (some ⟨b1, 0, none⟩))])
    (fun q => oent 22 1 q.2 (colU stkM s.members q.1) (⟨b1, 49, stC s ⟨.slice pa s.purses.length pc, .slice ma s.members.length mc, .slice ea s.entry.length ec, .slice xa s.exit.length xc, .slice oa s.pool.length oc, .slice da s.dues.length dc, .slice ta s.motions.length tc, .slice ka s.marks.length kc, .slice ra s.ring.length rc⟩, 41⟩ :: L)) (fun _ => h) (fun q => s.members.length - q.1) ?_ ?_ ?_ ?_
  · exact ⟨Nat.zero_le _, rfl, trivial⟩
  · simp [Ent, List.lookup, xEnv, ovs]
  · exact Drop.refl _ _
  rintro ⟨k, o⟩ ⟨k1, k2, k3⟩
  simp only at k1 k2 k3 ⊢
  have m1 : apB o b1 := k3.head
  by_cases c1 : k < s.members.length
  · simp -dsimp -implicitDefEqProofs (disch := first | with_reducible assumption | omega) [go_sem, xFind_oent m1, ↓idxR zeroM (by decide) hm, memC]
    refine counts19_any _ ?_
    by_cases c2 : (gr zeroM s.members k).status = 2 ∨ (gr zeroM s.members k).status = 3
    · have e : stkM (gr zeroM s.members k) = (gr zeroM s.members k).eff := by rw [stkM, if_pos c2]
      rw [decide_eq_true c2]
      simp -dsimp -implicitDefEqProofs (disch := first | with_reducible assumption | omega) [go_sem, xFind_oent m1, ↓idxR zeroM (by decide) hm]
      refine (Recs.fld zeroM hm (j := k) (o := 1) c1 (u := .int .u64 (gr zeroM s.members k).eff) rfl _ _ _).mpr ?_
      simp -dsimp -implicitDefEqProofs (disch := first | with_reducible assumption | omega) [go_sem, xFind_oent m1]
      refine xnew fun b2 n_b2 h_b2 => ?_
      try simp only [Apart] at n_b2
      simp -dsimp -implicitDefEqProofs (disch := first | with_reducible assumption | omega) [go_sem]
      refine xappend (t := 25) (e := 22) (sz := 1) (bytes := 8) (by kernel_rfl) tI_22 rfl rfl rfl rfl (by decide) [_] _ o k (colU stkM s.members k) k2 (colU_len k1) (Src.own List.mem_cons_self) (m := 1) (news := [.int .u64 (gr zeroM s.members k).eff]) rfl (by intro u hu; simp only [List.mem_singleton] at hu; subst hu; rfl) (by simp [maxLen]; omega) (by omega) ?_
      intro o' j1 j2 j3
      simp -dsimp -implicitDefEqProofs (disch := first | with_reducible assumption | omega) [go_sem]
      refine ⟨k + 1, o', ⟨by omega, j1, apO_tail j2⟩, by omega, by simp [Ent, List.lookup], ?_⟩
      rw [colU_succ zeroM c1, e]
      exact Drop.tail _ _ _
    · have e : stkM (gr zeroM s.members k) = 0 := by rw [stkM, if_neg c2]
      rw [decide_eq_false c2]
      simp -dsimp -implicitDefEqProofs (disch := first | with_reducible assumption | omega) [go_sem]
      refine xnew fun b2 n_b2 h_b2 => ?_
      try simp only [Apart] at n_b2
      simp -dsimp -implicitDefEqProofs (disch := first | with_reducible assumption | omega) [go_sem]
      refine xappend (t := 25) (e := 22) (sz := 1) (bytes := 8) (by kernel_rfl) tI_22 rfl rfl rfl rfl (by decide) [_] _ o k (colU stkM s.members k) k2 (colU_len k1) (Src.own List.mem_cons_self) (m := 1) (news := [.int .u64 0]) rfl (by intro u hu; simp only [List.mem_singleton] at hu; subst hu; rfl) (by simp [maxLen]; omega) (by omega) ?_
      intro o' j1 j2 j3
      simp -dsimp -implicitDefEqProofs (disch := first | with_reducible assumption | omega) [go_sem]
      refine ⟨k + 1, o', ⟨by omega, j1, apO_tail j2⟩, by omega, by simp [Ent, List.lookup], ?_⟩
      rw [colU_succ zeroM c1, e]
      exact Drop.tail _ _ _
  · have hkl : k = s.members.length := by omega
    subst hkl
    simp -dsimp -implicitDefEqProofs (disch := first | with_reducible assumption | omega) [go_sem, xFind_oent m1]
    exact fin_pub (e := 22) (n := s.members.length) k2 (colU_len (Nat.le_refl _)) (by omega) k3 fun h' le sl => fin_tail (fin_here (hk h' _ le (colU_ints sl fun x hx => stkM_ok (hs.mo x hx))))
/-- a certificate that nobody has signed -/
def draftC (s : StD) : CertD := ⟨s.ep, s.members.length, stkL s, List.replicate ((s.members.length + 7) / 8) 0⟩
def draftR (s : StD) : CertD := if fitsS s then draftC s else zeroC
end Go.X
