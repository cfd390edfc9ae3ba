/- Part of the proof of a statement about the given program: lemmas and contracts. Conditions: as each says. -/
import Derived.Test.YtemlppiklgeogaaGreatQ30
/- The contract of bullionref26.motion. Conditions: a motion that may be written. -/
set_option linter.unusedVariables false
set_option linter.unusedSimpArgs false
set_option maxRecDepth 20000
namespace Go.X
open Go.RowKit Go.Proofs Go.Bl
variable {L : Own} {h : PH} {K : PK}
theorem apO_oentT {e sz : Nat} {o o2 : Option (Nat × Nat)} {xs : List Value} {M : Own} {h : PH} (ha : apO o (oent e sz o2 xs M) h) : apO o M h := by
  cases o2 with
  | none => exact ha
  | some p => exact apO_tail ha
theorem oent_frontT (e sz : Nat) (o : Option (Nat × Nat)) (xs : List Value) (A L : Own) : (A ++ oent e sz o xs L).Perm (oent e sz o xs (A ++ L)) := by
  cases o with
  | none => exact List.Perm.refl _
  | some p => exact List.perm_middle
/-- append_own, whose continuation is told the block that is left over -/
theorem append_ownx {ty : Nat} {L : Own} {h : PH} {K : PK} (o o2 : Option (Nat × Nat)) (bs ys : List Int) (ho : okO o bs.length) (ho2 : okO o2 ys.length) (hy : 0 < ys.length) (hl : bs.length + ys.length ≤ 1000000)
    (hk : ∀ o' b2 cap2, okO o' (bs ++ ys).length → apO o' L h → (∀ b, apB o2 b → b2 ≠ b) → K (ovs o' (bs ++ ys).length) (⟨b2, 5, ys.map (.int .u8), cap2⟩ :: oent 5 1 o' ((bs ++ ys).map (.int .u8)) L) h) :
    xAct Tryz.prog (Builtin.append_ #[31, 31] ty #[ovs o bs.length, ovs o2 ys.length]) (oent 5 1 o2 (ys.map (.int .u8)) (oent 5 1 o (bs.map (.int .u8)) L)) h K := by
  cases o2 with
  | none => have : ys.length = 0 := ho2; omega
  | some p =>
    obtain ⟨b2, cap2⟩ := p
    refine xappend (t := 31) (e := 5) (sz := 1) (bytes := 1) (z := [.int .u8 0]) (by kernel_rfl) tI_5 rfl rfl rfl rfl (by decide) (⟨b2, 5, ys.map (.int .u8), cap2 * 1⟩ :: []) L o bs.length (bs.map (.int .u8)) ho (by simp) (m := ys.length) (news := ys.map (.int .u8)) (Src.own (b := b2) (t := 5) (cap := cap2 * 1) (by simp)) (by simp) (ints_one _ _) (by simp only [maxLen]; omega) (by omega) ?_
    intro o3 i1 i2 i3
    have := hk o3 b2 (cap2 * 1) (by simpa using i1) (apO_tail i2) (fun b hb => hb)
    rw [List.length_append, List.map_append] at this
    exact this
set_option maxHeartbeats 6400000 in
theorem mot26_any (q : QM) (hm : IsMot h q) (hw : MotW q.2.2) (hk : ∀ o', okO o' (motEnc q.2.2).length → apO o' L h → (motEnc q.2.2).length ≤ 440 → K (ovs o' (motEnc q.2.2).length) (oent 5 1 o' ((motEnc q.2.2).map (.int .u8)) L) h) :
    Spec Tryz.prog 68 [.agg (motC q).toArray] L h K := by
  obtain ⟨vy, vn, m⟩ := q
  have hy := hm.y
  have hn := hm.n
  simp only at hy hn hw hk
  have u1 := hw.acct
  have u2 := hw.what
  have u3 := hw.to
  have u4 := hw.amt
  have u5 := hw.ends
  have u6 := hw.due
  have u7 := hw.state
  obtain ⟨ya, yc, rfl, _⟩ := hy.open
  obtain ⟨na, nc, rfl, _⟩ := hn.open
  refine x_enter Tryz.func68 rfl (rs := [_]) rfl rfl mixed (by kernel_rfl) rfl rfl ?_
  simp -dsimp -implicitDefEqProofs (disch := first | with_reducible assumption | omega) [go_sem, motC]
  refine xnew fun b1 n_b1 h_b1 => ?_
  try simp only [Apart] at n_b1
  simp -dsimp -implicitDefEqProofs (disch := first | with_reducible assumption | omega) [go_sem, motC]
  refine xanyl (.tk 0 (.tk 1 (.tk 5 (.tkl 2 (.tk 3 (.tkl 6 (.tk 7 (.or true 4 (.or true 8 (.tk 9 (.fin)) (.nil)) (.nil))))))))) (by kernel_rfl) (by kernel_rfl) _ (Drop.refl _ _) ?_
  simp -dsimp -implicitDefEqProofs (disch := first | with_reducible assumption | omega) [go_sem, motC]
  refine num26_any (o := none) (B := []) m.acct hw.acct.1 (Int.le_trans hw.acct.2 (by decide)) rfl (by decide) fun o1 B1 e1 k1 ap1 l1 => ?_
  have f1 : apB o1 b1 := ap1.head
  refine xkp (Drop.oent _ _ _ _ _ _) ?_
  simp -dsimp -implicitDefEqProofs (disch := first | with_reducible assumption | omega) [go_sem, motC, xFind_oent f1]
  --END
  simp only [List.length_nil, Nat.zero_add] at l1
  have ly := hw.yes
  have ln := hw.no
  refine num26_any m.what u2.1 (by omega) k1 (by omega) fun o2 B2 e2 k2 ap2 l2 => ?_
  have f2 : apB o2 b1 := ap2.head
  first | refine xkp (Drop.oent _ _ _ _ _ _) ?_ | refine xkp ((Drop.oent _ _ _ _ _ _).trans (Drop.mem List.mem_cons_self)) ?_ | skip
  simp -dsimp -implicitDefEqProofs (disch := first | with_reducible assumption | omega) [go_sem, motC, xFind_oent f2]
  have lr1 : (rawN m.yes).length ≤ 60 := by have := form10 (n := m.yes.length) (by omega); simp only [rawN, List.length_append]; omega
  have lr2 : (rawN m.no).length ≤ 60 := by have := form10 (n := m.no.length) (by omega); simp only [rawN, List.length_append]; omega
  by_cases c1 : m.what = 1
  · simp -dsimp -implicitDefEqProofs (disch := first | with_reducible assumption | omega) [go_sem, motC, xFind_oent f2]
    have lp := encP_len hw.p (hw.par c1)
    refine pform_any m.par hw.p (hw.par c1) fun oy3 ky3 ay3 => ?_
    simp -dsimp -implicitDefEqProofs (disch := first | with_reducible assumption | omega) [go_sem]
    have g3 : apB oy3 b1 := (apO_oentT ay3).head
    refine append_ownx o2 oy3 B2 (encP m.par) k2 ky3 (by unfold encP flatN; simp [wides]; have := formN_pos m.par.inc.toNat; omega) (by omega) fun o3 x3 y3 k3' ap3' hx3 => ?_
    replace hx3 := hx3 _ g3
    obtain ⟨B3, e3⟩ : ∃ B, B = B2 ++ encP m.par := ⟨_, rfl⟩
    have k3 : okO o3 B3.length := by rw [e3]; exact k3'
    have ap3 := ap3'
    have l3 : B3.length = B2.length + (encP m.par).length := by rw [e3, List.length_append]
    have f3 : apB o3 b1 := ap3.head
    rw [← e3]
    simp -dsimp -implicitDefEqProofs (disch := first | with_reducible assumption | omega) [go_sem, motC, xFind_oent f3]
    refine xanyl (.tk 0 (.tk 1 (.tk 5 (.tkl 2 (.tk 3 (.tkl 6 (.or true 4 (.or true 7 (.tk 8 (.fin)) (.nil)) (.nil)))))))) (by kernel_rfl) (by kernel_rfl) [⟨b1, 150, motC (.slice ya m.yes.length yc, .slice na m.no.length nc, m), 33⟩] ((Drop.tail _ _ _).trans ((Drop.oent _ _ _ _ _ _).trans (Drop.mem List.mem_cons_self))) ?_
    simp -dsimp -implicitDefEqProofs (disch := first | with_reducible assumption | omega) [go_sem, motC]
    refine Spec.weaken (Drop.tail _ _ _) (num26_any m.to u3.1 (by omega) k3 (by omega) fun o4 B4 e4 k4 ap4 l4 => ?_)
    have f4 : apB o4 b1 := ap4.head
    first | refine xkp (Drop.oent _ _ _ _ _ _) ?_ | refine xkp ((Drop.oent _ _ _ _ _ _).trans (Drop.mem List.mem_cons_self)) ?_ | skip
    simp -dsimp -implicitDefEqProofs (disch := first | with_reducible assumption | omega) [go_sem, motC, xFind_oent f4]
    refine num26_any m.amt u4.1 (by omega) k4 (by omega) fun o5 B5 e5 k5 ap5 l5 => ?_
    have f5 : apB o5 b1 := ap5.head
    first | refine xkp (Drop.oent _ _ _ _ _ _) ?_ | refine xkp ((Drop.oent _ _ _ _ _ _).trans (Drop.mem List.mem_cons_self)) ?_ | skip
    simp -dsimp -implicitDefEqProofs (disch := first | with_reducible assumption | omega) [go_sem, motC, xFind_oent f5]
    refine xanyl (.tk 0 (.tk 1 (.tk 5 (.tk 9 (.tkl 2 (.tk 3 (.tkl 6 (.tk 7 (.tkl 10 (.tk 11 (.or true 4 (.or true 8 (.or true 12 (.tk 13 (.fin)) (.nil)) (.nil)) (.nil)))))))))))) (by kernel_rfl) (by kernel_rfl) [⟨b1, 150, motC (.slice ya m.yes.length yc, .slice na m.no.length nc, m), 33⟩] ((Drop.oent _ _ _ _ _ _).trans (Drop.mem List.mem_cons_self)) ?_
    simp -dsimp -implicitDefEqProofs (disch := first | with_reducible assumption | omega) [go_sem, motC]
    refine num26_any m.ends u5.1 (by omega) k5 (by omega) fun o6 B6 e6 k6 ap6 l6 => ?_
    have f6 : apB o6 b1 := ap6.head
    first | refine xkp (Drop.oent _ _ _ _ _ _) ?_ | refine xkp ((Drop.oent _ _ _ _ _ _).trans (Drop.mem List.mem_cons_self)) ?_ | skip
    simp -dsimp -implicitDefEqProofs (disch := first | with_reducible assumption | omega) [go_sem, motC, xFind_oent f6]
    refine num26_any m.due u6.1 (by omega) k6 (by omega) fun o7 B7 e7 k7 ap7 l7 => ?_
    have f7 : apB o7 b1 := ap7.head
    first | refine xkp (Drop.oent _ _ _ _ _ _) ?_ | refine xkp ((Drop.oent _ _ _ _ _ _).trans (Drop.mem List.mem_cons_self)) ?_ | skip
    simp -dsimp -implicitDefEqProofs (disch := first | with_reducible assumption | omega) [go_sem, motC, xFind_oent f7]
    refine num26_any m.state u7.1 (by omega) k7 (by omega) fun o8 B8 e8 k8 ap8 l8 => ?_
    have f8 : apB o8 b1 := ap8.head
    first | refine xkp (Drop.oent _ _ _ _ _ _) ?_ | refine xkp ((Drop.oent _ _ _ _ _ _).trans (Drop.mem List.mem_cons_self)) ?_ | skip
    simp -dsimp -implicitDefEqProofs (disch := first | with_reducible assumption | omega) [go_sem, motC, xFind_oent f8]
    refine rawd_any _ hy (by omega) fun oy9 ky9 ay9 => ?_
    simp -dsimp -implicitDefEqProofs (disch := first | with_reducible assumption | omega) [go_sem]
    have g9 : apB oy9 b1 := (apO_oentT ay9).head
    refine append_ownx o8 oy9 B8 (rawN m.yes) k8 ky9 (by have := formN_pos m.yes.length; simp only [rawN, List.length_append]; omega) (by omega) fun o9 x9 y9 k9' ap9' hx9 => ?_
    replace hx9 := hx9 _ g9
    obtain ⟨B9, e9⟩ : ∃ B, B = B8 ++ rawN m.yes := ⟨_, rfl⟩
    have k9 : okO o9 B9.length := by rw [e9]; exact k9'
    have ap9 := ap9'
    have l9 : B9.length = B8.length + (rawN m.yes).length := by rw [e9, List.length_append]
    have f9 : apB o9 b1 := ap9.head
    rw [← e9]
    simp -dsimp -implicitDefEqProofs (disch := first | with_reducible assumption | omega) [go_sem, motC, xFind_oent f9]
    refine Spec.weaken (Drop.tail _ _ _) (rawd_any _ hn (by omega) fun oy10 ky10 ay10 => ?_)
    simp -dsimp -implicitDefEqProofs (disch := first | with_reducible assumption | omega) [go_sem]
    have g10 : apB oy10 b1 := (apO_oentT ay10).head
    refine append_ownx o9 oy10 B9 (rawN m.no) k9 ky10 (by have := formN_pos m.no.length; simp only [rawN, List.length_append]; omega) (by omega) fun o10 x10 y10 k10' ap10' hx10 => ?_
    replace hx10 := hx10 _ g10
    obtain ⟨B10, e10⟩ : ∃ B, B = B9 ++ rawN m.no := ⟨_, rfl⟩
    have k10 : okO o10 B10.length := by rw [e10]; exact k10'
    have ap10 := ap10'
    have l10 : B10.length = B9.length + (rawN m.no).length := by rw [e10, List.length_append]
    have f10 : apB o10 b1 := ap10.head
    rw [← e10]
    simp -dsimp -implicitDefEqProofs (disch := first | with_reducible assumption | omega) [go_sem, motC, xFind_oent f10]
    have eE : B10 = motEnc m := by rw [e10, e9, e8, e7, e6, e5, e4, e3, e2, e1]; simp [motEnc, c1, List.append_assoc]
    rw [eE] at k10 l10 ⊢
    have hk2 := hk o10 k10 (apO_tail ap10) (by omega)
    exact fin_tail (fin_perm (oent_frontT _ _ _ _ [_] _).symm (fin_tail (fin_here hk2)))
  · simp -dsimp -implicitDefEqProofs (disch := first | with_reducible assumption | omega) [go_sem, motC, xFind_oent f2]
    refine xanyl (.tk 0 (.tk 1 (.tk 5 (.tkl 2 (.tk 3 (.tkl 6 (.or true 4 (.or true 7 (.tk 8 (.fin)) (.nil)) (.nil)))))))) (by kernel_rfl) (by kernel_rfl) [⟨b1, 150, motC (.slice ya m.yes.length yc, .slice na m.no.length nc, m), 33⟩] ((Drop.oent _ _ _ _ _ _).trans (Drop.mem List.mem_cons_self)) ?_
    simp -dsimp -implicitDefEqProofs (disch := first | with_reducible assumption | omega) [go_sem, motC]
    refine num26_any m.to u3.1 (by omega) k2 (by omega) fun o3 B3 e3 k3 ap3 l3 => ?_
    have f3 : apB o3 b1 := ap3.head
    first | refine xkp (Drop.oent _ _ _ _ _ _) ?_ | refine xkp ((Drop.oent _ _ _ _ _ _).trans (Drop.mem List.mem_cons_self)) ?_ | skip
    simp -dsimp -implicitDefEqProofs (disch := first | with_reducible assumption | omega) [go_sem, motC, xFind_oent f3]
    refine num26_any m.amt u4.1 (by omega) k3 (by omega) fun o4 B4 e4 k4 ap4 l4 => ?_
    have f4 : apB o4 b1 := ap4.head
    first | refine xkp (Drop.oent _ _ _ _ _ _) ?_ | refine xkp ((Drop.oent _ _ _ _ _ _).trans (Drop.mem List.mem_cons_self)) ?_ | skip
    simp -dsimp -implicitDefEqProofs (disch := first | with_reducible assumption | omega) [go_sem, motC, xFind_oent f4]
    refine xanyl (.tk 0 (.tk 1 (.tk 5 (.tk 9 (.tkl 2 (.tk 3 (.tkl 6 (.tk 7 (.tkl 10 (.tk 11 (.or true 4 (.or true 8 (.or true 12 (.tk 13 (.fin)) (.nil)) (.nil)) (.nil)))))))))))) (by kernel_rfl) (by kernel_rfl) [⟨b1, 150, motC (.slice ya m.yes.length yc, .slice na m.no.length nc, m), 33⟩] ((Drop.oent _ _ _ _ _ _).trans (Drop.mem List.mem_cons_self)) ?_
    simp -dsimp -implicitDefEqProofs (disch := first | with_reducible assumption | omega) [go_sem, motC]
    refine num26_any m.ends u5.1 (by omega) k4 (by omega) fun o5 B5 e5 k5 ap5 l5 => ?_
    have f5 : apB o5 b1 := ap5.head
    first | refine xkp (Drop.oent _ _ _ _ _ _) ?_ | refine xkp ((Drop.oent _ _ _ _ _ _).trans (Drop.mem List.mem_cons_self)) ?_ | skip
    simp -dsimp -implicitDefEqProofs (disch := first | with_reducible assumption | omega) [go_sem, motC, xFind_oent f5]
    refine num26_any m.due u6.1 (by omega) k5 (by omega) fun o6 B6 e6 k6 ap6 l6 => ?_
    have f6 : apB o6 b1 := ap6.head
    first | refine xkp (Drop.oent _ _ _ _ _ _) ?_ | refine xkp ((Drop.oent _ _ _ _ _ _).trans (Drop.mem List.mem_cons_self)) ?_ | skip
    simp -dsimp -implicitDefEqProofs (disch := first | with_reducible assumption | omega) [go_sem, motC, xFind_oent f6]
    refine num26_any m.state u7.1 (by omega) k6 (by omega) fun o7 B7 e7 k7 ap7 l7 => ?_
    have f7 : apB o7 b1 := ap7.head
    first | refine xkp (Drop.oent _ _ _ _ _ _) ?_ | refine xkp ((Drop.oent _ _ _ _ _ _).trans (Drop.mem List.mem_cons_self)) ?_ | skip
    simp -dsimp -implicitDefEqProofs (disch := first | with_reducible assumption | omega) [go_sem, motC, xFind_oent f7]
    refine rawd_any _ hy (by omega) fun oy8 ky8 ay8 => ?_
    simp -dsimp -implicitDefEqProofs (disch := first | with_reducible assumption | omega) [go_sem]
    have g8 : apB oy8 b1 := (apO_oentT ay8).head
    refine append_ownx o7 oy8 B7 (rawN m.yes) k7 ky8 (by have := formN_pos m.yes.length; simp only [rawN, List.length_append]; omega) (by omega) fun o8 x8 y8 k8' ap8' hx8 => ?_
    replace hx8 := hx8 _ g8
    obtain ⟨B8, e8⟩ : ∃ B, B = B7 ++ rawN m.yes := ⟨_, rfl⟩
    have k8 : okO o8 B8.length := by rw [e8]; exact k8'
    have ap8 := ap8'
    have l8 : B8.length = B7.length + (rawN m.yes).length := by rw [e8, List.length_append]
    have f8 : apB o8 b1 := ap8.head
    rw [← e8]
    simp -dsimp -implicitDefEqProofs (disch := first | with_reducible assumption | omega) [go_sem, motC, xFind_oent f8]
    refine Spec.weaken (Drop.tail _ _ _) (rawd_any _ hn (by omega) fun oy9 ky9 ay9 => ?_)
    simp -dsimp -implicitDefEqProofs (disch := first | with_reducible assumption | omega) [go_sem]
    have g9 : apB oy9 b1 := (apO_oentT ay9).head
    refine append_ownx o8 oy9 B8 (rawN m.no) k8 ky9 (by have := formN_pos m.no.length; simp only [rawN, List.length_append]; omega) (by omega) fun o9 x9 y9 k9' ap9' hx9 => ?_
    replace hx9 := hx9 _ g9
    obtain ⟨B9, e9⟩ : ∃ B, B = B8 ++ rawN m.no := ⟨_, rfl⟩
    have k9 : okO o9 B9.length := by rw [e9]; exact k9'
    have ap9 := ap9'
    have l9 : B9.length = B8.length + (rawN m.no).length := by rw [e9, List.length_append]
    have f9 : apB o9 b1 := ap9.head
    rw [← e9]
    simp -dsimp -implicitDefEqProofs (disch := first | with_reducible assumption | omega) [go_sem, motC, xFind_oent f9]
    have eE : B9 = motEnc m := by rw [e9, e8, e7, e6, e5, e4, e3, e2, e1]; simp [motEnc, c1, List.append_assoc]
    rw [eE] at k9 l9 ⊢
    have hk2 := hk o9 k9 (apO_tail ap9) (by omega)
    exact fin_tail (fin_perm (oent_frontT _ _ _ _ [_] _).symm (fin_tail (fin_here hk2)))
end Go.X
/- The contract of bullionref26.Form. Conditions: a state that may be written. -/
set_option linter.unusedVariables false
set_option linter.unusedSimpArgs false
set_option maxRecDepth 20000
namespace Go.X
open Go.RowKit Go.Proofs Go.Bl
variable {L : Own} {h : PH} {K : PK}
theorem motEnc_len {m : MotD} (hw : MotW m) : 0 < (motEnc m).length := by
  have := formN_pos m.acct.toNat
  simp only [motEnc, List.length_append]; omega
set_option maxHeartbeats 12800000 in
theorem form26_any {s : StD} (v : SV) (hs : IsSt h v s) (hw : StW s) (hk : ∀ o', okO o' (encS s).length → apO o' L h → (encS s).length ≤ 100000 → K (ovs o' (encS s).length) (oent 5 1 o' ((encS s).map (.int .u8)) L) h) :
    Spec Tryz.prog 18 [stV s v] L h K := by
  obtain ⟨pa, pc, ma, mc, ea, ec, xa, xc, oa, oc, da, dc, ta, tc, ka, kc, ra, rc, rfl⟩ := hs.slices
  obtain ⟨qm, qm1, qm2, qm3⟩ := hs.t
  obtain ⟨qr, qr1, qr2⟩ := hs.r
  have qml : qm.length = s.motions.length := by rw [← qm2, List.length_map]
  have qrl : qr.length = s.ring.length := by rw [← qr2, xsL_len]
  simp only at qm1 qr1
  have wu := hs.ok.u
  have wn := hs.ok.n
  have lp := hw.lp
  have lm := hw.lm
  have lle := hw.le
  have lx := hw.lx
  have lo := hw.lo
  have ld := hw.ld
  have ltt := hw.lt
  have lr := hw.lr
  have lk := hw.k
  have hpr := hs.p.2
  obtain ⟨pa', pc', ep, _, _, _, hcp⟩ := hs.p.open
  injection ep with ep1 _ ep2
  subst ep1 ep2
  have hlp := encP_len hs.ok.p hw.par
  refine x_enter Tryz.func18 rfl (rs := [_]) rfl rfl mixed (by kernel_rfl) rfl rfl ?_
  simp -dsimp -implicitDefEqProofs (disch := first | with_reducible assumption | omega) [go_sem]
  refine xnew fun b1 n_b1 h_b1 => ?_
  try simp only [Apart] at n_b1
  simp -dsimp -implicitDefEqProofs (disch := first | with_reducible assumption | omega) [go_sem]
  refine pform_any s.par hs.ok.p hw.par fun o0 k0 ap0 => ?_
  obtain ⟨B0, e0⟩ : ∃ B, B = encP s.par := ⟨_, rfl⟩
  rw [← e0] at k0 hlp ⊢
  have f0 : apB o0 b1 := ap0.head
  simp -dsimp -implicitDefEqProofs (disch := first | with_reducible assumption | omega) [go_sem, xFind_oent f0]
  refine xanyl (.tk 0 (.tk 1 (.tk 4 (.tk 7 (.tk 10 (.tk 13 (.tkl 2 (.tkl 5 (.tkl 8 (.tkl 11 (.tkl 14 (.or true 3 (.or true 6 (.or true 9 (.or true 12 (.or true 15 (.tk 16 (.fin)) (.nil)) (.nil)) (.nil)) (.nil)) (.nil))))))))))))) (by kernel_rfl) (by kernel_rfl) [⟨b1, 46, stC s ⟨.slice pa s.purses.length pc, .slice ma s.members.length mc, .slice ea s.entry.length ec, .slice xa s.exit.length xc, .slice oa s.pool.length oc, .slice da s.dues.length dc, .slice ta s.motions.length tc, .slice ka s.marks.length kc, .slice ra s.ring.length rc⟩, 41⟩] ((Drop.oent _ _ _ _ _ _).trans (Drop.mem List.mem_cons_self)) ?_
  simp -dsimp -implicitDefEqProofs (disch := first | with_reducible assumption | omega) [go_sem]
  refine num26_any (s.most) (wu s.most (by simp)).1 (wu s.most (by simp)).2 k0 (by omega) fun o1 B1 e1 k1 ap1 l1 => ?_
  have f1 : apB o1 b1 := ap1.head
  first | refine xkp ((Drop.oent _ _ _ _ _ _).trans (Drop.mem List.mem_cons_self)) ?_ | skip
  simp -dsimp -implicitDefEqProofs (disch := first | with_reducible assumption | omega) [go_sem, xFind_oent f1]
  refine num26_any (s.gen) (wu s.gen (by simp)).1 (wu s.gen (by simp)).2 k1 (by omega) fun o2 B2 e2 k2 ap2 l2 => ?_
  have f2 : apB o2 b1 := ap2.head
  first | refine xkp ((Drop.oent _ _ _ _ _ _).trans (Drop.mem List.mem_cons_self)) ?_ | skip
  simp -dsimp -implicitDefEqProofs (disch := first | with_reducible assumption | omega) [go_sem, xFind_oent f2]
  refine num26_any (s.mint) (wu s.mint (by simp)).1 (wu s.mint (by simp)).2 k2 (by omega) fun o3 B3 e3 k3 ap3 l3 => ?_
  have f3 : apB o3 b1 := ap3.head
  first | refine xkp ((Drop.oent _ _ _ _ _ _).trans (Drop.mem List.mem_cons_self)) ?_ | skip
  simp -dsimp -implicitDefEqProofs (disch := first | with_reducible assumption | omega) [go_sem, xFind_oent f3]
  refine num26_any (s.burn) (wu s.burn (by simp)).1 (wu s.burn (by simp)).2 k3 (by omega) fun o4 B4 e4 k4 ap4 l4 => ?_
  have f4 : apB o4 b1 := ap4.head
  first | refine xkp ((Drop.oent _ _ _ _ _ _).trans (Drop.mem List.mem_cons_self)) ?_ | skip
  simp -dsimp -implicitDefEqProofs (disch := first | with_reducible assumption | omega) [go_sem, xFind_oent f4]
  refine num26_any (s.treas) (wu s.treas (by simp)).1 (wu s.treas (by simp)).2 k4 (by omega) fun o5 B5 e5 k5 ap5 l5 => ?_
  have f5 : apB o5 b1 := ap5.head
  first | refine xkp ((Drop.oent _ _ _ _ _ _).trans (Drop.mem List.mem_cons_self)) ?_ | skip
  simp -dsimp -implicitDefEqProofs (disch := first | with_reducible assumption | omega) [go_sem, xFind_oent f5]
  refine xanyl (.tk 0 (.tk 1 (.tk 5 (.tkl 2 (.tk 3 (.tkl 6 (.tk 7 (.or true 4 (.or true 8 (.tk 9 (.fin)) (.nil)) (.nil))))))))) (by kernel_rfl) (by kernel_rfl) [⟨b1, 46, stC s ⟨.slice pa s.purses.length pc, .slice ma s.members.length mc, .slice ea s.entry.length ec, .slice xa s.exit.length xc, .slice oa s.pool.length oc, .slice da s.dues.length dc, .slice ta s.motions.length tc, .slice ka s.marks.length kc, .slice ra s.ring.length rc⟩, 41⟩] ((Drop.oent _ _ _ _ _ _).trans (Drop.mem List.mem_cons_self)) ?_
  have uep := (wn s.ep (by simp)).2
  have ucalm := (wn s.calm (by simp)).2
  have uep0 := hw.ep
  have ucalm0 := hw.calm
  simp -dsimp -implicitDefEqProofs (disch := first | with_reducible assumption | omega) [go_sem]
  refine num26_any (s.ep) hw.ep (by omega) k5 (by omega) fun o6 B6 e6 k6 ap6 l6 => ?_
  have f6 : apB o6 b1 := ap6.head
  first | refine xkp ((Drop.oent _ _ _ _ _ _).trans (Drop.mem List.mem_cons_self)) ?_ | skip
  simp -dsimp -implicitDefEqProofs (disch := first | with_reducible assumption | omega) [go_sem, xFind_oent f6]
  refine num26_any (s.calm) hw.calm (by omega) k6 (by omega) fun o7 B7 e7 k7 ap7 l7 => ?_
  have f7 : apB o7 b1 := ap7.head
  first | refine xkp ((Drop.oent _ _ _ _ _ _).trans (Drop.mem List.mem_cons_self)) ?_ | skip
  simp -dsimp -implicitDefEqProofs (disch := first | with_reducible assumption | omega) [go_sem, xFind_oent f7]
  first | simp -dsimp -implicitDefEqProofs (disch := first | with_reducible assumption | omega) [go_sem] | skip
  refine flag26_any s.emer k7 (by omega) fun o8 B8 e8 k8 ap8 l8 => ?_
  have f8 : apB o8 b1 := ap8.head
  first | refine xkp ((Drop.oent _ _ _ _ _ _).trans (Drop.mem List.mem_cons_self)) ?_ | skip
  simp -dsimp -implicitDefEqProofs (disch := first | with_reducible assumption | omega) [go_sem, xFind_oent f8]
  first | simp -dsimp -implicitDefEqProofs (disch := first | with_reducible assumption | omega) [go_sem] | skip
  refine num26_any ((s.purses.length : Nat)) (by omega) (by omega) k8 (by omega) fun o9 B9 e9 k9 ap9 l9 => ?_
  rw [Int.toNat_natCast] at e9
  have f9 : apB o9 b1 := ap9.head
  first | refine xkp ((Drop.oent _ _ _ _ _ _).trans (Drop.mem List.mem_cons_self)) ?_ | skip
  simp -dsimp -implicitDefEqProofs (disch := first | with_reducible assumption | omega) [go_sem, xFind_oent f9]
  refine xloop (γ := Nat × Option (Nat × Nat) × List Int) (0, o9, B9) (fun x => x.1 ≤ s.purses.length ∧ okO x.2.1 x.2.2.length ∧ apO x.2.1 (⟨b1, 46, stC s ⟨.slice pa s.purses.length pc, .slice ma s.members.length mc, .slice ea s.entry.length ec, .slice xa s.exit.length xc, .slice oa s.pool.length oc, .slice da s.dues.length dc, .slice ta s.motions.length tc, .slice ka s.marks.length kc, .slice ra s.ring.length rc⟩, 41⟩ :: L) h ∧ x.2.2 = B9 ++ (s.purses.take x.1).flatMap numEnc ∧ x.2.2.length ≤ B9.length + 10 * x.1)
    (fun x => [(4, .int .i64 x.1), (3, ovs x.2.1 x.2.2.length), (1, .pointer (some ⟨b1, 0, none⟩))]) (fun x => oent 5 1 x.2.1 (x.2.2.map (.int .u8)) (⟨b1, 46, stC s ⟨.slice pa s.purses.length pc, .slice ma s.members.length mc, .slice ea s.entry.length ec, .slice xa s.exit.length xc, .slice oa s.pool.length oc, .slice da s.dues.length dc, .slice ta s.motions.length tc, .slice ka s.marks.length kc, .slice ra s.ring.length rc⟩, 41⟩ :: L)) (fun _ => h) (fun x => s.purses.length - x.1) ?_ ?_ ?_ ?_
  · exact ⟨Nat.zero_le _, k9, ap9, by simp, by simp⟩
  · simp [Ent, List.lookup, xEnv]
  · exact Drop.refl _ _
  rintro ⟨m10, o10, B10⟩ ⟨i10, k10, ap10, e10, l10⟩
  simp only at i10 k10 ap10 e10 l10 ⊢
  have f10 : apB o10 b1 := ap10.head
  by_cases c10 : m10 < s.purses.length
  · have hr := hpr _ (at0_mem (zs := s.purses) (k := m10) c10)
    rw [show IntKind.u64.min = 0 from rfl, show IntKind.u64.max = 18446744073709551615 from rfl] at hr
    simp -dsimp -implicitDefEqProofs (disch := first | with_reducible assumption | omega) [go_sem, xFind_oent f10, idx hcp]
    refine num26_any (at0 s.purses m10) hr.1 hr.2 k10 (by omega) fun o11 B11 e11 k11 ap11 l11 => ?_
    have f11 : apB o11 b1 := ap11.head
    first | refine xkp ((Drop.oent _ _ _ _ _ _).trans (Drop.mem List.mem_cons_self)) ?_ | skip
    simp -dsimp -implicitDefEqProofs (disch := first | with_reducible assumption | omega) [go_sem, xFind_oent f11]
    first | simp -dsimp -implicitDefEqProofs (disch := first | with_reducible assumption | omega) [go_sem] | skip
    refine ⟨m10 + 1, o11, B11, ⟨by omega, k11, ap11, ?_, by omega⟩, by omega, by simp [Ent, List.lookup], Drop.refl _ _⟩
    rw [e11, e10, List.take_succ_eq_append_getElem c10, List.flatMap_append, List.flatMap_cons, List.flatMap_nil, List.append_nil, List.append_assoc, ← at0_lt c10]
    rfl
  have hk10 : m10 = s.purses.length := by omega
  subst hk10
  rw [List.take_length] at e10
  simp -dsimp -implicitDefEqProofs (disch := first | with_reducible assumption | omega) [go_sem, xFind_oent f10]
  refine num26_any ((s.members.length : Nat)) (by omega) (by omega) k10 (by omega) fun o11 B11 e11 k11 ap11 l11 => ?_
  rw [Int.toNat_natCast] at e11
  have f11 : apB o11 b1 := ap11.head
  first | refine xkp ((Drop.oent _ _ _ _ _ _).trans (Drop.mem List.mem_cons_self)) ?_ | skip
  simp -dsimp -implicitDefEqProofs (disch := first | with_reducible assumption | omega) [go_sem, xFind_oent f11]
  refine xloop (γ := Nat × Option (Nat × Nat) × List Int) (0, o11, B11) (fun x => x.1 ≤ s.members.length ∧ okO x.2.1 x.2.2.length ∧ apO x.2.1 (⟨b1, 46, stC s ⟨.slice pa s.purses.length pc, .slice ma s.members.length mc, .slice ea s.entry.length ec, .slice xa s.exit.length xc, .slice oa s.pool.length oc, .slice da s.dues.length dc, .slice ta s.motions.length tc, .slice ka s.marks.length kc, .slice ra s.ring.length rc⟩, 41⟩ :: L) h ∧ x.2.2 = B11 ++ (s.members.take x.1).flatMap memEnc ∧ x.2.2.length ≤ B11.length + 60 * x.1)
    (fun x => [(5, .int .i64 x.1), (3, ovs x.2.1 x.2.2.length), (1, .pointer (some ⟨b1, 0, none⟩))]) (fun x => oent 5 1 x.2.1 (x.2.2.map (.int .u8)) (⟨b1, 46, stC s ⟨.slice pa s.purses.length pc, .slice ma s.members.length mc, .slice ea s.entry.length ec, .slice xa s.exit.length xc, .slice oa s.pool.length oc, .slice da s.dues.length dc, .slice ta s.motions.length tc, .slice ka s.marks.length kc, .slice ra s.ring.length rc⟩, 41⟩ :: L)) (fun _ => h) (fun x => s.members.length - x.1) ?_ ?_ ?_ ?_
  · exact ⟨Nat.zero_le _, k11, ap11, by simp, by simp⟩
  · simp [Ent, List.lookup, xEnv]
  · exact Drop.refl _ _
  rintro ⟨m12, o12, B12⟩ ⟨i12, k12, ap12, e12, l12⟩
  simp only at i12 k12 ap12 e12 l12 ⊢
  have f12 : apB o12 b1 := ap12.head
  by_cases c12 : m12 < s.members.length
  · have hx1 := gr_mem' (z := zeroM) c12
    have u1 := (hs.mo _ hx1).u (gr zeroM s.members m12).bal (by simp)
    have u2 := (hs.mo _ hx1).u (gr zeroM s.members m12).eff (by simp)
    have u3 := (hs.mo _ hx1).u (gr zeroM s.members m12).score (by simp)
    have u0 := hw.m _ hx1
    have u4 := ((hs.mo _ hx1).n (gr zeroM s.members m12).streak (by simp)).2
    have u5 := ((hs.mo _ hx1).n (gr zeroM s.members m12).owner (by simp)).2
    have u6 := ((hs.mo _ hx1).n (gr zeroM s.members m12).status (by simp)).2
    simp -dsimp -implicitDefEqProofs (disch := first | with_reducible assumption | omega) [go_sem, xFind_oent f12, ↓idxR zeroM (by decide) hs.m, memC]
    refine xnew fun b6 n_b6 h_b6 => ?_
    try simp only [Apart] at n_b6
    simp -dsimp -implicitDefEqProofs (disch := first | with_reducible assumption | omega) [go_sem, memC]
    refine xanyl (.tk 0 (.tk 1 (.tk 2 (.tk 5 (.tk 6 (.tk 9 (.tk 10 (.tk 13 (.tk 14 (.tkl 3 (.tkl 7 (.tkl 11 (.tkl 15 (.tk 16 (.or true 4 (.or true 8 (.or true 12 (.or true 17 (.tk 18 (.fin)) (.nil)) (.nil)) (.nil)) (.nil)))))))))))))))) (by kernel_rfl) (by kernel_rfl) [⟨b6, 148, memC (gr zeroM s.members m12), 6⟩] (Drop.mem List.mem_cons_self) ?_
    simp -dsimp -implicitDefEqProofs (disch := first | with_reducible assumption | omega) [go_sem, memC]
    refine Spec.weaken (Drop.perm _ (oent_frontT _ _ _ _ [_] _)) (num26_any ((gr zeroM s.members m12).bal) u1.1 u1.2 k12 (by omega) fun o13 B13 e13 k13 ap13 l13 => ?_)
    have f13 : apB o13 b6 := ap13.head
    first | refine xkp ((Drop.oent _ _ _ _ _ _).trans (Drop.mem List.mem_cons_self)) ?_ | skip
    simp -dsimp -implicitDefEqProofs (disch := first | with_reducible assumption | omega) [go_sem, memC, xFind_oent f13]
    refine num26_any ((gr zeroM s.members m12).eff) u2.1 u2.2 k13 (by omega) fun o14 B14 e14 k14 ap14 l14 => ?_
    have f14 : apB o14 b6 := ap14.head
    first | refine xkp ((Drop.oent _ _ _ _ _ _).trans (Drop.mem List.mem_cons_self)) ?_ | skip
    simp -dsimp -implicitDefEqProofs (disch := first | with_reducible assumption | omega) [go_sem, memC, xFind_oent f14]
    refine num26_any ((gr zeroM s.members m12).score) u3.1 u3.2 k14 (by omega) fun o15 B15 e15 k15 ap15 l15 => ?_
    have f15 : apB o15 b6 := ap15.head
    first | refine xkp ((Drop.oent _ _ _ _ _ _).trans (Drop.mem List.mem_cons_self)) ?_ | skip
    simp -dsimp -implicitDefEqProofs (disch := first | with_reducible assumption | omega) [go_sem, memC, xFind_oent f15]
    refine num26_any ((gr zeroM s.members m12).streak) u0.1 (by omega) k15 (by omega) fun o16 B16 e16 k16 ap16 l16 => ?_
    have f16 : apB o16 b6 := ap16.head
    first | refine xkp ((Drop.oent _ _ _ _ _ _).trans (Drop.mem List.mem_cons_self)) ?_ | skip
    simp -dsimp -implicitDefEqProofs (disch := first | with_reducible assumption | omega) [go_sem, memC, xFind_oent f16]
    refine xanyl (.tk 0 (.tk 1 (.tk 5 (.tkl 2 (.tk 3 (.tkl 6 (.tk 7 (.or true 4 (.or true 8 (.tk 9 (.fin)) (.nil)) (.nil))))))))) (by kernel_rfl) (by kernel_rfl) [⟨b6, 148, memC (gr zeroM s.members m12), 6⟩] ((Drop.oent _ _ _ _ _ _).trans (Drop.mem List.mem_cons_self)) ?_
    simp -dsimp -implicitDefEqProofs (disch := first | with_reducible assumption | omega) [go_sem, memC]
    refine num26_any ((gr zeroM s.members m12).owner) u0.2.1 (by omega) k16 (by omega) fun o17 B17 e17 k17 ap17 l17 => ?_
    have f17 : apB o17 b6 := ap17.head
    first | refine xkp ((Drop.oent _ _ _ _ _ _).trans (Drop.mem List.mem_cons_self)) ?_ | skip
    simp -dsimp -implicitDefEqProofs (disch := first | with_reducible assumption | omega) [go_sem, memC, xFind_oent f17]
    refine num26_any ((gr zeroM s.members m12).status) u0.2.2 (by omega) k17 (by omega) fun o18 B18 e18 k18 ap18 l18 => ?_
    have f18 : apB o18 b6 := ap18.head
    first | refine xkp ((Drop.oent _ _ _ _ _ _).trans (Drop.mem List.mem_cons_self)) ?_ | skip
    simp -dsimp -implicitDefEqProofs (disch := first | with_reducible assumption | omega) [go_sem, memC, xFind_oent f18]
    first | simp -dsimp -implicitDefEqProofs (disch := first | with_reducible assumption | omega) [go_sem] | skip
    refine ⟨m12 + 1, o18, B18, ⟨by omega, k18, apO_tail ap18, ?_, by omega⟩, by omega, by simp [Ent, List.lookup], (Drop.perm _ (oent_frontT _ _ _ _ [_] _).symm).trans (Drop.tail _ _ _)⟩
    rw [e18, e17, e16, e15, e14, e13, e12, List.take_succ_eq_append_getElem c12, List.flatMap_append, List.flatMap_cons, List.flatMap_nil, List.append_nil, gr_lt c12]
    simp [memEnc, List.append_assoc]
  have hk12 : m12 = s.members.length := by omega
  subst hk12
  rw [List.take_length] at e12
  simp -dsimp -implicitDefEqProofs (disch := first | with_reducible assumption | omega) [go_sem, xFind_oent f12]
  refine xanyl (.tk 0 (.tk 1 (.tk 4 (.tkl 2 (.tkl 5 (.or true 3 (.or true 6 (.tk 7 (.fin)) (.nil)) (.nil))))))) (by kernel_rfl) (by kernel_rfl) [⟨b1, 46, stC s ⟨.slice pa s.purses.length pc, .slice ma s.members.length mc, .slice ea s.entry.length ec, .slice xa s.exit.length xc, .slice oa s.pool.length oc, .slice da s.dues.length dc, .slice ta s.motions.length tc, .slice ka s.marks.length kc, .slice ra s.ring.length rc⟩, 41⟩] ((Drop.oent _ _ _ _ _ _).trans (Drop.mem List.mem_cons_self)) ?_
  simp -dsimp -implicitDefEqProofs (disch := first | with_reducible assumption | omega) [go_sem]
  refine row26_any (l := s.entry) _ hs.e hw.e (by omega) k12 (by omega) fun o13 B13 e13 k13 ap13 l13 => ?_
  have f13 : apB o13 b1 := ap13.head
  first | refine xkp ((Drop.oent _ _ _ _ _ _).trans (Drop.mem List.mem_cons_self)) ?_ | skip
  simp -dsimp -implicitDefEqProofs (disch := first | with_reducible assumption | omega) [go_sem, xFind_oent f13]
  refine row26_any (l := s.exit) _ hs.x hw.x (by omega) k13 (by omega) fun o14 B14 e14 k14 ap14 l14 => ?_
  have f14 : apB o14 b1 := ap14.head
  first | refine xkp ((Drop.oent _ _ _ _ _ _).trans (Drop.mem List.mem_cons_self)) ?_ | skip
  simp -dsimp -implicitDefEqProofs (disch := first | with_reducible assumption | omega) [go_sem, xFind_oent f14]
  refine num26_any ((s.pool.length : Nat)) (by omega) (by omega) k14 (by omega) fun o15 B15 e15 k15 ap15 l15 => ?_
  rw [Int.toNat_natCast] at e15
  have f15 : apB o15 b1 := ap15.head
  first | refine xkp ((Drop.oent _ _ _ _ _ _).trans (Drop.mem List.mem_cons_self)) ?_ | skip
  simp -dsimp -implicitDefEqProofs (disch := first | with_reducible assumption | omega) [go_sem, xFind_oent f15]
  refine xloop (γ := Nat × Option (Nat × Nat) × List Int) (0, o15, B15) (fun x => x.1 ≤ s.pool.length ∧ okO x.2.1 x.2.2.length ∧ apO x.2.1 (⟨b1, 46, stC s ⟨.slice pa s.purses.length pc, .slice ma s.members.length mc, .slice ea s.entry.length ec, .slice xa s.exit.length xc, .slice oa s.pool.length oc, .slice da s.dues.length dc, .slice ta s.motions.length tc, .slice ka s.marks.length kc, .slice ra s.ring.length rc⟩, 41⟩ :: L) h ∧ x.2.2 = B15 ++ (s.pool.take x.1).flatMap depEnc ∧ x.2.2.length ≤ B15.length + 40 * x.1)
    (fun x => [(7, .int .i64 x.1), (3, ovs x.2.1 x.2.2.length), (1, .pointer (some ⟨b1, 0, none⟩))]) (fun x => oent 5 1 x.2.1 (x.2.2.map (.int .u8)) (⟨b1, 46, stC s ⟨.slice pa s.purses.length pc, .slice ma s.members.length mc, .slice ea s.entry.length ec, .slice xa s.exit.length xc, .slice oa s.pool.length oc, .slice da s.dues.length dc, .slice ta s.motions.length tc, .slice ka s.marks.length kc, .slice ra s.ring.length rc⟩, 41⟩ :: L)) (fun _ => h) (fun x => s.pool.length - x.1) ?_ ?_ ?_ ?_
  · exact ⟨Nat.zero_le _, k15, ap15, by simp, by simp⟩
  · simp [Ent, List.lookup, xEnv]
  · exact Drop.refl _ _
  rintro ⟨m16, o16, B16⟩ ⟨i16, k16, ap16, e16, l16⟩
  simp only at i16 k16 ap16 e16 l16 ⊢
  have f16 : apB o16 b1 := ap16.head
  by_cases c16 : m16 < s.pool.length
  · have hx1 := gr_mem' (z := zeroDep) c16
    have u1 := (hs.oo _ hx1).a
    have u0 := hw.o _ hx1
    have u4 := ((hs.oo _ hx1).n (gr zeroDep s.pool m16).acct (by simp)).2
    have u5 := ((hs.oo _ hx1).n (gr zeroDep s.pool m16).mem (by simp)).2
    simp -dsimp -implicitDefEqProofs (disch := first | with_reducible assumption | omega) [go_sem, xFind_oent f16, ↓idxR zeroDep (by decide) hs.o, depC]
    refine xnew fun b8 n_b8 h_b8 => ?_
    try simp only [Apart] at n_b8
    simp -dsimp -implicitDefEqProofs (disch := first | with_reducible assumption | omega) [go_sem, depC]
    refine xanyl (.tk 0 (.tk 1 (.tk 5 (.tk 9 (.tk 12 (.tkl 2 (.tk 3 (.tkl 6 (.tk 7 (.tkl 10 (.tkl 13 (.or true 4 (.or true 8 (.or true 11 (.or true 14 (.tk 15 (.fin)) (.nil)) (.nil)) (.nil)) (.nil))))))))))))) (by kernel_rfl) (by kernel_rfl) [⟨b8, 159, depC (gr zeroDep s.pool m16), 4⟩] (Drop.mem List.mem_cons_self) ?_
    simp -dsimp -implicitDefEqProofs (disch := first | with_reducible assumption | omega) [go_sem, depC]
    refine Spec.weaken (Drop.perm _ (oent_frontT _ _ _ _ [_] _)) (num26_any ((gr zeroDep s.pool m16).acct) u0.1 (by omega) k16 (by omega) fun o17 B17 e17 k17 ap17 l17 => ?_)
    have f17 : apB o17 b8 := ap17.head
    first | refine xkp ((Drop.oent _ _ _ _ _ _).trans (Drop.mem List.mem_cons_self)) ?_ | skip
    simp -dsimp -implicitDefEqProofs (disch := first | with_reducible assumption | omega) [go_sem, depC, xFind_oent f17]
    refine num26_any ((gr zeroDep s.pool m16).mem) u0.2 (by omega) k17 (by omega) fun o18 B18 e18 k18 ap18 l18 => ?_
    have f18 : apB o18 b8 := ap18.head
    first | refine xkp ((Drop.oent _ _ _ _ _ _).trans (Drop.mem List.mem_cons_self)) ?_ | skip
    simp -dsimp -implicitDefEqProofs (disch := first | with_reducible assumption | omega) [go_sem, depC, xFind_oent f18]
    refine num26_any ((gr zeroDep s.pool m16).amt) u1.1 u1.2 k18 (by omega) fun o19 B19 e19 k19 ap19 l19 => ?_
    have f19 : apB o19 b8 := ap19.head
    first | refine xkp ((Drop.oent _ _ _ _ _ _).trans (Drop.mem List.mem_cons_self)) ?_ | skip
    simp -dsimp -implicitDefEqProofs (disch := first | with_reducible assumption | omega) [go_sem, depC, xFind_oent f19]
    refine flag26_any (gr zeroDep s.pool m16).new k19 (by omega) fun o20 B20 e20 k20 ap20 l20 => ?_
    have f20 : apB o20 b8 := ap20.head
    first | refine xkp ((Drop.oent _ _ _ _ _ _).trans (Drop.mem List.mem_cons_self)) ?_ | skip
    simp -dsimp -implicitDefEqProofs (disch := first | with_reducible assumption | omega) [go_sem, depC, xFind_oent f20]
    first | simp -dsimp -implicitDefEqProofs (disch := first | with_reducible assumption | omega) [go_sem] | skip
    refine ⟨m16 + 1, o20, B20, ⟨by omega, k20, apO_tail ap20, ?_, by omega⟩, by omega, by simp [Ent, List.lookup], (Drop.perm _ (oent_frontT _ _ _ _ [_] _).symm).trans (Drop.tail _ _ _)⟩
    rw [e20, e19, e18, e17, e16, List.take_succ_eq_append_getElem c16, List.flatMap_append, List.flatMap_cons, List.flatMap_nil, List.append_nil, gr_lt c16]
    simp [depEnc, List.append_assoc]
  have hk16 : m16 = s.pool.length := by omega
  subst hk16
  rw [List.take_length] at e16
  simp -dsimp -implicitDefEqProofs (disch := first | with_reducible assumption | omega) [go_sem, xFind_oent f16]
  refine num26_any ((s.dues.length : Nat)) (by omega) (by omega) k16 (by omega) fun o17 B17 e17 k17 ap17 l17 => ?_
  rw [Int.toNat_natCast] at e17
  have f17 : apB o17 b1 := ap17.head
  first | refine xkp ((Drop.oent _ _ _ _ _ _).trans (Drop.mem List.mem_cons_self)) ?_ | skip
  simp -dsimp -implicitDefEqProofs (disch := first | with_reducible assumption | omega) [go_sem, xFind_oent f17]
  refine xloop (γ := Nat × Option (Nat × Nat) × List Int) (0, o17, B17) (fun x => x.1 ≤ s.dues.length ∧ okO x.2.1 x.2.2.length ∧ apO x.2.1 (⟨b1, 46, stC s ⟨.slice pa s.purses.length pc, .slice ma s.members.length mc, .slice ea s.entry.length ec, .slice xa s.exit.length xc, .slice oa s.pool.length oc, .slice da s.dues.length dc, .slice ta s.motions.length tc, .slice ka s.marks.length kc, .slice ra s.ring.length rc⟩, 41⟩ :: L) h ∧ x.2.2 = B17 ++ (s.dues.take x.1).flatMap dueEnc ∧ x.2.2.length ≤ B17.length + 30 * x.1)
    (fun x => [(9, .int .i64 x.1), (3, ovs x.2.1 x.2.2.length), (1, .pointer (some ⟨b1, 0, none⟩))]) (fun x => oent 5 1 x.2.1 (x.2.2.map (.int .u8)) (⟨b1, 46, stC s ⟨.slice pa s.purses.length pc, .slice ma s.members.length mc, .slice ea s.entry.length ec, .slice xa s.exit.length xc, .slice oa s.pool.length oc, .slice da s.dues.length dc, .slice ta s.motions.length tc, .slice ka s.marks.length kc, .slice ra s.ring.length rc⟩, 41⟩ :: L)) (fun _ => h) (fun x => s.dues.length - x.1) ?_ ?_ ?_ ?_
  · exact ⟨Nat.zero_le _, k17, ap17, by simp, by simp⟩
  · simp [Ent, List.lookup, xEnv]
  · exact Drop.refl _ _
  rintro ⟨m18, o18, B18⟩ ⟨i18, k18, ap18, e18, l18⟩
  simp only at i18 k18 ap18 e18 l18 ⊢
  have f18 : apB o18 b1 := ap18.head
  by_cases c18 : m18 < s.dues.length
  · have hx1 := gr_mem' (z := zeroDue) c18
    have u1 := (hs.dd _ hx1).a
    have u0 := hw.d _ hx1
    have u4 := ((hs.dd _ hx1).n (gr zeroDue s.dues m18).acct (by simp)).2
    have u5 := ((hs.dd _ hx1).n (gr zeroDue s.dues m18).at' (by simp)).2
    simp -dsimp -implicitDefEqProofs (disch := first | with_reducible assumption | omega) [go_sem, xFind_oent f18, ↓idxR zeroDue (by decide) hs.d, dueC]
    refine xnew fun b10 n_b10 h_b10 => ?_
    try simp only [Apart] at n_b10
    simp -dsimp -implicitDefEqProofs (disch := first | with_reducible assumption | omega) [go_sem, dueC]
    refine xanyl (.tk 0 (.tk 1 (.tk 5 (.tk 9 (.tkl 2 (.tk 3 (.tkl 6 (.tk 7 (.tkl 10 (.or true 4 (.or true 8 (.or true 11 (.tk 12 (.fin)) (.nil)) (.nil)) (.nil))))))))))) (by kernel_rfl) (by kernel_rfl) [⟨b10, 160, dueC (gr zeroDue s.dues m18), 3⟩] (Drop.mem List.mem_cons_self) ?_
    simp -dsimp -implicitDefEqProofs (disch := first | with_reducible assumption | omega) [go_sem, dueC]
    refine Spec.weaken (Drop.perm _ (oent_frontT _ _ _ _ [_] _)) (num26_any ((gr zeroDue s.dues m18).acct) u0.1 (by omega) k18 (by omega) fun o19 B19 e19 k19 ap19 l19 => ?_)
    have f19 : apB o19 b10 := ap19.head
    first | refine xkp ((Drop.oent _ _ _ _ _ _).trans (Drop.mem List.mem_cons_self)) ?_ | skip
    simp -dsimp -implicitDefEqProofs (disch := first | with_reducible assumption | omega) [go_sem, dueC, xFind_oent f19]
    refine num26_any ((gr zeroDue s.dues m18).at') u0.2 (by omega) k19 (by omega) fun o20 B20 e20 k20 ap20 l20 => ?_
    have f20 : apB o20 b10 := ap20.head
    first | refine xkp ((Drop.oent _ _ _ _ _ _).trans (Drop.mem List.mem_cons_self)) ?_ | skip
    simp -dsimp -implicitDefEqProofs (disch := first | with_reducible assumption | omega) [go_sem, dueC, xFind_oent f20]
    refine num26_any ((gr zeroDue s.dues m18).amt) u1.1 u1.2 k20 (by omega) fun o21 B21 e21 k21 ap21 l21 => ?_
    have f21 : apB o21 b10 := ap21.head
    first | refine xkp ((Drop.oent _ _ _ _ _ _).trans (Drop.mem List.mem_cons_self)) ?_ | skip
    simp -dsimp -implicitDefEqProofs (disch := first | with_reducible assumption | omega) [go_sem, dueC, xFind_oent f21]
    first | simp -dsimp -implicitDefEqProofs (disch := first | with_reducible assumption | omega) [go_sem] | skip
    refine ⟨m18 + 1, o21, B21, ⟨by omega, k21, apO_tail ap21, ?_, by omega⟩, by omega, by simp [Ent, List.lookup], (Drop.perm _ (oent_frontT _ _ _ _ [_] _).symm).trans (Drop.tail _ _ _)⟩
    rw [e21, e20, e19, e18, List.take_succ_eq_append_getElem c18, List.flatMap_append, List.flatMap_cons, List.flatMap_nil, List.append_nil, gr_lt c18]
    simp [dueEnc, List.append_assoc]
  have hk18 : m18 = s.dues.length := by omega
  subst hk18
  rw [List.take_length] at e18
  simp -dsimp -implicitDefEqProofs (disch := first | with_reducible assumption | omega) [go_sem, xFind_oent f18]
  refine num26_any ((s.motions.length : Nat)) (by omega) (by omega) k18 (by omega) fun o19 B19 e19 k19 ap19 l19 => ?_
  rw [Int.toNat_natCast] at e19
  have f19 : apB o19 b1 := ap19.head
  first | refine xkp ((Drop.oent _ _ _ _ _ _).trans (Drop.mem List.mem_cons_self)) ?_ | skip
  simp -dsimp -implicitDefEqProofs (disch := first | with_reducible assumption | omega) [go_sem, xFind_oent f19]
  refine xloop (γ := Nat × Option (Nat × Nat) × List Int) (0, o19, B19) (fun x => x.1 ≤ s.motions.length ∧ okO x.2.1 x.2.2.length ∧ apO x.2.1 (⟨b1, 46, stC s ⟨.slice pa s.purses.length pc, .slice ma s.members.length mc, .slice ea s.entry.length ec, .slice xa s.exit.length xc, .slice oa s.pool.length oc, .slice da s.dues.length dc, .slice ta s.motions.length tc, .slice ka s.marks.length kc, .slice ra s.ring.length rc⟩, 41⟩ :: L) h ∧ x.2.2 = B19 ++ (qm.take x.1).flatMap motEncQ ∧ x.2.2.length ≤ B19.length + 440 * x.1)
    (fun x => [(11, .int .i64 x.1), (3, ovs x.2.1 x.2.2.length), (1, .pointer (some ⟨b1, 0, none⟩))]) (fun x => oent 5 1 x.2.1 (x.2.2.map (.int .u8)) (⟨b1, 46, stC s ⟨.slice pa s.purses.length pc, .slice ma s.members.length mc, .slice ea s.entry.length ec, .slice xa s.exit.length xc, .slice oa s.pool.length oc, .slice da s.dues.length dc, .slice ta s.motions.length tc, .slice ka s.marks.length kc, .slice ra s.ring.length rc⟩, 41⟩ :: L)) (fun _ => h) (fun x => s.motions.length - x.1) ?_ ?_ ?_ ?_
  · exact ⟨Nat.zero_le _, k19, ap19, by simp, by simp⟩
  · simp [Ent, List.lookup, xEnv]
  · exact Drop.refl _ _
  rintro ⟨m20, o20, B20⟩ ⟨i20, k20, ap20, e20, l20⟩
  simp only at i20 k20 ap20 e20 l20 ⊢
  have f20 : apB o20 b1 := ap20.head
  by_cases c20 : m20 < s.motions.length
  · have cq : m20 < qm.length := by omega
    have hq1 := gr_mem' (z := zeroQM) cq
    have hq2 : (gr zeroQM qm m20).2.2 ∈ s.motions := by rw [← qm2]; exact List.mem_map_of_mem hq1
    have hmw := hw.t _ hq2
    have qm1' := qm1
    rw [← qml] at qm1'
    simp -dsimp -implicitDefEqProofs (disch := first | with_reducible assumption | omega) [go_sem, xFind_oent f20, ↓idxR zeroQM (by decide) qm1]
    refine mot26_any (gr zeroQM qm m20) (qm3 _ hq1) hmw fun oy21 ky21 ay21 ly21 => ?_
    first | simp -dsimp -implicitDefEqProofs (disch := first | with_reducible assumption | omega) [go_sem] | skip
    have g21 : apB oy21 b1 := (apO_oentT ay21).head
    refine append_ownx o20 oy21 B20 (motEnc (gr zeroQM qm m20).2.2) k20 ky21 (motEnc_len hmw) (by omega) fun o21 x21 y21 k21' ap21' hx21 => ?_
    replace hx21 := hx21 _ g21
    obtain ⟨B21, e21⟩ : ∃ B, B = B20 ++ motEnc (gr zeroQM qm m20).2.2 := ⟨_, rfl⟩
    have k21 : okO o21 B21.length := by rw [e21]; exact k21'
    have ap21 := ap21'
    have l21 : B21.length = B20.length + (motEnc (gr zeroQM qm m20).2.2).length := by rw [e21, List.length_append]
    have f21 : apB o21 b1 := ap21.head
    rw [← e21]
    first | simp -dsimp -implicitDefEqProofs (disch := first | with_reducible assumption | omega) [go_sem, xFind_oent f21] | skip
    refine ⟨m20 + 1, o21, B21, ⟨by omega, k21, ap21, ?_, by omega⟩, by omega, by simp [Ent, List.lookup], Drop.tail _ _ _⟩
    rw [e21, e20, List.take_succ_eq_append_getElem cq, List.flatMap_append, List.flatMap_cons, List.flatMap_nil, List.append_nil, List.append_assoc, gr_lt cq]
    rfl
  have hk20 : m20 = s.motions.length := by omega
  subst hk20
  rw [← qml, List.take_length] at e20
  simp -dsimp -implicitDefEqProofs (disch := first | with_reducible assumption | omega) [go_sem, xFind_oent f20]
  have lr1 : (rawN s.marks).length ≤ 60 := by have := form10 (n := s.marks.length) (by omega); simp only [rawN, List.length_append]; omega
  refine rawd_any _ hs.k (by omega) fun oy21 ky21 ay21 => ?_
  first | simp -dsimp -implicitDefEqProofs (disch := first | with_reducible assumption | omega) [go_sem] | skip
  have g21 : apB oy21 b1 := (apO_oentT ay21).head
  refine append_ownx o20 oy21 B20 (rawN s.marks) k20 ky21 (by have := formN_pos s.marks.length; simp only [rawN, List.length_append]; omega) (by omega) fun o21 x21 y21 k21' ap21' hx21 => ?_
  replace hx21 := hx21 _ g21
  obtain ⟨B21, e21⟩ : ∃ B, B = B20 ++ rawN s.marks := ⟨_, rfl⟩
  have k21 : okO o21 B21.length := by rw [e21]; exact k21'
  have ap21 := ap21'
  have l21 : B21.length = B20.length + (rawN s.marks).length := by rw [e21, List.length_append]
  have f21 : apB o21 b1 := ap21.head
  rw [← e21]
  first | simp -dsimp -implicitDefEqProofs (disch := first | with_reducible assumption | omega) [go_sem, xFind_oent f21] | skip
  obtain ⟨ra', rc', er, _, _, _, hcr, hdr⟩ := qr1.open
  injection er with er1 _ er2
  subst er1 er2
  have hcr' : ∀ j, j < s.ring.length → _ := fun j hj => hcr j (by omega)
  first | simp -dsimp -implicitDefEqProofs (disch := first | with_reducible assumption | omega) [go_sem] | skip
  refine Spec.weaken (Drop.tail _ _ _) (num26_any ((s.ring.length : Nat)) (by omega) (by omega) k21 (by omega) fun o22 B22 e22 k22 ap22 l22 => ?_)
  rw [Int.toNat_natCast] at e22
  have f22 : apB o22 b1 := ap22.head
  first | refine xkp ((Drop.oent _ _ _ _ _ _).trans (Drop.mem List.mem_cons_self)) ?_ | skip
  simp -dsimp -implicitDefEqProofs (disch := first | with_reducible assumption | omega) [go_sem, xFind_oent f22]
  refine xloop (γ := Nat × Option (Nat × Nat) × List Int) (0, o22, B22) (fun x => x.1 ≤ s.ring.length ∧ okO x.2.1 x.2.2.length ∧ apO x.2.1 (⟨b1, 46, stC s ⟨.slice pa s.purses.length pc, .slice ma s.members.length mc, .slice ea s.entry.length ec, .slice xa s.exit.length xc, .slice oa s.pool.length oc, .slice da s.dues.length dc, .slice ta s.motions.length tc, .slice ka s.marks.length kc, .slice ra s.ring.length rc⟩, 41⟩ :: L) h ∧ x.2.2 = B22 ++ (qr.take x.1).flatMap rawEncQ ∧ x.2.2.length ≤ B22.length + 60 * x.1)
    (fun x => [(12, .int .i64 x.1), (3, ovs x.2.1 x.2.2.length), (1, .pointer (some ⟨b1, 0, none⟩))]) (fun x => oent 5 1 x.2.1 (x.2.2.map (.int .u8)) (⟨b1, 46, stC s ⟨.slice pa s.purses.length pc, .slice ma s.members.length mc, .slice ea s.entry.length ec, .slice xa s.exit.length xc, .slice oa s.pool.length oc, .slice da s.dues.length dc, .slice ta s.motions.length tc, .slice ka s.marks.length kc, .slice ra s.ring.length rc⟩, 41⟩ :: L)) (fun _ => h) (fun x => s.ring.length - x.1) ?_ ?_ ?_ ?_
  · exact ⟨Nat.zero_le _, k22, ap22, by simp, by simp⟩
  · simp [Ent, List.lookup, xEnv]
  · exact Drop.refl _ _
  rintro ⟨m23, o23, B23⟩ ⟨i23, k23, ap23, e23, l23⟩
  simp only at i23 k23 ap23 e23 l23 ⊢
  have f23 : apB o23 b1 := ap23.head
  by_cases c23 : m23 < s.ring.length
  · have cq : m23 < qr.length := by omega
    have hi := hdr.at cq
    have hi' := hi
    obtain ⟨x1, y1, hv1, _⟩ := hi.open
    have hl5 : (gs qr m23).2.length ≤ 50 := hw.r _ (by rw [← qr2, gs_lt cq]; exact List.mem_map_of_mem (List.getElem_mem cq))
    simp -dsimp -implicitDefEqProofs (disch := first | with_reducible assumption | omega) [go_sem, xFind_oent f23, idx hcr', hv1]
    rw [hv1] at hi'
    have lr2 : (rawN (gs qr m23).2).length ≤ 60 := by have := form10 (n := (gs qr m23).2.length) (by omega); simp only [rawN, List.length_append]; omega
    refine rawd_any _ hi' (by omega) fun oy24 ky24 ay24 => ?_
    first | simp -dsimp -implicitDefEqProofs (disch := first | with_reducible assumption | omega) [go_sem] | skip
    have g24 : apB oy24 b1 := (apO_oentT ay24).head
    refine append_ownx o23 oy24 B23 (rawN (gs qr m23).2) k23 ky24 (by have := formN_pos (gs qr m23).2.length; simp only [rawN, List.length_append]; omega) (by omega) fun o24 x24 y24 k24' ap24' hx24 => ?_
    replace hx24 := hx24 _ g24
    obtain ⟨B24, e24⟩ : ∃ B, B = B23 ++ rawN (gs qr m23).2 := ⟨_, rfl⟩
    have k24 : okO o24 B24.length := by rw [e24]; exact k24'
    have ap24 := ap24'
    have l24 : B24.length = B23.length + (rawN (gs qr m23).2).length := by rw [e24, List.length_append]
    have f24 : apB o24 b1 := ap24.head
    rw [← e24]
    first | simp -dsimp -implicitDefEqProofs (disch := first | with_reducible assumption | omega) [go_sem, xFind_oent f24] | skip
    refine ⟨m23 + 1, o24, B24, ⟨by omega, k24, ap24, ?_, by omega⟩, by omega, by simp [Ent, List.lookup], Drop.tail _ _ _⟩
    rw [e24, e23, List.take_succ_eq_append_getElem cq, List.flatMap_append, List.flatMap_cons, List.flatMap_nil, List.append_nil, List.append_assoc, gs_lt cq]
    rfl
  have hk23 : m23 = s.ring.length := by omega
  subst hk23
  rw [← qrl, List.take_length] at e23
  simp -dsimp -implicitDefEqProofs (disch := first | with_reducible assumption | omega) [go_sem, xFind_oent f23]
  have q1 : qm.flatMap motEncQ = s.motions.flatMap motEnc := by rw [← qm2, List.flatMap_map]; rfl
  have q2 : qr.flatMap rawEncQ = s.ring.flatMap rawN := by rw [← qr2, xsL, List.flatMap_map]; rfl
  have eE : B23 = encS s := by
    rw [e23, e22, e21, e20, e19, e18, e17, e16, e15, e14, e13, e12, e11, e10, e9, e8, e7, e6, e5, e4, e3, e2, e1, e0, q1, q2]
    simp [encS, flatN, numEnc, List.append_assoc]
  rw [eE] at k23 l23 ⊢
  exact fin_perm (oent_frontT _ _ _ _ [_] _).symm (fin_tail (fin_here (hk o23 k23 (apO_tail ap23) (by omega))))
end Go.X
