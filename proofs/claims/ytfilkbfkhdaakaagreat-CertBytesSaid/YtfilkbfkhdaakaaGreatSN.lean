/- Contracts of cert.Draft, bullionref40.Draft. Conditions: the value reads as a state. -/
import Derived.Test.YtfilkbfkhdaakaaGreatSM
set_option linter.unusedVariables false
set_option linter.unusedSimpArgs false
set_option maxRecDepth 20000
namespace Go.X
open Go.RowKit Go.Proofs Go.Bl
variable {L : Own} {h : PH} {K : PK}
theorem draftC_cert {v : Value} {h' : PH} {s : StD} {hp : PH} {sv : SV} {bv : Value} (hs : IsSt hp sv s) (few : FewS s) (hv : Ints h' .u64 v (stkL s)) (hb : Ints h' .u8 bv (List.replicate ((s.members.length + 7) / 8) 0)) :
    IsCert h' (.agg #[.int .i64 s.ep, .int .i64 s.members.length, v, bv]) (draftC s) := by
  have he := hs.ok.n s.ep (by simp)
  have fm := few.m
  exact ⟨v, bv, rfl, hv, hb, he.1, he.2, by simp only [draftC]; omega, by simp only [draftC]; omega⟩
theorem size_eq (n : Nat) : sizeB n = ((n + 7) / 8 : Nat) := by
  unfold sizeB
  split <;> omega
set_option maxHeartbeats 12800000 in
theorem draft_any {s : StD} (v : SV) (hs : IsSt h v s) (few : FewS s) (hk : ∀ h' r, PH.le h h' → IsCert h' r (draftR s) → K (.tuple #[r, .int .i64 (if fitsS s then 0 else 291)]) L h') : Spec Tryz.prog 16 [stV s v] L h K := by
  obtain ⟨pa, pc, ma, mc, ea, ec, xa, xc, oa, oc, da, dc, ta, tc, ka, kc, ra, rc, rfl⟩ := hs.slices
  have fm := few.m
  have he := hs.ok.n s.ep (by simp)
  have hm : Recs memC 6 h (.slice ma s.members.length mc) s.members := hs.m
  obtain ⟨N, hN⟩ : ∃ N, N = (s.members.length + 7) / 8 := ⟨_, rfl⟩
  refine x_enter Tryz.func16 rfl (rs := [_, _]) rfl rfl mixed (by kernel_rfl) rfl rfl ?_
  simp -dsimp -implicitDefEqProofs (disch := first | with_reducible assumption | omega) [go_sem]
  refine xnew fun b1 n_b1 h_b1 => ?_
  try simp only [Apart] at n_b1
  simp -dsimp -implicitDefEqProofs (disch := first | with_reducible assumption | omega) [go_sem]
  refine xnew fun b2 n_b2 h_b2 => ?_
  try simp only [Apart] at n_b2
  simp -dsimp -implicitDefEqProofs (disch := first | with_reducible assumption | omega) [go_sem]
  refine fits_any (s := s) ⟨.slice pa s.purses.length pc, .slice ma s.members.length mc, .slice ea s.entry.length ec, .slice xa s.exit.length xc, .slice oa s.pool.length oc, .slice da s.dues.length dc, .slice ta s.motions.length tc, .slice ka s.marks.length kc, .slice ra s.ring.length rc⟩ hs few ?_
  cases q1 : fitsS s with
  | false =>
    have e : draftR s = zeroC := by rw [draftR, q1]; rfl
    rw [e, q1] at hk
    simp -dsimp -implicitDefEqProofs (disch := first | with_reducible assumption | omega) [go_sem]
    exact fin_tail (fin_tail (fin_here (hk h _ (PH.le_refl h) (zeroC_is h))))
  | true =>
  have e : draftR s = draftC s := by rw [draftR, q1]; rfl
  rw [e, q1] at hk
  simp -dsimp -implicitDefEqProofs (disch := first | with_reducible assumption | omega) [go_sem]
  refine xany_cut (.tk 0 (.tk 2 (.tk 5 (.tkl 1 (.tkl 3 (.tk 4 (.tkl 6 (.tk 7 (.or true 8 (.or true 9 (.tk 10 (.or true 11 (.or false 12 (.fin) (.nil)) (.nil))) (.or true 11 (.or true 9 (.tk 10 (.or false 12 (.fin) (.nil))) (.nil)) (.nil))) (.or true 11 (.or true 8 (.or true 9 (.tk 10 (.or false 12 (.fin) (.nil))) (.nil)) (.nil)) (.nil))))))))))) (by kernel_rfl) (by kernel_rfl) [(1, .pointer (some ⟨b1, 0, none⟩)), (2, .pointer (some ⟨b2, 0, none⟩))] _ (γ := Nat × Nat × PH)
    (fun q => PH.le h q.2.2 ∧ Ints q.2.2 .u8 (.slice (some ⟨q.2.1, 0, none⟩) N N) (List.replicate N 0) ∧ (q.2.2 q.1 = noC ∧ q.2.2 b2 = noC ∧ q.2.2 b1 = noC) ∧ (b2 ≠ q.1 ∧ b1 ≠ q.1 ∧ Apart q.1 L))
    (fun q => [(1, .pointer (some ⟨b1, 0, none⟩)), (2, .pointer (some ⟨b2, 0, none⟩)), (4, .pointer (some ⟨q.1, 0, none⟩))])
    (fun q => ⟨q.1, 36, [.int .i64 s.ep, .int .i64 s.members.length, .slice none 0 0, .slice (some ⟨q.2.1, 0, none⟩) N N], 4⟩ :: ⟨b2, 36, [.int .i64 0, .int .i64 0, .slice none 0 0, .slice none 0 0], 4⟩ :: ⟨b1, 34, stC s ⟨.slice pa s.purses.length pc, .slice ma s.members.length mc, .slice ea s.entry.length ec, .slice xa s.exit.length xc, .slice oa s.pool.length oc, .slice da s.dues.length dc, .slice ta s.motions.length tc, .slice ka s.marks.length kc, .slice ra s.ring.length rc⟩, 41⟩ :: L)
    (fun q => q.2.2) (by simp [Ent, List.lookup]) (Drop.refl _ _) ?_ ?_
  · have fin3 : ∀ bs b4 : Nat, bs ≠ b4 → b2 ≠ bs → b1 ≠ bs → b2 ≠ b4 → b1 ≠ b4 → Apart b4 L → h bs = noC → h b4 = noC →
        PH.le h (pub h bs (List.replicate N (.int .u8 0))) ∧ Ints (pub h bs (List.replicate N (.int .u8 0))) .u8 (.slice (some ⟨bs, 0, none⟩) N N) (List.replicate N 0) ∧ (pub h bs (List.replicate N (.int .u8 0)) b4 = noC ∧ pub h bs (List.replicate N (.int .u8 0)) b2 = noC ∧ pub h bs (List.replicate N (.int .u8 0)) b1 = noC) ∧ (b2 ≠ b4 ∧ b1 ≠ b4 ∧ Apart b4 L) := fun bs b4 x1 x2 x3 x4 x5 x6 y1 y2 =>
      ⟨pub_le y1 _, zeros_ints (pub_sl (o := some (bs, N)) ⟨Nat.le_refl _, by simp [maxLen]; omega⟩ (by simp) (by omega)), ⟨pubO_noC (o := some (bs, N)) x1 y2, pubO_noC (o := some (bs, N)) (Ne.symm x2) h_b2, pubO_noC (o := some (bs, N)) (Ne.symm x3) h_b1⟩, x4, x5, x6⟩
    simp -dsimp -implicitDefEqProofs (disch := first | with_reducible assumption | omega) [go_sem]
    refine xpl_or ?_ ?_
    · simp -dsimp -implicitDefEqProofs (disch := first | with_reducible assumption | omega) [go_sem]
      refine size_any _ (by omega) (by omega) ?_
      rw [size_eq, ← hN]
      simp -dsimp -implicitDefEqProofs (disch := first | with_reducible assumption | omega) [go_sem]
      refine xpl_or ?_ ?_
      · simp -dsimp -implicitDefEqProofs (disch := first | with_reducible assumption | omega) [go_sem]
        refine xMS_full (e := 5) (z := .int .u8 0) (by kernel_rfl) tI_5 rfl rfl .i64 .i64 _ (by omega) (by simp; omega) (by omega) ?_
        simp only [Int.toNat_natCast]
        refine xnew fun bs n_bs h_bs => ?_
        try simp only [Apart] at n_bs
        refine xkp (Drop.tail _ _ _) ?_
        simp -dsimp -implicitDefEqProofs (disch := first | with_reducible assumption | omega) [go_sem]
        refine xnew fun b4 n_b4 h_b4 => ?_
        try simp only [Apart] at n_b4
        refine xkp ((Drop.tail _ _ _).trans (Drop.tail _ _ _)) ?_
        simp -dsimp -implicitDefEqProofs (disch := first | with_reducible assumption | omega) [go_sem]
        exact ⟨b4, bs, _, fin3 bs b4 n_b4.1 n_bs.1 n_bs.2.1 n_b4.2.1 n_b4.2.2.1 n_b4.2.2.2 h_bs h_b4, by simp [Ent, List.lookup], pub_drop_at bs _ _ _ [_] _ h (by decide)⟩
      · simp -dsimp -implicitDefEqProofs (disch := first | with_reducible assumption | omega) [go_sem]
        refine xnew fun b4 n_b4 h_b4 => ?_
        try simp only [Apart] at n_b4
        refine xkp (Drop.tail _ _ _) ?_
        simp -dsimp -implicitDefEqProofs (disch := first | with_reducible assumption | omega) [go_sem]
        refine xMS_full (e := 5) (z := .int .u8 0) (by kernel_rfl) tI_5 rfl rfl .i64 .i64 _ (by omega) (by simp; omega) (by omega) ?_
        simp only [Int.toNat_natCast]
        refine xnew fun bs n_bs h_bs => ?_
        try simp only [Apart] at n_bs
        refine xkp ((Drop.tail _ _ _).trans (Drop.tail _ _ _)) ?_
        simp -dsimp -implicitDefEqProofs (disch := first | with_reducible assumption | omega) [go_sem]
        exact ⟨b4, bs, _, fin3 bs b4 (Ne.symm n_bs.1) n_bs.2.1 n_bs.2.2.1 n_b4.1 n_b4.2.1 n_b4.2.2 h_bs h_b4, by simp [Ent, List.lookup], pub_drop_at bs _ _ _ [] _ h (by decide)⟩
    · simp -dsimp -implicitDefEqProofs (disch := first | with_reducible assumption | omega) [go_sem]
      refine xnew fun b4 n_b4 h_b4 => ?_
      try simp only [Apart] at n_b4
      refine xkp (Drop.tail _ _ _) ?_
      simp -dsimp -implicitDefEqProofs (disch := first | with_reducible assumption | omega) [go_sem]
      refine size_any _ (by omega) (by omega) ?_
      rw [size_eq, ← hN]
      refine xkp (Drop.tail _ _ _) ?_
      simp -dsimp -implicitDefEqProofs (disch := first | with_reducible assumption | omega) [go_sem]
      refine xMS_full (e := 5) (z := .int .u8 0) (by kernel_rfl) tI_5 rfl rfl .i64 .i64 _ (by omega) (by simp; omega) (by omega) ?_
      simp only [Int.toNat_natCast]
      refine xnew fun bs n_bs h_bs => ?_
      try simp only [Apart] at n_bs
      refine xkp ((Drop.tail _ _ _).trans (Drop.tail _ _ _)) ?_
      simp -dsimp -implicitDefEqProofs (disch := first | with_reducible assumption | omega) [go_sem]
      exact ⟨b4, bs, _, fin3 bs b4 (Ne.symm n_bs.1) n_bs.2.1 n_bs.2.2.1 n_b4.1 n_b4.2.1 n_b4.2.2 h_bs h_b4, by simp [Ent, List.lookup], pub_drop_at bs _ _ _ [] _ h (by decide)⟩
  · rintro ⟨b4, bs, h1⟩ ⟨le1, ib, ⟨a4, a2, a1⟩, n24, n14, n4L⟩
    simp only at le1 ib a4 a2 a1 n24 n14 n4L ⊢
    have hm1 := hm.up le1
    simp -dsimp -implicitDefEqProofs (disch := first | with_reducible assumption | omega) [go_sem]
    refine xloop (γ := Nat × Option (Nat × Nat)) (0, none) (fun q => q.1 ≤ s.members.length ∧ okO q.2 q.1 ∧ apO q.2 (⟨b4, 36, [.int .i64 s.ep, .int .i64 s.members.length, ovs q.2 q.1, .slice (some ⟨bs, 0, none⟩) N N], 4⟩ :: ⟨b2, 36, [.int .i64 0, .int .i64 0, .slice none 0 0, .slice none 0 0], 4⟩ :: ⟨b1, 34, stC s ⟨.slice pa s.purses.length pc, .slice ma s.members.length mc, .slice ea s.entry.length ec, .slice xa s.exit.length xc, .slice oa s.pool.length oc, .slice da s.dues.length dc, .slice ta s.motions.length tc, .slice ka s.marks.length kc, .slice ra s.ring.length rc⟩, 41⟩ :: L) h1)
      (fun q => [(26, .int .i64 q.1), (25, .int .i64 s.members.length), (24, .slice ma s.members.length mc), (4, .pointer (some ⟨b4, 0, none⟩)), (2, .pointer (some ⟨b2, 0, none⟩))])
      (fun q => oent 22 1 q.2 (colU stkM s.members q.1) (⟨b4, 36, [.int .i64 s.ep, .int .i64 s.members.length, ovs q.2 q.1, .slice (some ⟨bs, 0, none⟩) N N], 4⟩ :: ⟨b2, 36, [.int .i64 0, .int .i64 0, .slice none 0 0, .slice none 0 0], 4⟩ :: ⟨b1, 34, stC s ⟨.slice pa s.purses.length pc, .slice ma s.members.length mc, .slice ea s.entry.length ec, .slice xa s.exit.length xc, .slice oa s.pool.length oc, .slice da s.dues.length dc, .slice ta s.motions.length tc, .slice ka s.marks.length kc, .slice ra s.ring.length rc⟩, 41⟩ :: L)) (fun _ => h1) (fun q => s.members.length - q.1) ?_ ?_ ?_ ?_
    · exact ⟨Nat.zero_le _, rfl, trivial⟩
    · simp [Ent, List.lookup, xEnv, ovs]
    · exact Drop.refl _ _
    rintro ⟨k, o⟩ ⟨k1, k2, k3⟩
    simp only at k1 k2 k3 ⊢
    have m4 : apB o b4 := k3.head
    have m2 : apB o b2 := (apO_tail k3).head
    by_cases c1 : k < s.members.length
    · simp -dsimp -implicitDefEqProofs (disch := first | with_reducible assumption | omega) [go_sem, ↓idxR zeroM (by decide) hm1, memC]
      refine xnew fun b6 n_b6 h_b6 => ?_
      try simp only [Apart] at n_b6
      simp -dsimp -implicitDefEqProofs (disch := first | with_reducible assumption | omega) [go_sem, memC]
      refine counts_any _ ?_
      by_cases c2 : (gr zeroM s.members k).status = 2 ∨ (gr zeroM s.members k).status = 3
      · have e : stkM (gr zeroM s.members k) = (gr zeroM s.members k).eff := by rw [stkM, if_pos c2]
        have n6 := apart_oent n_b6
        simp only [Apart] at n6
        obtain ⟨n64, n62, n61, _⟩ := n6
        rw [decide_eq_true c2]
        simp -dsimp -implicitDefEqProofs (disch := first | with_reducible assumption | omega) [go_sem, xFind_oent m4]
        refine xnew fun b7 n_b7 h_b7 => ?_
        try simp only [Apart] at n_b7
        have n7 := apart_oent n_b7.2
        simp only [Apart] at n7
        obtain ⟨n74, n72, n71, _⟩ := n7
        simp -dsimp -implicitDefEqProofs (disch := first | with_reducible assumption | omega) [go_sem]
        refine xappend (t := 25) (e := 22) (sz := 1) (bytes := 8) (by kernel_rfl) tI_22 rfl rfl rfl rfl (by decide) [_, _] _ o k (colU stkM s.members k) k2 (colU_len k1) (Src.own List.mem_cons_self) (m := 1) (news := [.int .u64 (gr zeroM s.members k).eff]) rfl (by intro u hu; simp only [List.mem_singleton] at hu; subst hu; rfl) (by simp [maxLen]; omega) (by omega) ?_
        intro o' j1 j2 j3
        have j4 := apO_tail (apO_tail j2)
        have m4' : apB o' b4 := j4.head
        simp -dsimp -implicitDefEqProofs (disch := first | with_reducible assumption | omega) [go_sem, xSet_oent m4']
        refine ⟨k + 1, o', ⟨by omega, j1, ?_⟩, by omega, by simp [Ent, List.lookup], ?_⟩
        · cases o' with
          | none => trivial
          | some p => exact ⟨⟨j4.1.1, j4.1.2⟩, j4.2⟩
        · rw [colU_succ zeroM c1, e]
          exact (Drop.tail _ _ _).trans (Drop.tail _ _ _)
      · have e : stkM (gr zeroM s.members k) = 0 := by rw [stkM, if_neg c2]
        have n6 := apart_oent n_b6
        simp only [Apart] at n6
        obtain ⟨n64, n62, n61, _⟩ := n6
        rw [decide_eq_false c2]
        simp -dsimp -implicitDefEqProofs (disch := first | with_reducible assumption | omega) [go_sem, xFind_oent m4]
        refine xnew fun b7 n_b7 h_b7 => ?_
        try simp only [Apart] at n_b7
        have n7 := apart_oent n_b7.2
        simp only [Apart] at n7
        obtain ⟨n74, n72, n71, _⟩ := n7
        simp -dsimp -implicitDefEqProofs (disch := first | with_reducible assumption | omega) [go_sem]
        refine xappend (t := 25) (e := 22) (sz := 1) (bytes := 8) (by kernel_rfl) tI_22 rfl rfl rfl rfl (by decide) [_, _] _ o k (colU stkM s.members k) k2 (colU_len k1) (Src.own List.mem_cons_self) (m := 1) (news := [.int .u64 0]) rfl (by intro u hu; simp only [List.mem_singleton] at hu; subst hu; rfl) (by simp [maxLen]; omega) (by omega) ?_
        intro o' j1 j2 j3
        have j4 := apO_tail (apO_tail j2)
        have m4' : apB o' b4 := j4.head
        simp -dsimp -implicitDefEqProofs (disch := first | with_reducible assumption | omega) [go_sem, xSet_oent m4']
        refine ⟨k + 1, o', ⟨by omega, j1, ?_⟩, by omega, by simp [Ent, List.lookup], ?_⟩
        · cases o' with
          | none => trivial
          | some p => exact ⟨⟨j4.1.1, j4.1.2⟩, j4.2⟩
        · rw [colU_succ zeroM c1, e]
          exact (Drop.tail _ _ _).trans (Drop.tail _ _ _)
    · have hkl : k = s.members.length := by omega
      subst hkl
      simp -dsimp -implicitDefEqProofs (disch := first | with_reducible assumption | omega) [go_sem, xFind_oent m4, xFind_oent m2, xSet_oent m2]
      subst hN
      exact fin_pub (e := 22) (n := s.members.length) k2 (colU_len (Nat.le_refl _)) (by omega) k3 fun h' le sl => fin_tail (fin_tail (fin_tail (fin_here (hk h' _ (le1.trans le) (draftC_cert hs few (colU_ints sl fun x hx => stkM_ok (hs.mo x hx)) (ib.up le))))))
set_option maxHeartbeats 12800000 in
theorem draft40_any {s : StD} (v : SV) (hs : IsSt h v s) (few : FewS s) (hk : ∀ h' r, PH.le h h' → IsCert h' r (draftC s) → K r L h') : Spec Tryz.prog 21 [stV s v] L h K := by
  obtain ⟨pa, pc, ma, mc, ea, ec, xa, xc, oa, oc, da, dc, ta, tc, ka, kc, ra, rc, rfl⟩ := hs.slices
  have fm := few.m
  have he := hs.ok.n s.ep (by simp)
  obtain ⟨N, hN⟩ : ∃ N, N = (s.members.length + 7) / 8 := ⟨_, rfl⟩
  have eN : ((s.members.length : Int) + 7) / 8 = (N : Nat) := by omega
  have pubI : ∀ (hh : PH) (bs : Nat), Ints (pub hh bs (List.replicate N (.int .u8 0))) .u8 (.slice (some ⟨bs, 0, none⟩) N N) (List.replicate ((s.members.length + 7) / 8) 0) := fun hh bs => by
    rw [← hN]
    exact zeros_ints (pub_sl (o := some (bs, N)) ⟨Nat.le_refl _, by simp [maxLen]; omega⟩ (by simp) (by omega))
  refine x_enter Tryz.func21 rfl (rs := [_]) rfl rfl mixed (by kernel_rfl) rfl rfl ?_
  simp -dsimp -implicitDefEqProofs (disch := first | with_reducible assumption | omega) [go_sem]
  refine xnew fun b1 n_b1 h_b1 => ?_
  try simp only [Apart] at n_b1
  simp -dsimp -implicitDefEqProofs (disch := first | with_reducible assumption | omega) [go_sem]
  refine xnew fun b2 n_b2 h_b2 => ?_
  try simp only [Apart] at n_b2
  simp -dsimp -implicitDefEqProofs (disch := first | with_reducible assumption | omega) [go_sem]
  refine xanyl (.tk 0 (.tk 2 (.tk 7 (.tkl 1 (.tkl 3 (.tk 4 (.tkl 5 (.tkl 8 (.tk 9 (.tk 10 (.tk 11 (.or true 6 (.or true 12 (.tk 13 (.or false 14 (.fin) (.nil))) (.nil)) (.or true 12 (.or true 6 (.tk 13 (.or false 14 (.fin) (.nil))) (.nil)) (.nil)))))))))))))) (by kernel_rfl) (by kernel_rfl) _ (Drop.refl _ _) ?_
  simp -dsimp -implicitDefEqProofs (disch := first | with_reducible assumption | omega) [go_sem, eN]
  refine xpl_or ?_ ?_
  · simp -dsimp -implicitDefEqProofs (disch := first | with_reducible assumption | omega) [go_sem, eN]
    refine Spec.ap (stakes36_any (s := s) ⟨.slice pa s.purses.length pc, .slice ma s.members.length mc, .slice ea s.entry.length ec, .slice xa s.exit.length xc, .slice oa s.pool.length oc, .slice da s.dues.length dc, .slice ta s.motions.length tc, .slice ka s.marks.length kc, .slice ra s.ring.length rc⟩ hs few fun h1 r le1 ir ap => ?_)
    simp only [Ap] at ap
    obtain ⟨a2, a1, _⟩ := ap
    have oir := ir.open
    obtain ⟨ra', rc', rfl, _⟩ := oir
    refine xkp (Drop.forget le1) ?_
    simp -dsimp -implicitDefEqProofs (disch := first | with_reducible assumption | omega) [go_sem, eN]
    refine xMS_full (e := 5) (z := .int .u8 0) (by kernel_rfl) tI_5 rfl rfl .i64 .i64 _ (by omega) (by simp; omega) (by omega) ?_
    simp only [Int.toNat_natCast]
    refine xnew fun bs n_bs h_bs => ?_
    try simp only [Apart] at n_bs
    refine xkp ((Drop.tail _ _ _).trans (Drop.forget le1)) ?_
    simp -dsimp -implicitDefEqProofs (disch := first | with_reducible assumption | omega) [go_sem]
    exact ⟨L, _, (pub_drop_at bs _ _ _ [] _ h1 (by decide)).trans ((Drop.tail _ _ _).trans (Drop.tail _ _ _)), hk _ _ (le1.trans (pub_le h_bs _)) (draftC_cert hs few (ir.up (pub_le h_bs _)) (pubI h1 bs))⟩
  · simp -dsimp -implicitDefEqProofs (disch := first | with_reducible assumption | omega) [go_sem, eN]
    refine xMS_full (e := 5) (z := .int .u8 0) (by kernel_rfl) tI_5 rfl rfl .i64 .i64 _ (by omega) (by simp; omega) (by omega) ?_
    simp only [Int.toNat_natCast]
    refine xnew fun bs n_bs h_bs => ?_
    try simp only [Apart] at n_bs
    refine xkp (Drop.tail _ _ _) ?_
    simp -dsimp -implicitDefEqProofs (disch := first | with_reducible assumption | omega) [go_sem, eN]
    refine Spec.ap (stakes36_any (s := s) ⟨.slice pa s.purses.length pc, .slice ma s.members.length mc, .slice ea s.entry.length ec, .slice xa s.exit.length xc, .slice oa s.pool.length oc, .slice da s.dues.length dc, .slice ta s.motions.length tc, .slice ka s.marks.length kc, .slice ra s.ring.length rc⟩ hs few fun h1 r le1 ir ap => ?_)
    simp only [Ap] at ap
    obtain ⟨aS, a2, a1, _⟩ := ap
    have oir := ir.open
    obtain ⟨ra', rc', rfl, _⟩ := oir
    refine xkp ((Drop.tail _ _ _).trans (Drop.forget le1)) ?_
    simp -dsimp -implicitDefEqProofs (disch := first | with_reducible assumption | omega) [go_sem]
    exact ⟨L, _, (pub_drop_at bs _ _ _ [] _ h1 (by decide)).trans ((Drop.tail _ _ _).trans (Drop.tail _ _ _)), hk _ _ (le1.trans (pub_le aS _)) (draftC_cert hs few (ir.up (pub_le aS _)) (pubI h1 bs))⟩
/-- the draft of a state that fits is right -/
theorem getB_zeros (n : Nat) (i : Int) : getB (List.replicate n 0) i = false := by
  unfold getB
  have : at0 (List.replicate n 0) (i / 8).toNat = 0 := by
    simp only [at0, List.getD_eq_getElem?_getD, List.getElem?_replicate]
    split <;> rfl
  rw [this]
  simp
theorem par_eff {p : ParD} (hr : parR p = true) : p.maxEff ≤ 1099511627776 := by
  have : stakesB p = true := by
    simp only [parR, Bool.and_eq_true] at hr
    first | exact hr.1.1 | exact hr.1 | exact hr.1.1.1
  exact (stakesB_facts this).2.2.2.1
theorem draft_right {s : StD} {v : SV} (hs : IsSt h v s) (few : FewS s) (hf : fitsS s = true) : rightC (draftC s) = true := by
  simp only [fitsS, Bool.and_eq_true, membersB, wi_iff, decide_eq_true_eq] at hf
  have hr := hf.1.1.1.1.1.1.1.1
  have hm := hf.1.1.1.1.2
  have hep := hf.1.1.1.1.1.1.1.2
  have hml : s.members.length ≤ 128 := hm.1.1.1
  have hst : ∀ i, i < s.members.length → at0 (stkL s) i = stkM (gr zeroM s.members i) := fun i hi => by
    rw [← at0_lt (by simpa [stkL] using hi), gr_lt hi]
    simp [stkL]
  have hlen : (stkL s).length = s.members.length := by simp [stkL]
  have hR : rightB (draftC s).bs (draftC s).mem = true := by
    refine right_upto _ _ ⟨by simp only [draftC]; omega, by simp only [draftC]; omega, by simp only [draftC, List.length_replicate]; omega⟩ (8 * (draftC s).bs.length) (fun j _ _ => getB_zeros _ _) (Nat.le_refl _)
  have hd : headC (draftC s) = true := by
    simp only [headC, hR, Bool.and_true, decide_eq_true_eq]
    simp only [draftC, hlen]
    refine ⟨by omega, by omega, by omega, by omega, by first | trivial | omega⟩
  refine rightC_of hd fun i hi => ?_
  simp only [draftC, hlen] at hi
  simp only [placeC, draftC, getB_zeros, Bool.and_false, Bool.not_false, Bool.and_true, decide_eq_true_eq, hst i hi]
  have hx := hs.mo (gr zeroM s.members i) (by rw [gr_lt hi]; exact List.getElem_mem hi)
  have h1 := List.all_eq_true.1 hm.1.1.2 (gr zeroM s.members i) (by rw [gr_lt hi]; exact List.getElem_mem hi)
  simp only [Bool.and_eq_true, mfitsB] at h1
  unfold stkM
  split
  · rename_i c
    have hs2 := h1.1.2
    simp only [shapeB] at hs2
    have := par_eff hr
    rw [if_pos (by first | exact c | simpa using c)] at hs2
    simp only [Bool.and_eq_true, gfitsP, decide_eq_true_eq] at hs2
    omega
  · omega
end Go.X
