/- Contracts of bullionref36.Give, Sit, Lead, and of the law SeatsSit. Conditions: the value reads as a state; numbers of 64 bits. -/
import Derived.Test.YtfilkbfkhdaakaaGreatTQ
import Derived.Test.YtfilkbfkhdaakaaGreatTH
import Derived.Test.YtfilkbfkhdaakaaGreatTK
import Derived.Test.YtfilkbfkhdaakaaGreatSL
import Derived.Test.YtfilkbfkhdaakaaGreatSM
import Derived.Test.YtfilkbfkhdaakaaGreatST
set_option linter.unusedVariables false
set_option linter.unusedSimpArgs false
set_option maxRecDepth 20000
namespace Go.X
open Go.RowKit Go.Proofs Go.Bl
variable {L : Own} {h : PH} {K : PK}
set_option maxHeartbeats 6400000 in
theorem rgive_any {s : StD} (v : SV) (n : Int) (hn : -9223372036854775808 ≤ n ∧ n ≤ 9223372036854775807) (hs : IsSt h v s) (few : FewS s) (fw : FewT s) (hk : ∀ h' r, PH.le h h' → Ints h' .i64 r (giveL s n) → K (.tuple #[r, .int .i64 (giveE s n)]) L h') : Spec Tryz.prog 33 [stV s v, .int .i64 n] L h K := by
  have no : ∀ e, giveE s n = e → e ≠ 0 → ∀ h', PH.le h h' → K (.tuple #[.slice none 0 0, .int .i64 e]) L h' := fun e he h0 h' le => by
    have := hk h' (.slice none 0 0) le (by rw [giveL, if_neg (by rw [he]; exact h0)]; exact nil_ints h' .i64)
    rwa [he] at this
  obtain ⟨pa, pc, ma, mc, ea, ec, xa, xc, oa, oc, da, dc, ta, tc, ka, kc, ra, rc, rfl⟩ := hs.slices
  refine x_enter Tryz.func33 rfl (rs := [_, _]) rfl rfl mixed (by kernel_rfl) rfl rfl ?_
  simp -dsimp -implicitDefEqProofs (disch := first | with_reducible assumption | omega) [go_sem]
  refine xnew fun b2 n_b2 h_b2 => ?_
  try simp only [Apart] at n_b2
  simp -dsimp -implicitDefEqProofs (disch := first | with_reducible assumption | omega) [go_sem]
  refine Spec.ap (fits24_any (s := s) ⟨.slice pa s.purses.length pc, .slice ma s.members.length mc, .slice ea s.entry.length ec, .slice xa s.exit.length xc, .slice oa s.pool.length oc, .slice da s.dues.length dc, .slice ta s.motions.length tc, .slice ka s.marks.length kc, .slice ra s.ring.length rc⟩ hs few fw fun h0 le0 ap => ?_)
  simp only [Ap] at ap
  obtain ⟨a2, _⟩ := ap
  cases q1 : fitsS s with
  | false =>
    have := no 291 (by rw [giveE, q1]; rfl) (by decide) h0 le0
    simp -dsimp -implicitDefEqProofs (disch := first | with_reducible assumption | omega) [go_sem]
    exact fin_tail (fin_here this)
  | true =>
  by_cases q2 : n < 0 ∨ 256 < n
  · have := no 2 (by rw [giveE, q1, if_pos rfl, if_pos q2]) (by decide) h0 le0
    by_cases q2a : n < 0
    · simp -dsimp -implicitDefEqProofs (disch := first | with_reducible assumption | omega) [go_sem]
      exact fin_tail (fin_here this)
    · simp -dsimp -implicitDefEqProofs (disch := first | with_reducible assumption | omega) [go_sem]
      exact fin_tail (fin_here this)
  have hbnd := stk_bound hs q1
  have hsum := stk_sum hs q1
  have htot := hsum s.members.length (Nat.le_refl _)
  have et : sumK (stkL s) s.members.length = tot (stkL s) := by rw [tot, stkL_len]
  rw [et] at htot
  simp -dsimp -implicitDefEqProofs (disch := first | with_reducible assumption | omega) [go_sem]
  refine Spec.ap (stakes36_any (s := s) ⟨.slice pa s.purses.length pc, .slice ma s.members.length mc, .slice ea s.entry.length ec, .slice xa s.exit.length xc, .slice oa s.pool.length oc, .slice da s.dues.length dc, .slice ta s.motions.length tc, .slice ka s.marks.length kc, .slice ra s.ring.length rc⟩ (hs.up le0) few fun h1 r le1 ir ap => ?_)
  simp only [Ap] at ap
  obtain ⟨a2', _⟩ := ap
  have ir0 := ir
  obtain ⟨wa, wc, rfl, _⟩ := ir.open
  rw [stkL_len]
  rw [stkL_len] at ir0
  simp -dsimp -implicitDefEqProofs (disch := first | with_reducible assumption | omega) [go_sem]
  refine rsum36_any _ ir0 (fun k hk => by have := hsum k (by rw [stkL_len] at hk; exact hk); omega) ?_
  by_cases q3 : tot (stkL s) = 0
  · have := no 190 (by rw [giveE, q1, if_pos rfl, if_neg q2, if_pos q3]) (by decide) h1 (le0.trans le1)
    rw [q3]
    simp -dsimp -implicitDefEqProofs (disch := first | with_reducible assumption | omega) [go_sem]
    exact fin_tail (fin_here this)
  have eE : giveE s n = 0 := by rw [giveE, q1, if_pos rfl, if_neg q2, if_neg q3]
  have eL : giveL s n = spL n (stkL s) := by rw [giveL, if_pos eE]
  rw [eE, eL] at hk
  simp -dsimp -implicitDefEqProofs (disch := first | with_reducible assumption | omega) [go_sem]
  have hsp := spr_ok (t := n) (ws := stkL s) (by omega) (fun i => (hbnd.2 i).1) (stkL s).length (Nat.le_refl _)
  have hsl : (spL n (stkL s)).length = s.members.length := by rw [← stkL_len]; exact hsp.len
  refine Spec.ap (rspread_any n (by omega) _ ir0 ?_ fun h2 r2 le2 ir2 ap => ?_)
  · have hw : whoE (stkL s) = 0 := by rw [whoE, if_pos (show (stkL s).length ≤ 256 by rw [stkL_len]; omega), if_pos (show tot (stkL s) ≤ 18446744073709551615 by omega)]
    rw [spE, if_pos hw, if_neg q3]
  simp only [Ap] at ap
  obtain ⟨a2', _⟩ := ap
  have ir2w := ir2.word
  obtain ⟨ga, gc, rfl, _, _, _, hcs⟩ := ir2.open
  have hat : ∀ i, at0 (spL n (stkL s)) i ≤ 256 := fun i => by
    have := hsp.at i
    have h2 := hsp.left
    have h3 : at0 (spL n (stkL s)) i + (sprK n (stkL s) (stkL s).length).2 ≤ n := this.2
    omega
  rw [hsl] at hcs ⊢
  simp -dsimp -implicitDefEqProofs (disch := first | with_reducible assumption | omega) [go_sem]
  refine xloop (γ := Nat × Option (Nat × Nat)) (0, none) (fun q => q.1 ≤ s.members.length ∧ okO q.2 q.1 ∧ apO q.2 (⟨b2, 49, stC s ⟨.slice pa s.purses.length pc, .slice ma s.members.length mc, .slice ea s.entry.length ec, .slice xa s.exit.length xc, .slice oa s.pool.length oc, .slice da s.dues.length dc, .slice ta s.motions.length tc, .slice ka s.marks.length kc, .slice ra s.ring.length rc⟩, 41⟩ :: L) h2)
    (fun q => [(10, .int .i64 q.1), (7, .slice ga s.members.length gc), (9, ovs q.2 q.1)])
    (fun q => oent 3 1 q.2 (tkI (spL n (stkL s)) q.1) (⟨b2, 49, stC s ⟨.slice pa s.purses.length pc, .slice ma s.members.length mc, .slice ea s.entry.length ec, .slice xa s.exit.length xc, .slice oa s.pool.length oc, .slice da s.dues.length dc, .slice ta s.motions.length tc, .slice ka s.marks.length kc, .slice ra s.ring.length rc⟩, 41⟩ :: L)) (fun _ => h2) (fun q => s.members.length - q.1) ?_ ?_ ?_ ?_
  · exact ⟨Nat.zero_le _, rfl, trivial⟩
  · simp [Ent, List.lookup, xEnv, ovs]
  · exact Drop.refl _ _
  rintro ⟨k, o⟩ ⟨k1, k2, k3⟩
  simp only at k1 k2 k3 ⊢
  by_cases c1 : k < s.members.length
  · have hx1 := ir2w k
    have hx2 := hat k
    simp -dsimp -implicitDefEqProofs (disch := first | with_reducible assumption | omega) [go_sem, idx hcs]
    refine xnew fun b7 n_b7 h_b7 => ?_
    try simp only [Apart] at n_b7
    simp -dsimp -implicitDefEqProofs (disch := first | with_reducible assumption | omega) [go_sem]
    refine xappend (t := 27) (e := 3) (sz := 1) (bytes := 8) (z := [.int .i64 0]) (by kernel_rfl) tI_3 rfl rfl rfl rfl (by decide) [_] _ o k (tkI (spL n (stkL s)) k) k2 (tkI_len (by omega)) (Src.own List.mem_cons_self) (m := 1) (news := [.int .i64 (at0 (spL n (stkL s)) k)]) rfl (fun u hu => by simp at hu; subst hu; rfl) (by simp [maxLen]; omega) (by have := hbnd.1; omega) ?_
    intro o' j1 j2 j3
    simp -dsimp -implicitDefEqProofs (disch := first | with_reducible assumption | omega) [go_sem]
    refine ⟨k + 1, o', ⟨by omega, j1, apO_tail j2⟩, by omega, by simp [Ent, List.lookup], ?_⟩
    rw [tkI_succ (by omega)]
    exact Drop.tail _ _ _
  · have hkl : k = s.members.length := by omega
    subst hkl
    obtain ⟨ya, yc, eo, _⟩ := ovs_open k2
    rw [eo]
    simp -dsimp -implicitDefEqProofs (disch := first | with_reducible assumption | omega) [go_sem]
    rw [← eo]
    refine fin_pub (e := 3) (n := s.members.length) k2 (tkI_len (by omega)) (by have := hbnd.1; omega) k3 fun h' le sl => fin_tail (fin_here (hk h' _ ((le0.trans le1).trans (le2.trans le)) ⟨?_, fun z hz => ?_⟩))
    · rw [tkI_all (by omega)] at sl
      rw [hsl]
      exact sl
    · obtain ⟨i, hi, rfl⟩ := List.mem_iff_getElem.1 hz
      have h5 := ir2w i
      have h6 := hat i
      rw [at0_lt hi, show IntKind.i64.min = -9223372036854775808 by decide, show IntKind.i64.max = 9223372036854775807 by decide]
      omega
/-- the cells of who sits, up to a place of a member -/
def whoJ (gs : List Int) (i t : Nat) : List Value := (whoK gs i ++ List.replicate t (i : Int)).map (.int .i64)
theorem whoJ_len (gs : List Int) (i t : Nat) : (whoJ gs i t).length = ((whoK gs i).length + t) * 1 := by simp [whoJ]
theorem whoJ_succ (gs : List Int) (i t : Nat) : whoJ gs i (t + 1) = whoJ gs i t ++ [.int .i64 i] := by
  rw [whoJ, List.replicate_succ', ← List.append_assoc, List.map_append]; rfl
theorem whoJ_next (gs : List Int) (i : Nat) : whoJ gs i (at0 gs i).toNat = whoJ gs (i + 1) 0 := by simp [whoJ, whoK]
theorem whoJ_all (gs : List Int) : whoJ gs gs.length 0 = (whoL gs).map (.int .i64) := by simp [whoJ, whoL]
set_option maxHeartbeats 12800000 in
theorem rsit_any {s : StD} (v : SV) (seed n : Int) (hx : 0 ≤ seed ∧ seed ≤ 18446744073709551615) (hn : -9223372036854775808 ≤ n ∧ n ≤ 9223372036854775807) (hs : IsSt h v s) (few : FewS s) (fw : FewT s) (hk : ∀ h' r, PH.le h h' → Ints h' .i64 r (sitR s seed n) → K (.tuple #[r, .int .i64 (giveE s n)]) L h') : Spec Tryz.prog 34 [stV s v, .int .u64 seed, .int .i64 n] L h K := by
  have hs0 := hs
  obtain ⟨pa, pc, ma, mc, ea, ec, xa, xc, oa, oc, da, dc, ta, tc, ka, kc, ra, rc, rfl⟩ := hs.slices
  have fm := few.m
  refine x_enter Tryz.func34 rfl (rs := [_, _]) rfl rfl mixed (by kernel_rfl) rfl rfl ?_
  simp -dsimp -implicitDefEqProofs (disch := first | with_reducible assumption | omega) [go_sem]
  refine xnew fun b3 n_b3 h_b3 => ?_
  try simp only [Apart] at n_b3
  simp -dsimp -implicitDefEqProofs (disch := first | with_reducible assumption | omega) [go_sem]
  refine Spec.ap (rgive_any (s := s) ⟨.slice pa s.purses.length pc, .slice ma s.members.length mc, .slice ea s.entry.length ec, .slice xa s.exit.length xc, .slice oa s.pool.length oc, .slice da s.dues.length dc, .slice ta s.motions.length tc, .slice ka s.marks.length kc, .slice ra s.ring.length rc⟩ n hn hs few fw fun h1 r le1 ir ap => ?_)
  simp only [Ap] at ap
  obtain ⟨a3, _⟩ := ap
  have ir0 := ir
  obtain ⟨ga, gc, rfl, _, _, _, hcg⟩ := ir.open
  by_cases c0 : giveE s n = 0
  · obtain ⟨q1, n0, n1, t0, eL⟩ := giveL_ok hs0 c0
    have hwl := who_len hs0 c0
    have hb := (stk_bound hs0 q1).2
    have h0 : ∀ i, 0 ≤ at0 (stkL s) i := fun i => (hb i).1
    have hg0 : ∀ i, 0 ≤ at0 (giveL s n) i := by rw [eL]; exact spL_nonneg n0 h0
    have hgl : (giveL s n).length = s.members.length := by rw [eL, spL_len n0 h0, stkL_len]
    have eS : sitR s seed n = sitL seed (giveL s n) := by rw [sitR, if_pos c0]
    rw [c0, eS] at hk
    rw [c0]
    obtain ⟨gs, hgs⟩ : ∃ gs, gs = giveL s n := ⟨_, rfl⟩
    rw [← hgs] at hk ir0 hwl hg0 hgl hcg ⊢
    have hgw := ir0.num
    obtain ⟨N, hN⟩ : ∃ N, N = (whoL gs).length := ⟨_, rfl⟩
    rw [← hN] at hwl
    have hwm : ∀ x ∈ whoL gs, 0 ≤ x ∧ x ≤ 9223372036854775807 := fun x hx => by
      obtain ⟨j, e1, e2, _⟩ := whoK_mem _ hx
      have := few.m
      omega
    simp -dsimp -implicitDefEqProofs (disch := first | with_reducible assumption | omega) [go_sem]
    refine xloop (γ := Nat × Option (Nat × Nat)) (0, none) (fun q => q.1 ≤ gs.length ∧ okO q.2 (whoK gs q.1).length ∧ apO q.2 (⟨b3, 49, stC s ⟨.slice pa s.purses.length pc, .slice ma s.members.length mc, .slice ea s.entry.length ec, .slice xa s.exit.length xc, .slice oa s.pool.length oc, .slice da s.dues.length dc, .slice ta s.motions.length tc, .slice ka s.marks.length kc, .slice ra s.ring.length rc⟩, 41⟩ :: L) h1)
      (fun q => [(11, .int .i64 q.1), (10, ovs q.2 (whoK gs q.1).length), (8, .slice ga gs.length gc), (1, .int .u64 seed)])
      (fun q => oent 3 1 q.2 (whoJ gs q.1 0) (⟨b3, 49, stC s ⟨.slice pa s.purses.length pc, .slice ma s.members.length mc, .slice ea s.entry.length ec, .slice xa s.exit.length xc, .slice oa s.pool.length oc, .slice da s.dues.length dc, .slice ta s.motions.length tc, .slice ka s.marks.length kc, .slice ra s.ring.length rc⟩, 41⟩ :: L)) (fun _ => h1) (fun q => gs.length - q.1) ?_ ?_ ?_ ?_
    · exact ⟨Nat.zero_le _, rfl, trivial⟩
    · simp [Ent, List.lookup, xEnv, ovs, whoK]
    · exact Drop.refl _ _
    rintro ⟨i, o⟩ ⟨i1, i2, i3⟩
    simp only at i1 i2 i3 ⊢
    by_cases c1 : i < gs.length
    · have hx0 := hg0 i
      have hx1 := hgw i
      simp -dsimp -implicitDefEqProofs (disch := first | with_reducible assumption | omega) [go_sem]
      refine xloop (γ := Nat × Option (Nat × Nat)) (0, o) (fun q => (q.1 : Int) ≤ at0 gs i ∧ okO q.2 ((whoK gs i).length + q.1) ∧ apO q.2 (⟨b3, 49, stC s ⟨.slice pa s.purses.length pc, .slice ma s.members.length mc, .slice ea s.entry.length ec, .slice xa s.exit.length xc, .slice oa s.pool.length oc, .slice da s.dues.length dc, .slice ta s.motions.length tc, .slice ka s.marks.length kc, .slice ra s.ring.length rc⟩, 41⟩ :: L) h1)
        (fun q => [(12, .int .i64 q.1), (11, .int .i64 i), (10, ovs q.2 ((whoK gs i).length + q.1)), (8, .slice ga gs.length gc), (1, .int .u64 seed)])
        (fun q => oent 3 1 q.2 (whoJ gs i q.1) (⟨b3, 49, stC s ⟨.slice pa s.purses.length pc, .slice ma s.members.length mc, .slice ea s.entry.length ec, .slice xa s.exit.length xc, .slice oa s.pool.length oc, .slice da s.dues.length dc, .slice ta s.motions.length tc, .slice ka s.marks.length kc, .slice ra s.ring.length rc⟩, 41⟩ :: L)) (fun _ => h1) (fun q => (at0 gs i).toNat - q.1) ?_ ?_ ?_ ?_
      · exact ⟨hx0, i2, i3⟩
      · simp [Ent, List.lookup]
      · exact Drop.refl _ _
      rintro ⟨t, o2⟩ ⟨j1, j2, j3⟩
      simp only at j1 j2 j3 ⊢
      by_cases c2 : (t : Int) < at0 gs i
      · obtain ⟨w1, w2⟩ := who_at c1 c2
        simp -dsimp -implicitDefEqProofs (disch := first | with_reducible assumption | omega) [go_sem, idx hcg]
        refine xnew fun b6 n_b6 h_b6 => ?_
        try simp only [Apart] at n_b6
        simp -dsimp -implicitDefEqProofs (disch := first | with_reducible assumption | omega) [go_sem]
        refine xappend (t := 27) (e := 3) (sz := 1) (bytes := 8) (z := [.int .i64 0]) (by kernel_rfl) tI_3 rfl rfl rfl rfl (by decide) [_] _ o2 ((whoK gs i).length + t) (whoJ gs i t) j2 (whoJ_len _ _ _) (Src.own List.mem_cons_self) (m := 1) (news := [.int .i64 i]) rfl (fun u hu => by simp at hu; subst hu; rfl) (by simp [maxLen]; omega) (by omega) ?_
        intro o' l1 l2 l3
        simp -dsimp -implicitDefEqProofs (disch := first | with_reducible assumption | omega) [go_sem]
        refine ⟨t + 1, o', ⟨by omega, by rw [← Nat.add_assoc]; exact l1, apO_tail l2⟩, by omega, by simp [Ent, List.lookup, Nat.add_assoc], ?_⟩
        rw [whoJ_succ]
        exact Drop.tail _ _ _
      · have ht : t = (at0 gs i).toNat := by omega
        subst ht
        simp -dsimp -implicitDefEqProofs (disch := first | with_reducible assumption | omega) [go_sem, idx hcg]
        refine ⟨i + 1, o2, ⟨by omega, by rw [who_next hx0]; exact j2, j3⟩, by omega, by simp [Ent, List.lookup, who_next hx0], ?_⟩
        rw [whoJ_next]
        exact Drop.refl _ _
    · have hil : i = gs.length := by omega
      subst hil
      rw [show (whoK gs gs.length).length = N from hN.symm] at i2 ⊢
      rw [whoJ_all]
      obtain ⟨wa, wc, ew, _⟩ := ovs_open i2
      rw [ew]
      simp -dsimp -implicitDefEqProofs (disch := first | with_reducible assumption | omega) [go_sem]
      refine call_pub_o [] (n := N) i2 (by simp [hN]) (by omega) (fun h2 le2 sl => ?_) ⟨Tryz.f106, Tryz.func106, by decide +kernel, rfl⟩
      rw [ew] at sl
      have iw : Ints h2 .i64 (.slice wa N wc) (whoL gs) := ⟨by rw [← hN]; exact sl, fun z hz => by
        have := hwm z hz
        rw [show IntKind.i64.min = -9223372036854775808 by decide, show IntKind.i64.max = 9223372036854775807 by decide]
        omega⟩
      refine Spec.ap (rorder_any seed N hx (by omega) fun h3 r3 le3 ir3 ap => ?_)
      simp only [List.nil_append, Ap] at ap
      obtain ⟨a3', _⟩ := ap
      obtain ⟨qa, qc, rfl, _, _, _, hco⟩ := ir3.open
      have hcw : ∀ j, j < N → elemCell h3 wa j = some (.int .i64 (at0 (whoL gs) j)) := fun j hj => by
        obtain ⟨wa', wc', e1, _, _, _, hc⟩ := (iw.up le3).open
        injection e1 with e1 _ _
        subst e1
        exact hc j (by omega)
      rw [ordL_len] at hco ⊢
      simp only [List.nil_append]
      simp -dsimp -implicitDefEqProofs (disch := first | with_reducible assumption | omega) [go_sem]
      refine xloop (γ := Nat × Option (Nat × Nat)) (0, none) (fun q => q.1 ≤ N ∧ okO q.2 q.1 ∧ apO q.2 (⟨b3, 49, stC s ⟨.slice pa s.purses.length pc, .slice ma s.members.length mc, .slice ea s.entry.length ec, .slice xa s.exit.length xc, .slice oa s.pool.length oc, .slice da s.dues.length dc, .slice ta s.motions.length tc, .slice ka s.marks.length kc, .slice ra s.ring.length rc⟩, 41⟩ :: L) h3)
        (fun q => [(15, .int .i64 q.1), (13, .slice qa N qc), (14, ovs q.2 q.1), (10, .slice wa N wc)])
        (fun q => oent 3 1 q.2 (tkI (sitL seed gs) q.1) (⟨b3, 49, stC s ⟨.slice pa s.purses.length pc, .slice ma s.members.length mc, .slice ea s.entry.length ec, .slice xa s.exit.length xc, .slice oa s.pool.length oc, .slice da s.dues.length dc, .slice ta s.motions.length tc, .slice ka s.marks.length kc, .slice ra s.ring.length rc⟩, 41⟩ :: L)) (fun _ => h3) (fun q => N - q.1) ?_ ?_ ?_ ?_
      · exact ⟨Nat.zero_le _, rfl, trivial⟩
      · simp [Ent, List.lookup, xEnv, ovs]
      · exact Drop.refl _ _
      rintro ⟨k, o2⟩ ⟨k1, k2, k3⟩
      simp only at k1 k2 k3 ⊢
      have hsl : (sitL seed gs).length = N := by rw [sitL_len, hN]
      by_cases c1 : k < N
      · have hom := ordL_mem seed N k c1
        obtain ⟨p, hp1⟩ : ∃ p : Nat, at0 (ordL seed N) k = p := ⟨(at0 (ordL seed N) k).toNat, by omega⟩
        have es : at0 (sitL seed gs) k = at0 (whoL gs) p := by rw [sitL_at seed gs (by omega), ← hN, hp1]; rfl
        simp -dsimp -implicitDefEqProofs (disch := first | with_reducible assumption | omega) [go_sem, idx hco, idx hcw, hp1]
        refine xnew fun b7 n_b7 h_b7 => ?_
        try simp only [Apart] at n_b7
        simp -dsimp -implicitDefEqProofs (disch := first | with_reducible assumption | omega) [go_sem]
        refine xappend (t := 27) (e := 3) (sz := 1) (bytes := 8) (z := [.int .i64 0]) (by kernel_rfl) tI_3 rfl rfl rfl rfl (by decide) [_] _ o2 k (tkI (sitL seed gs) k) k2 (tkI_len (by omega)) (Src.own List.mem_cons_self) (m := 1) (news := [.int .i64 (at0 (whoL gs) p)]) rfl (fun u hu => by simp at hu; subst hu; rfl) (by simp [maxLen]; omega) (by omega) ?_
        intro o' j1 j2 j3
        simp -dsimp -implicitDefEqProofs (disch := first | with_reducible assumption | omega) [go_sem]
        refine ⟨k + 1, o', ⟨by omega, j1, apO_tail j2⟩, by omega, by simp [Ent, List.lookup], ?_⟩
        rw [tkI_succ (by omega), es]
        exact Drop.tail _ _ _
      · have hkl : k = N := by omega
        subst hkl
        obtain ⟨ya, yc, eo, _⟩ := ovs_open k2
        rw [eo]
        simp -dsimp -implicitDefEqProofs (disch := first | with_reducible assumption | omega) [go_sem]
        rw [← eo]
        refine fin_pub (e := 3) (n := k) k2 (tkI_len (by omega)) (by omega) k3 fun h4 le4 sl4 => fin_tail (fin_here (hk h4 _ (le1.trans (le2.trans (le3.trans le4))) ⟨?_, fun z hz => ?_⟩))
        · rw [tkI_all (by omega)] at sl4
          rw [hsl]
          exact sl4
        · have := hwm z ((sitL_perm seed gs).mem_iff.1 hz)
          rw [show IntKind.i64.min = -9223372036854775808 by decide, show IntKind.i64.max = 9223372036854775807 by decide]
          omega
  · have eS : sitR s seed n = [] := by rw [sitR, if_neg c0]
    have h3 := hk h1 (.slice none 0 0) le1 (by rw [eS]; exact nil_ints h1 .i64)
    have he := c0
    simp -dsimp -implicitDefEqProofs (disch := first | with_reducible assumption | omega) [go_sem]
    exact fin_tail (fin_here h3)
theorem sumK_take' {zs : List Int} {n : Nat} : ∀ k, k ≤ n → sumK (zs.take n) k = sumK zs k
  | 0, _ => rfl
  | k + 1, hk => by
    rw [sumK, sumK, sumK_take' k (by omega), at0_take, if_pos (by omega)]
theorem sumK_take {zs : List Int} {n : Nat} (hn : n ≤ zs.length) : tot (zs.take n) = sumK zs n := by
  rw [tot, List.length_take, Nat.min_eq_left hn, sumK_take' n (Nat.le_refl _)]
theorem mL_one_at (seed : Int) : at0 (mL seed 1) 0 = mDr seed 0 := mL_at seed (by decide)
set_option maxHeartbeats 6400000 in
theorem rlead_any {s : StD} (v : SV) (seed : Int) (hx : 0 ≤ seed ∧ seed ≤ 18446744073709551615) (hs : IsSt h v s) (few : FewS s) (fw : FewT s) (hk1 : ∀ h', leadE s ≠ 0 → PH.le h h' → K (.tuple #[.int .i64 0, .int .i64 (leadE s)]) L h')
    (hk2 : ∀ h' (i : Nat), leadE s = 0 → PH.le h h' → i < s.members.length → sumK (stkL s) i ≤ leadD s seed → leadD s seed < sumK (stkL s) (i + 1) → K (.tuple #[.int .i64 i, .int .i64 0]) L h') :
    Spec Tryz.prog 35 [stV s v, .int .u64 seed] L h K := by
  have hs0 := hs
  obtain ⟨pa, pc, ma, mc, ea, ec, xa, xc, oa, oc, da, dc, ta, tc, ka, kc, ra, rc, rfl⟩ := hs.slices
  have fm := few.m
  refine x_enter Tryz.func35 rfl (rs := [_, _]) rfl rfl mixed (by kernel_rfl) rfl rfl ?_
  simp -dsimp -implicitDefEqProofs (disch := first | with_reducible assumption | omega) [go_sem]
  refine xnew fun b2 n_b2 h_b2 => ?_
  try simp only [Apart] at n_b2
  simp -dsimp -implicitDefEqProofs (disch := first | with_reducible assumption | omega) [go_sem]
  refine Spec.ap (fits24_any (s := s) ⟨.slice pa s.purses.length pc, .slice ma s.members.length mc, .slice ea s.entry.length ec, .slice xa s.exit.length xc, .slice oa s.pool.length oc, .slice da s.dues.length dc, .slice ta s.motions.length tc, .slice ka s.marks.length kc, .slice ra s.ring.length rc⟩ hs few fw fun h0 le0 ap => ?_)
  simp only [Ap] at ap
  obtain ⟨a2, _⟩ := ap
  cases q1 : fitsS s with
  | false =>
    have e : leadE s = 291 := by rw [leadE, q1]; rfl
    have h3 := hk1 h0 (by rw [e]; decide) le0
    rw [e] at h3
    simp -dsimp -implicitDefEqProofs (disch := first | with_reducible assumption | omega) [go_sem]
    exact fin_tail (fin_here h3)
  | true =>
  have hbnd := (stk_bound hs0 q1).2
  have htot := stk_sum hs0 q1 s.members.length (Nat.le_refl _)
  have hsum := stk_sum hs0 q1
  have et : sumK (stkL s) s.members.length = tot (stkL s) := by rw [tot, stkL_len]
  rw [et] at htot
  simp -dsimp -implicitDefEqProofs (disch := first | with_reducible assumption | omega) [go_sem]
  refine Spec.ap (stakes36_any (s := s) ⟨.slice pa s.purses.length pc, .slice ma s.members.length mc, .slice ea s.entry.length ec, .slice xa s.exit.length xc, .slice oa s.pool.length oc, .slice da s.dues.length dc, .slice ta s.motions.length tc, .slice ka s.marks.length kc, .slice ra s.ring.length rc⟩ (hs.up le0) few fun h1 r le1 ir ap => ?_)
  simp only [Ap] at ap
  obtain ⟨a2', _⟩ := ap
  have ir0 := ir
  have irw := ir.word
  obtain ⟨wa, wc, rfl, hwc, _⟩ := ir.open
  rw [stkL_len] at hwc
  rw [stkL_len]
  rw [stkL_len] at ir0
  simp -dsimp -implicitDefEqProofs (disch := first | with_reducible assumption | omega) [go_sem]
  refine rsum36_any _ ir0 (fun k hk => by have := hsum k (by rw [stkL_len] at hk; exact hk); omega) ?_
  by_cases q3 : tot (stkL s) = 0
  · have e : leadE s = 190 := by rw [leadE, q1, if_pos rfl, if_pos q3]
    have h3 := hk1 h1 (by rw [e]; decide) (le0.trans le1)
    rw [e] at h3
    rw [q3]
    simp -dsimp -implicitDefEqProofs (disch := first | with_reducible assumption | omega) [go_sem]
    exact fin_tail (fin_here h3)
  have e : leadE s = 0 := by rw [leadE, q1, if_pos rfl, if_neg q3]
  simp -dsimp -implicitDefEqProofs (disch := first | with_reducible assumption | omega) [go_sem]
  have hd0 := Int.emod_nonneg (mDr seed 0) (show tot (stkL s) ≠ 0 by omega)
  have hd1 := Int.emod_lt_of_pos (mDr seed 0) (show 0 < tot (stkL s) by omega)
  have hmr := mDr_range seed 0
  refine xany (.tk 0 (.tk 4 (.or true 1 (.tk 2 (.or true 3 (.or true 5 (.tk 6 (.tk 7 (.fin))) (.nil)) (.or true 5 (.or true 3 (.tk 6 (.tk 7 (.fin))) (.nil)) (.nil)))) (.nil)))) (by kernel_rfl) (by kernel_rfl) ?_
  simp -dsimp -implicitDefEqProofs (disch := first | with_reducible assumption | omega) [go_sem]
  refine Spec.ap (rmill_pub seed 1 hx (by decide) fun h2 r2 le2 im ap => ?_)
  simp only [Ap] at ap
  obtain ⟨a22, _⟩ := ap
  obtain ⟨ya, yc, rfl, _, _, _, hcm⟩ := im.open
  rw [mL_len] at hcm ⊢
  have hcm' : ∀ j, j < 1 → elemCell h2 ya j = some (.int .u64 (mDr seed 0)) := fun j hj => by
    have := hcm j hj
    rw [show j = 0 by omega] at this ⊢
    rwa [mL_one_at] at this
  simp -dsimp -implicitDefEqProofs (disch := first | with_reducible assumption | omega) [go_sem, idx hcm']
  have hsk : ∀ k, k ≤ (stkL s).length → sumK (stkL s) k ≤ 18446744073709551615 := fun k hk => by have := hsum k (by rw [stkL_len] at hk; exact hk); omega
  have ir2 := ir0.up le2
  refine xpl_or ?_ ?_
  all_goals
    simp -dsimp -implicitDefEqProofs (disch := first | with_reducible assumption | omega) [go_sem, idx hcm']
    refine rsum36_any _ ir2 hsk ?_
    simp -dsimp -implicitDefEqProofs (disch := first | with_reducible assumption | omega) [go_sem, idx hcm']
    rw [show mDr seed 0 % tot (stkL s) = leadD s seed from rfl] at *
    refine xloop (γ := Nat) 0 (fun k => k ≤ s.members.length ∧ sumK (stkL s) k ≤ leadD s seed)
      (fun k => [(8, .int .i64 k), (7, .int .u64 (leadD s seed)), (6, .slice wa s.members.length wc)])
      (fun _ => ⟨b2, 49, stC s ⟨.slice pa s.purses.length pc, .slice ma s.members.length mc, .slice ea s.entry.length ec, .slice xa s.exit.length xc, .slice oa s.pool.length oc, .slice da s.dues.length dc, .slice ta s.motions.length tc, .slice ka s.marks.length kc, .slice ra s.ring.length rc⟩, 41⟩ :: L) (fun _ => h2) (fun k => s.members.length - k) ?_ ?_ ?_ ?_
    · exact ⟨Nat.zero_le _, by simpa [sumK] using hd0⟩
    · simp [Ent, List.lookup, xEnv]
    · exact Drop.refl _ _
    rintro k ⟨k1, k2⟩
    by_cases c1 : k < s.members.length
    · have hs1 := hsum (k + 1) (by omega)
      have itk := ir2.take (k + 1) (by rw [stkL_len]; omega)
      have etk : tot ((stkL s).take (k + 1)) = sumK (stkL s) (k + 1) := sumK_take (by rw [stkL_len]; omega)
      have etn : ((k : Int) + 1).toNat = k + 1 := by omega
      by_cases c2 : sumK (stkL s) (k + 1) ≤ leadD s seed
      · simp -dsimp -implicitDefEqProofs (disch := first | with_reducible assumption | omega) [go_sem, etn]
        refine rsum36_any _ itk ?_ ?_
        · intro j hj
          rw [List.length_take, stkL_len] at hj
          have := hsum j (by omega)
          rw [sumK_take' j (by omega)]
          omega
        rw [etk]
        simp -dsimp -implicitDefEqProofs (disch := first | with_reducible assumption | omega) [go_sem]
        exact ⟨k + 1, ⟨by omega, c2⟩, by omega, by simp [Ent, List.lookup], Drop.refl _ _⟩
      · simp -dsimp -implicitDefEqProofs (disch := first | with_reducible assumption | omega) [go_sem, etn]
        refine rsum36_any _ itk ?_ ?_
        · intro j hj
          rw [List.length_take, stkL_len] at hj
          have := hsum j (by omega)
          rw [sumK_take' j (by omega)]
          omega
        rw [etk]
        simp -dsimp -implicitDefEqProofs (disch := first | with_reducible assumption | omega) [go_sem]
        exact fin_tail (fin_here (hk2 h2 k e (le0.trans (le1.trans le2)) c1 k2 (by omega)))
    · exfalso
      have hkl : k = s.members.length := by omega
      subst hkl
      rw [et] at k2
      omega
theorem lead_one {zs : List Int} (h0 : ∀ i, 0 ≤ at0 zs i) {d : Int} {i j : Nat} (a1 : sumK zs i ≤ d) (a2 : d < sumK zs (i + 1)) (b1 : sumK zs j ≤ d) (b2 : d < sumK zs (j + 1)) : i = j := by
  rcases Nat.lt_trichotomy i j with c | c | c
  · have := sumK_mono h0 (show i + 1 ≤ j from c)
    omega
  · exact c
  · have := sumK_mono h0 (show j + 1 ≤ i from c)
    omega
set_option maxHeartbeats 25600000 in
theorem seatssit_any (w : Value) (seed n : Int) (hS : ∃ q : SV × StD, w = stV q.2 q.1 ∧ IsSt h q.1 q.2) (hx : 0 ≤ seed ∧ seed ≤ 18446744073709551615) (hn : -9223372036854775808 ≤ n ∧ n ≤ 9223372036854775807) (hk : ∀ h', PH.le h h' → K (.bool true) L h') : Spec Tryz.prog 4 [w, .int .u64 seed, .int .i64 n] L h K := by
  obtain ⟨⟨sv0, s⟩, rfl, hs0⟩ := hS
  simp only at hs0 ⊢
  obtain ⟨pa, pc, ma, mc, ea, ec, xa, xc, oa, oc, da, dc, ta, tc, ka, kc, ra, rc, rfl⟩ := hs0.slices
  refine x_enter Tryz.func4 rfl (rs := [_]) rfl rfl mixed (by kernel_rfl) rfl rfl ?_
  simp -dsimp -implicitDefEqProofs (disch := first | with_reducible assumption | omega) [go_sem]
  refine xnew fun b3 n_b3 h_b3 => ?_
  try simp only [Apart] at n_b3
  simp -dsimp -implicitDefEqProofs (disch := first | with_reducible assumption | omega) [go_sem]
  refine Spec.ap (awake36_any fun h1 le1 ap => ?_)
  simp only [Ap] at ap
  obtain ⟨a13, _⟩ := ap
  simp -dsimp -implicitDefEqProofs (disch := first | with_reducible assumption | omega) [go_sem]
  refine few24_any (s := s) ⟨.slice pa s.purses.length pc, .slice ma s.members.length mc, .slice ea s.entry.length ec, .slice xa s.exit.length xc, .slice oa s.pool.length oc, .slice da s.dues.length dc, .slice ta s.motions.length tc, .slice ka s.marks.length kc, .slice ra s.ring.length rc⟩ (hs0.up le1) ?_
  cases f1 : fewB s with
  | false =>
    simp -dsimp -implicitDefEqProofs (disch := first | with_reducible assumption | omega) [go_sem]
    exact fin_tail (fin_here (hk h1 le1))
  | true =>
  have fS := fewB_S f1
  have fT := fewB_T f1
  simp -dsimp -implicitDefEqProofs (disch := first | with_reducible assumption | omega) [go_sem]
  refine Spec.ap (plain24_any (s := s) (v := ⟨.slice pa s.purses.length pc, .slice ma s.members.length mc, .slice ea s.entry.length ec, .slice xa s.exit.length xc, .slice oa s.pool.length oc, .slice da s.dues.length dc, .slice ta s.motions.length tc, .slice ka s.marks.length kc, .slice ra s.ring.length rc⟩) (hs0.up le1) fS.m fS.o fS.d fS.t fun h2 u2 le2 hs2 ap => ?_)
  simp only [Ap] at ap
  obtain ⟨a23, _⟩ := ap
  obtain ⟨pa2, pc2, ma2, mc2, ea2, ec2, xa2, xc2, oa2, oc2, da2, dc2, ta2, tc2, ka2, kc2, ra2, rc2, rfl⟩ := hs2.slices
  simp -dsimp -implicitDefEqProofs (disch := first | with_reducible assumption | omega) [go_sem]
  refine xnew fun b5 n_b5 h_b5 => ?_
  try simp only [Apart] at n_b5
  simp -dsimp -implicitDefEqProofs (disch := first | with_reducible assumption | omega) [go_sem]
  have le12 := le1.trans le2
  refine Spec.ap (give_any (s := s) ⟨.slice pa s.purses.length pc, .slice ma s.members.length mc, .slice ea s.entry.length ec, .slice xa s.exit.length xc, .slice oa s.pool.length oc, .slice da s.dues.length dc, .slice ta s.motions.length tc, .slice ka s.marks.length kc, .slice ra s.ring.length rc⟩ n hn (hs0.up le12) fS fun h3 r3 le3 i3 ap => ?_)
  simp only [Ap] at ap
  obtain ⟨a35, a33, _⟩ := ap
  have i30 := i3
  obtain ⟨ga, gc, rfl, _⟩ := i3.open
  have le13 := le12.trans le3
  simp -dsimp -implicitDefEqProofs (disch := first | with_reducible assumption | omega) [go_sem]
  refine Spec.ap (sit_any (s := s) ⟨.slice pa s.purses.length pc, .slice ma s.members.length mc, .slice ea s.entry.length ec, .slice xa s.exit.length xc, .slice oa s.pool.length oc, .slice da s.dues.length dc, .slice ta s.motions.length tc, .slice ka s.marks.length kc, .slice ra s.ring.length rc⟩ seed n hx hn (hs0.up le13) fS fun h4 r4 le4 i4 ap => ?_)
  simp only [Ap] at ap
  obtain ⟨a45, a43, _⟩ := ap
  have i40 := i4
  obtain ⟨la, lc, rfl, _⟩ := i4.open
  have le14 := le13.trans le4
  simp -dsimp -implicitDefEqProofs (disch := first | with_reducible assumption | omega) [go_sem]
  by_cases eL : leadE s = 0
  · refine Spec.ap (lead_any (s := s) ⟨.slice pa s.purses.length pc, .slice ma s.members.length mc, .slice ea s.entry.length ec, .slice xa s.exit.length xc, .slice oa s.pool.length oc, .slice da s.dues.length dc, .slice ta s.motions.length tc, .slice ka s.marks.length kc, .slice ra s.ring.length rc⟩ seed hx (hs0.up le14) fS (fun h5 e5 => absurd eL e5) (fun h5 i e5 le5 hi d1 d2 ap => ?_))
    simp only [Ap] at ap
    obtain ⟨a55, a53, _⟩ := ap
    have le15 := le14.trans le5
    simp -dsimp -implicitDefEqProofs (disch := first | with_reducible assumption | omega) [go_sem]
    refine Spec.ap (rgive_any (s := s) ⟨.slice pa2 s.purses.length pc2, .slice ma2 s.members.length mc2, .slice ea2 s.entry.length ec2, .slice xa2 s.exit.length xc2, .slice oa2 s.pool.length oc2, .slice da2 s.dues.length dc2, .slice ta2 s.motions.length tc2, .slice ka2 s.marks.length kc2, .slice ra2 s.ring.length rc2⟩ n hn (hs2.up (le3.trans (le4.trans le5))) fS fT fun h6 r6 le6 i6 ap => ?_)
    simp only [Ap] at ap
    obtain ⟨a65, a63, _⟩ := ap
    have i60 := i6
    obtain ⟨xga, xgc, rfl, _⟩ := i6.open
    simp -dsimp -implicitDefEqProofs (disch := first | with_reducible assumption | omega) [go_sem]
    refine Spec.ap (rsit_any (s := s) ⟨.slice pa2 s.purses.length pc2, .slice ma2 s.members.length mc2, .slice ea2 s.entry.length ec2, .slice xa2 s.exit.length xc2, .slice oa2 s.pool.length oc2, .slice da2 s.dues.length dc2, .slice ta2 s.motions.length tc2, .slice ka2 s.marks.length kc2, .slice ra2 s.ring.length rc2⟩ seed n hx hn (hs2.up (le3.trans (le4.trans (le5.trans le6)))) fS fT fun h7 r7 le7 i7 ap => ?_)
    simp only [Ap] at ap
    obtain ⟨a75, a73, _⟩ := ap
    have i70 := i7
    obtain ⟨xla, xlc, rfl, _⟩ := i7.open
    simp -dsimp -implicitDefEqProofs (disch := first | with_reducible assumption | omega) [go_sem]
    refine Spec.ap (rlead_any (s := s) ⟨.slice pa2 s.purses.length pc2, .slice ma2 s.members.length mc2, .slice ea2 s.entry.length ec2, .slice xa2 s.exit.length xc2, .slice oa2 s.pool.length oc2, .slice da2 s.dues.length dc2, .slice ta2 s.motions.length tc2, .slice ka2 s.marks.length kc2, .slice ra2 s.ring.length rc2⟩ seed hx (hs2.up (le3.trans (le4.trans (le5.trans (le6.trans le7))))) fS fT (fun h8 e8 => absurd eL e8) (fun h8 j e8 le8 hj d3 d4 ap => ?_))
    have h0 : ∀ i, 0 ≤ at0 (stkL s) i := fun i => by
      unfold leadE at eL
      split at eL
      · rename_i q1; exact ((stk_bound hs0 q1).2 i).1
      · cases eL
    have eij := lead_one h0 d1 d2 d3 d4
    subst eij
    simp -dsimp -implicitDefEqProofs (disch := first | with_reducible assumption | omega) [go_sem]
    refine same16_any _ _ (i30.up (le4.trans (le5.trans (le6.trans (le7.trans le8))))) (i60.up (le7.trans le8)) ?_
    simp -dsimp -implicitDefEqProofs (disch := first | with_reducible assumption | omega) [go_sem]
    refine same16_any _ _ (i40.up (le5.trans (le6.trans (le7.trans le8)))) (i70.up le8) ?_
    simp -dsimp -implicitDefEqProofs (disch := first | with_reducible assumption | omega) [go_sem]
    exact fin_tail (fin_tail (fin_here (hk _ (le15.trans (le6.trans (le7.trans le8))))))
  · refine Spec.ap (lead_any (s := s) ⟨.slice pa s.purses.length pc, .slice ma s.members.length mc, .slice ea s.entry.length ec, .slice xa s.exit.length xc, .slice oa s.pool.length oc, .slice da s.dues.length dc, .slice ta s.motions.length tc, .slice ka s.marks.length kc, .slice ra s.ring.length rc⟩ seed hx (hs0.up le14) fS (fun h5 e5 le5 ap => ?_) (fun h5 i e5 => absurd e5 eL))
    simp only [Ap] at ap
    obtain ⟨a55, a53, _⟩ := ap
    have le15 := le14.trans le5
    simp -dsimp -implicitDefEqProofs (disch := first | with_reducible assumption | omega) [go_sem]
    refine Spec.ap (rgive_any (s := s) ⟨.slice pa2 s.purses.length pc2, .slice ma2 s.members.length mc2, .slice ea2 s.entry.length ec2, .slice xa2 s.exit.length xc2, .slice oa2 s.pool.length oc2, .slice da2 s.dues.length dc2, .slice ta2 s.motions.length tc2, .slice ka2 s.marks.length kc2, .slice ra2 s.ring.length rc2⟩ n hn (hs2.up (le3.trans (le4.trans le5))) fS fT fun h6 r6 le6 i6 ap => ?_)
    simp only [Ap] at ap
    obtain ⟨a65, a63, _⟩ := ap
    have i60 := i6
    obtain ⟨xga, xgc, rfl, _⟩ := i6.open
    simp -dsimp -implicitDefEqProofs (disch := first | with_reducible assumption | omega) [go_sem]
    refine Spec.ap (rsit_any (s := s) ⟨.slice pa2 s.purses.length pc2, .slice ma2 s.members.length mc2, .slice ea2 s.entry.length ec2, .slice xa2 s.exit.length xc2, .slice oa2 s.pool.length oc2, .slice da2 s.dues.length dc2, .slice ta2 s.motions.length tc2, .slice ka2 s.marks.length kc2, .slice ra2 s.ring.length rc2⟩ seed n hx hn (hs2.up (le3.trans (le4.trans (le5.trans le6)))) fS fT fun h7 r7 le7 i7 ap => ?_)
    simp only [Ap] at ap
    obtain ⟨a75, a73, _⟩ := ap
    have i70 := i7
    obtain ⟨xla, xlc, rfl, _⟩ := i7.open
    simp -dsimp -implicitDefEqProofs (disch := first | with_reducible assumption | omega) [go_sem]
    refine Spec.ap (rlead_any (s := s) ⟨.slice pa2 s.purses.length pc2, .slice ma2 s.members.length mc2, .slice ea2 s.entry.length ec2, .slice xa2 s.exit.length xc2, .slice oa2 s.pool.length oc2, .slice da2 s.dues.length dc2, .slice ta2 s.motions.length tc2, .slice ka2 s.marks.length kc2, .slice ra2 s.ring.length rc2⟩ seed hx (hs2.up (le3.trans (le4.trans (le5.trans (le6.trans le7))))) fS fT (fun h8 e8 le8 ap => ?_) (fun h8 j e8 => absurd e8 eL))
    simp -dsimp -implicitDefEqProofs (disch := first | with_reducible assumption | omega) [go_sem]
    refine same16_any _ _ (i30.up (le4.trans (le5.trans (le6.trans (le7.trans le8))))) (i60.up (le7.trans le8)) ?_
    simp -dsimp -implicitDefEqProofs (disch := first | with_reducible assumption | omega) [go_sem]
    refine same16_any _ _ (i40.up (le5.trans (le6.trans (le7.trans le8)))) (i70.up le8) ?_
    simp -dsimp -implicitDefEqProofs (disch := first | with_reducible assumption | omega) [go_sem]
    exact fin_tail (fin_tail (fin_here (hk _ (le15.trans (le6.trans (le7.trans le8))))))
end Go.X
