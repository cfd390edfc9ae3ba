/- Contracts of seats.stakes, Give, rows, Sit, Lead, and of the simple genesis. Conditions: the value reads as a state. -/
import Derived.Test.YtfilkbfkhdaakaaGreatTG
set_option linter.unusedVariables false
set_option linter.unusedSimpArgs false
set_option maxRecDepth 20000
namespace Go.X
open Go.RowKit Go.Proofs Go.Bl
variable {L : Own} {h : PH} {K : PK}
theorem par_eff2 {p : ParD} (hr : parR p = true) : p.maxEff ≤ 1099511627776 := by
  have : stakesB p = true := by
    simp only [parR, Bool.and_eq_true] at hr
    first | exact hr.1.1 | exact hr.1 | exact hr.1.1.1
  exact (stakesB_facts this).2.2.2.1
theorem stk_bound {s : StD} {v : SV} (hs : IsSt h v s) (hf : fitsS s = true) : s.members.length ≤ 128 ∧ ∀ i, 0 ≤ at0 (stkL s) i ∧ at0 (stkL s) i ≤ 1099511627776 := by
  simp only [fitsS, Bool.and_eq_true, membersB, wi_iff, decide_eq_true_eq] at hf
  have hr := hf.1.1.1.1.1.1.1.1
  have hm := hf.1.1.1.1.2
  refine ⟨hm.1.1.1, fun i => ?_⟩
  by_cases hi : i < s.members.length
  · have e : at0 (stkL s) i = stkM (gr zeroM s.members i) := by
      rw [← at0_lt (by simpa [stkL] using hi), gr_lt hi]
      simp [stkL]
    rw [e]
    have hx := hs.mo (gr zeroM s.members i) (by rw [gr_lt hi]; exact List.getElem_mem hi)
    have h1 := List.all_eq_true.1 hm.1.1.2 (gr zeroM s.members i) (by rw [gr_lt hi]; exact List.getElem_mem hi)
    simp only [Bool.and_eq_true, mfitsB] at h1
    have := stkM_ok hx
    unfold stkM at this ⊢
    split
    · rename_i c
      have hs2 := h1.1.2
      simp only [shapeB] at hs2
      have := par_eff2 hr
      rw [if_pos (by first | exact c | simpa using c)] at hs2
      simp only [Bool.and_eq_true, gfitsP, decide_eq_true_eq] at hs2
      omega
    · omega
  · rw [at0_ge (by simpa [stkL] using hi)]
    omega
theorem stkL_len (s : StD) : (stkL s).length = s.members.length := by simp [stkL]
theorem stkL_at (s : StD) {i : Nat} (hi : i < s.members.length) : at0 (stkL s) i = stkM (gr zeroM s.members i) := by
  rw [← at0_lt (by simpa [stkL] using hi), gr_lt hi]
  simp [stkL]
theorem sumK_le {zs : List Int} {M : Int} (h0 : ∀ i, 0 ≤ at0 zs i ∧ at0 zs i ≤ M) : ∀ k : Nat, 0 ≤ sumK zs k ∧ sumK zs k ≤ k * M
  | 0 => by simp [sumK]
  | k + 1 => by
    have ih := sumK_le h0 k
    have := h0 k
    rw [sumK, show ((k + 1 : Nat) : Int) = (k : Int) + 1 by omega, Int.add_mul, Int.one_mul]
    omega
theorem stk_sum {s : StD} {v : SV} (hs : IsSt h v s) (hf : fitsS s = true) (k : Nat) (hk : k ≤ s.members.length) : 0 ≤ sumK (stkL s) k ∧ sumK (stkL s) k ≤ 140737488355328 := by
  obtain ⟨h1, h2⟩ := stk_bound hs hf
  have h3 := sumK_le h2 k
  have h4 : (k : Int) * 1099511627776 ≤ 128 * 1099511627776 := Int.mul_le_mul_of_nonneg_right (by omega) (by decide)
  omega
/-- the cells of the first numbers of a list -/
def tkI (zs : List Int) (k : Nat) : List Value := (zs.take k).map (.int .i64)
theorem tkI_len {zs : List Int} {k : Nat} (hk : k ≤ zs.length) : (tkI zs k).length = k * 1 := by simp [tkI]; omega
theorem tkI_succ {zs : List Int} {k : Nat} (hk : k < zs.length) : tkI zs (k + 1) = tkI zs k ++ [.int .i64 (at0 zs k)] := by
  rw [tkI, List.take_succ_eq_append_getElem hk, at0_lt hk, List.map_append]; rfl
theorem tkI_all {zs : List Int} {k : Nat} (hk : zs.length ≤ k) : tkI zs k = zs.map (.int .i64) := by rw [tkI, List.take_of_length_le hk]
set_option maxHeartbeats 6400000 in
theorem sstakes_any {s : StD} (v : SV) (hs : IsSt h v s) (few : FewS s) (hf : fitsS s = true) (hk : ∀ h' r, PH.le h h' → Ints h' .u64 r (stkL s) → K (.tuple #[r, .int .u64 (tot (stkL s))]) L h') : Spec Tryz.prog 99 [stV s v] L h K := by
  have hsum := stk_sum hs hf
  have hbnd := stk_bound hs hf
  obtain ⟨pa, pc, ma, mc, ea, ec, xa, xc, oa, oc, da, dc, ta, tc, ka, kc, ra, rc, rfl⟩ := hs.slices
  have fm := few.m
  have hm : Recs memC 6 h (.slice ma s.members.length mc) s.members := hs.m
  refine x_enter Tryz.func99 rfl (rs := [_, _]) rfl rfl mixed (by kernel_rfl) rfl rfl ?_
  simp -dsimp -implicitDefEqProofs (disch := first | with_reducible assumption | omega) [go_sem]
  refine xnew fun b1 n_b1 h_b1 => ?_
  try simp only [Apart] at n_b1
  simp -dsimp -implicitDefEqProofs (disch := first | with_reducible assumption | omega) [go_sem]
  refine xloop (γ := Nat × Option (Nat × Nat)) (0, none) (fun q => q.1 ≤ s.members.length ∧ okO q.2 q.1 ∧ apO q.2 (⟨b1, 34, stC s ⟨.slice pa s.purses.length pc, .slice ma s.members.length mc, .slice ea s.entry.length ec, .slice xa s.exit.length xc, .slice oa s.pool.length oc, .slice da s.dues.length dc, .slice ta s.motions.length tc, .slice ka s.marks.length kc, .slice ra s.ring.length rc⟩, 41⟩ :: L) h)
    (fun q => [(12, .int .i64 q.1), (11, .int .i64 s.members.length), (10, .slice ma s.members.length mc), (4, ovs q.2 q.1), (5, .int .u64 (sumK (stkL s) q.1))])
    (fun q => oent 22 1 q.2 (colU stkM s.members q.1) (⟨b1, 34, stC s ⟨.slice pa s.purses.length pc, .slice ma s.members.length mc, .slice ea s.entry.length ec, .slice xa s.exit.length xc, .slice oa s.pool.length oc, .slice da s.dues.length dc, .slice ta s.motions.length tc, .slice ka s.marks.length kc, .slice ra s.ring.length rc⟩, 41⟩ :: L)) (fun _ => h) (fun q => s.members.length - q.1) ?_ ?_ ?_ ?_
  · exact ⟨Nat.zero_le _, rfl, trivial⟩
  · simp [Ent, List.lookup, xEnv, ovs, sumK]
  · exact Drop.refl _ _
  rintro ⟨k, o⟩ ⟨k1, k2, k3⟩
  simp only at k1 k2 k3 ⊢
  by_cases c1 : k < s.members.length
  · have hs1 := hsum k (by omega)
    have hs2 := hsum (k + 1) (by omega)
    have es : sumK (stkL s) (k + 1) = sumK (stkL s) k + stkM (gr zeroM s.members k) := by rw [sumK, stkL_at s c1]
    simp -dsimp -implicitDefEqProofs (disch := first | with_reducible assumption | omega) [go_sem, ↓idxR zeroM (by decide) hm, memC]
    refine xnew fun b6 n_b6 h_b6 => ?_
    try simp only [Apart] at n_b6
    simp -dsimp -implicitDefEqProofs (disch := first | with_reducible assumption | omega) [go_sem, memC]
    refine counts_any _ ?_
    by_cases c2 : (gr zeroM s.members k).status = 2 ∨ (gr zeroM s.members k).status = 3
    · have e : stkM (gr zeroM s.members k) = (gr zeroM s.members k).eff := by rw [stkM, if_pos c2]
      rw [decide_eq_true c2]
      rw [e] at es
      simp -dsimp -implicitDefEqProofs (disch := first | with_reducible assumption | omega) [go_sem]
      refine xnew fun b7 n_b7 h_b7 => ?_
      try simp only [Apart] at n_b7
      simp -dsimp -implicitDefEqProofs (disch := first | with_reducible assumption | omega) [go_sem]
      refine xappend (t := 25) (e := 22) (sz := 1) (bytes := 8) (by kernel_rfl) tI_22 rfl rfl rfl rfl (by decide) [_, _] _ o k (colU stkM s.members k) k2 (colU_len k1) (Src.own List.mem_cons_self) (m := 1) (news := [.int .u64 (gr zeroM s.members k).eff]) rfl (by intro u hu; simp only [List.mem_singleton] at hu; subst hu; rfl) (by simp [maxLen]; omega) (by omega) ?_
      intro o' j1 j2 j3
      have j4 := apO_tail (apO_tail j2)
      simp -dsimp -implicitDefEqProofs (disch := first | with_reducible assumption | omega) [go_sem]
      refine ⟨k + 1, o', ⟨by omega, j1, j4⟩, by omega, by simp [Ent, List.lookup, es], ?_⟩
      rw [colU_succ zeroM c1, e]
      exact (Drop.tail _ _ _).trans (Drop.tail _ _ _)
    · have e : stkM (gr zeroM s.members k) = 0 := by rw [stkM, if_neg c2]
      rw [decide_eq_false c2]
      rw [e] at es
      simp -dsimp -implicitDefEqProofs (disch := first | with_reducible assumption | omega) [go_sem]
      refine xnew fun b7 n_b7 h_b7 => ?_
      try simp only [Apart] at n_b7
      simp -dsimp -implicitDefEqProofs (disch := first | with_reducible assumption | omega) [go_sem]
      refine xappend (t := 25) (e := 22) (sz := 1) (bytes := 8) (by kernel_rfl) tI_22 rfl rfl rfl rfl (by decide) [_, _] _ o k (colU stkM s.members k) k2 (colU_len k1) (Src.own List.mem_cons_self) (m := 1) (news := [.int .u64 0]) rfl (by intro u hu; simp only [List.mem_singleton] at hu; subst hu; rfl) (by simp [maxLen]; omega) (by omega) ?_
      intro o' j1 j2 j3
      have j4 := apO_tail (apO_tail j2)
      simp -dsimp -implicitDefEqProofs (disch := first | with_reducible assumption | omega) [go_sem]
      refine ⟨k + 1, o', ⟨by omega, j1, j4⟩, by omega, by simp [Ent, List.lookup, es], ?_⟩
      rw [colU_succ zeroM c1, e]
      exact (Drop.tail _ _ _).trans (Drop.tail _ _ _)
  · have hkl : k = s.members.length := by omega
    subst hkl
    have et : sumK (stkL s) s.members.length = tot (stkL s) := by rw [tot, stkL_len]
    obtain ⟨xa, xc, eo, _⟩ := ovs_open k2
    rw [eo, et]
    simp -dsimp -implicitDefEqProofs (disch := first | with_reducible assumption | omega) [go_sem]
    rw [← eo]
    exact fin_pub (e := 22) (n := s.members.length) k2 (colU_len (Nat.le_refl _)) (by omega) k3 fun h' le sl => fin_tail (fin_here (hk h' _ le (colU_ints sl fun x hx => stkM_ok (hs.mo x hx))))
theorem spread_pub {ws : List Int} (t : Int) (ht : 0 ≤ t ∧ t ≤ 18446744073709551615) (hsm : ∀ x ∈ ws, t * x ≤ 18446744073709551615) (wv : Value) (hws : Ints h .u64 wv ws) (he : spE ws = 0)
    (hk : ∀ h' r, PH.le h h' → Ints h' .u64 r (spL t ws) → K (.tuple #[r, .int .i64 0]) L h') : Spec Tryz.prog 100 [.int .u64 t, wv] L h K := by
  have hwd := hws.word
  have hl := spr_ok ht.1 (fun i => (hwd i).1) ws.length (Nat.le_refl _)
  have hlen : ws.length ≤ 256 := by
    unfold spE whoE at he
    split at he
    · split at he
      · assumption
      · split at he <;> simp_all
    · split at he <;> simp_all
  refine Spec.fin (spread_any t ht hsm wv hws (fun c => absurd he c) fun _ o o1 o2 => fin_pub (n := ws.length) o1 (by simpa [spL] using hl.len) (by omega) o2 fun h' le sl => fin_here (hk h' _ le ⟨?_, fun z hz => ?_⟩))
  · rw [show (spL t ws).length = ws.length from hl.len]; exact sl
  · obtain ⟨i, hi, rfl⟩ := List.mem_iff_getElem.1 hz
    have := hl.at i
    have h2 := hl.left
    rw [at0_lt hi, show IntKind.u64.min = 0 by decide, show IntKind.u64.max = 18446744073709551615 by decide]
    exact ⟨this.1, by rw [spL]; omega⟩
/-! ### Give -/
def giveE (s : StD) (n : Int) : Int := if fitsS s then (if n < 0 ∨ 256 < n then 2 else if tot (stkL s) = 0 then 190 else 0) else 291
def giveL (s : StD) (n : Int) : List Int := if giveE s n = 0 then spL n (stkL s) else []
set_option maxHeartbeats 6400000 in
theorem give_any {s : StD} (v : SV) (n : Int) (hn : -9223372036854775808 ≤ n ∧ n ≤ 9223372036854775807) (hs : IsSt h v s) (few : FewS s) (hk : ∀ h' r, PH.le h h' → Ints h' .i64 r (giveL s n) → K (.tuple #[r, .int .i64 (giveE s n)]) L h') : Spec Tryz.prog 30 [stV s v, .int .i64 n] L h K := by
  have no : ∀ e, giveE s n = e → e ≠ 0 → ∀ h', PH.le h h' → K (.tuple #[.slice none 0 0, .int .i64 e]) L h' := fun e he h0 h' le => by
    have := hk h' (.slice none 0 0) le (by rw [giveL, if_neg (by rw [he]; exact h0)]; exact nil_ints h' .i64)
    rwa [he] at this
  obtain ⟨pa, pc, ma, mc, ea, ec, xa, xc, oa, oc, da, dc, ta, tc, ka, kc, ra, rc, rfl⟩ := hs.slices
  refine x_enter Tryz.func30 rfl (rs := [_, _]) rfl rfl mixed (by kernel_rfl) rfl rfl ?_
  simp -dsimp -implicitDefEqProofs (disch := first | with_reducible assumption | omega) [go_sem]
  refine xnew fun b2 n_b2 h_b2 => ?_
  try simp only [Apart] at n_b2
  simp -dsimp -implicitDefEqProofs (disch := first | with_reducible assumption | omega) [go_sem]
  refine fits_any (s := s) ⟨.slice pa s.purses.length pc, .slice ma s.members.length mc, .slice ea s.entry.length ec, .slice xa s.exit.length xc, .slice oa s.pool.length oc, .slice da s.dues.length dc, .slice ta s.motions.length tc, .slice ka s.marks.length kc, .slice ra s.ring.length rc⟩ hs few ?_
  cases q1 : fitsS s with
  | false =>
    have := no 291 (by rw [giveE, q1]; rfl) (by decide) h (PH.le_refl h)
    simp -dsimp -implicitDefEqProofs (disch := first | with_reducible assumption | omega) [go_sem]
    exact fin_tail (fin_here this)
  | true =>
  by_cases q2 : n < 0 ∨ 256 < n
  · have := no 2 (by rw [giveE, q1, if_pos rfl, if_pos q2]) (by decide) h (PH.le_refl h)
    by_cases q2a : n < 0
    · simp -dsimp -implicitDefEqProofs (disch := first | with_reducible assumption | omega) [go_sem]
      exact fin_tail (fin_here this)
    · simp -dsimp -implicitDefEqProofs (disch := first | with_reducible assumption | omega) [go_sem]
      exact fin_tail (fin_here this)
  have hbnd := stk_bound hs q1
  have htot := stk_sum hs q1 s.members.length (Nat.le_refl _)
  have et : sumK (stkL s) s.members.length = tot (stkL s) := by rw [tot, stkL_len]
  rw [et] at htot
  simp -dsimp -implicitDefEqProofs (disch := first | with_reducible assumption | omega) [go_sem]
  refine Spec.ap (sstakes_any (s := s) ⟨.slice pa s.purses.length pc, .slice ma s.members.length mc, .slice ea s.entry.length ec, .slice xa s.exit.length xc, .slice oa s.pool.length oc, .slice da s.dues.length dc, .slice ta s.motions.length tc, .slice ka s.marks.length kc, .slice ra s.ring.length rc⟩ hs few q1 fun h1 r le1 ir ap => ?_)
  simp only [Ap] at ap
  obtain ⟨a2, _⟩ := ap
  have ir0 := ir
  obtain ⟨wa, wc, rfl, _⟩ := ir.open
  rw [stkL_len]
  rw [stkL_len] at ir0
  by_cases q3 : tot (stkL s) = 0
  · have := no 190 (by rw [giveE, q1, if_pos rfl, if_neg q2, if_pos q3]) (by decide) h1 le1
    rw [q3]
    simp -dsimp -implicitDefEqProofs (disch := first | with_reducible assumption | omega) [go_sem]
    exact fin_tail (fin_here this)
  have eE : giveE s n = 0 := by rw [giveE, q1, if_pos rfl, if_neg q2, if_neg q3]
  have eL : giveL s n = spL n (stkL s) := by rw [giveL, if_pos eE]
  rw [eE, eL] at hk
  simp -dsimp -implicitDefEqProofs (disch := first | with_reducible assumption | omega) [go_sem]
  have hsp := spr_ok (t := n) (ws := stkL s) (by omega) (fun i => (hbnd.2 i).1) (stkL s).length (Nat.le_refl _)
  have hsl : (spL n (stkL s)).length = s.members.length := by rw [← stkL_len]; exact hsp.len
  refine Spec.ap (spread_pub n (by omega) (fun x hx => ?_) _ ir0 ?_ fun h2 r2 le2 ir2 ap => ?_)
  · obtain ⟨i, hi, rfl⟩ := List.mem_iff_getElem.1 hx
    have := hbnd.2 i
    rw [at0_lt hi]
    have h4 : n * at0 (stkL s) i ≤ 256 * 1099511627776 := Int.mul_le_mul (by omega) this.2 this.1 (by decide)
    omega
  · have hw : whoE (stkL s) = 0 := by rw [whoE, if_pos (show (stkL s).length ≤ 256 by rw [stkL_len]; omega), if_pos (show tot (stkL s) ≤ 18446744073709551615 by omega)]
    rw [spE, if_pos hw, if_neg q3]
  simp only [Ap] at ap
  obtain ⟨a2', _⟩ := ap
  have ir2w := ir2.word
  obtain ⟨ga, gc, rfl, _, _, _, hcs⟩ := ir2.open
  have hat : ∀ i, at0 (spL n (stkL s)) i ≤ 256 := fun i => by
    have := hsp.at i
    have h2 := hsp.left
    have h3 : at0 (spL n (stkL s)) i + (sprK n (stkL s) (stkL s).length).2 ≤ n := this.2
    omega
  rw [hsl] at hcs ⊢
  simp -dsimp -implicitDefEqProofs (disch := first | with_reducible assumption | omega) [go_sem]
  refine xloop (γ := Nat × Option (Nat × Nat)) (0, none) (fun q => q.1 ≤ s.members.length ∧ okO q.2 q.1 ∧ apO q.2 (⟨b2, 34, stC s ⟨.slice pa s.purses.length pc, .slice ma s.members.length mc, .slice ea s.entry.length ec, .slice xa s.exit.length xc, .slice oa s.pool.length oc, .slice da s.dues.length dc, .slice ta s.motions.length tc, .slice ka s.marks.length kc, .slice ra s.ring.length rc⟩, 41⟩ :: L) h2)
    (fun q => [(43, .int .i64 q.1), (42, .int .i64 s.members.length), (41, .slice ga s.members.length gc), (10, ovs q.2 q.1)])
    (fun q => oent 3 1 q.2 (tkI (spL n (stkL s)) q.1) (⟨b2, 34, stC s ⟨.slice pa s.purses.length pc, .slice ma s.members.length mc, .slice ea s.entry.length ec, .slice xa s.exit.length xc, .slice oa s.pool.length oc, .slice da s.dues.length dc, .slice ta s.motions.length tc, .slice ka s.marks.length kc, .slice ra s.ring.length rc⟩, 41⟩ :: L)) (fun _ => h2) (fun q => s.members.length - q.1) ?_ ?_ ?_ ?_
  · exact ⟨Nat.zero_le _, rfl, trivial⟩
  · simp [Ent, List.lookup, xEnv, ovs]
  · exact Drop.refl _ _
  rintro ⟨k, o⟩ ⟨k1, k2, k3⟩
  simp only at k1 k2 k3 ⊢
  by_cases c1 : k < s.members.length
  · have hx1 := ir2w k
    have hx2 := hat k
    simp -dsimp -implicitDefEqProofs (disch := first | with_reducible assumption | omega) [go_sem, idx hcs]
    refine xnew fun b7 n_b7 h_b7 => ?_
    try simp only [Apart] at n_b7
    simp -dsimp -implicitDefEqProofs (disch := first | with_reducible assumption | omega) [go_sem]
    refine xappend (t := 27) (e := 3) (sz := 1) (bytes := 8) (z := [.int .i64 0]) (by kernel_rfl) tI_3 rfl rfl rfl rfl (by decide) [_] _ o k (tkI (spL n (stkL s)) k) k2 (tkI_len (by omega)) (Src.own List.mem_cons_self) (m := 1) (news := [.int .i64 (at0 (spL n (stkL s)) k)]) rfl (fun u hu => by simp at hu; subst hu; rfl) (by simp [maxLen]; omega) (by have := hbnd.1; omega) ?_
    intro o' j1 j2 j3
    simp -dsimp -implicitDefEqProofs (disch := first | with_reducible assumption | omega) [go_sem]
    refine ⟨k + 1, o', ⟨by omega, j1, apO_tail j2⟩, by omega, by simp [Ent, List.lookup], ?_⟩
    rw [tkI_succ (by omega)]
    exact Drop.tail _ _ _
  · have hkl : k = s.members.length := by omega
    subst hkl
    obtain ⟨ya, yc, eo, _⟩ := ovs_open k2
    rw [eo]
    simp -dsimp -implicitDefEqProofs (disch := first | with_reducible assumption | omega) [go_sem]
    rw [← eo]
    refine fin_pub (e := 3) (n := s.members.length) k2 (tkI_len (by omega)) (by have := hbnd.1; omega) k3 fun h' le sl => fin_tail (fin_here (hk h' _ ((le1.trans le2).trans le) ⟨?_, fun z hz => ?_⟩))
    · rw [tkI_all (by omega)] at sl
      rw [hsl]
      exact sl
    · obtain ⟨i, hi, rfl⟩ := List.mem_iff_getElem.1 hz
      have h5 := ir2w i
      have h6 := hat i
      rw [at0_lt hi, show IntKind.i64.min = -9223372036854775808 by decide, show IntKind.i64.max = 9223372036854775807 by decide]
      omega
end Go.X
/-! Contracts of seats.rows, Sit, Lead. Conditions: the value reads as a state. -/
set_option maxRecDepth 20000
namespace Go.X
open Go.RowKit Go.Proofs Go.Bl
variable {L : Own} {h : PH} {K : PK}
theorem whoK_mono {gs : List Int} {i : Nat} : ∀ {k : Nat}, i ≤ k → ∃ ys, whoK gs k = whoK gs i ++ ys
  | 0, hk => ⟨[], by rw [show i = 0 by omega]; simp⟩
  | k + 1, hk => by
    by_cases c : i = k + 1
    · exact ⟨[], by rw [c]; simp⟩
    · obtain ⟨ys, e⟩ := whoK_mono (gs := gs) (i := i) (k := k) (by omega)
      exact ⟨ys ++ List.replicate (at0 gs k).toNat (k : Int), by rw [whoK, e, List.append_assoc]⟩
theorem who_at {gs : List Int} {i t : Nat} (hi : i < gs.length) (ht : (t : Int) < at0 gs i) : (whoK gs i).length + t < (whoL gs).length ∧ at0 (whoL gs) ((whoK gs i).length + t) = i := by
  obtain ⟨ys, e⟩ := whoK_mono (gs := gs) (i := i + 1) (k := gs.length) (by omega)
  have e2 : whoL gs = whoK gs i ++ (List.replicate (at0 gs i).toNat (i : Int) ++ ys) := by rw [whoL, e, whoK, List.append_assoc]
  have ht2 : t < (at0 gs i).toNat := by omega
  have hl : (whoK gs i).length + t < (whoL gs).length := by
    rw [e2, List.length_append, List.length_append, List.length_replicate]; omega
  refine ⟨hl, ?_⟩
  rw [e2, at0, List.getD_eq_getElem?_getD, List.getElem?_append_right (by omega), Nat.add_sub_cancel_left, List.getElem?_append_left (by simpa using ht2), List.getElem?_replicate, if_pos ht2]
  rfl
theorem who_next {gs : List Int} {i : Nat} (h0 : 0 ≤ at0 gs i) : (whoK gs (i + 1)).length = (whoK gs i).length + (at0 gs i).toNat := by rw [whoK, List.length_append, List.length_replicate]
theorem rows_any (a : Option Addr) (gn c : Nat) (hk : ∀ b, Apart b L → h b = noC → K (.func (.func 187) #[] #[.pointer (some ⟨b, 0, none⟩)]) (⟨b, 27, [.slice a gn c], 1⟩ :: L) h) : Spec Tryz.prog 101 [.slice a gn c] L h K := by
  refine x_enter Tryz.func101 rfl (rs := [_]) rfl rfl mixed (by kernel_rfl) rfl rfl ?_
  simp -dsimp -implicitDefEqProofs (disch := first | with_reducible assumption | omega) [go_sem]
  refine xnew fun b1 n_b1 h_b1 => ?_
  try simp only [Apart] at n_b1
  simp -dsimp -implicitDefEqProofs (disch := first | with_reducible assumption | omega) [go_sem]
  exact fin_here (hk b1 n_b1 h_b1)
set_option maxHeartbeats 3200000 in
theorem rows1_any {gs : List Int} (gv : Value) (b1 l : Nat) (Inv : Nat → Own → PH → Prop) (hgs : Ints h .i64 gv gs) (h0g : ∀ i, 0 ≤ at0 gs i)
    (hY : ∀ j LL h1, j < (whoL gs).length → Inv j LL h1 → PH.le h h1 → YSpec Tryz.prog l [.int .i64 (at0 (whoL gs) j)] (LL ++ [⟨b1, 27, [gv], 1⟩]) h1 fun v L' h' => v = .bool true ∧ PH.le h1 h' ∧ ∃ L2, L' = L2 ++ [⟨b1, 27, [gv], 1⟩] ∧ Inv (j + 1) L2 h')
    {LL : Own} (h0 : Inv 0 LL h) (hk : ∀ L2 h', PH.le h h' → Inv (whoL gs).length L2 h' → K (.tuple #[]) L2 h') :
    Spec Tryz.prog 187 [.func (.yield l) #[] #[], .pointer (some ⟨b1, 0, none⟩)] (⟨b1, 27, [gv], 1⟩ :: LL) h K := by
  have hgd := hgs.num
  have hgs0 := hgs
  obtain ⟨ga, gc, rfl, _, hgl, _, hcs0⟩ := hgs.open
  refine x_enterA Tryz.func187 rfl (rs := []) rfl rfl mixed (by kernel_rfl) rfl rfl fun ap nd => ?_
  simp only [Ap] at ap
  obtain ⟨a1, _⟩ := ap
  simp -dsimp -implicitDefEqProofs (disch := first | with_reducible assumption | omega) [go_sem]
  refine xloop (γ := Nat × Own × PH) (0, LL, h) (fun q => q.1 ≤ gs.length ∧ Inv (whoK gs q.1).length q.2.1 q.2.2 ∧ PH.le h q.2.2 ∧ q.2.2 b1 = noC)
    (fun q => [(7, .int .i64 q.1), (6, .int .i64 gs.length), (5, .slice ga gs.length gc), (0, .func (.yield l) #[] #[])])
    (fun q => ⟨b1, 27, [.slice ga gs.length gc], 1⟩ :: q.2.1) (fun q => q.2.2) (fun q => gs.length - q.1) ?_ ?_ ?_ ?_
  · exact ⟨Nat.zero_le _, h0, PH.le_refl h, a1⟩
  · simp [Ent, List.lookup, xEnv]
  · exact Drop.refl _ _
  rintro ⟨k, LL, h1⟩ ⟨i1, i2, i3, i4⟩
  simp only at i1 i2 i3 i4 ⊢
  by_cases c1 : k < gs.length
  · have hcs : ∀ j, j < gs.length → elemCell h1 ga j = some (Value.int .i64 (at0 gs j)) := fun j hj => elemCell_up i3 (hcs0 j hj)
    have hx0 := h0g k
    have hx1 := hgd k
    simp -dsimp -implicitDefEqProofs (disch := first | with_reducible assumption | omega) [go_sem, idx hcs]
    refine xloop (γ := Nat × Own × PH) (0, LL, h1) (fun q => (q.1 : Int) ≤ at0 gs k ∧ Inv ((whoK gs k).length + q.1) q.2.1 q.2.2 ∧ PH.le h q.2.2 ∧ q.2.2 b1 = noC)
      (fun q => [(13, .int .i64 q.1), (12, .int .i64 (at0 gs k)), (3, .int .i64 k), (7, .int .i64 k), (6, .int .i64 gs.length), (5, .slice ga gs.length gc), (0, .func (.yield l) #[] #[])])
      (fun q => ⟨b1, 27, [.slice ga gs.length gc], 1⟩ :: q.2.1) (fun q => q.2.2) (fun q => (at0 gs k).toNat - q.1) ?_ ?_ ?_ ?_
    · exact ⟨hx0, i2, i3, i4⟩
    · simp [Ent, List.lookup, xEnv]
    · exact Drop.refl _ _
    rintro ⟨t, LL2, h2⟩ ⟨j1, j2, j3, j4⟩
    simp only at j1 j2 j3 j4 ⊢
    by_cases c2 : (t : Int) < at0 gs k
    · obtain ⟨w1, w2⟩ := who_at c1 c2
      have go : ∀ (Q : PK), (∀ L2 h3, PH.le h2 h3 → Inv ((whoK gs k).length + t + 1) L2 h3 → h3 b1 = noC → Q (.bool true) (L2 ++ [⟨b1, 27, [.slice ga gs.length gc], 1⟩]) h3) →
          YSpec Tryz.prog l [.int .i64 k] (⟨b1, 27, [.slice ga gs.length gc], 1⟩ :: LL2) h2 Q := fun Q hQ => by
        have hy := hY _ LL2 h2 w1 j2 j3
        rw [w2] at hy
        refine YSpec.weaken (Drop.perm _ (List.perm_append_comm (l₁ := [_]) (l₂ := LL2))) (YSpec.apn (YSpec.mono hy ?_))
        rintro v L' h3 ⟨rfl, le2, L2, rfl, i7⟩ ap nd
        have ap2 := (Ap.app ap).2
        simp only [Ap] at ap2
        exact hQ L2 h3 le2 i7 ap2.1
      simp -dsimp -implicitDefEqProofs (disch := first | with_reducible assumption | omega) [go_sem]
      refine go _ fun L2 h3 le2 i7 u1 => ?_
      simp -dsimp -implicitDefEqProofs (disch := first | with_reducible assumption | omega) [go_sem]
      exact ⟨t + 1, L2, h3, ⟨by omega, i7, j3.trans le2, u1⟩, by omega, by simp [Ent, List.lookup], Drop.perm _ perm_back⟩
    · have ht : t = (at0 gs k).toNat := by omega
      subst ht
      simp -dsimp -implicitDefEqProofs (disch := first | with_reducible assumption | omega) [go_sem]
      exact ⟨k + 1, LL2, h2, ⟨by omega, by rw [who_next hx0]; exact j2, j3, j4⟩, by omega, by simp [Ent, List.lookup], Drop.refl _ _⟩
  · have hkl : k = gs.length := by omega
    subst hkl
    simp -dsimp -implicitDefEqProofs (disch := first | with_reducible assumption | omega) [go_sem]
    exact fin_tail (fin_here (hk LL h1 i3 i2))
theorem giveL_ok {s : StD} {v : SV} {n : Int} (hs : IsSt h v s) (he : giveE s n = 0) : fitsS s = true ∧ 0 ≤ n ∧ n ≤ 256 ∧ 0 < tot (stkL s) ∧ giveL s n = spL n (stkL s) := by
  have eL : giveL s n = spL n (stkL s) := by rw [giveL, if_pos he]
  unfold giveE at he
  split at he
  · rename_i q1
    split at he
    · cases he
    · split at he
      · cases he
      · have := stk_sum hs q1 s.members.length (Nat.le_refl _)
        have et : sumK (stkL s) s.members.length = tot (stkL s) := by rw [tot, stkL_len]
        exact ⟨q1, by omega, by omega, by omega, eL⟩
  · cases he
theorem who_len {s : StD} {v : SV} {n : Int} (hs : IsSt h v s) (he : giveE s n = 0) : ((whoL (giveL s n)).length : Int) = n := by
  obtain ⟨q1, n0, n1, t0, eL⟩ := giveL_ok hs he
  have hb := (stk_bound hs q1).2
  have h0 : ∀ i, 0 ≤ at0 (stkL s) i := fun i => (hb i).1
  rw [eL, whoL, whoK_len (spL_nonneg n0 h0)]
  exact spL_tot n0 t0 h0
def sitR (s : StD) (seed n : Int) : List Int := if giveE s n = 0 then sitL seed (giveL s n) else []
set_option maxHeartbeats 12800000 in
theorem sit_any {s : StD} (v : SV) (seed n : Int) (hx : 0 ≤ seed ∧ seed ≤ 18446744073709551615) (hn : -9223372036854775808 ≤ n ∧ n ≤ 9223372036854775807) (hs : IsSt h v s) (few : FewS s) (hk : ∀ h' r, PH.le h h' → Ints h' .i64 r (sitR s seed n) → K (.tuple #[r, .int .i64 (giveE s n)]) L h') : Spec Tryz.prog 31 [stV s v, .int .u64 seed, .int .i64 n] L h K := by
  have hs0 := hs
  obtain ⟨pa, pc, ma, mc, ea, ec, xa, xc, oa, oc, da, dc, ta, tc, ka, kc, ra, rc, rfl⟩ := hs.slices
  have fm := few.m
  refine x_enter Tryz.func31 rfl (rs := [_, _]) rfl rfl mixed (by kernel_rfl) (by kernel_rfl) rfl ?_
  simp -dsimp -implicitDefEqProofs (disch := first | with_reducible assumption | omega) [go_sem]
  refine xnew fun b3 n_b3 h_b3 => ?_
  try simp only [Apart] at n_b3
  simp -dsimp -implicitDefEqProofs (disch := first | with_reducible assumption | omega) [go_sem]
  refine Spec.ap (give_any (s := s) ⟨.slice pa s.purses.length pc, .slice ma s.members.length mc, .slice ea s.entry.length ec, .slice xa s.exit.length xc, .slice oa s.pool.length oc, .slice da s.dues.length dc, .slice ta s.motions.length tc, .slice ka s.marks.length kc, .slice ra s.ring.length rc⟩ n hn hs few fun h1 r le1 ir ap => ?_)
  simp only [Ap] at ap
  obtain ⟨a3, _⟩ := ap
  have ir0 := ir
  obtain ⟨ga, gc, rfl, _⟩ := ir.open
  by_cases c0 : giveE s n = 0
  · obtain ⟨q1, n0, n1, t0, eL⟩ := giveL_ok hs0 c0
    have hwl := who_len hs0 c0
    have hb := (stk_bound hs0 q1).2
    have h0 : ∀ i, 0 ≤ at0 (stkL s) i := fun i => (hb i).1
    have hg0 : ∀ i, 0 ≤ at0 (giveL s n) i := by rw [eL]; exact spL_nonneg n0 h0
    have hgl : (giveL s n).length = s.members.length := by rw [eL, spL_len n0 h0, stkL_len]
    have eS : sitR s seed n = sitL seed (giveL s n) := by rw [sitR, if_pos c0]
    rw [c0, eS] at hk
    rw [c0]
    obtain ⟨gs, hgs⟩ : ∃ gs, gs = giveL s n := ⟨_, rfl⟩
    rw [← hgs] at hk ir0 hwl hg0 hgl ⊢
    obtain ⟨N, hN⟩ : ∃ N, N = (whoL gs).length := ⟨_, rfl⟩
    rw [← hN] at hwl
    have hwm : ∀ x ∈ whoL gs, 0 ≤ x ∧ x ≤ 9223372036854775807 := fun x hx => by
      obtain ⟨j, e1, e2, _⟩ := whoK_mem _ hx
      have := few.m
      omega
    simp -dsimp -implicitDefEqProofs (disch := first | with_reducible assumption | omega) [go_sem]
    refine xnew fun b10 n_b10 h_b10 => ?_
    try simp only [Apart] at n_b10
    simp -dsimp -implicitDefEqProofs (disch := first | with_reducible assumption | omega) [go_sem]
    refine rows_any ga gs.length gc fun b n_b h_b => ?_
    simp -dsimp -implicitDefEqProofs (disch := first | with_reducible assumption | omega) [go_sem]
    refine xrange ⟨Tryz.f187, Tryz.func187, by decide +kernel, rfl⟩ fun l D fn tmps he hp ha hb nl hl => ?_
    simp only [Apart] at nl n_b
    generalize hR : lrec fn tmps _ _ _ D .ready none = R
    refine Spec.weaken (Drop.perm _ (List.Perm.swap _ _ _)) ?_
    refine rows1_any (.slice ga gs.length gc) b l
      (fun j LL hx => hx = h1 ∧ ∃ o, okO o j ∧ apO o L h1 ∧ LL = rblk l R :: ⟨b10, 27, [ovs o j], 1⟩ :: ⟨b3, 34, stC s ⟨.slice pa s.purses.length pc, .slice ma s.members.length mc, .slice ea s.entry.length ec, .slice xa s.exit.length xc, .slice oa s.pool.length oc, .slice da s.dues.length dc, .slice ta s.motions.length tc, .slice ka s.marks.length kc, .slice ra s.ring.length rc⟩, 41⟩ :: oent 3 1 o (tkI (whoL gs) j) L) ir0 hg0 ?_ ⟨rfl, none, rfl, trivial, rfl⟩ ?_
    · rintro j LL hh hj ⟨rfl, o, ho, ao, rfl⟩ le2
      simp only [List.cons_append, oent_app]
      subst hR
      have hjm := hwm (at0 (whoL gs) j) (by rw [← at0_lt hj]; exact List.getElem_mem hj)
      refine yround mixed he hp ha hb rfl rfl rfl ?_
      simp -dsimp -implicitDefEqProofs (disch := first | with_reducible assumption | omega) [go_sem]
      refine xnew fun b6 n_b6 h_b6 => ?_
      try simp only [Apart] at n_b6
      simp -dsimp -implicitDefEqProofs (disch := first | with_reducible assumption | omega) [go_sem]
      refine xappend (t := 27) (e := 3) (sz := 1) (bytes := 8) (z := [.int .i64 0]) (by kernel_rfl) tI_3 rfl rfl rfl rfl (by decide) [_, _, _] _ o j (tkI (whoL gs) j) ho (tkI_len (by omega)) (Src.own List.mem_cons_self) (m := 1) (news := [.int .i64 (at0 (whoL gs) j)]) rfl (fun u hu => by simp at hu; subst hu; rfl) (by simp [maxLen]; omega) (by omega) ?_
      intro o' j1 j2 j3
      simp -dsimp -implicitDefEqProofs (disch := first | with_reducible assumption | omega) [go_sem]
      refine finY_drop (Drop.tail _ _ _) ?_
      refine ⟨rfl, PH.le_refl _, _, ?_, rfl, o', j1, apO_left (apO_tail (apO_tail (apO_tail j2))), rfl⟩
      simp only [List.cons_append, oent_app, tkI_succ hj]
    · rintro L2 h' le ⟨rfl, o, ho, ao, rfl⟩
      rw [← hN] at ho ⊢
      rw [tkI_all (by omega)]
      subst hR
      refine ⟨.ready, none, _, rfl, by decide, ?_⟩
      obtain ⟨wa, wc, ew, _⟩ := ovs_open ho
      rw [ew]
      simp -dsimp -implicitDefEqProofs (disch := first | with_reducible assumption | omega) [go_sem]
      refine call_pub_o [_, _] (n := N) ho (by simp [hN]) (by omega) (fun h2 le2 sl => ?_) ⟨Tryz.f98, Tryz.func98, by decide +kernel, rfl⟩
      rw [ew] at sl
      have iw : Ints h2 .i64 (.slice wa N wc) (whoL gs) := ⟨by rw [← hN]; exact sl, fun z hz => by
        have := hwm z hz
        rw [show IntKind.i64.min = -9223372036854775808 by decide, show IntKind.i64.max = 9223372036854775807 by decide]
        omega⟩
      refine Spec.ap (sorder_pub seed N hx (by omega) fun h3 r3 le3 ir3 ap => ?_)
      simp only [List.cons_append, List.nil_append, Ap] at ap
      obtain ⟨a10, a3', _⟩ := ap
      obtain ⟨qa, qc, rfl, _, _, _, hco⟩ := ir3.open
      have hcw : ∀ j, j < N → elemCell h3 wa j = some (.int .i64 (at0 (whoL gs) j)) := fun j hj => by
        obtain ⟨wa', wc', e1, _, _, _, hc⟩ := (iw.up le3).open
        injection e1 with e1 _ _
        subst e1
        exact hc j (by omega)
      rw [ordL_len] at hco ⊢
      simp only [List.cons_append, List.nil_append]
      simp -dsimp -implicitDefEqProofs (disch := first | with_reducible assumption | omega) [go_sem]
      refine xloop (γ := Nat × Option (Nat × Nat)) (0, none) (fun q => q.1 ≤ N ∧ okO q.2 q.1 ∧ apO q.2 (⟨b10, 27, [.slice wa N wc], 1⟩ :: ⟨b3, 34, stC s ⟨.slice pa s.purses.length pc, .slice ma s.members.length mc, .slice ea s.entry.length ec, .slice xa s.exit.length xc, .slice oa s.pool.length oc, .slice da s.dues.length dc, .slice ta s.motions.length tc, .slice ka s.marks.length kc, .slice ra s.ring.length rc⟩, 41⟩ :: L) h3)
        (fun q => [(44, .int .i64 q.1), (43, .int .i64 N), (42, .slice qa N qc), (13, ovs q.2 q.1), (10, .pointer (some ⟨b10, 0, none⟩))])
        (fun q => oent 3 1 q.2 (tkI (sitL seed gs) q.1) (⟨b10, 27, [.slice wa N wc], 1⟩ :: ⟨b3, 34, stC s ⟨.slice pa s.purses.length pc, .slice ma s.members.length mc, .slice ea s.entry.length ec, .slice xa s.exit.length xc, .slice oa s.pool.length oc, .slice da s.dues.length dc, .slice ta s.motions.length tc, .slice ka s.marks.length kc, .slice ra s.ring.length rc⟩, 41⟩ :: L)) (fun _ => h3) (fun q => N - q.1) ?_ ?_ ?_ ?_
      · exact ⟨Nat.zero_le _, rfl, trivial⟩
      · simp [Ent, List.lookup, xEnv, ovs]
      · exact Drop.refl _ _
      rintro ⟨k, o2⟩ ⟨k1, k2, k3⟩
      simp only at k1 k2 k3 ⊢
      have m10 : apB o2 b10 := k3.head
      have hsl : (sitL seed gs).length = N := by rw [sitL_len, hN]
      by_cases c1 : k < N
      · have hom := ordL_mem seed N k c1
        obtain ⟨p, hp1⟩ : ∃ p : Nat, at0 (ordL seed N) k = p := ⟨(at0 (ordL seed N) k).toNat, by omega⟩
        have es : at0 (sitL seed gs) k = at0 (whoL gs) p := by rw [sitL_at seed gs (by omega), ← hN, hp1]; rfl
        simp -dsimp -implicitDefEqProofs (disch := first | with_reducible assumption | omega) [go_sem, idx hco, idx hcw, hp1, xFind_oent m10]
        refine xnew fun b7 n_b7 h_b7 => ?_
        try simp only [Apart] at n_b7
        simp -dsimp -implicitDefEqProofs (disch := first | with_reducible assumption | omega) [go_sem]
        refine xappend (t := 27) (e := 3) (sz := 1) (bytes := 8) (z := [.int .i64 0]) (by kernel_rfl) tI_3 rfl rfl rfl rfl (by decide) [_] _ o2 k (tkI (sitL seed gs) k) k2 (tkI_len (by omega)) (Src.own List.mem_cons_self) (m := 1) (news := [.int .i64 (at0 (whoL gs) p)]) rfl (fun u hu => by simp at hu; subst hu; rfl) (by simp [maxLen]; omega) (by omega) ?_
        intro o' j1 j2 j3
        simp -dsimp -implicitDefEqProofs (disch := first | with_reducible assumption | omega) [go_sem]
        refine ⟨k + 1, o', ⟨by omega, j1, apO_tail j2⟩, by omega, by simp [Ent, List.lookup], ?_⟩
        rw [tkI_succ (by omega), es]
        exact Drop.tail _ _ _
      · have hkl : k = N := by omega
        subst hkl
        obtain ⟨ya, yc, eo, _⟩ := ovs_open k2
        rw [eo]
        simp -dsimp -implicitDefEqProofs (disch := first | with_reducible assumption | omega) [go_sem]
        rw [← eo]
        refine fin_pub (e := 3) (n := k) k2 (tkI_len (by omega)) (by omega) k3 fun h4 le4 sl4 => fin_tail (fin_tail (fin_here (hk h4 _ (le1.trans (le2.trans (le3.trans le4))) ⟨?_, fun z hz => ?_⟩)))
        · rw [tkI_all (by omega)] at sl4
          rw [hsl]
          exact sl4
        · have := hwm z ((sitL_perm seed gs).mem_iff.1 hz)
          rw [show IntKind.i64.min = -9223372036854775808 by decide, show IntKind.i64.max = 9223372036854775807 by decide]
          omega
  · have eS : sitR s seed n = [] := by rw [sitR, if_neg c0]
    have h3 := hk h1 (.slice none 0 0) le1 (by rw [eS]; exact nil_ints h1 .i64)
    have he := c0
    simp -dsimp -implicitDefEqProofs (disch := first | with_reducible assumption | omega) [go_sem]
    exact fin_tail (fin_here h3)
/-! ### Lead -/
def leadE (s : StD) : Int := if fitsS s then (if tot (stkL s) = 0 then 190 else 0) else 291
def leadD (s : StD) (seed : Int) : Int := mDr seed 0 % tot (stkL s)
set_option maxHeartbeats 6400000 in
theorem lead_any {s : StD} (v : SV) (seed : Int) (hx : 0 ≤ seed ∧ seed ≤ 18446744073709551615) (hs : IsSt h v s) (few : FewS s) (hk1 : ∀ h', leadE s ≠ 0 → PH.le h h' → K (.tuple #[.int .i64 0, .int .i64 (leadE s)]) L h')
    (hk2 : ∀ h' (i : Nat), leadE s = 0 → PH.le h h' → i < s.members.length → sumK (stkL s) i ≤ leadD s seed → leadD s seed < sumK (stkL s) (i + 1) → K (.tuple #[.int .i64 i, .int .i64 0]) L h') :
    Spec Tryz.prog 32 [stV s v, .int .u64 seed] L h K := by
  have hs0 := hs
  obtain ⟨pa, pc, ma, mc, ea, ec, xa, xc, oa, oc, da, dc, ta, tc, ka, kc, ra, rc, rfl⟩ := hs.slices
  have fm := few.m
  refine x_enter Tryz.func32 rfl (rs := [_, _]) rfl rfl mixed (by kernel_rfl) rfl rfl ?_
  simp -dsimp -implicitDefEqProofs (disch := first | with_reducible assumption | omega) [go_sem]
  refine xnew fun b2 n_b2 h_b2 => ?_
  try simp only [Apart] at n_b2
  simp -dsimp -implicitDefEqProofs (disch := first | with_reducible assumption | omega) [go_sem]
  refine fits_any (s := s) ⟨.slice pa s.purses.length pc, .slice ma s.members.length mc, .slice ea s.entry.length ec, .slice xa s.exit.length xc, .slice oa s.pool.length oc, .slice da s.dues.length dc, .slice ta s.motions.length tc, .slice ka s.marks.length kc, .slice ra s.ring.length rc⟩ hs few ?_
  cases q1 : fitsS s with
  | false =>
    have e : leadE s = 291 := by rw [leadE, q1]; rfl
    have h3 := hk1 h (by rw [e]; decide) (PH.le_refl h)
    rw [e] at h3
    simp -dsimp -implicitDefEqProofs (disch := first | with_reducible assumption | omega) [go_sem]
    exact fin_tail (fin_here h3)
  | true =>
  have htot := stk_sum hs0 q1 s.members.length (Nat.le_refl _)
  have hsum := stk_sum hs0 q1
  have et : sumK (stkL s) s.members.length = tot (stkL s) := by rw [tot, stkL_len]
  rw [et] at htot
  simp -dsimp -implicitDefEqProofs (disch := first | with_reducible assumption | omega) [go_sem]
  refine Spec.ap (sstakes_any (s := s) ⟨.slice pa s.purses.length pc, .slice ma s.members.length mc, .slice ea s.entry.length ec, .slice xa s.exit.length xc, .slice oa s.pool.length oc, .slice da s.dues.length dc, .slice ta s.motions.length tc, .slice ka s.marks.length kc, .slice ra s.ring.length rc⟩ hs few q1 fun h1 r le1 ir ap => ?_)
  simp only [Ap] at ap
  obtain ⟨a2, _⟩ := ap
  have irw := ir.word
  obtain ⟨ga, gc, rfl, _, _, _, hcs⟩ := ir.open
  rw [stkL_len] at hcs ⊢
  by_cases q3 : tot (stkL s) = 0
  · have e : leadE s = 190 := by rw [leadE, q1, if_pos rfl, if_pos q3]
    have h3 := hk1 h1 (by rw [e]; decide) le1
    rw [e] at h3
    rw [q3]
    simp -dsimp -implicitDefEqProofs (disch := first | with_reducible assumption | omega) [go_sem]
    exact fin_tail (fin_here h3)
  have e : leadE s = 0 := by rw [leadE, q1, if_pos rfl, if_neg q3]
  simp -dsimp -implicitDefEqProofs (disch := first | with_reducible assumption | omega) [go_sem]
  refine milled_any seed hx fun b n_b h_b => ?_
  simp -dsimp -implicitDefEqProofs (disch := first | with_reducible assumption | omega) [go_sem]
  refine mbelow_any b seed 0 (tot (stkL s)) (by omega) h_b ?_
  have hd0 := Int.emod_nonneg (mDr seed 0) (show tot (stkL s) ≠ 0 by omega)
  have hd1 := Int.emod_lt_of_pos (mDr seed 0) (show 0 < tot (stkL s) by omega)
  rw [show mDr seed 0 % tot (stkL s) = leadD s seed from rfl] at hd0 hd1 ⊢
  simp -dsimp -implicitDefEqProofs (disch := first | with_reducible assumption | omega) [go_sem]
  refine xloop (γ := Nat) 0 (fun k => k ≤ s.members.length ∧ sumK (stkL s) k ≤ leadD s seed)
    (fun k => [(27, .int .i64 k), (26, .int .i64 s.members.length), (25, .slice ga s.members.length gc), (8, .int .u64 (leadD s seed - sumK (stkL s) k))])
    (fun _ => ⟨b, 22, [.int .u64 (mSt seed ((0 : Nat) + 1))], 1⟩ :: ⟨b2, 34, stC s ⟨.slice pa s.purses.length pc, .slice ma s.members.length mc, .slice ea s.entry.length ec, .slice xa s.exit.length xc, .slice oa s.pool.length oc, .slice da s.dues.length dc, .slice ta s.motions.length tc, .slice ka s.marks.length kc, .slice ra s.ring.length rc⟩, 41⟩ :: L) (fun _ => h1) (fun k => s.members.length - k) ?_ ?_ ?_ ?_
  · exact ⟨Nat.zero_le _, by simpa [sumK] using hd0⟩
  · simp [Ent, List.lookup, xEnv, sumK]
  · exact Drop.refl _ _
  rintro k ⟨k1, k2⟩
  by_cases c1 : k < s.members.length
  · have hw := irw k
    have hs2 := hsum (k + 1) (by omega)
    have hs1 := hsum k (by omega)
    have es : sumK (stkL s) (k + 1) = sumK (stkL s) k + at0 (stkL s) k := rfl
    by_cases c2 : leadD s seed - sumK (stkL s) k < at0 (stkL s) k
    · simp -dsimp -implicitDefEqProofs (disch := first | with_reducible assumption | omega) [go_sem, idx hcs]
      exact fin_tail (fin_tail (fin_here (hk2 h1 k e le1 c1 k2 (by omega))))
    · simp -dsimp -implicitDefEqProofs (disch := first | with_reducible assumption | omega) [go_sem, idx hcs]
      exact ⟨k + 1, ⟨by omega, by omega⟩, by omega, by simp [Ent, List.lookup, es]; omega, Drop.refl _ _⟩
  · exfalso
    have hkl : k = s.members.length := by omega
    subst hkl
    rw [et] at k2
    omega
end Go.X
