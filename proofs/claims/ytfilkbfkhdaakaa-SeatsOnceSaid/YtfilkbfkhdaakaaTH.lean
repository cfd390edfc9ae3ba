/- Contracts of seats.stakes, Give, rows, Sit, Lead, and of the simple genesis. Conditions: the value reads as a state. -/
import Derived.Test.YtfilkbfkhdaakaaTP
set_option linter.unusedVariables false
set_option linter.unusedSimpArgs false
set_option maxRecDepth 20000
namespace Go.X
open Go.RowKit Go.Proofs Go.Bl
variable {L : Own} {h : PH} {K : PK}
theorem par_eff2 {p : ParD} (hr : parR p = true) : p.maxEff ≤ 1099511627776 := by
  have : stakesB p = true := by
    simp only [parR, Bool.and_eq_true] at hr
    first | exact hr.1.1 | exact hr.1 | exact hr.1.1.1
  exact (stakesB_facts this).2.2.2.1
theorem stk_bound {s : StD} {v : SV} (hs : IsSt h v s) (hf : fitsS s = true) : s.members.length ≤ 128 ∧ ∀ i, 0 ≤ at0 (stkL s) i ∧ at0 (stkL s) i ≤ 1099511627776 := by
  simp only [fitsS, Bool.and_eq_true, membersB, wi_iff, decide_eq_true_eq] at hf
  have hr := hf.1.1.1.1.1.1.1.1
  have hm := hf.1.1.1.1.2
  refine ⟨hm.1.1.1, fun i => ?_⟩
  by_cases hi : i < s.members.length
  · have e : at0 (stkL s) i = stkM (gr zeroM s.members i) := by
      rw [← at0_lt (by simpa [stkL] using hi), gr_lt hi]
      simp [stkL]
    rw [e]
    have hx := hs.mo (gr zeroM s.members i) (by rw [gr_lt hi]; exact List.getElem_mem hi)
    have h1 := List.all_eq_true.1 hm.1.1.2 (gr zeroM s.members i) (by rw [gr_lt hi]; exact List.getElem_mem hi)
    simp only [Bool.and_eq_true, mfitsB] at h1
    have := stkM_ok hx
    unfold stkM at this ⊢
    split
    · rename_i c
      have hs2 := h1.1.2
      simp only [shapeB] at hs2
      have := par_eff2 hr
      rw [if_pos (by first | exact c | simpa using c)] at hs2
      simp only [Bool.and_eq_true, gfitsP, decide_eq_true_eq] at hs2
      omega
    · omega
  · rw [at0_ge (by simpa [stkL] using hi)]
    omega
theorem stkL_len (s : StD) : (stkL s).length = s.members.length := by simp [stkL]
theorem stkL_at (s : StD) {i : Nat} (hi : i < s.members.length) : at0 (stkL s) i = stkM (gr zeroM s.members i) := by
  rw [← at0_lt (by simpa [stkL] using hi), gr_lt hi]
  simp [stkL]
theorem sumK_le {zs : List Int} {M : Int} (h0 : ∀ i, 0 ≤ at0 zs i ∧ at0 zs i ≤ M) : ∀ k : Nat, 0 ≤ sumK zs k ∧ sumK zs k ≤ k * M
  | 0 => by simp [sumK]
  | k + 1 => by
    have ih := sumK_le h0 k
    have := h0 k
    rw [sumK, show ((k + 1 : Nat) : Int) = (k : Int) + 1 by omega, Int.add_mul, Int.one_mul]
    omega
theorem stk_sum {s : StD} {v : SV} (hs : IsSt h v s) (hf : fitsS s = true) (k : Nat) (hk : k ≤ s.members.length) : 0 ≤ sumK (stkL s) k ∧ sumK (stkL s) k ≤ 140737488355328 := by
  obtain ⟨h1, h2⟩ := stk_bound hs hf
  have h3 := sumK_le h2 k
  have h4 : (k : Int) * 1099511627776 ≤ 128 * 1099511627776 := Int.mul_le_mul_of_nonneg_right (by omega) (by decide)
  omega
/-- the cells of the first numbers of a list -/
def tkI (zs : List Int) (k : Nat) : List Value := (zs.take k).map (.int .i64)
theorem tkI_len {zs : List Int} {k : Nat} (hk : k ≤ zs.length) : (tkI zs k).length = k * 1 := by simp [tkI]; omega
theorem tkI_succ {zs : List Int} {k : Nat} (hk : k < zs.length) : tkI zs (k + 1) = tkI zs k ++ [.int .i64 (at0 zs k)] := by
  rw [tkI, List.take_succ_eq_append_getElem hk, at0_lt hk, List.map_append]; rfl
theorem tkI_all {zs : List Int} {k : Nat} (hk : zs.length ≤ k) : tkI zs k = zs.map (.int .i64) := by rw [tkI, List.take_of_length_le hk]
set_option maxHeartbeats 6400000 in
theorem sstakes_any {s : StD} (v : SV) (hs : IsSt h v s) (few : FewS s) (hf : fitsS s = true) (hk : ∀ h' r, PH.le h h' → Ints h' .u64 r (stkL s) → K (.tuple #[r, .int .u64 (tot (stkL s))]) L h') : Spec Try.prog 31 [stV s v] L h K := by
  have hsum := stk_sum hs hf
  have hbnd := stk_bound hs hf
  obtain ⟨pa, pc, ma, mc, ea, ec, xa, xc, oa, oc, da, dc, ta, tc, ka, kc, ra, rc, rfl⟩ := hs.slices
  have fm := few.m
  have hm : Recs memC 6 h (.slice ma s.members.length mc) s.members := hs.m
  refine x_enter Try.func31 rfl (rs := [_, _]) rfl rfl mixed (by kernel_rfl) rfl rfl ?_
  simp -dsimp -implicitDefEqProofs (disch := first | with_reducible assumption | omega) [go_sem]
  refine xnew fun b1 n_b1 h_b1 => ?_
  try simp only [Apart] at n_b1
  simp -dsimp -implicitDefEqProofs (disch := first | with_reducible assumption | omega) [go_sem]
  refine xloop (γ := Nat × Option (Nat × Nat)) (0, none) (fun q => q.1 ≤ s.members.length ∧ okO q.2 q.1 ∧ apO q.2 (⟨b1, 45, stC s ⟨.slice pa s.purses.length pc, .slice ma s.members.length mc, .slice ea s.entry.length ec, .slice xa s.exit.length xc, .slice oa s.pool.length oc, .slice da s.dues.length dc, .slice ta s.motions.length tc, .slice ka s.marks.length kc, .slice ra s.ring.length rc⟩, 41⟩ :: L) h)
    (fun q => [(12, .int .i64 q.1), (11, .int .i64 s.members.length), (10, .slice ma s.members.length mc), (4, ovs q.2 q.1), (5, .int .u64 (sumK (stkL s) q.1))])
    (fun q => oent 22 1 q.2 (colU stkM s.members q.1) (⟨b1, 45, stC s ⟨.slice pa s.purses.length pc, .slice ma s.members.length mc, .slice ea s.entry.length ec, .slice xa s.exit.length xc, .slice oa s.pool.length oc, .slice da s.dues.length dc, .slice ta s.motions.length tc, .slice ka s.marks.length kc, .slice ra s.ring.length rc⟩, 41⟩ :: L)) (fun _ => h) (fun q => s.members.length - q.1) ?_ ?_ ?_ ?_
  · exact ⟨Nat.zero_le _, rfl, trivial⟩
  · simp [Ent, List.lookup, xEnv, ovs, sumK]
  · exact Drop.refl _ _
  rintro ⟨k, o⟩ ⟨k1, k2, k3⟩
  simp only at k1 k2 k3 ⊢
  by_cases c1 : k < s.members.length
  · have hs1 := hsum k (by omega)
    have hs2 := hsum (k + 1) (by omega)
    have es : sumK (stkL s) (k + 1) = sumK (stkL s) k + stkM (gr zeroM s.members k) := by rw [sumK, stkL_at s c1]
    simp -dsimp -implicitDefEqProofs (disch := first | with_reducible assumption | omega) [go_sem, ↓idxR zeroM (by decide) hm, memC]
    refine xnew fun b6 n_b6 h_b6 => ?_
    try simp only [Apart] at n_b6
    simp -dsimp -implicitDefEqProofs (disch := first | with_reducible assumption | omega) [go_sem, memC]
    refine counts_any _ ?_
    by_cases c2 : (gr zeroM s.members k).status = 2 ∨ (gr zeroM s.members k).status = 3
    · have e : stkM (gr zeroM s.members k) = (gr zeroM s.members k).eff := by rw [stkM, if_pos c2]
      rw [decide_eq_true c2]
      rw [e] at es
      simp -dsimp -implicitDefEqProofs (disch := first | with_reducible assumption | omega) [go_sem]
      refine xnew fun b7 n_b7 h_b7 => ?_
      try simp only [Apart] at n_b7
      simp -dsimp -implicitDefEqProofs (disch := first | with_reducible assumption | omega) [go_sem]
      refine xappend (t := 24) (e := 22) (sz := 1) (bytes := 8) (by kernel_rfl) tI_22 rfl rfl rfl rfl (by decide) [_, _] _ o k (colU stkM s.members k) k2 (colU_len k1) (Src.own List.mem_cons_self) (m := 1) (news := [.int .u64 (gr zeroM s.members k).eff]) rfl (by intro u hu; simp only [List.mem_singleton] at hu; subst hu; rfl) (by simp [maxLen]; omega) (by omega) ?_
      intro o' j1 j2 j3
      have j4 := apO_tail (apO_tail j2)
      simp -dsimp -implicitDefEqProofs (disch := first | with_reducible assumption | omega) [go_sem]
      refine ⟨k + 1, o', ⟨by omega, j1, j4⟩, by omega, by simp [Ent, List.lookup, es], ?_⟩
      rw [colU_succ zeroM c1, e]
      exact (Drop.tail _ _ _).trans (Drop.tail _ _ _)
    · have e : stkM (gr zeroM s.members k) = 0 := by rw [stkM, if_neg c2]
      rw [decide_eq_false c2]
      rw [e] at es
      simp -dsimp -implicitDefEqProofs (disch := first | with_reducible assumption | omega) [go_sem]
      refine xnew fun b7 n_b7 h_b7 => ?_
      try simp only [Apart] at n_b7
      simp -dsimp -implicitDefEqProofs (disch := first | with_reducible assumption | omega) [go_sem]
      refine xappend (t := 24) (e := 22) (sz := 1) (bytes := 8) (by kernel_rfl) tI_22 rfl rfl rfl rfl (by decide) [_, _] _ o k (colU stkM s.members k) k2 (colU_len k1) (Src.own List.mem_cons_self) (m := 1) (news := [.int .u64 0]) rfl (by intro u hu; simp only [List.mem_singleton] at hu; subst hu; rfl) (by simp [maxLen]; omega) (by omega) ?_
      intro o' j1 j2 j3
      have j4 := apO_tail (apO_tail j2)
      simp -dsimp -implicitDefEqProofs (disch := first | with_reducible assumption | omega) [go_sem]
      refine ⟨k + 1, o', ⟨by omega, j1, j4⟩, by omega, by simp [Ent, List.lookup, es], ?_⟩
      rw [colU_succ zeroM c1, e]
      exact (Drop.tail _ _ _).trans (Drop.tail _ _ _)
  · have hkl : k = s.members.length := by omega
    subst hkl
    have et : sumK (stkL s) s.members.length = tot (stkL s) := by rw [tot, stkL_len]
    obtain ⟨xa, xc, eo, _⟩ := ovs_open k2
    rw [eo, et]
    simp -dsimp -implicitDefEqProofs (disch := first | with_reducible assumption | omega) [go_sem]
    rw [← eo]
    exact fin_pub (e := 22) (n := s.members.length) k2 (colU_len (Nat.le_refl _)) (by omega) k3 fun h' le sl => fin_tail (fin_here (hk h' _ le (colU_ints sl fun x hx => stkM_ok (hs.mo x hx))))
theorem spread_pub {ws : List Int} (t : Int) (ht : 0 ≤ t ∧ t ≤ 18446744073709551615) (hsm : ∀ x ∈ ws, t * x ≤ 18446744073709551615) (wv : Value) (hws : Ints h .u64 wv ws) (he : spE ws = 0)
    (hk : ∀ h' r, PH.le h h' → Ints h' .u64 r (spL t ws) → K (.tuple #[r, .int .i64 0]) L h') : Spec Try.prog 32 [.int .u64 t, wv] L h K := by
  have hwd := hws.word
  have hl := spr_ok ht.1 (fun i => (hwd i).1) ws.length (Nat.le_refl _)
  have hlen : ws.length ≤ 256 := by
    unfold spE whoE at he
    split at he
    · split at he
      · assumption
      · split at he <;> simp_all
    · split at he <;> simp_all
  refine Spec.fin (spread_any t ht hsm wv hws (fun c => absurd he c) fun _ o o1 o2 => fin_pub (n := ws.length) o1 (by simpa [spL] using hl.len) (by omega) o2 fun h' le sl => fin_here (hk h' _ le ⟨?_, fun z hz => ?_⟩))
  · rw [show (spL t ws).length = ws.length from hl.len]; exact sl
  · obtain ⟨i, hi, rfl⟩ := List.mem_iff_getElem.1 hz
    have := hl.at i
    have h2 := hl.left
    rw [at0_lt hi, show IntKind.u64.min = 0 by decide, show IntKind.u64.max = 18446744073709551615 by decide]
    exact ⟨this.1, by rw [spL]; omega⟩
/-! ### Give -/
def giveE (s : StD) (n : Int) : Int := if fitsS s then (if n < 0 ∨ 256 < n then 2 else if tot (stkL s) = 0 then 190 else 0) else 291
def giveL (s : StD) (n : Int) : List Int := if giveE s n = 0 then spL n (stkL s) else []
set_option maxHeartbeats 6400000 in
theorem give_any {s : StD} (v : SV) (n : Int) (hn : -9223372036854775808 ≤ n ∧ n ≤ 9223372036854775807) (hs : IsSt h v s) (few : FewS s) (hk : ∀ h' r, PH.le h h' → Ints h' .i64 r (giveL s n) → K (.tuple #[r, .int .i64 (giveE s n)]) L h') : Spec Try.prog 15 [stV s v, .int .i64 n] L h K := by
  have no : ∀ e, giveE s n = e → e ≠ 0 → ∀ h', PH.le h h' → K (.tuple #[.slice none 0 0, .int .i64 e]) L h' := fun e he h0 h' le => by
    have := hk h' (.slice none 0 0) le (by rw [giveL, if_neg (by rw [he]; exact h0)]; exact nil_ints h' .i64)
    rwa [he] at this
  obtain ⟨pa, pc, ma, mc, ea, ec, xa, xc, oa, oc, da, dc, ta, tc, ka, kc, ra, rc, rfl⟩ := hs.slices
  refine x_enter Try.func15 rfl (rs := [_, _]) rfl rfl mixed (by kernel_rfl) rfl rfl ?_
  simp -dsimp -implicitDefEqProofs (disch := first | with_reducible assumption | omega) [go_sem]
  refine xnew fun b2 n_b2 h_b2 => ?_
  try simp only [Apart] at n_b2
  simp -dsimp -implicitDefEqProofs (disch := first | with_reducible assumption | omega) [go_sem]
  refine fits_any (s := s) ⟨.slice pa s.purses.length pc, .slice ma s.members.length mc, .slice ea s.entry.length ec, .slice xa s.exit.length xc, .slice oa s.pool.length oc, .slice da s.dues.length dc, .slice ta s.motions.length tc, .slice ka s.marks.length kc, .slice ra s.ring.length rc⟩ hs few ?_
  cases q1 : fitsS s with
  | false =>
    have := no 291 (by rw [giveE, q1]; rfl) (by decide) h (PH.le_refl h)
    simp -dsimp -implicitDefEqProofs (disch := first | with_reducible assumption | omega) [go_sem]
    exact fin_tail (fin_here this)
  | true =>
  by_cases q2 : n < 0 ∨ 256 < n
  · have := no 2 (by rw [giveE, q1, if_pos rfl, if_pos q2]) (by decide) h (PH.le_refl h)
    by_cases q2a : n < 0
    · simp -dsimp -implicitDefEqProofs (disch := first | with_reducible assumption | omega) [go_sem]
      exact fin_tail (fin_here this)
    · simp -dsimp -implicitDefEqProofs (disch := first | with_reducible assumption | omega) [go_sem]
      exact fin_tail (fin_here this)
  have hbnd := stk_bound hs q1
  have htot := stk_sum hs q1 s.members.length (Nat.le_refl _)
  have et : sumK (stkL s) s.members.length = tot (stkL s) := by rw [tot, stkL_len]
  rw [et] at htot
  simp -dsimp -implicitDefEqProofs (disch := first | with_reducible assumption | omega) [go_sem]
  refine Spec.ap (sstakes_any (s := s) ⟨.slice pa s.purses.length pc, .slice ma s.members.length mc, .slice ea s.entry.length ec, .slice xa s.exit.length xc, .slice oa s.pool.length oc, .slice da s.dues.length dc, .slice ta s.motions.length tc, .slice ka s.marks.length kc, .slice ra s.ring.length rc⟩ hs few q1 fun h1 r le1 ir ap => ?_)
  simp only [Ap] at ap
  obtain ⟨a2, _⟩ := ap
  have ir0 := ir
  obtain ⟨wa, wc, rfl, _⟩ := ir.open
  rw [stkL_len]
  rw [stkL_len] at ir0
  by_cases q3 : tot (stkL s) = 0
  · have := no 190 (by rw [giveE, q1, if_pos rfl, if_neg q2, if_pos q3]) (by decide) h1 le1
    rw [q3]
    simp -dsimp -implicitDefEqProofs (disch := first | with_reducible assumption | omega) [go_sem]
    exact fin_tail (fin_here this)
  have eE : giveE s n = 0 := by rw [giveE, q1, if_pos rfl, if_neg q2, if_neg q3]
  have eL : giveL s n = spL n (stkL s) := by rw [giveL, if_pos eE]
  rw [eE, eL] at hk
  simp -dsimp -implicitDefEqProofs (disch := first | with_reducible assumption | omega) [go_sem]
  have hsp := spr_ok (t := n) (ws := stkL s) (by omega) (fun i => (hbnd.2 i).1) (stkL s).length (Nat.le_refl _)
  have hsl : (spL n (stkL s)).length = s.members.length := by rw [← stkL_len]; exact hsp.len
  refine Spec.ap (spread_pub n (by omega) (fun x hx => ?_) _ ir0 ?_ fun h2 r2 le2 ir2 ap => ?_)
  · obtain ⟨i, hi, rfl⟩ := List.mem_iff_getElem.1 hx
    have := hbnd.2 i
    rw [at0_lt hi]
    have h4 : n * at0 (stkL s) i ≤ 256 * 1099511627776 := Int.mul_le_mul (by omega) this.2 this.1 (by decide)
    omega
  · have hw : whoE (stkL s) = 0 := by rw [whoE, if_pos (show (stkL s).length ≤ 256 by rw [stkL_len]; omega), if_pos (show tot (stkL s) ≤ 18446744073709551615 by omega)]
    rw [spE, if_pos hw, if_neg q3]
  simp only [Ap] at ap
  obtain ⟨a2', _⟩ := ap
  have ir2w := ir2.word
  obtain ⟨ga, gc, rfl, _, _, _, hcs⟩ := ir2.open
  have hat : ∀ i, at0 (spL n (stkL s)) i ≤ 256 := fun i => by
    have := hsp.at i
    have h2 := hsp.left
    have h3 : at0 (spL n (stkL s)) i + (sprK n (stkL s) (stkL s).length).2 ≤ n := this.2
    omega
  rw [hsl] at hcs ⊢
  simp -dsimp -implicitDefEqProofs (disch := first | with_reducible assumption | omega) [go_sem]
  refine xloop (γ := Nat × Option (Nat × Nat)) (0, none) (fun q => q.1 ≤ s.members.length ∧ okO q.2 q.1 ∧ apO q.2 (⟨b2, 45, stC s ⟨.slice pa s.purses.length pc, .slice ma s.members.length mc, .slice ea s.entry.length ec, .slice xa s.exit.length xc, .slice oa s.pool.length oc, .slice da s.dues.length dc, .slice ta s.motions.length tc, .slice ka s.marks.length kc, .slice ra s.ring.length rc⟩, 41⟩ :: L) h2)
    (fun q => [(43, .int .i64 q.1), (42, .int .i64 s.members.length), (41, .slice ga s.members.length gc), (10, ovs q.2 q.1)])
    (fun q => oent 3 1 q.2 (tkI (spL n (stkL s)) q.1) (⟨b2, 45, stC s ⟨.slice pa s.purses.length pc, .slice ma s.members.length mc, .slice ea s.entry.length ec, .slice xa s.exit.length xc, .slice oa s.pool.length oc, .slice da s.dues.length dc, .slice ta s.motions.length tc, .slice ka s.marks.length kc, .slice ra s.ring.length rc⟩, 41⟩ :: L)) (fun _ => h2) (fun q => s.members.length - q.1) ?_ ?_ ?_ ?_
  · exact ⟨Nat.zero_le _, rfl, trivial⟩
  · simp [Ent, List.lookup, xEnv, ovs]
  · exact Drop.refl _ _
  rintro ⟨k, o⟩ ⟨k1, k2, k3⟩
  simp only at k1 k2 k3 ⊢
  by_cases c1 : k < s.members.length
  · have hx1 := ir2w k
    have hx2 := hat k
    simp -dsimp -implicitDefEqProofs (disch := first | with_reducible assumption | omega) [go_sem, idx hcs]
    refine xnew fun b7 n_b7 h_b7 => ?_
    try simp only [Apart] at n_b7
    simp -dsimp -implicitDefEqProofs (disch := first | with_reducible assumption | omega) [go_sem]
    refine xappend (t := 28) (e := 3) (sz := 1) (bytes := 8) (z := [.int .i64 0]) (by kernel_rfl) tI_3 rfl rfl rfl rfl (by decide) [_] _ o k (tkI (spL n (stkL s)) k) k2 (tkI_len (by omega)) (Src.own List.mem_cons_self) (m := 1) (news := [.int .i64 (at0 (spL n (stkL s)) k)]) rfl (fun u hu => by simp at hu; subst hu; rfl) (by simp [maxLen]; omega) (by have := hbnd.1; omega) ?_
    intro o' j1 j2 j3
    simp -dsimp -implicitDefEqProofs (disch := first | with_reducible assumption | omega) [go_sem]
    refine ⟨k + 1, o', ⟨by omega, j1, apO_tail j2⟩, by omega, by simp [Ent, List.lookup], ?_⟩
    rw [tkI_succ (by omega)]
    exact Drop.tail _ _ _
  · have hkl : k = s.members.length := by omega
    subst hkl
    obtain ⟨ya, yc, eo, _⟩ := ovs_open k2
    rw [eo]
    simp -dsimp -implicitDefEqProofs (disch := first | with_reducible assumption | omega) [go_sem]
    rw [← eo]
    refine fin_pub (e := 3) (n := s.members.length) k2 (tkI_len (by omega)) (by have := hbnd.1; omega) k3 fun h' le sl => fin_tail (fin_here (hk h' _ ((le1.trans le2).trans le) ⟨?_, fun z hz => ?_⟩))
    · rw [tkI_all (by omega)] at sl
      rw [hsl]
      exact sl
    · obtain ⟨i, hi, rfl⟩ := List.mem_iff_getElem.1 hz
      have h5 := ir2w i
      have h6 := hat i
      rw [at0_lt hi, show IntKind.i64.min = -9223372036854775808 by decide, show IntKind.i64.max = 9223372036854775807 by decide]
      omega
end Go.X
