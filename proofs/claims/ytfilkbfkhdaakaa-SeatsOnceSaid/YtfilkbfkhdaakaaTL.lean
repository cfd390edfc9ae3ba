/- The contract of the law SeatsOnce. Conditions: the value reads as a state; numbers of 64 bits. -/
import Derived.Test.YtfilkbfkhdaakaaTI
import Derived.Test.YtfilkbfkhdaakaaTK
set_option linter.unusedVariables false
set_option linter.unusedSimpArgs false
set_option maxRecDepth 20000
namespace Go.X
open Go.RowKit Go.Proofs Go.Bl
variable {L : Own} {h : PH} {K : PK}
theorem xNth_bools (f : Nat → Bool) (n o : Nat) (K : Value → Prop) (t : Tok K) (ho : o < n) : xNth ((List.range n).map fun j => Value.bool (f j)) o K t = K (.bool (f o)) := by
  simp [xNth, ho]
theorem set_bools (f g : Nat → Bool) (n i : Nat) (hi : g i = true) (hg : ∀ j, j ≠ i → g j = f j) : ((List.range n).map fun j => Value.bool (f j)).set i (.bool true) = (List.range n).map fun j => Value.bool (g j) := by
  apply List.ext_getElem
  · simp
  intro j h1 h2
  rw [List.getElem_set]
  by_cases e : i = j
  · subst e; simp [hi]
  · rw [if_neg e]; simp [hg j (Ne.symm e)]
/-- which places were met -/
def seenB (l : List Int) (k j : Nat) : Bool := decide ((j : Int) ∈ l.take k)
def seenC (l : List Int) (k : Nat) : List Value := (List.range l.length).map fun j => Value.bool (seenB l k j)
theorem seenC_zero (l : List Int) : List.replicate l.length (Value.bool false) = seenC l 0 := by
  apply List.ext_getElem
  · simp [seenC]
  intro j h1 h2
  simp [seenC, seenB]
theorem seenC_succ {l : List Int} {k p : Nat} (hk : k < l.length) (hp : at0 l k = p) : (seenC l k).set p (.bool true) = seenC l (k + 1) := by
  refine set_bools _ _ _ _ ?_ fun j hj => ?_
  · refine decide_eq_true ?_
    rw [List.take_succ_eq_append_getElem hk, at0_lt hk, hp]
    simp
  · have : (j : Int) ≠ p := by omega
    unfold seenB
    rw [List.take_succ_eq_append_getElem hk, at0_lt hk, hp]
    simp [this]
theorem xNth_met (l : List Int) (k o : Nat) (K : Value → Prop) (t : Tok K) (ho : o < l.length) : xNth (seenC l k) o K t = K (.bool (seenB l k o)) := xNth_bools (seenB l k) _ _ K t ho
theorem seenB_new {l : List Int} {k p : Nat} (hnd : l.Nodup) (hk : k < l.length) (hp : at0 l k = p) : seenB l k p = false := by
  refine decide_eq_false fun hm => ?_
  obtain ⟨i, hi, e⟩ := List.mem_iff_getElem.1 hm
  rw [List.getElem_take] at e
  simp only [List.length_take] at hi
  have h2 := List.pairwise_iff_getElem.1 hnd i k (by omega) hk (by omega)
  apply h2
  rw [e, at0_lt hk, hp]
set_option maxHeartbeats 3200000 in
theorem once_any {l : List Int} (n : Nat) (hn : n ≤ 256) (v : Value) (hl : Ints h .i64 v l) (hlen : l.length = n) (hnd : l.Nodup) (hr : ∀ i, i < n → 0 ≤ at0 l i ∧ at0 l i < n) (hk : K (.bool true) L h) : Spec Try.prog 14 [v, .int .i64 n] L h K := by
  subst hlen
  obtain ⟨a, ca, rfl, _, _, _, hcs⟩ := hl.open
  refine x_enter Try.func14 rfl (rs := [_]) rfl rfl mixed (by kernel_rfl) rfl rfl ?_
  simp -dsimp -implicitDefEqProofs (disch := first | with_reducible assumption | omega) [go_sem]
  refine xMS_full (e := 4) (z := .bool false) (by kernel_rfl) tI_4 rfl rfl .i64 .i64 _ (by omega) (by simp; omega) (by omega) ?_
  simp only [Int.toNat_natCast]
  refine xnew fun b1 n_b1 h_b1 => ?_
  try simp only [Apart] at n_b1
  simp -dsimp -implicitDefEqProofs (disch := first | with_reducible assumption | omega) [go_sem]
  refine xloop (γ := Nat) 0 (fun k => k ≤ l.length) (fun k => [(12, .int .i64 k), (11, .int .i64 l.length), (10, .slice a l.length ca), (5, .slice (some ⟨b1, 0, none⟩) l.length l.length), (0, .slice a l.length ca), (1, .int .i64 l.length)])
    (fun k => ⟨b1, 4, seenC l k, l.length⟩ :: L) (fun _ => h) (fun k => l.length - k) ?_ ?_ ?_ ?_
  · exact Nat.zero_le _
  · simp [Ent, List.lookup, xEnv]
  · rw [seenC_zero]
    exact Drop.refl _ _
  intro k hk1
  by_cases c1 : k < l.length
  · have hx := hr k c1
    obtain ⟨p, hp⟩ : ∃ p : Nat, at0 l k = p := ⟨(at0 l k).toNat, by omega⟩
    have hnew := seenB_new hnd c1 hp
    simp -dsimp -implicitDefEqProofs (disch := first | with_reducible assumption | omega) [go_sem, idx hcs, hp, xNth_met, hnew]
    refine ⟨by first | omega | (simp [seenC]; omega), k + 1, by omega, by omega, by simp [Ent, List.lookup], ?_⟩
    rw [seenC_succ c1 hp]
    exact Drop.refl _ _
  · have hkl : k = l.length := by omega
    subst hkl
    simp -dsimp -implicitDefEqProofs (disch := first | with_reducible assumption | omega) [go_sem]
    exact fin_tail (fin_here hk)
/-- how often each place was met -/
def cntC (l : List Int) (m k : Nat) : List Int := (List.range m).map fun j : Nat => (((l.take k).count (j : Int) : Nat) : Int)
theorem cntC_len (l : List Int) (m k : Nat) : (cntC l m k).length = m := by simp [cntC]
theorem cntC_at (l : List Int) {m k j : Nat} (hj : j < m) : at0 (cntC l m k) j = ((l.take k).count (j : Int) : Nat) := by
  rw [← at0_lt (by rw [cntC_len]; exact hj)]; simp [cntC]
theorem cntC_zero (l : List Int) (m : Nat) : List.replicate m (0 : Int) = cntC l m 0 := by
  apply List.ext_getElem
  · simp [cntC]
  intro j h1 h2
  simp [cntC]
theorem cntC_succ {l : List Int} {m k p : Nat} (hk : k < l.length) (hp : at0 l k = p) (hm : p < m) : (cntC l m k).set p (at0 (cntC l m k) p + 1) = cntC l m (k + 1) := by
  refine at0_ext (by simp [cntC]) fun j hj => ?_
  rw [List.length_set, cntC_len] at hj
  have e : l.take (k + 1) = l.take k ++ [(p : Int)] := by rw [List.take_succ_eq_append_getElem hk, at0_lt hk, hp]
  by_cases c : j = p
  · subst c
    rw [at0_self _ _ (by rw [cntC_len]; exact hj), cntC_at l hj, cntC_at l hj, e, List.count_append]
    simp
  · rw [at0_ne _ _ c, cntC_at l hj, cntC_at l hj, e, List.count_append, List.count_singleton]
    have : ((p : Int) == (j : Int)) = false := by rw [beq_eq_false_iff_ne]; omega
    rw [this]
    simp
theorem cntC_le (l : List Int) {m k : Nat} (j : Nat) (hl : l.length ≤ 256) : 0 ≤ at0 (cntC l m k) j ∧ at0 (cntC l m k) j ≤ 256 := by
  by_cases hj : j < m
  · rw [cntC_at l hj]
    have := List.count_le_length (a := (j : Int)) (l := l.take k)
    have h2 : (l.take k).length ≤ l.length := by simp; omega
    omega
  · rw [at0_ge (by rw [cntC_len]; omega)]; omega
theorem stk_counts {s : StD} {p : Nat} (hp : p < s.members.length) (hw : 0 < at0 (stkL s) p) : (gr zeroM s.members p).status = 2 ∨ (gr zeroM s.members p).status = 3 := by
  rw [stkL_at s hp] at hw
  unfold stkM at hw
  split at hw
  · assumption
  · omega
set_option maxHeartbeats 25600000 in
theorem seatsonce_any (w : Value) (seed n : Int) (hS : ∃ q : SV × StD, w = stV q.2 q.1 ∧ IsSt h q.1 q.2) (hx : 0 ≤ seed ∧ seed ≤ 18446744073709551615) (hn : -9223372036854775808 ≤ n ∧ n ≤ 9223372036854775807) (hk : ∀ h', PH.le h h' → K (.bool true) L h') : Spec Try.prog 4 [w, .int .u64 seed, .int .i64 n] L h K := by
  obtain ⟨⟨sv0, s⟩, rfl, hs0⟩ := hS
  simp only at hs0 ⊢
  obtain ⟨pa, pc, ma, mc, ea, ec, xa, xc, oa, oc, da, dc, ta, tc, ka, kc, ra, rc, rfl⟩ := hs0.slices
  refine x_enter Try.func4 rfl (rs := [_]) rfl rfl mixed (by kernel_rfl) rfl rfl ?_
  simp -dsimp -implicitDefEqProofs (disch := first | with_reducible assumption | omega) [go_sem]
  refine xnew fun b3 n_b3 h_b3 => ?_
  try simp only [Apart] at n_b3
  simp -dsimp -implicitDefEqProofs (disch := first | with_reducible assumption | omega) [go_sem]
  refine Spec.ap (awake36_any fun h1 le1 ap => ?_)
  simp only [Ap] at ap
  obtain ⟨a13, _⟩ := ap
  simp -dsimp -implicitDefEqProofs (disch := first | with_reducible assumption | omega) [go_sem]
  refine few24_any (s := s) ⟨.slice pa s.purses.length pc, .slice ma s.members.length mc, .slice ea s.entry.length ec, .slice xa s.exit.length xc, .slice oa s.pool.length oc, .slice da s.dues.length dc, .slice ta s.motions.length tc, .slice ka s.marks.length kc, .slice ra s.ring.length rc⟩ (hs0.up le1) ?_
  cases f1 : fewB s with
  | false =>
    simp -dsimp -implicitDefEqProofs (disch := first | with_reducible assumption | omega) [go_sem]
    exact fin_tail (fin_here (hk h1 le1))
  | true =>
  have fS := fewB_S f1
  simp -dsimp -implicitDefEqProofs (disch := first | with_reducible assumption | omega) [go_sem]
  refine fits_any (s := s) ⟨.slice pa s.purses.length pc, .slice ma s.members.length mc, .slice ea s.entry.length ec, .slice xa s.exit.length xc, .slice oa s.pool.length oc, .slice da s.dues.length dc, .slice ta s.motions.length tc, .slice ka s.marks.length kc, .slice ra s.ring.length rc⟩ (hs0.up le1) fS ?_
  cases f2 : fitsS s with
  | false =>
    simp -dsimp -implicitDefEqProofs (disch := first | with_reducible assumption | omega) [go_sem]
    exact fin_tail (fin_here (hk h1 le1))
  | true =>
  by_cases c1 : n < 0
  · simp -dsimp -implicitDefEqProofs (disch := first | with_reducible assumption | omega) [go_sem]
    exact fin_tail (fin_here (hk h1 le1))
  by_cases c2 : 256 < n
  · simp -dsimp -implicitDefEqProofs (disch := first | with_reducible assumption | omega) [go_sem]
    exact fin_tail (fin_here (hk h1 le1))
  obtain ⟨N, rfl⟩ : ∃ N : Nat, n = N := ⟨n.toNat, by omega⟩
  have hN : N ≤ 256 := by omega
  simp -dsimp -implicitDefEqProofs (disch := first | with_reducible assumption | omega) [go_sem]
  refine Spec.ap (sorder_pub seed N hx hN fun h2 r2 le2 i2 ap => ?_)
  simp only [Ap] at ap
  obtain ⟨a23, _⟩ := ap
  have i20 := i2
  obtain ⟨ya, yc, rfl, _⟩ := i2.open
  rw [ordL_len]
  rw [ordL_len] at i20
  simp -dsimp -implicitDefEqProofs (disch := first | with_reducible assumption | omega) [go_sem]
  refine once_any N hN _ i20 (ordL_len seed N) (ordL_nodup seed N) (fun i hi => ordL_mem seed N i hi) ?_
  simp -dsimp -implicitDefEqProofs (disch := first | with_reducible assumption | omega) [go_sem]
  refine Spec.ap (give_any (s := s) ⟨.slice pa s.purses.length pc, .slice ma s.members.length mc, .slice ea s.entry.length ec, .slice xa s.exit.length xc, .slice oa s.pool.length oc, .slice da s.dues.length dc, .slice ta s.motions.length tc, .slice ka s.marks.length kc, .slice ra s.ring.length rc⟩ N hn (hs0.up (le1.trans le2)) fS fun h3 r3 le3 i3 ap => ?_)
  simp only [Ap] at ap
  obtain ⟨a33, _⟩ := ap
  have i30 := i3
  obtain ⟨ga, gc, rfl, _, _, _, hcg⟩ := i3.open
  simp -dsimp -implicitDefEqProofs (disch := first | with_reducible assumption | omega) [go_sem]
  refine Spec.ap (sit_any (s := s) ⟨.slice pa s.purses.length pc, .slice ma s.members.length mc, .slice ea s.entry.length ec, .slice xa s.exit.length xc, .slice oa s.pool.length oc, .slice da s.dues.length dc, .slice ta s.motions.length tc, .slice ka s.marks.length kc, .slice ra s.ring.length rc⟩ seed N hx hn (hs0.up (le1.trans (le2.trans le3))) fS fun h4 r4 le4 i4 ap => ?_)
  simp only [Ap] at ap
  obtain ⟨a43, _⟩ := ap
  have i40 := i4
  obtain ⟨la, lc, rfl, _, _, _, hcl⟩ := i4.open
  simp -dsimp -implicitDefEqProofs (disch := first | with_reducible assumption | omega) [go_sem]
  have le14 := le1.trans (le2.trans (le3.trans le4))
  by_cases t0 : tot (stkL s) = 0
  · have eG : giveE s N = 190 := by rw [giveE, f2, if_pos rfl, if_neg (by omega), if_pos t0]
    have eL : leadE s = 190 := by rw [leadE, f2, if_pos rfl, if_pos t0]
    have gl : (giveL s N).length = 0 := by rw [giveL, eG]; rfl
    have sl : (sitR s seed N).length = 0 := by rw [sitR, eG]; rfl
    refine Spec.ap (lead_any (s := s) ⟨.slice pa s.purses.length pc, .slice ma s.members.length mc, .slice ea s.entry.length ec, .slice xa s.exit.length xc, .slice oa s.pool.length oc, .slice da s.dues.length dc, .slice ta s.motions.length tc, .slice ka s.marks.length kc, .slice ra s.ring.length rc⟩ seed hx (hs0.up le14) fS (fun h5 e5 le5 ap => ?_) (fun h5 i e5 => absurd e5 (by rw [eL]; decide)))
    simp only [Ap] at ap
    obtain ⟨a53, _⟩ := ap
    rw [eL, eG, gl, sl]
    simp -dsimp -implicitDefEqProofs (disch := first | with_reducible assumption | omega) [go_sem]
    exact fin_tail (fin_here (hk h5 (le14.trans le5)))
  have eG : giveE s N = 0 := by rw [giveE, f2, if_pos rfl, if_neg (by omega), if_neg t0]
  have eL : leadE s = 0 := by rw [leadE, f2, if_pos rfl, if_neg t0]
  obtain ⟨_, n0, n1, tp, eg⟩ := giveL_ok hs0 eG
  have hwl := who_len hs0 eG
  have hb := (stk_bound hs0 f2).2
  have hml := (stk_bound hs0 f2).1
  have h0 : ∀ i, 0 ≤ at0 (stkL s) i := fun i => (hb i).1
  have gl : (giveL s N).length = s.members.length := by rw [eg, spL_len n0 h0, stkL_len]
  have sl : (sitR s seed N).length = N := by rw [sitR, if_pos eG, sitL_len]; omega
  have eS : sitR s seed N = sitL seed (giveL s N) := by rw [sitR, if_pos eG]
  have hsit : ∀ k, k < N → ∃ p : Nat, at0 (sitR s seed N) k = p ∧ p < s.members.length ∧ ((gr zeroM s.members p).status = 2 ∨ (gr zeroM s.members p).status = 3) := fun k hk => by
    have hm : at0 (sitR s seed N) k ∈ sitL seed (giveL s N) := by rw [← eS, ← at0_lt (by omega)]; exact List.getElem_mem _
    obtain ⟨p, e1, e2, e3⟩ := sitL_mem hm
    refine ⟨p, e1, by omega, stk_counts (by omega) ?_⟩
    by_cases cz : at0 (stkL s) p = 0
    · rw [eg, spL_zero n0 h0 cz] at e3; omega
    · have := h0 p; omega
  refine Spec.ap (lead_any (s := s) ⟨.slice pa s.purses.length pc, .slice ma s.members.length mc, .slice ea s.entry.length ec, .slice xa s.exit.length xc, .slice oa s.pool.length oc, .slice da s.dues.length dc, .slice ta s.motions.length tc, .slice ka s.marks.length kc, .slice ra s.ring.length rc⟩ seed hx (hs0.up le14) fS (fun h5 e5 => absurd eL e5) (fun h5 i e5 le5 hi d1 d2 ap => ?_))
  simp only [Ap] at ap
  obtain ⟨a53, _⟩ := ap
  have hcount := stk_counts hi (by rw [sumK] at d2; omega)
  have hm : Recs memC 6 h5 (.slice ma s.members.length mc) s.members := hs0.m.up (le14.trans le5)
  have hcg' : ∀ j, j < s.members.length → elemCell h5 ga j = some (Value.int .i64 (at0 (giveL s N) j)) := fun j hj => elemCell_up (le4.trans le5) (hcg j (by omega))
  have hcl' : ∀ j, j < N → elemCell h5 la j = some (Value.int .i64 (at0 (sitR s seed N) j)) := fun j hj => elemCell_up le5 (hcl j (by omega))
  have hgw := i30.num
  rw [eG, gl, sl]
  simp -dsimp -implicitDefEqProofs (disch := first | with_reducible assumption | omega) [go_sem, ↓idxR zeroM (by decide) hm, memC]
  refine counts_any _ ?_
  rw [decide_eq_true hcount]
  simp -dsimp -implicitDefEqProofs (disch := first | with_reducible assumption | omega) [go_sem]
  refine xMS_full (e := 3) (z := .int .i64 0) (by kernel_rfl) tI_3 rfl rfl .i64 .i64 _ (by omega) (by simp; omega) (by omega) ?_
  simp only [Int.toNat_natCast]
  refine xnew fun b15 n_b15 h_b15 => ?_
  try simp only [Apart] at n_b15
  simp -dsimp -implicitDefEqProofs (disch := first | with_reducible assumption | omega) [go_sem]
  obtain ⟨m, hmm⟩ : ∃ m, m = s.members.length := ⟨_, rfl⟩
  obtain ⟨ls, hls⟩ : ∃ ls, ls = sitR s seed N := ⟨_, rfl⟩
  obtain ⟨gs, hgs⟩ : ∃ gs, gs = giveL s N := ⟨_, rfl⟩
  rw [← hls] at hcl' sl eS hsit
  rw [← hgs] at hcg' hgw gl eg eS
  have hend : ∀ j, j < m → at0 (cntC ls m N) j = at0 gs j := fun j hj => by
    rw [cntC_at ls hj, List.take_of_length_le (by omega), eS, sitL_count seed gs (by omega)]
    have := spL_nonneg (ws := stkL s) n0 h0 j
    rw [← eg] at this
    omega
  have hfair : ∀ a b, a < m → b < m → at0 (stkL s) b ≤ at0 (stkL s) a → at0 gs b - 1 ≤ at0 gs a := fun a b ha hb2 hab => by
    rw [eg]
    exact spL_fair n0 h0 (by rw [stkL_len]; omega) (by rw [stkL_len]; omega) hab
  have hgb : ∀ j, 0 ≤ at0 gs j ∧ at0 gs j ≤ 256 := fun j => by
    rw [eg]
    have o := (spr_ok (ws := stkL s) n0 h0 (stkL s).length (Nat.le_refl _)).at j
    have o2 := (spr_ok (ws := stkL s) n0 h0 (stkL s).length (Nat.le_refl _)).left
    rw [spL]
    omega
  rw [← hmm] at hcg' hsit hm ⊢
  obtain ⟨pf, hpf⟩ : ∃ pf : Nat → Nat, ∀ k, k < N → at0 ls k = pf k ∧ pf k < m ∧ ((gr zeroM s.members (pf k)).status = 2 ∨ (gr zeroM s.members (pf k)).status = 3) := ⟨fun k => (at0 ls k).toNat, fun k hk => by
    obtain ⟨p, e1, e2, e3⟩ := hsit k hk
    have : (at0 ls k).toNat = p := by omega
    simp only [this]
    exact ⟨e1, e2, e3⟩⟩
  have hcl2 : ∀ j, j < N → elemCell h5 la j = some (Value.int .i64 (pf j)) := fun j hj => by rw [hcl' j hj, (hpf j hj).1]
  refine xloop (γ := Nat) 0 (fun k => k ≤ N)
    (fun k => [(144, .int .i64 k), (143, .int .i64 N), (142, .slice la N lc), (15, .slice (some ⟨b15, 0, none⟩) m m), (9, .slice ga m gc), (3, .pointer (some ⟨b3, 0, none⟩))])
    (fun k => ⟨b15, 3, (cntC ls m k).map (.int .i64), m⟩ :: ⟨b3, 45, stC s ⟨.slice pa s.purses.length pc, .slice ma s.members.length mc, .slice ea s.entry.length ec, .slice xa s.exit.length xc, .slice oa s.pool.length oc, .slice da s.dues.length dc, .slice ta s.motions.length tc, .slice ka s.marks.length kc, .slice ra s.ring.length rc⟩, 41⟩ :: L) (fun _ => h5) (fun k => N - k) ?_ ?_ ?_ ?_
  · exact Nat.zero_le _
  · simp [Ent, List.lookup, xEnv, hmm]
  · rw [← cntC_zero, List.map_replicate, hmm]
    exact Drop.refl _ _
  intro k hk1
  by_cases c3 : k < N
  · obtain ⟨hp, hpm, hst⟩ := hpf k c3
    obtain ⟨p, ep⟩ : ∃ p, p = pf k := ⟨_, rfl⟩
    have hcl3 : ∀ j, j < N → elemCell h5 la j = some (Value.int .i64 (if j = k then p else pf j : Nat)) := fun j hj => by
      rw [hcl2 j hj]
      split
      · rename_i e; rw [e, ep]
      · rfl
    rw [← ep] at hp hpm hst
    have hcb := cntC_le ls (m := m) (k := k) p (by omega)
    have hcn := cntC_len ls m k
    simp -dsimp -implicitDefEqProofs (disch := first | with_reducible assumption | omega) [go_sem, idx hcl3, if_pos, ↓idxR zeroM (by decide) hm, memC]
    refine counts_any _ ?_
    rw [decide_eq_true hst]
    simp -dsimp -implicitDefEqProofs (disch := first | with_reducible assumption | omega) [go_sem, xNth_ints]
    refine ⟨by omega, k + 1, by omega, by omega, by simp [Ent, List.lookup], ?_⟩
    rw [← List.map_set, cntC_succ (by omega) hp hpm]
    exact Drop.refl _ _
  have hkn : N = k := by omega
  subst hkn
  simp -dsimp -implicitDefEqProofs (disch := first | with_reducible assumption | omega) [go_sem]
  refine xloop (γ := Nat) 0 (fun k => k ≤ m)
    (fun k => [(174, .int .i64 k), (173, .int .i64 m), (172, .slice ga m gc), (15, .slice (some ⟨b15, 0, none⟩) m m), (9, .slice ga m gc), (3, .pointer (some ⟨b3, 0, none⟩))])
    (fun _ => ⟨b15, 3, (cntC ls m N).map (.int .i64), m⟩ :: ⟨b3, 45, stC s ⟨.slice pa s.purses.length pc, .slice ma s.members.length mc, .slice ea s.entry.length ec, .slice xa s.exit.length xc, .slice oa s.pool.length oc, .slice da s.dues.length dc, .slice ta s.motions.length tc, .slice ka s.marks.length kc, .slice ra s.ring.length rc⟩, 41⟩ :: L) (fun _ => h5) (fun k => m - k) ?_ ?_ ?_ ?_
  · exact Nat.zero_le _
  · simp [Ent, List.lookup, xEnv]
  · exact Drop.refl _ _
  intro a ha
  by_cases c4 : a < m
  · have hea := hend a c4
    have hcn := cntC_len ls m N
    have hga := hgb a
    simp -dsimp -implicitDefEqProofs (disch := first | with_reducible assumption | omega) [go_sem, idx hcg', xNth_ints, hea]
    refine xloop (γ := Nat) 0 (fun k => k ≤ m)
      (fun k => [(187, .int .i64 k), (186, .int .i64 m), (185, .slice ga m gc), (18, .int .i64 a), (19, .int .i64 (at0 gs a)), (174, .int .i64 a), (173, .int .i64 m), (172, .slice ga m gc), (15, .slice (some ⟨b15, 0, none⟩) m m), (9, .slice ga m gc), (3, .pointer (some ⟨b3, 0, none⟩))])
      (fun _ => ⟨b15, 3, (cntC ls m N).map (.int .i64), m⟩ :: ⟨b3, 45, stC s ⟨.slice pa s.purses.length pc, .slice ma s.members.length mc, .slice ea s.entry.length ec, .slice xa s.exit.length xc, .slice oa s.pool.length oc, .slice da s.dues.length dc, .slice ta s.motions.length tc, .slice ka s.marks.length kc, .slice ra s.ring.length rc⟩, 41⟩ :: L) (fun _ => h5) (fun k => m - k) ?_ ?_ ?_ ?_
    · exact Nat.zero_le _
    · simp [Ent, List.lookup, xEnv]
    · exact Drop.refl _ _
    intro b hb2
    by_cases c5 : b < m
    · have hgb2 := hgb b
      simp -dsimp -implicitDefEqProofs (disch := first | with_reducible assumption | omega) [go_sem, idx hcg']
      refine xdraw (by kernel_rfl) rfl ?_
      simp -dsimp -implicitDefEqProofs (disch := first | with_reducible assumption | omega) [go_sem, ↓idxR zeroM (by decide) hm, memC]
      refine xdcall _ (counts_any _ ⟨rfl, rfl, rfl⟩) ?_
      by_cases ca : (gr zeroM s.members a).status = 2 ∨ (gr zeroM s.members a).status = 3
      · rw [decide_eq_true ca]
        simp -dsimp -implicitDefEqProofs (disch := first | with_reducible assumption | omega) [go_sem, ↓idxR zeroM (by decide) hm, memC]
        refine xdcall _ (counts_any _ ⟨rfl, rfl, rfl⟩) ?_
        by_cases cb : (gr zeroM s.members b).status = 2 ∨ (gr zeroM s.members b).status = 3
        · rw [decide_eq_true cb]
          have sa : at0 (stkL s) a = (gr zeroM s.members a).eff := by rw [stkL_at s (by omega), stkM, if_pos ca]
          have sb : at0 (stkL s) b = (gr zeroM s.members b).eff := by rw [stkL_at s (by omega), stkM, if_pos cb]
          simp -dsimp -implicitDefEqProofs (disch := first | with_reducible assumption | omega) [go_sem, ↓idxR zeroM (by decide) hm, memC]
          refine (Recs.fld zeroM hm (j := a) (o := 1) (by omega) (u := .int .u64 (gr zeroM s.members a).eff) rfl _ _ _).mpr ?_
          simp -dsimp -implicitDefEqProofs (disch := first | with_reducible assumption | omega) [go_sem, ↓idxR zeroM (by decide) hm]
          refine (Recs.fld zeroM hm (j := b) (o := 1) (by omega) (u := .int .u64 (gr zeroM s.members b).eff) rfl _ _ _).mpr ?_
          by_cases ce : (gr zeroM s.members b).eff ≤ (gr zeroM s.members a).eff
          · have hfr := hfair a b c4 c5 (by rw [sa, sb]; exact ce)
            simp -dsimp -implicitDefEqProofs (disch := first | with_reducible assumption | omega) [go_sem]
            exact ⟨b + 1, by omega, by omega, by simp [Ent, List.lookup], Drop.refl _ _⟩
          · simp -dsimp -implicitDefEqProofs (disch := first | with_reducible assumption | omega) [go_sem]
            exact ⟨b + 1, by omega, by omega, by simp [Ent, List.lookup], Drop.refl _ _⟩
        · rw [decide_eq_false cb]
          simp -dsimp -implicitDefEqProofs (disch := first | with_reducible assumption | omega) [go_sem]
          exact ⟨b + 1, by omega, by omega, by simp [Ent, List.lookup], Drop.refl _ _⟩
      · rw [decide_eq_false ca]
        simp -dsimp -implicitDefEqProofs (disch := first | with_reducible assumption | omega) [go_sem]
        exact ⟨b + 1, by omega, by omega, by simp [Ent, List.lookup], Drop.refl _ _⟩
    · have hkl : b = m := by omega
      subst hkl
      simp -dsimp -implicitDefEqProofs (disch := first | with_reducible assumption | omega) [go_sem]
      exact ⟨a + 1, by omega, by omega, by simp [Ent, List.lookup], Drop.refl _ _⟩
  · simp -dsimp -implicitDefEqProofs (disch := first | with_reducible assumption | omega) [go_sem]
    exact fin_tail (fin_tail (fin_here (hk h5 (le14.trans le5))))
end Go.X
