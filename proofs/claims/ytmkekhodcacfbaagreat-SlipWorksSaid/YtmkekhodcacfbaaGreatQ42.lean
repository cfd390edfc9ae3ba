/- Lemmas and contracts for a statement about the given program. Conditions: as each says. -/
import Derived.Test.YtmkekhodcacfbaaGreatQ18
import Derived.Test.YtmkekhodcacfbaaGreatQ40
import Derived.Test.YtmkekhodcacfbaaGreatQ41
set_option linter.unusedVariables false
set_option linter.unusedSimpArgs false
set_option maxHeartbeats 12800000
set_option maxRecDepth 20000
namespace Go.X
open Go.RowKit Go.Proofs Go.Bl
variable {L : Own} {h : PH} {K : PK}
theorem eqSlP (m : SlD) (x y : Operand) (K : Value → Prop) (t : Tok K) : xBin Tryz.prog .eql 42 x y (.agg #[.int .i64 m.mem, .bool m.there, .int .u64 m.prize, .int .u64 m.over, .int .u64 m.fine, .int .u64 m.burned, .int .i64 m.ends, .int .u64 m.paid]) (.agg #[.int .i64 m.mem, .bool m.there, .int .u64 m.prize, .int .u64 m.over, .int .u64 m.fine, .int .u64 m.burned, .int .i64 m.ends, .int .u64 m.paid]) K t = K (.bool true) := xBin_eqflat _ (by kernel_rfl) (by kernel_rfl) x y K t
theorem eqSlR (m : SlD) (x y : Operand) (K : Value → Prop) (t : Tok K) : xBin Tryz.prog .eql 56 x y (.agg #[.int .i64 m.mem, .bool m.there, .int .u64 m.prize, .int .u64 m.over, .int .u64 m.fine, .int .u64 m.burned, .int .i64 m.ends, .int .u64 m.paid]) (.agg #[.int .i64 m.mem, .bool m.there, .int .u64 m.prize, .int .u64 m.over, .int .u64 m.fine, .int .u64 m.burned, .int .i64 m.ends, .int .u64 m.paid]) K t = K (.bool true) := xBin_eqflat _ (by kernel_rfl) (by kernel_rfl) x y K t
theorem neSlR (m : SlD) (x y : Operand) (K : Value → Prop) (t : Tok K) : xBin Tryz.prog .neq 56 x y (.agg #[.int .i64 m.mem, .bool m.there, .int .u64 m.prize, .int .u64 m.over, .int .u64 m.fine, .int .u64 m.burned, .int .i64 m.ends, .int .u64 m.paid]) (.agg #[.int .i64 m.mem, .bool m.there, .int .u64 m.prize, .int .u64 m.over, .int .u64 m.fine, .int .u64 m.burned, .int .i64 m.ends, .int .u64 m.paid]) K t = K (.bool false) := xBin_neflat _ (by kernel_rfl) (by kernel_rfl) x y K t
theorem eqSlP0 (x y : Operand) (K : Value → Prop) (t : Tok K) : xBin Tryz.prog .eql 42 x y (.agg #[.int .i64 zeroSl.mem, .bool zeroSl.there, .int .u64 zeroSl.prize, .int .u64 zeroSl.over, .int .u64 zeroSl.fine, .int .u64 zeroSl.burned, .int .i64 zeroSl.ends, .int .u64 zeroSl.paid]) (.agg #[.int .i64 0, .bool false, .int .u64 0, .int .u64 0, .int .u64 0, .int .u64 0, .int .i64 0, .int .u64 0]) K t = K (.bool true) := eqSlP zeroSl x y K t
def wfK (l : List SlD) (i : Int) : Nat → SlD × Bool
 | 0 => (zeroSl, false)
 | k + 1 => if (gr zeroSl l k).mem = i then (gr zeroSl l k, true) else wfK l i k
theorem wfK_no {l : List SlD} {i : Int} : ∀ k, (∀ j, j < k → (gr zeroSl l j).mem ≠ i) → wfK l i k = (zeroSl, false)
 | 0, _ => rfl
 | k + 1, hj => by rw [wfK, if_neg (hj k (by omega)), wfK_no k fun j h => hj j (by omega)]
theorem wfK_at {l : List SlD} {i : Int} (hnd : (memsL l).Nodup) {q : Nat} (hq : q < l.length) (hqi : (gr zeroSl l q).mem = i) : ∀ k, q < k → k ≤ l.length → wfK l i k = (gr zeroSl l q, true)
 | k + 1, h1, h2 => by
  by_cases e : k = q
  ·subst e; rw [wfK, if_pos hqi]
  ·have : (gr zeroSl l k).mem ≠ i := fun e2 => by
    have a1 := memsL_at hq
    have a2 := memsL_at (l := l) (k := k) (by omega)
    have hl : (memsL l).length = l.length := by simp [memsL]
    rw [← at0_lt (by omega)] at a1 a2
    exact (List.pairwise_iff_getElem.1 hnd) q k (by omega) (by omega) (by omega) (by rw [a1, a2, hqi, e2])
   rw [wfK, if_neg this, wfK_at hnd hq hqi k (by omega) (by omega)]
theorem slips_nodup (s : StD) : (memsL (slipsL s)).Nodup := by
 unfold slipsL memsL
 split
 ·have e : ((cI s).map (slip2 s)).map SlD.mem = (cI s).map (fun i : Nat => (i : Int)) := by
   rw [List.map_map]
   apply List.map_congr_left
   intro i _
   exact (slip1_f s i).1
  rw [e, List.Nodup, List.pairwise_map]
  have h1 : (cI s).Nodup := List.Nodup.sublist List.filter_sublist List.nodup_range
  exact h1.imp fun h e => h (by omega)
 ·exact List.nodup_nil
theorem fewB_TV {s : StD} (hf : fewB s = true) : FewT s := by
 have := few9_len (fewB_9 hf)
 exact ⟨by omega, by omega, by omega, by omega⟩
theorem sof_any2 {s : StD} (v : SV) (hs0 : IsSt h v s) (few : FewS s) (fk : s.marks.length ≤ 1000) (fm : s.members.length ≤ 1000) (i : Int) {x : SlD} {e : Int} (hx : ofP s i = (x, e))
  (hk : ∀ h', PH.le h h' → K (.tuple #[slV x, .int .i64 e]) L h') : Spec Tryz.prog 11 [stV s v, .int .i64 i] L h K :=
 sof_any v hs0 few fk fm i (by rw [hx]; exact hk)
theorem slipworks_any (w : Value) (i : Int) (hS : ∃ q : SV × StD, w = stV q.2 q.1 ∧ IsSt h q.1 q.2) (hi : -9223372036854775808 ≤ i ∧ i ≤ 9223372036854775807) (hk : ∀ h', PH.le h h' → K (.bool true) L h') : Spec Tryz.prog 3 [w, .int .i64 i] L h K := by
 obtain ⟨⟨sv0, s⟩, rfl, hs0⟩ := hS
 simp only at hs0 ⊢
 obtain ⟨pa, pc, ma, mc, ea, ec, xa, xc, oa, oc, da, dc, ta, tc, ka, kc, ra, rc, rfl⟩ := hs0.slices
 refine x_enter Tryz.func3 rfl (rs := [_]) rfl rfl mixed (by kernel_rfl) rfl rfl ?_
 simp -dsimp -implicitDefEqProofs (disch := first|with_reducible assumption|omega) [go_sem]
 refine xnew fun b1 n_b1 h_b1 => ?_
 try simp only [Apart] at n_b1
 simp -dsimp -implicitDefEqProofs (disch := first|with_reducible assumption|omega) [go_sem]
 refine Spec.ap (awake41_any fun h1 le1 ap => ?_)
 simp only [Ap] at ap
 obtain ⟨a11, _⟩ := ap
 simp -dsimp -implicitDefEqProofs (disch := first|with_reducible assumption|omega) [go_sem]
 refine few24_any (s := s) ⟨.slice pa s.purses.length pc, .slice ma s.members.length mc, .slice ea s.entry.length ec, .slice xa s.exit.length xc, .slice oa s.pool.length oc, .slice da s.dues.length dc, .slice ta s.motions.length tc, .slice ka s.marks.length kc, .slice ra s.ring.length rc⟩ (hs0.up le1) ?_
 cases f1 : fewB s with
 | false =>
  simp -dsimp -implicitDefEqProofs (disch := first|with_reducible assumption|omega) [go_sem]
  exact fin_tail (fin_here (hk h1 le1))
 | true =>
 have fS := fewB_S f1
 have fT := fewB_TV f1
 have fd := few9_len (fewB_9 f1)
 have hll := slipsL_len s
 have hnd := slips_nodup s
 simp -dsimp -implicitDefEqProofs (disch := first|with_reducible assumption|omega) [go_sem]
 refine Spec.ap (slips_any (s := s) ⟨.slice pa s.purses.length pc, .slice ma s.members.length mc, .slice ea s.entry.length ec, .slice xa s.exit.length xc, .slice oa s.pool.length oc, .slice da s.dues.length dc, .slice ta s.motions.length tc, .slice ka s.marks.length kc, .slice ra s.ring.length rc⟩ (hs0.up le1) fS (by omega) fun h2 r2 le2 i2 ap => ?_)
 simp only [Ap] at ap
 obtain ⟨a21, _⟩ := ap
 have le02 := le1.trans le2
 obtain ⟨za, zc, rfl, hzc, hzl, _, hrd⟩ := i2.open
 simp -dsimp -implicitDefEqProofs (disch := first|with_reducible assumption|omega) [go_sem]
 have few_k : s.marks.length ≤ 1000 := by omega
 have few_m : s.members.length ≤ 1000 := by omega
 cases hof : ofP s i with | mk xo eo =>
 refine Spec.ap (sof_any2 (s := s) ⟨.slice pa s.purses.length pc, .slice ma s.members.length mc, .slice ea s.entry.length ec, .slice xa s.exit.length xc, .slice oa s.pool.length oc, .slice da s.dues.length dc, .slice ta s.motions.length tc, .slice ka s.marks.length kc, .slice ra s.ring.length rc⟩ (hs0.up le02) fS few_k few_m i hof fun h3 le3 ap => ?_)
 simp only [Ap] at ap
 obtain ⟨a31, _⟩ := ap
 have le03 := le02.trans le3
 simp -dsimp -implicitDefEqProofs (disch := first|with_reducible assumption|omega) [go_sem]
 refine xnew fun b7 n_b7 h_b7 => ?_
 try simp only [Apart] at n_b7
 have n7 : b1 ≠ b7 := n_b7.1
 clear n_b7
 simp -dsimp -implicitDefEqProofs (disch := first|with_reducible assumption|omega) [go_sem]
 refine Spec.ap (plain24_any (s := s) (v := ⟨.slice pa s.purses.length pc, .slice ma s.members.length mc, .slice ea s.entry.length ec, .slice xa s.exit.length xc, .slice oa s.pool.length oc, .slice da s.dues.length dc, .slice ta s.motions.length tc, .slice ka s.marks.length kc, .slice ra s.ring.length rc⟩) (hs0.up le03) fS.m fS.o fS.d fS.t fun h4 u le4 hs4 ap => ?_)
 simp only [Ap] at ap
 obtain ⟨a47, a41, _⟩ := ap
 have le04 := le03.trans le4
 obtain ⟨pa2, pc2, ma2, mc2, ea2, ec2, xa2, xc2, oa2, oc2, da2, dc2, ta2, tc2, ka2, kc2, ra2, rc2, rfl⟩ := hs4.slices
 simp -dsimp -implicitDefEqProofs (disch := first|with_reducible assumption|omega) [go_sem]
 refine Spec.ap (slips41_any (s := s) ⟨.slice pa2 s.purses.length pc2, .slice ma2 s.members.length mc2, .slice ea2 s.entry.length ec2, .slice xa2 s.exit.length xc2, .slice oa2 s.pool.length oc2, .slice da2 s.dues.length dc2, .slice ta2 s.motions.length tc2, .slice ka2 s.marks.length kc2, .slice ra2 s.ring.length rc2⟩ hs4 fS fT (by omega) fun h5 r5 le5 i5 ap => ?_)
 simp only [Ap] at ap
 obtain ⟨a57, a51, _⟩ := ap
 have le05 := le04.trans le5
 obtain ⟨ya, yc, rfl, hyc, hyl, _, htd⟩ := i5.open
 have hrd5 := hrd.up (le3.trans (le4.trans le5))
 simp -dsimp -implicitDefEqProofs (disch := first|with_reducible assumption|omega) [go_sem]
 refine xnew fun b11 n_b11 h_b11 => ?_
 try simp only [Apart] at n_b11
 have n11 : b7 ≠ b11 ∧ b1 ≠ b11 := ⟨n_b11.1, n_b11.2.1⟩
 clear n_b11
 simp -dsimp -implicitDefEqProofs (disch := first|with_reducible assumption|omega) [go_sem]
 have hEcase : (slipsE s ≠ 0 ∧ xo = zeroSl ∧ eo = slipsE s) ∨ (slipsE s = 0 ∧ eo = 0 ∧ wfK (slipsL s) i (slipsL s).length = (xo, true)) ∨ (slipsE s = 0 ∧ eo = 190 ∧ xo = zeroSl ∧ wfK (slipsL s) i (slipsL s).length = (zeroSl, false)) := by
  have hml : (memsL (slipsL s)).length = (slipsL s).length := by simp [memsL]
  unfold ofP at hof
  by_cases c1 : slipsE s = 0
  ·rw [if_neg (by simpa using c1)] at hof
   by_cases c2 : 0 ≤ fI (memsL (slipsL s)) i
   ·rw [if_pos c2] at hof
    obtain ⟨q, q1, q2, q3⟩ := fI_get c2
    rw [q2, Int.toNat_natCast] at hof
    cases hof
    have q1' : q < (slipsL s).length := by omega
    exact Or.inr (Or.inl ⟨c1, rfl, wfK_at hnd q1' (by rw [← memsL_at q1', q3]) _ q1' (Nat.le_refl _)⟩)
   ·rw [if_neg c2] at hof
    cases hof
    refine Or.inr (Or.inr ⟨c1, rfl, rfl, wfK_no _ fun j hj e => c2 ((fI_iff _ _).2 ?_)⟩)
    rw [← e, ← memsL_at hj, ← at0_lt (by omega)]
    exact List.getElem_mem _
  ·rw [if_pos c1] at hof
   cases hof
   exact Or.inl ⟨c1, rfl, rfl⟩
 clear hof hll fS fT fd hnd hs4 hs0
 obtain ⟨ls, hls⟩ : ∃ ls, ls = slipsL s := ⟨_, rfl⟩
 rw [← hls] at hEcase hrd5 htd hzc hyc hzl hyl ⊢
 clear hrd i2 i5 a21 a31 a41 a47
 refine xloop (γ := Nat) 0 (fun k => k ≤ ls.length) (fun k => [(50, .int .i64 k), (49, .int .i64 ls.length), (48, .slice za ls.length zc), (12, .bool (wfK ls i k).2), (11, .pointer (some ⟨b11, 0, none⟩)), (9, .slice ya ls.length yc), (8, .int .i64 eo), (7, .pointer (some ⟨b7, 0, none⟩)), (6, .int .i64 (slipsE s)), (1, .int .i64 i)])
  (fun k => ⟨b11, 56, slC (wfK ls i k).1, 8⟩ :: ⟨b7, 42, slC xo, 8⟩ :: ⟨b1, 34, stC s ⟨.slice pa s.purses.length pc, .slice ma s.members.length mc, .slice ea s.entry.length ec, .slice xa s.exit.length xc, .slice oa s.pool.length oc, .slice da s.dues.length dc, .slice ta s.motions.length tc, .slice ka s.marks.length kc, .slice ra s.ring.length rc⟩, 41⟩ :: L) (fun _ => h5) (fun k => ls.length - k) ?_ ?_ ?_ ?_
 ·exact Nat.zero_le _
 ·simp [Ent, List.lookup, xEnv, wfK]
 ·exact Drop.refl _ _
 rintro k k1
 by_cases c1 : k < ls.length
 ·simp only [slC, stC]
  obtain ⟨m, hm⟩ : ∃ m, m = gr zeroSl ls k := ⟨_, rfl⟩
  simp -dsimp -implicitDefEqProofs (disch := first|with_reducible assumption|omega) [go_sem, ↓idxR zeroSl (by decide) hrd5, slC]
  refine xnew fun b14 n_b14 h_b14 => ?_
  try simp only [Apart] at n_b14
  have n14 := n_b14.1
  have n14' := n_b14.2.1
  have n14'' := n_b14.2.2.1
  clear n_b14
  simp -dsimp -implicitDefEqProofs (disch := first|with_reducible assumption|omega) [go_sem, ↓idxR zeroSl (by decide) hrd5, slC]
  refine xanyl (.tk 1 (.tk 2 (.tk 3 (.tkl 0 (.tkl 4 (.tk 5 (.fin))))))) (by kernel_rfl) (by kernel_rfl) _ (Drop.refl _ _) ?_
  simp -dsimp -implicitDefEqProofs (disch := first|with_reducible assumption|omega) [go_sem, ↓idxR zeroSl (by decide) htd, slC, neSlR]
  by_cases c2 : (gr zeroSl ls k).mem = i
  ·simp -dsimp -implicitDefEqProofs (disch := first|with_reducible assumption|omega) [go_sem, ↓idxR zeroSl (by decide) htd, slC]
   refine ⟨k + 1, by omega, by omega, ?_, ?_⟩
   ·simp [Ent, List.lookup, wfK, c2]
   ·simp only [wfK, if_pos c2]
    exact Drop.tail _ _ _
  ·simp -dsimp -implicitDefEqProofs (disch := first|with_reducible assumption|omega) [go_sem]
   refine ⟨k + 1, by omega, by omega, ?_, ?_⟩
   ·simp [Ent, List.lookup, wfK, c2]
   ·simp only [wfK, if_neg c2]
    exact Drop.tail _ _ _
 ·obtain rfl : k = ls.length := by omega
  simp only [slC, stC]
  simp -dsimp -implicitDefEqProofs (disch := first|with_reducible assumption|omega) [go_sem]
  have done := hk h5 le05
  rcases hEcase with ⟨e1, rfl, rfl⟩ | ⟨e1, rfl, e3⟩ | ⟨e1, rfl, rfl, e3⟩
  ·rw [show decide (slipsE s = 0) = false from decide_eq_false e1]
   simp -dsimp -implicitDefEqProofs (disch := first|with_reducible assumption|omega) [go_sem, eqSlP0]
   exact fin_tail (fin_tail (fin_tail (fin_here done)))
  ·rw [e1, e3]
   simp -dsimp -implicitDefEqProofs (disch := first|with_reducible assumption|omega) [go_sem, eqSlR]
   exact fin_tail (fin_tail (fin_tail (fin_here done)))
  ·rw [e1, e3]
   simp -dsimp -implicitDefEqProofs (disch := first|with_reducible assumption|omega) [go_sem, eqSlR]
   exact fin_tail (fin_tail (fin_tail (fin_here done)))
end Go.X
