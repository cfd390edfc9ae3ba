/- Lemmas and contracts for a statement about the given program. Conditions: as each says. -/
import Derived.Test.YtmkekhodcacfbaaGreatQ31
set_option linter.unusedVariables false
set_option linter.unusedSimpArgs false
set_option maxHeartbeats 12800000
set_option maxRecDepth 20000
namespace Go.X
open Go.RowKit Go.Proofs Go.Bl
variable {L : Own} {h : PH} {K : PK}
theorem pools24_any {s : StD} (v : SV) (hs : IsSt h v s) (few : FewS s) (hk : K (.bool (poolsB s)) L h) : Spec Tryz.prog 119 [stV s v] L h K := by
 obtain ⟨pa, pc, ma, mc, ea, ec, xa, xc, oa, oc, da, dc, ta, tc, ka, kc, ra, rc, rfl⟩ := hs.slices
 have ho : Recs depC 4 h (.slice oa s.pool.length oc) s.pool := hs.o
 have hd : Recs dueC 3 h (.slice da s.dues.length dc) s.dues := hs.d
 have fm := few.m
 have fo := few.o
 have fd := few.d
 have fp := few.p
 have bad1 : ∀ k, k < s.pool.length → dep1B s (gr zeroDep s.pool k) = false → poolsB s = false := fun k hk hq => by
  simp only [poolsB, not_all_gr zeroDep _ _ hk hq, Bool.and_false, Bool.false_and]
 have bad2 : duesB s = false → poolsB s = false := fun hq => by simp only [poolsB, hq, Bool.and_false]
 refine x_enter Tryz.func119 rfl (rs := [_]) rfl rfl mixed (by kernel_rfl) rfl rfl ?_
 simp -dsimp -implicitDefEqProofs (disch := first|with_reducible assumption|omega) [go_sem]
 refine xnew fun b1 n_b1 h_b1 => ?_
 try simp only [Apart] at n_b1
 simp -dsimp -implicitDefEqProofs (disch := first|with_reducible assumption|omega) [go_sem]
 refine xloop (0 : Nat) (fun k => k ≤ s.pool.length ∧ ∀ j, j < k → dep1B s (gr zeroDep s.pool j) = true) (fun k => [(3, .int .i64 k), (1, .pointer (some ⟨b1, 0, none⟩))]) (fun _ => ⟨b1, 54, stC s ⟨.slice pa s.purses.length pc, .slice ma s.members.length mc, .slice ea s.entry.length ec, .slice xa s.exit.length xc, .slice oa s.pool.length oc, .slice da s.dues.length dc, .slice ta s.motions.length tc, .slice ka s.marks.length kc, .slice ra s.ring.length rc⟩, 41⟩ :: L) (fun _ => h) (fun k => s.pool.length - k) ?_ ?_ ?_ ?_
 ·exact ⟨Nat.zero_le _, fun j hj => by omega⟩
 ·simp [Ent, List.lookup, xEnv]
 ·exact Drop.refl _ _
 rintro k ⟨k1, k2⟩
 by_cases c1 : k < s.pool.length
 ·have hxo := hs.oo (gr zeroDep s.pool k) (by rw [gr_lt c1]; exact List.getElem_mem c1)
  simp -dsimp -implicitDefEqProofs (disch := first|with_reducible assumption|omega) [go_sem, ↓idxR zeroDep (by decide) ho, depC]
  refine xnew fun b2 n_b2 h_b2 => ?_
  try simp only [Apart] at n_b2
  simp -dsimp -implicitDefEqProofs (disch := first|with_reducible assumption|omega) [go_sem, depC]
  refine add18_any (gr zeroDep s.pool k) hxo fun a' n' c' => ?_
  cases q1 : depB (gr zeroDep s.pool k) with
  | false =>
   rw [bad1 k c1 (by simp only [dep1B, q1, Bool.false_and])] at hk
   simp -dsimp -implicitDefEqProofs (disch := first|with_reducible assumption|omega) [go_sem]
   exact fin_tail (fin_tail (fin_here hk))
  | true =>
  simp -dsimp -implicitDefEqProofs (disch := first|with_reducible assumption|omega) [go_sem]
  refine in24_any _ _ _ ?_
  cases q2 : wi (gr zeroDep s.pool k).acct 0 ((s.purses.length : Int) - 1) with
  | false =>
   rw [bad1 k c1 (by simp only [dep1B, acctB, q2, Bool.and_false, Bool.false_and])] at hk
   simp -dsimp -implicitDefEqProofs (disch := first|with_reducible assumption|omega) [go_sem]
   exact fin_tail (fin_tail (fin_here hk))
  | true =>
  have next : dep1B s (gr zeroDep s.pool k) = true → ∀ j, j < k + 1 → dep1B s (gr zeroDep s.pool j) = true := fun hq j hj => by
   by_cases e : j = k
   ·subst e; exact hq
   ·exact k2 j (by omega)
  cases q3 : (gr zeroDep s.pool k).new with
  | true =>
   simp -dsimp -implicitDefEqProofs (disch := first|with_reducible assumption|omega) [go_sem]
   exact ⟨k + 1, ⟨by omega, next (by simp only [dep1B, acctB, q1, q2, q3, Bool.true_and, Bool.true_or])⟩, by omega, by simp [Ent, List.lookup], Drop.tail _ _ _⟩
  | false =>
   simp -dsimp -implicitDefEqProofs (disch := first|with_reducible assumption|omega) [go_sem]
   refine in24_any _ _ _ ?_
   cases q4 : wi (gr zeroDep s.pool k).mem 0 ((s.members.length : Int) - 1) with
   | false =>
    rw [bad1 k c1 (by simp only [dep1B, q3, q4, Bool.or_self, Bool.and_false])] at hk
    simp -dsimp -implicitDefEqProofs (disch := first|with_reducible assumption|omega) [go_sem]
    exact fin_tail (fin_tail (fin_here hk))
   | true =>
    simp -dsimp -implicitDefEqProofs (disch := first|with_reducible assumption|omega) [go_sem]
    exact ⟨k + 1, ⟨by omega, next (by simp only [dep1B, acctB, q1, q2, q3, q4, Bool.true_and, Bool.false_or])⟩, by omega, by simp [Ent, List.lookup], Drop.tail _ _ _⟩
 ·have hkl : k = s.pool.length := by omega
  subst hkl
  have pall : s.pool.all (dep1B s) = true := all_gr zeroDep _ _ k2
  simp -dsimp -implicitDefEqProofs (disch := first|with_reducible assumption|omega) [go_sem]
  refine xloop (0 : Nat) (fun k => k ≤ s.dues.length ∧ ∀ j, j < k → due1B s (gr zeroDue s.dues j) = true ∧ ∀ i, i < j → pairB s.dues j i = true) (fun k => [(7, .int .i64 k), (1, .pointer (some ⟨b1, 0, none⟩))]) (fun _ => ⟨b1, 54, stC s ⟨.slice pa s.purses.length pc, .slice ma s.members.length mc, .slice ea s.entry.length ec, .slice xa s.exit.length xc, .slice oa s.pool.length oc, .slice da s.dues.length dc, .slice ta s.motions.length tc, .slice ka s.marks.length kc, .slice ra s.ring.length rc⟩, 41⟩ :: L) (fun _ => h) (fun k => s.dues.length - k) ?_ ?_ ?_ ?_
  ·exact ⟨Nat.zero_le _, fun j hj => by omega⟩
  ·simp [Ent, List.lookup, xEnv]
  ·exact Drop.refl _ _
  rintro k ⟨m1, m2⟩
  by_cases c1 : k < s.dues.length
  ·have hxo := hs.dd (gr zeroDue s.dues k) (by rw [gr_lt c1]; exact List.getElem_mem c1)
   have ua := hxo.a
   simp -dsimp -implicitDefEqProofs (disch := first|with_reducible assumption|omega) [go_sem, ↓idxR zeroDue (by decide) hd, dueC]
   refine xnew fun b2 n_b2 h_b2 => ?_
   try simp only [Apart] at n_b2
   simp -dsimp -implicitDefEqProofs (disch := first|with_reducible assumption|omega) [go_sem, dueC]
   refine in24_any _ _ _ ?_
   cases q1 : wi (gr zeroDue s.dues k).acct 0 ((s.purses.length : Int) - 1) with
   | false =>
    rw [bad2 (dues_no c1 (by simp only [due1B, acctB, q1, Bool.false_and]))] at hk
    simp -dsimp -implicitDefEqProofs (disch := first|with_reducible assumption|omega) [go_sem]
    exact fin_tail (fin_tail (fin_here hk))
   | true =>
   simp -dsimp -implicitDefEqProofs (disch := first|with_reducible assumption|omega) [go_sem]
   refine in24_any _ _ _ ?_
   cases q2 : wi (gr zeroDue s.dues k).at' 0 2147483647 with
   | false =>
    rw [bad2 (dues_no c1 (by simp only [due1B, q2, Bool.and_false, Bool.false_and]))] at hk
    simp -dsimp -implicitDefEqProofs (disch := first|with_reducible assumption|omega) [go_sem]
    exact fin_tail (fin_tail (fin_here hk))
   | true =>
   by_cases q3 : (gr zeroDue s.dues k).amt = 0
   ·rw [bad2 (dues_no c1 (by simp [due1B, q3]))] at hk
    simp -dsimp -implicitDefEqProofs (disch := first|with_reducible assumption|omega) [go_sem]
    exact fin_tail (fin_tail (fin_here hk))
   by_cases q4 : 4611686018427387904 < (gr zeroDue s.dues k).amt
   ·rw [bad2 (dues_no c1 (by rw [due1B, decide_eq_false (p := _ ≤ (4611686018427387904 : Int)) (by omega), Bool.and_false]))] at hk
    simp -dsimp -implicitDefEqProofs (disch := first|with_reducible assumption|omega) [go_sem]
    exact fin_tail (fin_tail (fin_here hk))
   have d1 : due1B s (gr zeroDue s.dues k) = true := by
    simp only [due1B, acctB, q1, q2, Bool.true_and, Bool.and_eq_true, decide_eq_true_eq]
    omega
   simp -dsimp -implicitDefEqProofs (disch := first|with_reducible assumption|omega) [go_sem]
   refine xloop (0 : Nat) (fun i => i ≤ k ∧ ∀ j, j < i → pairB s.dues k j = true) (fun i => [(9, .int .i64 i), (7, .int .i64 k), (8, .pointer (some ⟨b2, 0, none⟩)), (1, .pointer (some ⟨b1, 0, none⟩))]) (fun _ => ⟨b2, 219, [.int .i64 (gr zeroDue s.dues k).acct, .int .i64 (gr zeroDue s.dues k).at', .int .u64 (gr zeroDue s.dues k).amt], 3⟩ :: ⟨b1, 54, stC s ⟨.slice pa s.purses.length pc, .slice ma s.members.length mc, .slice ea s.entry.length ec, .slice xa s.exit.length xc, .slice oa s.pool.length oc, .slice da s.dues.length dc, .slice ta s.motions.length tc, .slice ka s.marks.length kc, .slice ra s.ring.length rc⟩, 41⟩ :: L) (fun _ => h) (fun i => k - i) ?_ ?_ ?_ ?_
   ·exact ⟨Nat.zero_le _, fun j hj => by omega⟩
   ·simp [Ent, List.lookup, xEnv]
   ·exact Drop.refl _ _
   rintro i ⟨i1, i2⟩
   by_cases c2 : i < k
   ·simp -dsimp -implicitDefEqProofs (disch := first|with_reducible assumption|omega) [go_sem]
    refine xdraw (by kernel_rfl) rfl ?_
    simp -dsimp -implicitDefEqProofs (disch := first|with_reducible assumption|omega) [go_sem, ↓idxR zeroDue (by decide) hd]
    refine (Recs.fld zeroDue hd (j := i) (o := 1) (by omega) (u := .int .i64 (gr zeroDue s.dues i).at') rfl _ _ _).mpr ?_
    by_cases c3 : (gr zeroDue s.dues k).at' < (gr zeroDue s.dues i).at'
    ·have : pairB s.dues k i = false := by
      rw [pairB, decide_eq_false (by omega), Bool.false_and]
     rw [bad2 (dues_no2 c1 c2 this)] at hk
     simp -dsimp -implicitDefEqProofs (disch := first|with_reducible assumption|omega) [go_sem]
     exact fin_tail (fin_tail (fin_here hk))
    ·simp -dsimp -implicitDefEqProofs (disch := first|with_reducible assumption|omega) [go_sem, ↓idxR zeroDue (by decide) hd]
     refine (Recs.fld zeroDue hd (j := i) (o := 1) (by omega) (u := .int .i64 (gr zeroDue s.dues i).at') rfl _ _ _).mpr ?_
     have step : pairB s.dues k i = true → ∀ j, j < i + 1 → pairB s.dues k j = true := fun hq j hj => by
      by_cases e : j = i
      ·subst e; exact hq
      ·exact i2 j (by omega)
     by_cases c4 : (gr zeroDue s.dues i).at' = (gr zeroDue s.dues k).at'
     ·simp -dsimp -implicitDefEqProofs (disch := first|with_reducible assumption|omega) [go_sem, ↓idxR zeroDue (by decide) hd]
      refine (Recs.fld zeroDue hd (j := i) (o := 0) (by omega) (u := .int .i64 (gr zeroDue s.dues i).acct) rfl _ _ _).mpr ?_
      by_cases c5 : (gr zeroDue s.dues i).acct = (gr zeroDue s.dues k).acct
      ·have : pairB s.dues k i = false := by
        rw [pairB, decide_eq_true c4, decide_eq_true c5, Bool.and_self, Bool.not_true, Bool.and_false]
       rw [bad2 (dues_no2 c1 c2 this)] at hk
       simp -dsimp -implicitDefEqProofs (disch := first|with_reducible assumption|omega) [go_sem]
       exact fin_tail (fin_tail (fin_here hk))
      ·simp -dsimp -implicitDefEqProofs (disch := first|with_reducible assumption|omega) [go_sem]
       refine ⟨i + 1, ⟨by omega, step ?_⟩, by omega, by simp [Ent, List.lookup], Drop.refl _ _⟩
       rw [pairB, decide_eq_true (by omega), decide_eq_false c5, Bool.and_false, Bool.not_false, Bool.and_self]
     ·simp -dsimp -implicitDefEqProofs (disch := first|with_reducible assumption|omega) [go_sem]
      refine ⟨i + 1, ⟨by omega, step ?_⟩, by omega, by simp [Ent, List.lookup], Drop.refl _ _⟩
      rw [pairB, decide_eq_true (by omega), decide_eq_false c4, Bool.false_and, Bool.not_false, Bool.and_self]
   ·simp -dsimp -implicitDefEqProofs (disch := first|with_reducible assumption|omega) [go_sem]
    refine ⟨k + 1, ⟨by omega, fun j hj => ?_⟩, by omega, by simp [Ent, List.lookup], Drop.tail _ _ _⟩
    by_cases e : j = k
    ·subst e; exact ⟨d1, fun x hx => i2 x (by omega)⟩
    ·exact m2 j (by omega)
  ·have hkl : k = s.dues.length := by omega
   subst hkl
   have hq : duesB s = true := dues_pairs.2 m2
   rw [poolsB, pall, hq, Bool.and_true, Bool.and_true] at hk
   simp -dsimp -implicitDefEqProofs (disch := first|with_reducible assumption|omega) [go_sem]
   have e : decide ((s.pool.length : Int) ≤ 256) = decide (s.pool.length ≤ 256) := by apply decide_eq_decide.2; omega
   exact fin_tail (fin_here (by first | exact hk | (rw [e]; exact hk)))
theorem fits24_any {s : StD} (v : SV) (hs0 : IsSt h v s) (few : FewS s) (fw : FewT s) (hk : ∀ h', PH.le h h' → K (.bool (fitsS s)) L h') : Spec Tryz.prog 27 [stV s v] L h K := by
 obtain ⟨pa, pc, ma, mc, ea, ec, xa, xc, oa, oc, da, dc, ta, tc, ka, kc, ra, rc, rfl⟩ := hs0.slices
 have fm := few.m
 have fo := few.o
 have fd := few.d
 have fp := few.p
 have ft := few.t
 have fr := few.r
 refine x_enter Tryz.func27 rfl (rs := [_]) rfl rfl mixed (by kernel_rfl) rfl rfl ?_
 simp -dsimp -implicitDefEqProofs (disch := first|with_reducible assumption|omega) [go_sem]
 refine xnew fun b1 n_b1 h_b1 => ?_
 try simp only [Apart] at n_b1
 simp -dsimp -implicitDefEqProofs (disch := first|with_reducible assumption|omega) [go_sem]
 refine Spec.ap (right7_any s.par hs0.ok.p fun h1 le1 ap => ?_)
 simp only [Ap] at ap
 obtain ⟨a1, _⟩ := ap
 cases q1 : parR s.par with
 | false =>
  have := hk h1 le1
  simp only [fitsS, q1, Bool.false_and] at this
  simp -dsimp -implicitDefEqProofs (disch := first|with_reducible assumption|omega) [go_sem]
  exact fin_tail (fin_here this)
 | true =>
 simp -dsimp -implicitDefEqProofs (disch := first|with_reducible assumption|omega) [go_sem]
 refine Spec.ap (money_any (s := s) ⟨.slice pa s.purses.length pc, .slice ma s.members.length mc, .slice ea s.entry.length ec, .slice xa s.exit.length xc, .slice oa s.pool.length oc, .slice da s.dues.length dc, .slice ta s.motions.length tc, .slice ka s.marks.length kc, .slice ra s.ring.length rc⟩ (hs0.up le1) few fun h2 r1 r2 r3 r4 le2 mon ap => ?_)
 simp only [Ap] at ap
 obtain ⟨a2, _⟩ := ap
 simp -dsimp -implicitDefEqProofs (disch := first|with_reducible assumption|omega) [go_sem]
 refine Spec.ap (holds21_any (s := s) r1 r2 r3 r4 mon fw fun h3 le3 ap => ?_)
 simp only [Ap] at ap
 obtain ⟨a3, _⟩ := ap
 have le03 := le1.trans (le2.trans le3)
 have hs := hs0.up le03
 have no : ∀ b : Bool, (b = false → fitsS s = false) → b = false → K (.bool false) L h3 := fun b hb e => by have := hk h3 le03; rwa [hb e] at this
 cases q2 : holdsB s with
 | false =>
  have := no _ (fun e => by simp only [fitsS, e, Bool.and_false]) q2
  simp -dsimp -implicitDefEqProofs (disch := first|with_reducible assumption|omega) [go_sem]
  exact fin_tail (fin_here this)
 | true =>
 simp -dsimp -implicitDefEqProofs (disch := first|with_reducible assumption|omega) [go_sem]
 refine in24_any _ _ _ ?_
 cases q3 : wi s.ep 0 1073741824 with
 | false =>
  have := no _ (fun e => by simp only [fitsS, e, Bool.and_false, Bool.false_and]) q3
  simp -dsimp -implicitDefEqProofs (disch := first|with_reducible assumption|omega) [go_sem]
  exact fin_tail (fin_here this)
 | true =>
 simp -dsimp -implicitDefEqProofs (disch := first|with_reducible assumption|omega) [go_sem]
 refine in24_any _ _ _ ?_
 cases q4 : wi s.calm 0 1073741824 with
 | false =>
  have := no _ (fun e => by simp only [fitsS, e, Bool.and_false, Bool.false_and]) q4
  simp -dsimp -implicitDefEqProofs (disch := first|with_reducible assumption|omega) [go_sem]
  exact fin_tail (fin_here this)
 | true =>
 simp -dsimp -implicitDefEqProofs (disch := first|with_reducible assumption|omega) [go_sem]
 refine in24_any _ _ _ ?_
 cases q5 : wi s.purses.length 1 64 with
 | false =>
  have := no _ (fun e => by simp only [fitsS, pursesB, e, Bool.and_false, Bool.false_and]) q5
  simp -dsimp -implicitDefEqProofs (disch := first|with_reducible assumption|omega) [go_sem]
  exact fin_tail (fin_here this)
 | true =>
 by_cases q6 : 128 < s.members.length
 ·have := no (decide (s.members.length ≤ 128)) (fun e => by simp only [fitsS, membersB, e, Bool.and_false, Bool.false_and]) (decide_eq_false (by omega))
  simp -dsimp -implicitDefEqProofs (disch := first|with_reducible assumption|omega) [go_sem]
  exact fin_tail (fin_here this)
 by_cases q7 : 32 < s.motions.length
 ·have := no (decide (s.motions.length ≤ 32)) (fun e => by simp only [fitsS, motionsB, e, Bool.and_false, Bool.false_and]) (decide_eq_false (by omega))
  simp -dsimp -implicitDefEqProofs (disch := first|with_reducible assumption|omega) [go_sem]
  exact fin_tail (fin_here this)
 by_cases q8 : 8 < s.ring.length
 ·have := no (decide (s.ring.length ≤ 8)) (fun e => by simp only [fitsS, marksB, rollB, e, Bool.and_false, Bool.false_and]) (decide_eq_false (by omega))
  simp -dsimp -implicitDefEqProofs (disch := first|with_reducible assumption|omega) [go_sem]
  exact fin_tail (fin_here this)
 have hpr : Ints h3 .u64 (.slice pa s.purses.length pc) s.purses := hs.p
 have hpw := hpr.word
 obtain ⟨_, _, hpe, _, _, _, hcp⟩ := hpr.open
 injection hpe with hpe1 _ hpe3
 subst hpe1
 subst hpe3
 have hm : Recs memC 6 h3 (.slice ma s.members.length mc) s.members := hs.m
 simp -dsimp -implicitDefEqProofs (disch := first|with_reducible assumption|omega) [go_sem]
 refine xloop (0 : Nat) (fun k => k ≤ s.purses.length ∧ ∀ j, j < k → (fun z : Int => decide (z ≤ 4611686018427387904)) (at0 s.purses j) = true) (fun k => [(3, .int .i64 k), (1, .pointer (some ⟨b1, 0, none⟩))]) (fun _ => ⟨b1, 54, stC s ⟨.slice pa s.purses.length pc, .slice ma s.members.length mc, .slice ea s.entry.length ec, .slice xa s.exit.length xc, .slice oa s.pool.length oc, .slice da s.dues.length dc, .slice ta s.motions.length tc, .slice ka s.marks.length kc, .slice ra s.ring.length rc⟩, 41⟩ :: L) (fun _ => h3) (fun k => s.purses.length - k) ?_ ?_ ?_ ?_
 ·exact ⟨Nat.zero_le _, fun j hj => by omega⟩
 ·simp [Ent, List.lookup, xEnv]
 ·exact Drop.refl _ _
 rintro k ⟨k1, k2⟩
 by_cases c1 : k < s.purses.length
 ·by_cases c2 : 4611686018427387904 < at0 s.purses k
  ·have := no (s.purses.all fun z => decide (z ≤ 4611686018427387904)) (fun e => by simp only [fitsS, pursesB, e, Bool.and_false, Bool.false_and]) (not_all_at _ _ c1 (decide_eq_false (by omega)))
   simp -dsimp -implicitDefEqProofs (disch := first|with_reducible assumption|omega) [go_sem, idx hcp]
   exact fin_tail (fin_here this)
  ·simp -dsimp -implicitDefEqProofs (disch := first|with_reducible assumption|omega) [go_sem, idx hcp]
   refine ⟨k + 1, ⟨by omega, fun j hj => ?_⟩, by omega, by simp [Ent, List.lookup], Drop.refl _ _⟩
   by_cases e : j = k
   ·subst e; first | omega | exact decide_eq_true (by omega)
   ·first | exact k2 j (by omega) | simpa using k2 j (by omega)
 have hkl : k = s.purses.length := by omega
 subst hkl
 have pall := all_at (fun z : Int => decide (z ≤ 4611686018427387904)) s.purses k2
 simp -dsimp -implicitDefEqProofs (disch := first|with_reducible assumption|omega) [go_sem]
 clear k2 c1 k1
 refine xloop (0 : Nat) (fun k => k ≤ s.members.length ∧ ∀ j, j < k → (fun m : MemD => mfitsB s.par m && acctB s m.owner) (gr zeroM s.members j) = true) (fun k => [(4, .int .i64 k), (1, .pointer (some ⟨b1, 0, none⟩))]) (fun _ => ⟨b1, 54, stC s ⟨.slice pa s.purses.length pc, .slice ma s.members.length mc, .slice ea s.entry.length ec, .slice xa s.exit.length xc, .slice oa s.pool.length oc, .slice da s.dues.length dc, .slice ta s.motions.length tc, .slice ka s.marks.length kc, .slice ra s.ring.length rc⟩, 41⟩ :: L) (fun _ => h3) (fun k => s.members.length - k) ?_ ?_ ?_ ?_
 ·exact ⟨Nat.zero_le _, fun j hj => by omega⟩
 ·simp [Ent, List.lookup, xEnv]
 ·exact Drop.refl _ _
 rintro k ⟨k1, k2⟩
 by_cases c1 : k < s.members.length
 ·have hxo := hs.mo (gr zeroM s.members k) (by rw [gr_lt c1]; exact List.getElem_mem c1)
  have badm : (fun m : MemD => mfitsB s.par m && acctB s m.owner) (gr zeroM s.members k) = false → K (.bool false) L h3 := fun e => no (s.members.all fun m => mfitsB s.par m && acctB s m.owner) (fun e => by simp only [fitsS, membersB, e, Bool.and_false, Bool.false_and]) (not_all_gr zeroM _ _ c1 e)
  simp -dsimp -implicitDefEqProofs (disch := first|with_reducible assumption|omega) [go_sem]
  refine xdraw (by kernel_rfl) rfl ?_
  simp -dsimp -implicitDefEqProofs (disch := first|with_reducible assumption|omega) [go_sem, ↓idxR zeroM (by decide) hm, memC]
  refine xdcall _ (shape19_any s.par hs.ok.p q1 (gr zeroM s.members k) hxo ⟨rfl, rfl, rfl⟩) ?_
  cases q9 : mfitsB s.par (gr zeroM s.members k) with
  | false =>
   have := badm (by simp only [q9, Bool.false_and])
   simp -dsimp -implicitDefEqProofs (disch := first|with_reducible assumption|omega) [go_sem]
   exact fin_tail (fin_here this)
  | true =>
  have q9' := q9
  simp only [mfitsB, Bool.and_eq_true, decide_eq_true_eq] at q9'
  simp -dsimp -implicitDefEqProofs (disch := first|with_reducible assumption|omega) [go_sem, ↓idxR zeroM (by decide) hm]
  refine (Recs.fld zeroM hm (j := k) (o := 4) c1 (u := .int .i64 (gr zeroM s.members k).owner) rfl _ _ _).mpr ?_
  by_cases c2 : (s.purses.length : Int) ≤ (gr zeroM s.members k).owner
  ·have := badm (by simp only [acctB, wi, decide_eq_false (p := (gr zeroM s.members k).owner ≤ (s.purses.length : Int) - 1) (by omega), Bool.and_false])
   simp -dsimp -implicitDefEqProofs (disch := first|with_reducible assumption|omega) [go_sem]
   exact fin_tail (fin_here this)
  ·simp -dsimp -implicitDefEqProofs (disch := first|with_reducible assumption|omega) [go_sem]
   refine ⟨k + 1, ⟨by omega, fun j hj => ?_⟩, by omega, by simp [Ent, List.lookup], Drop.refl _ _⟩
   by_cases e : j = k
   ·subst e
    have : acctB s (gr zeroM s.members j).owner = true := by rw [acctB, wi_iff]; omega
    first | (simp only [q9, this]; rfl) | exact ⟨q9, this⟩ | simp [q9, this]
   ·first | exact k2 j (by omega) | simpa using k2 j (by omega)
 have hkl : k = s.members.length := by omega
 subst hkl
 have mall := all_gr zeroM (fun m : MemD => mfitsB s.par m && acctB s m.owner) s.members k2
 clear k2 c1 k1
 obtain ⟨q, hd, t2, t3⟩ := hs.t
 have hql : q.length = s.motions.length := by rw [← t2, List.length_map]
 have hgr : ∀ k, k < q.length → gr zeroMot s.motions k = (gr zeroQM q k).2.2 := fun k hk => by
  rw [gr_lt hk, gr_lt (by omega)]
  simp only [← t2, List.getElem_map]
 simp only at hd
 simp -dsimp -implicitDefEqProofs (disch := first|with_reducible assumption|omega) [go_sem]
 refine xloop (γ := Nat × PH) (0, h3) (fun g => g.1 ≤ s.motions.length ∧ PH.le h3 g.2 ∧ g.2 b1 = noC ∧ ∀ j, j < g.1 → (fun m : MotD => motFits m && acctB s m.acct && acctB s m.to) (gr zeroMot s.motions j) = true) (fun g => [(5, .int .i64 g.1), (1, .pointer (some ⟨b1, 0, none⟩))]) (fun _ => ⟨b1, 54, stC s ⟨.slice pa s.purses.length pc, .slice ma s.members.length mc, .slice ea s.entry.length ec, .slice xa s.exit.length xc, .slice oa s.pool.length oc, .slice da s.dues.length dc, .slice ta s.motions.length tc, .slice ka s.marks.length kc, .slice ra s.ring.length rc⟩, 41⟩ :: L) (fun g => g.2) (fun g => s.motions.length - g.1) ?_ ?_ ?_ ?_
 ·exact ⟨Nat.zero_le _, PH.le_refl _, a3, fun j hj => by simp only at hj; omega⟩
 ·simp [Ent, List.lookup, xEnv]
 ·exact Drop.refl _ _
 rintro ⟨k, h4⟩ ⟨k1, le4, a4, k2⟩
 simp only at k1 le4 a4 k2 ⊢
 by_cases c1 : k < s.motions.length
 ·have hx0 : IsMot h3 (gr zeroQM q k) := by rw [gr_lt (by omega)]; exact t3 _ (List.getElem_mem (by omega))
  have hx := hx0.up le4
  have hd4 := hd.up le4
  have hg := hgr k (by omega)
  obtain ⟨x1, y1, hv1, _⟩ := hx.y.open
  obtain ⟨x2, y2, hv2, _⟩ := hx.n.open
  have m1 := hx.y
  have m2 := hx.n
  rw [hv1] at m1
  rw [hv2] at m2
  have badm : ∀ h5, PH.le h3 h5 → (fun m : MotD => motFits m && acctB s m.acct && acctB s m.to) (gr zeroMot s.motions k) = false → K (.bool false) L h5 := fun h5 le5 e => by
   have := hk h5 (le03.trans le5)
   have e2 : fitsS s = false := by simp only [fitsS, motionsB, not_all_gr zeroMot (fun m : MotD => motFits m && acctB s m.acct && acctB s m.to) s.motions c1 e, Bool.and_false, Bool.false_and]
   rwa [e2] at this
  simp -dsimp -implicitDefEqProofs (disch := first|with_reducible assumption|omega) [go_sem, ↓idxR zeroQM (by decide) hd4, motC]
  refine xnew fun b2 n_b2 h_b2 => ?_
  try simp only [Apart] at n_b2
  simp -dsimp -implicitDefEqProofs (disch := first|with_reducible assumption|omega) [go_sem, motC, hv1, hv2]
  refine Spec.ap (fits23_any (gr zeroQM q k).2.2 _ _ m1 m2 hx.ok fun h5 le5 ap => ?_)
  simp only [Ap] at ap
  obtain ⟨p2, p1, _⟩ := ap
  cases hq : motFits (gr zeroQM q k).2.2 with
  | false =>
   have := badm h5 (le4.trans le5) (by simp only [hg, hq, Bool.false_and])
   simp -dsimp -implicitDefEqProofs (disch := first|with_reducible assumption|omega) [go_sem]
   exact fin_tail (fin_tail (fin_here this))
  | true =>
  have hq' := hq
  simp only [motFits, motHead, Bool.and_eq_true, wi_iff] at hq'
  by_cases c2 : (s.purses.length : Int) ≤ (gr zeroQM q k).2.2.acct
  ·have := badm h5 (le4.trans le5) (by simp only [hg, acctB, wi, decide_eq_false (p := (gr zeroQM q k).2.2.acct ≤ (s.purses.length : Int) - 1) (by omega), Bool.and_false, Bool.false_and])
   simp -dsimp -implicitDefEqProofs (disch := first|with_reducible assumption|omega) [go_sem]
   exact fin_tail (fin_tail (fin_here this))
  by_cases c3 : (s.purses.length : Int) ≤ (gr zeroQM q k).2.2.to
  ·have := badm h5 (le4.trans le5) (by simp only [hg, acctB, wi, decide_eq_false (p := (gr zeroQM q k).2.2.to ≤ (s.purses.length : Int) - 1) (by omega), Bool.and_false])
   simp -dsimp -implicitDefEqProofs (disch := first|with_reducible assumption|omega) [go_sem]
   exact fin_tail (fin_tail (fin_here this))
  simp -dsimp -implicitDefEqProofs (disch := first|with_reducible assumption|omega) [go_sem]
  refine ⟨k + 1, h5, ⟨by omega, le4.trans le5, p1, fun j hj => ?_⟩, by omega, by simp [Ent, List.lookup], Drop.tail _ _ _⟩
  by_cases e : j = k
  ·subst e
   have e1 : acctB s (gr zeroQM q j).2.2.acct = true := by rw [acctB, wi_iff]; omega
   have e2 : acctB s (gr zeroQM q j).2.2.to = true := by rw [acctB, wi_iff]; omega
   simp [hg, hq, e1, e2]
  ·first | exact k2 j (by omega) | simpa using k2 j (by omega)
 have hkl : k = s.motions.length := by omega
 subst hkl
 have tall := all_gr zeroMot (fun m : MotD => motFits m && acctB s m.acct && acctB s m.to) s.motions k2
 clear k2 c1 k1
 have le04 := le03.trans le4
 have hs4 := hs.up le4
 obtain ⟨qr, hdr, tr⟩ := hs4.r
 have hqr : qr.length = s.ring.length := by rw [← tr, xsL_len]
 simp only at hdr
 have hdr0 := hdr
 obtain ⟨_, _, hre, _, _, _, hcr, hdd⟩ := hdr.open
 injection hre with hre1 hre2 hre3
 subst hre1
 subst hre3
 have hcr' : ∀ j, j < s.ring.length → elemCell h4 ra j = some ((fun j => (gs qr j).1) j) := fun j hj => hcr j (by omega)
 have no4 : ∀ b : Bool, (b = false → fitsS s = false) → b = false → K (.bool false) L h4 := fun b hb e => by have := hk h4 le04; rwa [hb e] at this
 have hgs : ∀ j, j < qr.length → gr [] s.ring j = (gs qr j).2 := fun j hj => by
  rw [← tr, gr_lt (by rw [xsL_len]; exact hj), gs_lt hj]; simp [xsL]
 simp -dsimp -implicitDefEqProofs (disch := first|with_reducible assumption|omega) [go_sem]
 refine xloop (0 : Nat) (fun k => k ≤ s.ring.length ∧ ∀ j, j < k → chkB (gr [] s.ring j) 128 = true) (fun k => [(7, .int .i64 k), (1, .pointer (some ⟨b1, 0, none⟩))]) (fun _ => ⟨b1, 54, stC s ⟨.slice pa s.purses.length pc, .slice ma s.members.length mc, .slice ea s.entry.length ec, .slice xa s.exit.length xc, .slice oa s.pool.length oc, .slice da s.dues.length dc, .slice ta s.motions.length tc, .slice ka s.marks.length kc, .slice ra s.ring.length rc⟩, 41⟩ :: L) (fun _ => h4) (fun k => s.ring.length - k) ?_ ?_ ?_ ?_
 ·exact ⟨Nat.zero_le _, fun j hj => by omega⟩
 ·simp [Ent, List.lookup, xEnv]
 ·exact Drop.refl _ _
 rintro k ⟨k1, k2⟩
 by_cases c1 : k < s.ring.length
 ·have hi := hdd.at (i := k) (by omega)
  have hi' := hi
  obtain ⟨x1, y1, hv1, _⟩ := hi.open
  rw [hv1] at hi'
  simp -dsimp -implicitDefEqProofs (disch := first|with_reducible assumption|omega) [go_sem, idx hcr', hv1]
  refine right20_any _ hi' ?_
  cases hc2 : chkB (gs qr k).2 128 with
  | false =>
   have := no4 (s.ring.all fun b => chkB b 128) (fun e => by simp only [fitsS, marksB, rollB, e, Bool.and_false, Bool.false_and]) (not_all_gr [] _ _ c1 (by rw [hgs k (by omega), hc2]))
   simp -dsimp -implicitDefEqProofs (disch := first|with_reducible assumption|omega) [go_sem]
   exact fin_tail (fin_here this)
  | true =>
   simp -dsimp -implicitDefEqProofs (disch := first|with_reducible assumption|omega) [go_sem]
   refine ⟨k + 1, ⟨by omega, fun j hj => ?_⟩, by omega, by simp [Ent, List.lookup], Drop.refl _ _⟩
   by_cases e : j = k
   ·subst e; rw [hgs j (by omega)]; exact hc2
   ·exact k2 j (by omega)
 have hkl : k = s.ring.length := by omega
 subst hkl
 have rall : s.ring.all (fun b => chkB b 128) = true := all_gr [] _ _ k2
 clear k2 c1 k1
 have hkk : Ints h4 .u8 (.slice ka s.marks.length kc) s.marks := hs4.k
 simp -dsimp -implicitDefEqProofs (disch := first|with_reducible assumption|omega) [go_sem]
 refine right20_any _ hkk ?_
 cases q9 : chkB s.marks 128 with
 | false =>
  have := no4 _ (fun e => by simp only [fitsS, marksB, rollB, e, Bool.and_false, Bool.false_and]) q9
  simp -dsimp -implicitDefEqProofs (disch := first|with_reducible assumption|omega) [go_sem]
  exact fin_tail (fin_here this)
 | true =>
 simp -dsimp -implicitDefEqProofs (disch := first|with_reducible assumption|omega) [go_sem]
 refine row24_any (s := s) ⟨.slice pa s.purses.length pc, .slice ma s.members.length mc, .slice ea s.entry.length ec, .slice xa s.exit.length xc, .slice oa s.pool.length oc, .slice da s.dues.length dc, .slice ta s.motions.length tc, .slice ka s.marks.length kc, .slice ra s.ring.length rc⟩ hs4 few _ hs4.e 1 (by decide) ?_
 cases q10 : rowB s s.entry 1 with
 | false =>
  have := no4 _ (fun e => by simp only [fitsS, membersB, e, Bool.and_false, Bool.false_and]) q10
  simp -dsimp -implicitDefEqProofs (disch := first|with_reducible assumption|omega) [go_sem]
  exact fin_tail (fin_here this)
 | true =>
 simp -dsimp -implicitDefEqProofs (disch := first|with_reducible assumption|omega) [go_sem]
 refine row24_any (s := s) ⟨.slice pa s.purses.length pc, .slice ma s.members.length mc, .slice ea s.entry.length ec, .slice xa s.exit.length xc, .slice oa s.pool.length oc, .slice da s.dues.length dc, .slice ta s.motions.length tc, .slice ka s.marks.length kc, .slice ra s.ring.length rc⟩ hs4 few _ hs4.x 3 (by decide) ?_
 cases q11 : rowB s s.exit 3 with
 | false =>
  have := no4 _ (fun e => by simp only [fitsS, membersB, e, Bool.and_false, Bool.false_and]) q11
  simp -dsimp -implicitDefEqProofs (disch := first|with_reducible assumption|omega) [go_sem]
  exact fin_tail (fin_here this)
 | true =>
 simp -dsimp -implicitDefEqProofs (disch := first|with_reducible assumption|omega) [go_sem]
 refine pools24_any (s := s) ⟨.slice pa s.purses.length pc, .slice ma s.members.length mc, .slice ea s.entry.length ec, .slice xa s.exit.length xc, .slice oa s.pool.length oc, .slice da s.dues.length dc, .slice ta s.motions.length tc, .slice ka s.marks.length kc, .slice ra s.ring.length rc⟩ hs4 few ?_
 cases q12 : poolsB s with
 | false =>
  have := no4 _ (fun e => by simp only [fitsS, e, Bool.and_false, Bool.false_and]) q12
  simp -dsimp -implicitDefEqProofs (disch := first|with_reducible assumption|omega) [go_sem]
  exact fin_tail (fin_here this)
 | true =>
 simp -dsimp -implicitDefEqProofs (disch := first|with_reducible assumption|omega) [go_sem]
 refine xloop s.members.length (fun k => s.members.length ≤ k ∧ k ≤ 100000 ∧ ∀ j, s.members.length ≤ j → j < k → getB s.marks (j : Int) = false) (fun k => [(8, .int .i64 k), (1, .pointer (some ⟨b1, 0, none⟩))]) (fun _ => ⟨b1, 54, stC s ⟨.slice pa s.purses.length pc, .slice ma s.members.length mc, .slice ea s.entry.length ec, .slice xa s.exit.length xc, .slice oa s.pool.length oc, .slice da s.dues.length dc, .slice ta s.motions.length tc, .slice ka s.marks.length kc, .slice ra s.ring.length rc⟩, 41⟩ :: L) (fun _ => h4) (fun k => 100000 - k) ?_ ?_ ?_ ?_
 ·exact ⟨Nat.le_refl _, fm, fun j hj => by omega⟩
 ·simp [Ent, List.lookup, xEnv]
 ·exact Drop.refl _ _
 rintro k ⟨k0, k1, k2⟩
 by_cases c1 : k < 128
 ·simp -dsimp -implicitDefEqProofs (disch := first|with_reducible assumption|omega) [go_sem]
  refine rget_any _ k hkk (by omega) ?_
  cases h2' : getB s.marks (k : Int) with
  | true =>
   have := no4 ((List.range 128).all fun i => decide (i < s.members.length) || !getB s.marks i) (fun e => by simp only [fitsS, marksB, e, Bool.and_false, Bool.false_and]) (by
    rw [List.all_eq_false]
    exact ⟨k, List.mem_range.2 c1, by simp [h2']; omega⟩)
   simp -dsimp -implicitDefEqProofs (disch := first|with_reducible assumption|omega) [go_sem]
   exact fin_tail (fin_here this)
  | false =>
   simp -dsimp -implicitDefEqProofs (disch := first|with_reducible assumption|omega) [go_sem]
   refine ⟨k + 1, ⟨by omega, by omega, fun j hj hj2 => ?_⟩, by omega, by simp [Ent, List.lookup], Drop.refl _ _⟩
   by_cases e : j = k
   ·subst e; exact h2'
   ·exact k2 j hj (by omega)
 ·have last : ((List.range 128).all fun i => decide (i < s.members.length) || !getB s.marks i) = true := by
   rw [List.all_eq_true]
   intro i hi
   have := List.mem_range.1 hi
   by_cases e : i < s.members.length
   ·simp [e]
   ·simp [k2 i (by omega) (by omega)]
  have yes : fitsS s = true := by
   have e1 : decide (s.members.length ≤ 128) = true := decide_eq_true (by omega)
   have e2 : decide (s.motions.length ≤ 32) = true := decide_eq_true (by omega)
   have e3 : decide (s.ring.length ≤ 8) = true := decide_eq_true (by omega)
   simp only [fitsS, pursesB, membersB, motionsB, marksB, rollB, q1, q2, q3, q4, q5, q9, q10, q11, q12, e1, e2, e3, pall, mall, tall, rall, last, Bool.and_self]
  have := hk h4 le04
  rw [yes] at this
  simp -dsimp -implicitDefEqProofs (disch := first|with_reducible assumption|omega) [go_sem]
  exact fin_tail (fin_here this)
end Go.X
