/- Lemmas and contracts for a statement about the given program. Conditions: as each says. -/
import Derived.Test.YtkmojeioedjfkaaGreatQ36
import Derived.Test.YtkmojeioedjfkaaGreatQ44
set_option linter.unusedVariables false
set_option linter.unusedSimpArgs false
set_option maxHeartbeats 12800000
set_option maxRecDepth 20000
namespace Go.X
open Go.RowKit Go.Proofs Go.Bl
variable {L : Own} {h : PH} {K : PK}
theorem in25_any (n a b : Int) (hk : K (.bool (decide (a ≤ n) && decide (n ≤ b))) L h) : Spec Tryz.prog 137 [.int .i64 n, .int .i64 a, .int .i64 b] L h K := by
 refine x_enter Tryz.func137 rfl (rs := [_]) rfl rfl mixed (by kernel_rfl) rfl rfl ?_
 by_cases c1 : a ≤ n
 ·simp -dsimp -implicitDefEqProofs (disch := first|with_reducible assumption|omega) [go_sem]
  exact fin_here (by simpa [c1] using hk)
 ·simp -dsimp -implicitDefEqProofs (disch := first|with_reducible assumption|omega) [go_sem]
  exact fin_here (by simpa [c1] using hk)
theorem in25_p {xs : List Int} {i : Int} : (decide (0 ≤ i) && decide (i ≤ (xs.length : Int) - 1)) = inP xs i := by
 rw [inP]
 congr 1
 exact decide_eq_decide.2 (by omega)
theorem rfirst_any {s : StD} {v : SV} {d : DeedD} {bv : Value} (hs : IsSt h v s) (few : OwnFew s) (hd : IsDeed h bv d) (h62 : d.what = 2 → d.kind = 6) (hk : K (.int .i64 (if accP s d ≠ 0 then accP s d else memP s d)) L h) :
  Spec Tryz.prog 68 [stV s v, deedV d bv] L h K := by
 have hm0 : Recs memC 6 h v.m s.members := hs.m
 obtain ⟨pa, pc, ma, mc, ea, ec, xa, xc, oa, oc, da, dc, ta, tc, ka, kc, ra, rc, rfl⟩ := hs.slices
 obtain ⟨x1, y1, rfl, _⟩ := hd.i.open
 have fp := few.p
 have fm := few.m
 refine x_enterA Tryz.func68 rfl (rs := [_]) rfl rfl mixed (by kernel_rfl) rfl rfl fun ap nd => ?_
 simp -dsimp -implicitDefEqProofs (disch := first|with_reducible assumption|omega) [go_sem]
 refine xnew fun b2 n_b2 h_b2 => ?_
 try simp only [Apart] at n_b2
 simp -dsimp -implicitDefEqProofs (disch := first|with_reducible assumption|omega) [go_sem]
 refine xnew fun b3 n_b3 h_b3 => ?_
 try simp only [Apart] at n_b3
 simp -dsimp -implicitDefEqProofs (disch := first|with_reducible assumption|omega) [go_sem]
 have acc : accP s d ≠ 0 → accP s d = 170 := fun c => by
  unfold accP at c ⊢
  split at c
  ·exact absurd rfl c
  ·rename_i q
   rw [if_neg q]
   split at c
   ·exact absurd rfl c
   ·rename_i q2
    rw [if_neg q2]
 have mem : accP s d = 0 → K (.int .i64 (memP s d)) L h := fun e => by rwa [if_neg (fun c => c e)] at hk
 have bad : accP s d ≠ 0 → K (.int .i64 170) L h := fun e => by rwa [if_pos e, acc e] at hk
 have done : ∀ {z : Int} {b2 b3 : Blk}, K (.int .i64 z) L h → fin K (.int .i64 z) (b3 :: b2 :: L) h := fun q => fin_tail (fin_tail (fin_here q))
 by_cases c5 : d.kind = 5
 ·have e0 : accP s d = 0 := by rw [accP, if_pos c5]
  have e1 : memP s d = 0 := by rw [memP, if_neg (by omega)]
  have := mem e0
  rw [e1] at this
  simp -dsimp -implicitDefEqProofs (disch := first|with_reducible assumption|omega) [go_sem]
  exact done this
 cases p1 : inP s.purses d.acct with
 | false =>
  have e0 : accP s d ≠ 0 := by rw [accP, if_neg c5, p1, Bool.false_and, if_neg (by decide)]; decide
  have := bad e0
  simp -dsimp -implicitDefEqProofs (disch := first|with_reducible assumption|omega) [go_sem]
  refine in25_any _ _ _ ?_
  rw [in25_p, p1]
  simp -dsimp -implicitDefEqProofs (disch := first|with_reducible assumption|omega) [go_sem]
  exact done this
 | true =>
 simp -dsimp -implicitDefEqProofs (disch := first|with_reducible assumption|omega) [go_sem]
 refine in25_any _ _ _ ?_
 rw [in25_p, p1]
 by_cases c1 : d.kind = 1
 ·have e1 : memP s d = 0 := by rw [memP, if_neg (by omega)]
  simp -dsimp -implicitDefEqProofs (disch := first|with_reducible assumption|omega) [go_sem]
  refine in25_any _ _ _ ?_
  rw [in25_p]
  cases p2 : inP s.purses d.to with
  | false =>
   have e0 : accP s d ≠ 0 := by rw [accP, if_neg c5, p1, p2, decide_eq_true c1, Bool.true_or]; decide
   have := bad e0
   simp -dsimp -implicitDefEqProofs (disch := first|with_reducible assumption|omega) [go_sem]
   exact done this
  | true =>
   have e0 : accP s d = 0 := by rw [accP, if_neg c5, p1, p2, Bool.or_true]; rfl
   have := mem e0
   rw [e1] at this
   simp -dsimp -implicitDefEqProofs (disch := first|with_reducible assumption|omega) [go_sem]
   exact done this
 by_cases c6 : d.kind = 6
 ·have e1 : memP s d = 0 := by rw [memP, if_neg (by omega)]
  by_cases c2 : d.what = 2
  ·simp -dsimp -implicitDefEqProofs (disch := first|with_reducible assumption|omega) [go_sem]
   refine in25_any _ _ _ ?_
   rw [in25_p]
   cases p2 : inP s.purses d.to with
   | false =>
    have e0 : accP s d ≠ 0 := by rw [accP, if_neg c5, p1, p2, decide_eq_true c2, Bool.or_true]; decide
    have := bad e0
    simp -dsimp -implicitDefEqProofs (disch := first|with_reducible assumption|omega) [go_sem]
    exact done this
   | true =>
    have e0 : accP s d = 0 := by rw [accP, if_neg c5, p1, p2, Bool.or_true]; rfl
    have := mem e0
    rw [e1] at this
    simp -dsimp -implicitDefEqProofs (disch := first|with_reducible assumption|omega) [go_sem]
    exact done this
  ·have e0 : accP s d = 0 := by rw [accP, if_neg c5, p1, decide_eq_false c1, decide_eq_false c2]; rfl
   have := mem e0
   rw [e1] at this
   simp -dsimp -implicitDefEqProofs (disch := first|with_reducible assumption|omega) [go_sem]
   exact done this
 have c2 : ¬ d.what = 2 := fun q => c6 (h62 q)
 have e0 : accP s d = 0 := by rw [accP, if_neg c5, p1, decide_eq_false c1, decide_eq_false c2]; rfl
 have hm := mem e0
 by_cases c7 : d.kind = 3 ∨ d.kind = 4 ∨ d.kind = 7
 ·rw [memP, if_pos c7] at hm
  have c9 : d.kind = 3 ∨ (¬ d.kind = 3 ∧ d.kind = 4) ∨ (¬ d.kind = 3 ∧ ¬ d.kind = 4 ∧ d.kind = 7) := by omega
  rcases c9 with c9 | ⟨c8, c9⟩ | ⟨c8, c8', c9⟩
  all_goals
   simp -dsimp -implicitDefEqProofs (disch := first|with_reducible assumption|omega) [go_sem]
   refine in25_any _ _ _ ?_
   by_cases q1 : d.mem < 0 ∨ (s.members.length : Int) ≤ d.mem
   ·have e9 : (decide (0 ≤ d.mem) && decide (d.mem ≤ (s.members.length : Int) - 1)) = false := by
     cases e9 : (decide (0 ≤ d.mem) && decide (d.mem ≤ (s.members.length : Int) - 1)) with
     | false => rfl
     | true => simp only [Bool.and_eq_true, decide_eq_true_eq] at e9; omega
    rw [e9]
    rw [if_pos q1] at hm
    simp -dsimp -implicitDefEqProofs (disch := first|with_reducible assumption|omega) [go_sem]
    exact done hm
   ·have e9 : (decide (0 ≤ d.mem) && decide (d.mem ≤ (s.members.length : Int) - 1)) = true := by
     simp only [Bool.and_eq_true, decide_eq_true_eq]; omega
    rw [e9]
    rw [if_neg q1] at hm
    have hjl : d.mem.toNat < s.members.length := by omega
    simp -dsimp -implicitDefEqProofs (disch := first|with_reducible assumption|omega) [go_sem]
    refine xdraw (by kernel_rfl) rfl ?_
    simp -dsimp -implicitDefEqProofs (disch := first|with_reducible assumption|omega) [go_sem, ↓idxR zeroM (by decide) hm0, memC]
    refine (Recs.fld zeroM hm0 (j := d.mem.toNat) (o := 4) hjl (u := .int .i64 (gr zeroM s.members d.mem.toNat).owner) rfl _ _ _).mpr ?_
    by_cases q2 : (gr zeroM s.members d.mem.toNat).owner = d.acct
    ·rw [if_pos q2] at hm
     simp -dsimp -implicitDefEqProofs (disch := first|with_reducible assumption|omega) [go_sem]
     exact done hm
    ·rw [if_neg q2] at hm
     simp -dsimp -implicitDefEqProofs (disch := first|with_reducible assumption|omega) [go_sem]
     exact done hm
 ·rw [memP, if_neg c7] at hm
  have c71 : ¬ d.kind = 3 := fun e => c7 (Or.inl e)
  have c72 : ¬ d.kind = 4 := fun e => c7 (Or.inr (Or.inl e))
  have c73 : ¬ d.kind = 7 := fun e => c7 (Or.inr (Or.inr e))
  simp -dsimp -implicitDefEqProofs (disch := first|with_reducible assumption|omega) [go_sem]
  exact done hm
end Go.X
