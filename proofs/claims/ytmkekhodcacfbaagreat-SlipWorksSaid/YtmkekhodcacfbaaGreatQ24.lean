/- Lemmas and contracts for a statement about the given program. Conditions: as each says. -/
import Derived.Test.YtmkekhodcacfbaaGreatQ23
set_option linter.unusedVariables false
set_option linter.unusedSimpArgs false
set_option maxHeartbeats 12800000
set_option maxRecDepth 20000
namespace Go.X
open Go.RowKit Go.Proofs Go.Bl
variable {L : Own} {h : PH} {K : PK}
theorem below_any (a b c : Int) (ha : 0 ≤ a ∧ a ≤ 18446744073709551615) (hb : 0 ≤ b) (hc : 0 ≤ c ∧ c ≤ 18446744073709551615) (hk : K (.bool (decide (a + b < c))) L h) : Spec Tryz.prog 278 [.int .u64 a, .int .u64 b, .int .u64 c] L h K := by
 refine x_enter Tryz.func278 rfl (rs := [_]) rfl rfl mixed (by kernel_rfl) rfl rfl ?_
 simp -dsimp -implicitDefEqProofs (disch := first|with_reducible assumption|omega) [go_sem]
 by_cases c1 : a < c
 ·have e : decide (a + b < c) = decide (b < c - a) := by apply decide_eq_decide.2; omega
  rw [e] at hk
  simp -dsimp -implicitDefEqProofs (disch := first|with_reducible assumption|omega) [go_sem]
  exact fin_here hk
 ·rw [decide_eq_false (show ¬ a + b < c by omega)] at hk
  simp -dsimp -implicitDefEqProofs (disch := first|with_reducible assumption|omega) [go_sem]
  exact fin_here hk
theorem whole10_any (p : ParD) (b : Int) (h1 : 1 ≤ p.inc) (hb : 0 ≤ b ∧ b ≤ 18446744073709551615) (hk : K (.int .u64 (wholeP p b)) L h) : Spec Tryz.prog 74 [parV p, .int .u64 b] L h K := by
 have e1 := Int.emod_nonneg b (show p.inc ≠ 0 by omega)
 have e3 : b / p.inc * p.inc = b - b % p.inc := by rw [Int.emod_def, Int.mul_comm]; omega
 have e2 : 0 ≤ b / p.inc * p.inc := Int.mul_nonneg (Int.ediv_nonneg hb.1 (by omega)) (by omega)
 have e4 := Int.ediv_nonneg hb.1 (show 0 ≤ p.inc by omega)
 have e5 : b / p.inc ≤ 18446744073709551615 := Int.le_trans (Int.ediv_le_self _ hb.1) hb.2
 have e6 : b / p.inc * p.inc ≤ 18446744073709551615 := by rw [e3]; omega
 unfold wholeP at hk
 rw [← e3] at hk
 refine x_enter Tryz.func74 rfl (rs := [_]) rfl rfl mixed (by kernel_rfl) rfl rfl ?_
 simp -dsimp -implicitDefEqProofs (disch := first|with_reducible assumption|omega) [go_sem]
 refine xnew fun b1 n_b1 h_b1 => ?_
 try simp only [Apart] at n_b1
 simp -dsimp -implicitDefEqProofs (disch := first|with_reducible assumption|omega) [go_sem]
 refine xanyl (.tk 0 (.tk 1 (.tk 4 (.tkl 2 (.tk 3 (.tkl 5 (.tk 6 (.tk 7 (.fin))))))))) (by kernel_rfl) (by kernel_rfl) _ (Drop.refl _ _) ?_
 simp -dsimp -implicitDefEqProofs (disch := first|with_reducible assumption|omega) [go_sem]
 by_cases c : p.maxEff < b / p.inc * p.inc
 ·rw [Int.min_eq_right (by omega)] at hk
  simp -dsimp -implicitDefEqProofs (disch := first|with_reducible assumption|omega) [go_sem]
  exact fin_tail (fin_here hk)
 ·rw [Int.min_eq_left (by omega)] at hk
  simp -dsimp -implicitDefEqProofs (disch := first|with_reducible assumption|omega) [go_sem]
  exact fin_tail (fin_here hk)
theorem next10_any (p : ParD) (ok : ParOk p) (h1 : 1 ≤ p.inc) (e b : Int) (he : 0 ≤ e ∧ e ≤ 18446744073709551615) (hb : 0 ≤ b ∧ b ≤ 18446744073709551615) (hk : K (.int .u64 (nextP p e b)) L h) : Spec Tryz.prog 203 [parV p, .int .u64 e, .int .u64 b] L h K := by
 have u1 := ok.w p.down (by simp [wides])
 have u2 := ok.w p.up (by simp [wides])
 unfold nextP farP at hk
 refine x_enter Tryz.func203 rfl (rs := [_]) rfl rfl mixed (by kernel_rfl) rfl rfl ?_
 simp -dsimp -implicitDefEqProofs (disch := first|with_reducible assumption|omega) [go_sem]
 refine xnew fun b1 n_b1 h_b1 => ?_
 try simp only [Apart] at n_b1
 simp -dsimp -implicitDefEqProofs (disch := first|with_reducible assumption|omega) [go_sem]
 refine below_any _ _ _ hb u1.1 he ?_
 cases c1 : decide (b + p.down < e) with
 | true =>
  rw [c1] at hk
  simp -dsimp -implicitDefEqProofs (disch := first|with_reducible assumption|omega) [go_sem]
  refine whole10_any p b h1 hb ?_
  simp -dsimp -implicitDefEqProofs (disch := first|with_reducible assumption|omega) [go_sem]
  exact fin_tail (fin_here (by simpa using hk))
 | false =>
  rw [c1] at hk
  simp -dsimp -implicitDefEqProofs (disch := first|with_reducible assumption|omega) [go_sem]
  refine below_any _ _ _ he u2.1 hb ?_
  cases c2 : decide (e + p.up < b) with
  | true =>
   rw [c2] at hk
   simp -dsimp -implicitDefEqProofs (disch := first|with_reducible assumption|omega) [go_sem]
   refine whole10_any p b h1 hb ?_
   simp -dsimp -implicitDefEqProofs (disch := first|with_reducible assumption|omega) [go_sem]
   exact fin_tail (fin_here (by simpa using hk))
  | false =>
   rw [c2] at hk
   simp -dsimp -implicitDefEqProofs (disch := first|with_reducible assumption|omega) [go_sem]
   exact fin_tail (fin_here (by simpa using hk))
theorem fits10_any (p : ParD) (ok : ParOk p) (h1 : 1 ≤ p.inc) (e b : Int) (he : 0 ≤ e ∧ e ≤ 18446744073709551615) (hb : 0 ≤ b ∧ b ≤ 18446744073709551615) (hk : K (.bool (gfitsP p e b)) L h) : Spec Tryz.prog 204 [parV p, .int .u64 e, .int .u64 b] L h K := by
 refine x_enter Tryz.func204 rfl (rs := [_]) rfl rfl mixed (by kernel_rfl) rfl rfl ?_
 simp -dsimp -implicitDefEqProofs (disch := first|with_reducible assumption|omega) [go_sem]
 refine xnew fun b1 n_b1 h_b1 => ?_
 try simp only [Apart] at n_b1
 simp -dsimp -implicitDefEqProofs (disch := first|with_reducible assumption|omega) [go_sem]
 by_cases c1 : p.inc ≤ e
 ·by_cases c2 : e ≤ p.maxEff
  ·by_cases c3 : e % p.inc = 0
   ·simp -dsimp -implicitDefEqProofs (disch := first|with_reducible assumption|omega) [go_sem]
    refine next10_any p ok h1 e b he hb ?_
    simp -dsimp -implicitDefEqProofs (disch := first|with_reducible assumption|omega) [go_sem]
    exact fin_tail (fin_here (by simpa [gfitsP, c1, c2, c3] using hk))
   ·simp -dsimp -implicitDefEqProofs (disch := first|with_reducible assumption|omega) [go_sem]
    exact fin_tail (fin_here (by simpa [gfitsP, c1, c2, c3] using hk))
  ·simp -dsimp -implicitDefEqProofs (disch := first|with_reducible assumption|omega) [go_sem]
   exact fin_tail (fin_here (by simpa [gfitsP, c1, c2] using hk))
 ·simp -dsimp -implicitDefEqProofs (disch := first|with_reducible assumption|omega) [go_sem]
  exact fin_tail (fin_here (by simpa [gfitsP, c1] using hk))
theorem trim11_any (p : ParD) (m : MemD) (hk : K (stdV (trimM p m)) L h) : Spec Tryz.prog 202 [parV p, stdV m] L h K := by
 unfold trimM at hk
 refine x_enter Tryz.func202 rfl (rs := [_]) rfl rfl mixed (by kernel_rfl) rfl rfl ?_
 simp -dsimp -implicitDefEqProofs (disch := first|with_reducible assumption|omega) [go_sem]
 refine xnew fun b1 n_b1 h_b1 => ?_
 try simp only [Apart] at n_b1
 simp -dsimp -implicitDefEqProofs (disch := first|with_reducible assumption|omega) [go_sem]
 refine xnew fun b2 n_b2 h_b2 => ?_
 try simp only [Apart] at n_b2
 simp -dsimp -implicitDefEqProofs (disch := first|with_reducible assumption|omega) [go_sem]
 refine xnew fun b3 n_b3 h_b3 => ?_
 try simp only [Apart] at n_b3
 simp -dsimp -implicitDefEqProofs (disch := first|with_reducible assumption|omega) [go_sem]
 by_cases c1 : p.scoreCap < m.score
 ·rw [Int.min_eq_right (by omega)] at hk
  by_cases c2 : m.streak < 0
  ·rw [Int.max_eq_right (by omega)] at hk
   by_cases c3 : p.streak < 0
   ·rw [Int.min_eq_right (by omega)] at hk
    simp -dsimp -implicitDefEqProofs (disch := first|with_reducible assumption|omega) [go_sem]
    exact fin_tail (fin_tail (fin_tail (fin_here hk)))
   ·rw [Int.min_eq_left (by omega)] at hk
    simp -dsimp -implicitDefEqProofs (disch := first|with_reducible assumption|omega) [go_sem]
    exact fin_tail (fin_tail (fin_tail (fin_here hk)))
  ·rw [Int.max_eq_left (by omega)] at hk
   by_cases c3 : p.streak < m.streak
   ·rw [Int.min_eq_right (by omega)] at hk
    simp -dsimp -implicitDefEqProofs (disch := first|with_reducible assumption|omega) [go_sem]
    exact fin_tail (fin_tail (fin_tail (fin_here hk)))
   ·rw [Int.min_eq_left (by omega)] at hk
    simp -dsimp -implicitDefEqProofs (disch := first|with_reducible assumption|omega) [go_sem]
    exact fin_tail (fin_tail (fin_tail (fin_here hk)))
 ·rw [Int.min_eq_left (a := m.score) (by omega)] at hk
  by_cases c2 : m.streak < 0
  ·rw [Int.max_eq_right (by omega)] at hk
   by_cases c3 : p.streak < 0
   ·rw [Int.min_eq_right (by omega)] at hk
    simp -dsimp -implicitDefEqProofs (disch := first|with_reducible assumption|omega) [go_sem]
    exact fin_tail (fin_tail (fin_tail (fin_here hk)))
   ·rw [Int.min_eq_left (by omega)] at hk
    simp -dsimp -implicitDefEqProofs (disch := first|with_reducible assumption|omega) [go_sem]
    exact fin_tail (fin_tail (fin_tail (fin_here hk)))
  ·rw [Int.max_eq_left (by omega)] at hk
   by_cases c3 : p.streak < m.streak
   ·rw [Int.min_eq_right (by omega)] at hk
    simp -dsimp -implicitDefEqProofs (disch := first|with_reducible assumption|omega) [go_sem]
    exact fin_tail (fin_tail (fin_tail (fin_here hk)))
   ·rw [Int.min_eq_left (by omega)] at hk
    simp -dsimp -implicitDefEqProofs (disch := first|with_reducible assumption|omega) [go_sem]
    exact fin_tail (fin_tail (fin_tail (fin_here hk)))
theorem counts19_any (m : MemD) (hk : K (.bool (decide (m.status = 2 ∨ m.status = 3))) L h) : Spec Tryz.prog 40 [memV m] L h K := by
 refine x_enter Tryz.func40 rfl (rs := [_]) rfl rfl mixed (by kernel_rfl) rfl rfl ?_
 simp -dsimp -implicitDefEqProofs (disch := first|with_reducible assumption|omega) [go_sem]
 refine xnew fun b1 n_b1 h_b1 => ?_
 try simp only [Apart] at n_b1
 simp -dsimp -implicitDefEqProofs (disch := first|with_reducible assumption|omega) [go_sem]
 by_cases c : m.status = 2
 ·rw [decide_eq_true (Or.inl c)] at hk
  simp -dsimp -implicitDefEqProofs (disch := first|with_reducible assumption|omega) [go_sem]
  exact fin_tail (fin_here hk)
 ·have e : decide (m.status = 2 ∨ m.status = 3) = decide (m.status = 3) := by apply decide_eq_decide.2; omega
  rw [e] at hk
  simp -dsimp -implicitDefEqProofs (disch := first|with_reducible assumption|omega) [go_sem]
  exact fin_tail (fin_here hk)
theorem xBin_neintsS {P : Program} {T : Nat} {ks : List IntKind} (ht : P.underlying T = some (.struct (P.fieldsOf T))) (hp : P.stoodInHeld T = false) (hg : P.eqGuardType P.depth T = false) (hok : okF P (P.fieldsOf T).toList 0 ks = true) (ps qs : List Int) (ha : ps.length = ks.length) (hb : qs.length = ks.length)
  (x y : Operand) (K : Value → Prop) (t : Tok K) : xBin P .neq T x y (.agg (List.zipWith Value.int ks ps).toArray) (.agg (List.zipWith Value.int ks qs).toArray) K t = K (.bool (!decide (ps = qs))) :=
 xRun_of (fun W => by
  simp only [Sem.run_bind, run_eqGuard_agg W .neq T x y _ _ hg, Result.andThen_ok, run_neq_struct, run_eq_ints ht hp hok ps qs ha hb W]) K
theorem neStd (m q : MemD) (x y : Operand) (K : Value → Prop) (t : Tok K) : xBin Tryz.prog .neq 108 x y (stdV m) (stdV q) K t = K (.bool (!decide (stdL m = stdL q))) :=
 xBin_neintsS (T := 108) (ks := [.u64, .u64, .u64, .i64]) (by kernel_rfl) (by kernel_rfl) (by kernel_rfl) (by kernel_rfl) (stdL m) (stdL q) rfl rfl x y K t
theorem shape19_any (p : ParD) (ok : ParOk p) (hr : parR p = true) (m : MemD) (mo : MemOk m) (hk : K (.bool (mfitsB p m)) L h) : Spec Tryz.prog 115 [parV p, memV m] L h K := by
 have ub : 0 ≤ m.bal ∧ m.bal ≤ 18446744073709551615 := mo.u _ (by simp)
 have ue : 0 ≤ m.eff ∧ m.eff ≤ 18446744073709551615 := mo.u _ (by simp)
 have h1 := inc_pos hr
 refine x_enter Tryz.func115 rfl (rs := [_]) rfl rfl mixed (by kernel_rfl) rfl rfl ?_
 simp -dsimp -implicitDefEqProofs (disch := first|with_reducible assumption|omega) [go_sem]
 refine xnew fun b1 n_b1 h_b1 => ?_
 try simp only [Apart] at n_b1
 simp -dsimp -implicitDefEqProofs (disch := first|with_reducible assumption|omega) [go_sem]
 refine xnew fun b2 n_b2 h_b2 => ?_
 try simp only [Apart] at n_b2
 simp -dsimp -implicitDefEqProofs (disch := first|with_reducible assumption|omega) [go_sem]
 refine xdraw (by kernel_rfl) rfl ?_
 by_cases c1 : m.owner < 0
 ·rw [show mfitsB p m = false by simp [mfitsB, show ¬ 0 ≤ m.owner by omega]] at hk
  simp -dsimp -implicitDefEqProofs (disch := first|with_reducible assumption|omega) [go_sem]
  exact fin_tail (fin_tail (fin_here hk))
 by_cases c2 : 63 < m.owner
 ·rw [show mfitsB p m = false by simp [mfitsB, show ¬ m.owner < 64 by omega]] at hk
  simp -dsimp -implicitDefEqProofs (disch := first|with_reducible assumption|omega) [go_sem]
  exact fin_tail (fin_tail (fin_here hk))
 by_cases c3 : m.status < 1
 ·rw [show mfitsB p m = false by simp [mfitsB, shapeB, show ¬ (m.status = 2 ∨ m.status = 3) by omega, show ¬ m.status = 1 by omega, show ¬ (m.status = 4 ∨ m.status = 5) by omega]] at hk
  simp -dsimp -implicitDefEqProofs (disch := first|with_reducible assumption|omega) [go_sem]
  exact fin_tail (fin_tail (fin_here hk))
 by_cases c4 : 5 < m.status
 ·rw [show mfitsB p m = false by simp [mfitsB, shapeB, show ¬ (m.status = 2 ∨ m.status = 3) by omega, show ¬ m.status = 1 by omega, show ¬ (m.status = 4 ∨ m.status = 5) by omega]] at hk
  simp -dsimp -implicitDefEqProofs (disch := first|with_reducible assumption|omega) [go_sem]
  exact fin_tail (fin_tail (fin_here hk))
 have hf : mfitsB p m = (decide (stdL (trimM p m) = stdL m) && shapeB p m) := by simp [mfitsB, show 0 ≤ m.owner by omega, show m.owner < 64 by omega]
 rw [hf] at hk
 simp -dsimp -implicitDefEqProofs (disch := first|with_reducible assumption|omega) [go_sem]
 refine xdcall _ (trim11_any p m ⟨rfl, rfl, rfl⟩) ?_
 simp -dsimp -implicitDefEqProofs (disch := first|with_reducible assumption|omega) [go_sem, neStd]
 cases hq : decide (stdL (trimM p m) = stdL m) with
 | false =>
  rw [hq] at hk
  simp -dsimp -implicitDefEqProofs (disch := first|with_reducible assumption|omega) [go_sem]
  exact fin_tail (fin_tail (fin_here (by simpa using hk)))
 | true =>
  rw [hq, Bool.true_and] at hk
  unfold shapeB at hk
  simp -dsimp -implicitDefEqProofs (disch := first|with_reducible assumption|omega) [go_sem]
  refine counts19_any m ?_
  by_cases c5 : m.status = 2 ∨ m.status = 3
  ·rw [if_pos c5] at hk
   rw [decide_eq_true c5]
   by_cases c6 : p.floor < m.bal
   ·by_cases c7 : m.bal ≤ p.cap
    ·simp -dsimp -implicitDefEqProofs (disch := first|with_reducible assumption|omega) [go_sem]
     refine fits10_any p ok h1 _ _ ue ub ?_
     simp -dsimp -implicitDefEqProofs (disch := first|with_reducible assumption|omega) [go_sem]
     exact fin_tail (fin_tail (fin_here (by simpa [c6, c7] using hk)))
    ·simp -dsimp -implicitDefEqProofs (disch := first|with_reducible assumption|omega) [go_sem]
     exact fin_tail (fin_tail (fin_here (by simpa [c6, c7] using hk)))
   ·simp -dsimp -implicitDefEqProofs (disch := first|with_reducible assumption|omega) [go_sem]
    exact fin_tail (fin_tail (fin_here (by simpa [c6] using hk)))
  ·rw [if_neg c5] at hk
   rw [decide_eq_false c5]
   by_cases c6 : m.status = 1
   ·rw [if_pos c6] at hk
    by_cases c7 : 1 ≤ m.bal
    ·by_cases c8 : m.bal ≤ p.cap
     ·simp -dsimp -implicitDefEqProofs (disch := first|with_reducible assumption|omega) [go_sem]
      exact fin_tail (fin_tail (fin_here (by simpa [c7, c8] using hk)))
     ·simp -dsimp -implicitDefEqProofs (disch := first|with_reducible assumption|omega) [go_sem]
      exact fin_tail (fin_tail (fin_here (by simpa [c7, c8] using hk)))
    ·simp -dsimp -implicitDefEqProofs (disch := first|with_reducible assumption|omega) [go_sem]
     exact fin_tail (fin_tail (fin_here (by simpa [c7] using hk)))
   ·rw [if_neg c6, if_pos (by omega)] at hk
    by_cases c7 : m.bal = 0
    ·simp -dsimp -implicitDefEqProofs (disch := first|with_reducible assumption|omega) [go_sem]
     exact fin_tail (fin_tail (fin_here (by simpa [c7] using hk)))
    ·simp -dsimp -implicitDefEqProofs (disch := first|with_reducible assumption|omega) [go_sem]
     exact fin_tail (fin_tail (fin_here (by simpa [c7] using hk)))
theorem perm_of_sub : ∀ (A l : List Int), A.Nodup → (∀ x ∈ A, x ∈ l) → l.length = A.length → l.Perm A
 | [], l, _, _, hl => by
  have : l = [] := List.eq_nil_of_length_eq_zero (by simpa using hl)
  subst this
  exact List.Perm.refl _
 | a :: A, l, hn, hs, hl => by
  obtain ⟨l1, l2, rfl⟩ := List.append_of_mem (hs a (by simp))
  have hn' := List.nodup_cons.1 hn
  have ih := perm_of_sub A (l1 ++ l2) hn'.2 (fun x hx => by
   have := hs x (by simp [hx])
   rcases List.mem_append.1 this with h | h
   ·exact List.mem_append.2 (Or.inl h)
   ·rcases List.mem_cons.1 h with h | h
    ·subst h; exact absurd hx hn'.1
    ·exact List.mem_append.2 (Or.inr h)) (by simp at hl ⊢; omega)
  exact List.perm_middle.trans (ih.cons a)
def setS (s : StD) (st : Int) : Nat → List Int
 | 0 => []
 | k + 1 => setS s st k ++ if (gr zeroM s.members k).status = st then [(k : Int)] else []
theorem setS_len (s : StD) (st : Int) : ∀ k, (setS s st k).length = cntS s.members st k
 | 0 => rfl
 | k + 1 => by simp only [setS, cntS, List.length_append, setS_len s st k]; split <;> simp
theorem setS_mem (s : StD) (st : Int) : ∀ (k : Nat) (x : Int), x ∈ setS s st k ↔ ∃ j : Nat, j < k ∧ x = j ∧ (gr zeroM s.members j).status = st
 | 0, x => by simp [setS]
 | k + 1, x => by
  simp only [setS, List.mem_append, setS_mem s st k x]
  constructor
  ·rintro (⟨j, h1, h2, h3⟩ | h)
   ·exact ⟨j, by omega, h2, h3⟩
   ·split at h
    ·rename_i c
     exact ⟨k, by omega, by simpa using h, c⟩
    ·cases h
  ·rintro ⟨j, h1, h2, h3⟩
   by_cases e : j = k
   ·subst e; right; rw [if_pos h3]; simpa using h2
   ·exact .inl ⟨j, by omega, h2, h3⟩
theorem setS_nodup (s : StD) (st : Int) : ∀ k, (setS s st k).Nodup
 | 0 => List.nodup_nil
 | k + 1 => by
  simp only [setS]
  refine List.nodup_append.2 ⟨setS_nodup s st k, by split <;> simp, fun a ha b hb => ?_⟩
  obtain ⟨j, h1, h2, _⟩ := (setS_mem s st k a).1 ha
  split at hb
  ·have : b = (k : Int) := by simpa using hb
   omega
  ·cases hb
def rowR1 (s : StD) (l : List Int) (st : Int) (i : Nat) : Bool := wi (at0 l i) 0 ((s.members.length : Int) - 1) && decide ((gr zeroM s.members (at0 l i).toNat).status = st) && !decide (at0 l i ∈ l.take i)
theorem rowR_nodup {s : StD} {l : List Int} {st : Int} : ∀ (n : Nat), n ≤ l.length → (∀ i, i < n → rowR1 s l st i = true) → (l.take n).Nodup
 | 0, _, _ => by simp
 | n + 1, hn, hq => by
  rw [List.take_succ_eq_append_getElem (by omega)]
  refine List.nodup_append.2 ⟨rowR_nodup n (by omega) (fun i hi => hq i (by omega)), by simp, fun a ha b hb => ?_⟩
  have := hq n (by omega)
  simp only [rowR1, Bool.and_eq_true, Bool.not_eq_true', decide_eq_false_iff_not] at this
  have hb' : b = at0 l n := by rw [← at0_lt (by omega)]; simpa using hb
  intro e
  rw [hb'] at e
  exact this.2 (e ▸ ha)
theorem row_iff {s : StD} {l : List Int} {st : Int} : rowB s l st = true ↔ (∀ i, i < l.length → rowR1 s l st i = true) ∧ (∀ j, j < s.members.length → (gr zeroM s.members j).status = st → (j : Int) ∈ l) := by
 constructor
 ·intro h
  simp only [rowB, Bool.and_eq_true, decide_eq_true_eq] at h
  obtain ⟨h1, h2⟩ := h
  have hall : ∀ j, j < s.members.length → (gr zeroM s.members j).status = st → (j : Int) ∈ l := fun j hj hst => by
   rw [hasB, List.all_eq_true] at h1
   have := h1 j (List.mem_range.2 hj)
   simpa [hst] using this
  have hp : l.Perm (setS s st s.members.length) := perm_of_sub _ _ (setS_nodup s st _) (fun x hx => by
   obtain ⟨j, j1, rfl, j3⟩ := (setS_mem s st _ x).1 hx
   exact hall j j1 j3) (by rw [setS_len]; exact h2)
  refine ⟨fun i hi => ?_, hall⟩
  have hx : at0 l i ∈ l := by rw [← at0_lt hi]; exact List.getElem_mem hi
  obtain ⟨j, j1, j2, j3⟩ := (setS_mem s st _ _).1 (hp.mem_iff.1 hx)
  have hnd : l.Nodup := hp.nodup_iff.2 (setS_nodup s st _)
  simp only [rowR1, Bool.and_eq_true, wi_iff, decide_eq_true_eq, Bool.not_eq_true', decide_eq_false_iff_not]
  refine ⟨⟨by omega, by rw [j2]; simpa using j3⟩, fun hm => ?_⟩
  obtain ⟨m, hm1, hm2⟩ := List.mem_iff_getElem.1 hm
  simp only [List.length_take] at hm1
  rw [List.getElem_take] at hm2
  exact (List.pairwise_iff_getElem.1 hnd m i (by omega) hi (by omega)) (by rw [at0_lt (by omega), at0_lt hi]; rw [at0_lt (by omega)] at hm2; exact hm2)
 ·rintro ⟨h1, h2⟩
  have hnd := rowR_nodup l.length (Nat.le_refl _) h1
  rw [List.take_length] at hnd
  have hp : (setS s st s.members.length).Perm l := by
   have hsub : ∀ x ∈ l, x ∈ setS s st s.members.length := fun x hx => by
    obtain ⟨i, hi, rfl⟩ := List.mem_iff_getElem.1 hx
    have := h1 i hi
    simp only [rowR1, Bool.and_eq_true, wi_iff, decide_eq_true_eq] at this
    obtain ⟨⟨⟨a, b⟩, c⟩, _⟩ := this
    rw [at0_lt hi]
    exact (setS_mem s st _ _).2 ⟨(at0 l i).toNat, by omega, by omega, c⟩
   have hsub2 : ∀ x ∈ setS s st s.members.length, x ∈ l := fun x hx => by
    obtain ⟨j, j1, rfl, j3⟩ := (setS_mem s st _ x).1 hx
    exact h2 j j1 j3
   exact (List.perm_ext_iff_of_nodup (setS_nodup s st _) hnd).2 fun x => ⟨hsub2 x, hsub x⟩
  simp only [rowB, Bool.and_eq_true, decide_eq_true_eq]
  exact ⟨hasB_true h2, by rw [← hp.length_eq, setS_len]⟩
theorem row_no1 {s : StD} {l : List Int} {st : Int} {i : Nat} (hi : i < l.length) (hq : rowR1 s l st i = false) : rowB s l st = false := by
 cases hc : rowB s l st with
 | false => rfl
 | true => have := (row_iff.1 hc).1 i hi; rw [hq] at this; cases this
def pairB (l : List DueD) (k j : Nat) : Bool := decide ((gr zeroDue l j).at' ≤ (gr zeroDue l k).at') && !(decide ((gr zeroDue l j).at' = (gr zeroDue l k).at') && decide ((gr zeroDue l j).acct = (gr zeroDue l k).acct))
theorem dues_pairs {s : StD} : duesB s = true ↔ ∀ k, k < s.dues.length → due1B s (gr zeroDue s.dues k) = true ∧ ∀ j, j < k → pairB s.dues k j = true := by
  have hall : duesB s = true ↔ ∀ k, k < s.dues.length → dueB s k = true := by
    rw [duesB, List.all_eq_true]; exact ⟨fun h k hk => h k (List.mem_range.2 hk), fun h k hk => h k (List.mem_range.1 hk)⟩
  rw [hall]
  have met : ∀ k, metB s.dues k = false ↔ ∀ j, j < k → ¬ ((gr zeroDue s.dues k).acct = (gr zeroDue s.dues j).acct ∧ (gr zeroDue s.dues k).at' = (gr zeroDue s.dues j).at') := fun k => by
    rw [metB, List.any_eq_false]
    exact ⟨fun h j hj hc => by have := h j (List.mem_range.2 hj); simp [hc.1, hc.2] at this, fun h j hj => by
      have := h j (List.mem_range.1 hj)
      simpa using this⟩
  constructor
  · intro h
    have sorted : ∀ k, k < s.dues.length → ∀ j, j ≤ k → (gr zeroDue s.dues j).at' ≤ (gr zeroDue s.dues k).at' := by
      intro k
      induction k with
      | zero => intro _ j hj; have : j = 0 := by omega
                subst this; exact Int.le_refl _
      | succ k ih =>
        intro hk j hj
        by_cases e : j = k + 1
        · subst e; exact Int.le_refl _
        · have a := ih (by omega) j (by omega)
          have b := h (k + 1) hk
          simp only [dueB, Bool.and_eq_true, ordB, Bool.or_eq_true, decide_eq_true_eq, Nat.add_sub_cancel] at b
          rcases b.2 with c | c
          · omega
          · omega
    intro k hk
    have b := h k hk
    simp only [dueB, Bool.and_eq_true, Bool.not_eq_true'] at b
    refine ⟨b.1.1, fun j hj => ?_⟩
    have c := (met k).1 b.1.2 j hj
    have d := sorted k hk j (by omega)
    simp only [pairB, Bool.and_eq_true, decide_eq_true_eq, Bool.not_eq_true', Bool.and_eq_false_iff, decide_eq_false_iff_not]
    refine ⟨d, ?_⟩
    by_cases e : (gr zeroDue s.dues j).at' = (gr zeroDue s.dues k).at'
    · exact .inr fun e2 => c ⟨e2.symm, e.symm⟩
    · exact .inl e
  · intro h k hk
    obtain ⟨a, b⟩ := h k hk
    have pr : ∀ j, j < k → (gr zeroDue s.dues j).at' ≤ (gr zeroDue s.dues k).at' ∧ ¬ ((gr zeroDue s.dues j).at' = (gr zeroDue s.dues k).at' ∧ (gr zeroDue s.dues j).acct = (gr zeroDue s.dues k).acct) := fun j hj => by
      have := b j hj
      simp only [pairB, Bool.and_eq_true, decide_eq_true_eq, Bool.not_eq_true', Bool.and_eq_false_iff, decide_eq_false_iff_not] at this
      exact ⟨this.1, fun e => by rcases this.2 with c | c; exact c e.1; exact c e.2⟩
    simp only [dueB, Bool.and_eq_true, Bool.not_eq_true', a, true_and]
    refine ⟨(met k).2 fun j hj e => (pr j hj).2 ⟨e.2.symm, e.1.symm⟩, ?_⟩
    simp only [ordB, Bool.or_eq_true, decide_eq_true_eq]
    by_cases e : k = 0
    · exact .inl e
    · exact .inr (pr (k - 1) (by omega)).1
theorem dues_no {s : StD} {k : Nat} (hk : k < s.dues.length) (hq : due1B s (gr zeroDue s.dues k) = false) : duesB s = false := not_duesB hk (by simp [dueB, hq])
theorem dues_no2 {s : StD} {k j : Nat} (hk : k < s.dues.length) (hj : j < k) (hq : pairB s.dues k j = false) : duesB s = false := by
 cases hc : duesB s with
 | false => rfl
 | true => have := ((dues_pairs.1 hc) k hk).2 j hj; rw [hq] at this; cases this
end Go.X
