/- Lemmas and contracts for a statement about the given program. Conditions: as each says. -/
import Derived.Test.YtkmojeioedjfkaaGreatQ35
set_option linter.unusedVariables false
set_option linter.unusedSimpArgs false
set_option maxHeartbeats 12800000
set_option maxRecDepth 20000
namespace Go.X
open Go.RowKit Go.Proofs Go.Bl
variable {L : Own} {h : PH} {K : PK}
theorem wi_lo {n lo hi : Int} (h1 : n < lo) : wi n lo hi = false := by simp [wi]; omega
theorem wi_hi {n lo hi : Int} (h1 : hi < n) : wi n lo hi = false := by simp [wi]; omega
theorem radd18 {l : List DepD} (v : Value) (hv : Recs depC 4 h v l) (hl : l.length ≤ 1000) (d : DepD) (ok : DepOk d) (hk : ∀ h' r, PH.le h h' → Recs depC 4 h' r (addP l d).1 → K (.tuple #[r, .int .i64 (addP l d).2]) L h') : Spec Tryz.prog 136 [v, depV d] L h K := by
 have ua := ok.a
 have hv0 := hv
 obtain ⟨pa, pc, rfl, _⟩ := hv.open
 have bad : depB d = false → K (.tuple #[.slice none 0 0, .int .i64 2]) L h := fun e => by
  have := hk h (.slice none 0 0) (PH.le_refl _) (by rw [addP, e]; exact Recs.nil depC_len h)
  rw [addP, e] at this
  exact this
 obtain ⟨ac, me, am, nw⟩ := d
 simp only at ua
 refine x_enter Tryz.func136 rfl (rs := [_, _]) rfl rfl mixed (by kernel_rfl) rfl rfl ?_
 simp -dsimp -implicitDefEqProofs (disch := first|with_reducible assumption|omega) [go_sem]
 refine xnew fun b1 n_b1 h_b1 => ?_
 try simp only [Apart] at n_b1
 by_cases q1 : ac < 0
 ·have := bad (by simp only [depB, wi_lo q1, Bool.false_and])
  simp -dsimp -implicitDefEqProofs (disch := first|with_reducible assumption|omega) [go_sem]
  exact fin_tail (fin_here this)
 by_cases q2 : 63 < ac
 ·have := bad (by simp only [depB, wi_hi q2, Bool.false_and])
  simp -dsimp -implicitDefEqProofs (disch := first|with_reducible assumption|omega) [go_sem]
  exact fin_tail (fin_here this)
 by_cases q3 : me < 0
 ·have := bad (by simp only [depB, wi_lo q3, Bool.false_and, Bool.and_false])
  simp -dsimp -implicitDefEqProofs (disch := first|with_reducible assumption|omega) [go_sem]
  exact fin_tail (fin_here this)
 by_cases q4 : 127 < me
 ·have := bad (by simp only [depB, wi_hi q4, Bool.false_and, Bool.and_false])
  simp -dsimp -implicitDefEqProofs (disch := first|with_reducible assumption|omega) [go_sem]
  exact fin_tail (fin_here this)
 have w1 : wi ac 0 63 = true := wi_iff.2 ⟨by omega, by omega⟩
 have w2 : wi me 0 127 = true := wi_iff.2 ⟨by omega, by omega⟩
 by_cases q5 : nw = true ∧ 0 < me
 ·obtain ⟨rfl, q5⟩ := q5
  have := bad (by simp [depB]; omega)
  simp -dsimp -implicitDefEqProofs (disch := first|with_reducible assumption|omega) [go_sem]
  exact fin_tail (fin_here this)
 have q5' : (nw && decide (me ≠ 0)) = false := by
  cases nw with
  | false => rfl
  | true =>
   have : ¬ 0 < me := fun hh => q5 ⟨rfl, hh⟩
   have : me = 0 := by omega
   subst this
   rfl
 have rr : depB ⟨ac, me, am, nw⟩ = (decide (1 ≤ am) && decide (am ≤ 4611686018427387904)) := by simp only [depB, w1, w2, q5', Bool.not_false, Bool.true_and]
 by_cases q6 : am = 0
 ·have := bad (by rw [rr, q6]; rfl)
  cases nw with
  | false =>
   simp -dsimp -implicitDefEqProofs (disch := first|with_reducible assumption|omega) [go_sem]
   exact fin_tail (fin_here this)
  | true =>
   have q7 : ¬ 0 < me := fun hh => q5 ⟨rfl, hh⟩
   simp -dsimp -implicitDefEqProofs (disch := first|with_reducible assumption|omega) [go_sem]
   exact fin_tail (fin_here this)
 by_cases q8 : 4611686018427387904 < am
 ·have := bad (by rw [rr, decide_eq_false (p := am ≤ 4611686018427387904) (by omega), Bool.and_false])
  cases nw with
  | false =>
   simp -dsimp -implicitDefEqProofs (disch := first|with_reducible assumption|omega) [go_sem]
   exact fin_tail (fin_here this)
  | true =>
   have q7 : ¬ 0 < me := fun hh => q5 ⟨rfl, hh⟩
   simp -dsimp -implicitDefEqProofs (disch := first|with_reducible assumption|omega) [go_sem]
   exact fin_tail (fin_here this)
 have eB : depB ⟨ac, me, am, nw⟩ = true := by rw [rr, decide_eq_true (p := 1 ≤ am) (by omega), decide_eq_true (p := am ≤ 4611686018427387904) (by omega)]; rfl
 have go : K (.tuple #[.slice none 0 0, .int .i64 161]) L h ∨ l.length < 256 := by
  by_cases q9 : l.length < 256
  ·exact Or.inr q9
  ·left
   have := hk h (.slice none 0 0) (PH.le_refl _) (by rw [addP, if_pos eB, if_neg q9]; exact Recs.nil depC_len h)
   rw [addP, if_pos eB, if_neg q9] at this
   exact this
 by_cases q9 : l.length < 256
 ·have good : ∀ h' r, PH.le h h' → Recs depC 4 h' r (l ++ [⟨ac, me, am, nw⟩]) → K (.tuple #[r, .int .i64 0]) L h' := fun h' r le i => by
   have := hk h' r le (by rw [addP, if_pos eB, if_pos q9]; exact i)
   rw [addP, if_pos eB, if_pos q9] at this
   exact this
  clear hk bad go rr
  cases nw with
  | false =>
   simp -dsimp -implicitDefEqProofs (disch := first|with_reducible assumption|omega) [go_sem]
   refine xappend (t := 59) (e := 157) (sz := 4) (bytes := 32) (by kernel_rfl) tI_157 rfl rfl rfl rfl (by decide) [] _ none 0 [] rfl rfl (Src.known hv0.s) (news := l.flatMap depC) (flatG_len depC_len l) (flatI_oneK depC_oneJ l) (by simp [maxLen]; omega) (by omega) ?_
   intro o k1 k2 k3
   simp only [Nat.zero_add, List.nil_append] at k1 k2 ⊢
   have m1 := k2.head
   simp -dsimp -implicitDefEqProofs (disch := first|with_reducible assumption|omega) [go_sem, xFind_oent m1]
   refine xnew fun b2 n_b2 h_b2 => ?_
   try simp only [Apart] at n_b2
   simp -dsimp -implicitDefEqProofs (disch := first|with_reducible assumption|omega) [go_sem]
   refine xappend (t := 59) (e := 157) (sz := 4) (bytes := 32) (by kernel_rfl) tI_157 rfl rfl rfl rfl (by decide) [_] _ o l.length (l.flatMap depC) k1 (flatG_len depC_len l) (Src.own (b := b2) List.mem_cons_self) (m := 1) (news := depC ⟨ac, me, am, false⟩) (by rfl) (depC_oneJ ⟨ac, me, am, false⟩) (by simp [maxLen]; omega) (by omega) ?_
   intro o' j1 j2 j3
   simp only [List.cons_append, List.nil_append] at j2 ⊢
   simp -dsimp -implicitDefEqProofs (disch := first|with_reducible assumption|omega) [go_sem]
   refine fin_tail (fin_pub (e := 157) (n := l.length + 1) j1 (by rw [List.length_append, flatG_len depC_len]; show l.length * 4 + 4 = (l.length + 1) * 4; omega) (by omega) (apO_tail j2) fun h' le sl => ?_)
   exact fin_tail (fin_here (good h' _ le ⟨depC_len, by simpa using sl⟩))
  | true =>
   have q7 : ¬ 0 < me := fun hh => q5 ⟨rfl, hh⟩
   simp -dsimp -implicitDefEqProofs (disch := first|with_reducible assumption|omega) [go_sem]
   refine xappend (t := 59) (e := 157) (sz := 4) (bytes := 32) (by kernel_rfl) tI_157 rfl rfl rfl rfl (by decide) [] _ none 0 [] rfl rfl (Src.known hv0.s) (news := l.flatMap depC) (flatG_len depC_len l) (flatI_oneK depC_oneJ l) (by simp [maxLen]; omega) (by omega) ?_
   intro o k1 k2 k3
   simp only [Nat.zero_add, List.nil_append] at k1 k2 ⊢
   have m1 := k2.head
   simp -dsimp -implicitDefEqProofs (disch := first|with_reducible assumption|omega) [go_sem, xFind_oent m1]
   refine xnew fun b2 n_b2 h_b2 => ?_
   try simp only [Apart] at n_b2
   simp -dsimp -implicitDefEqProofs (disch := first|with_reducible assumption|omega) [go_sem]
   refine xappend (t := 59) (e := 157) (sz := 4) (bytes := 32) (by kernel_rfl) tI_157 rfl rfl rfl rfl (by decide) [_] _ o l.length (l.flatMap depC) k1 (flatG_len depC_len l) (Src.own (b := b2) List.mem_cons_self) (m := 1) (news := depC ⟨ac, me, am, true⟩) (by rfl) (depC_oneJ ⟨ac, me, am, true⟩) (by simp [maxLen]; omega) (by omega) ?_
   intro o' j1 j2 j3
   simp only [List.cons_append, List.nil_append] at j2 ⊢
   simp -dsimp -implicitDefEqProofs (disch := first|with_reducible assumption|omega) [go_sem]
   refine fin_tail (fin_pub (e := 157) (n := l.length + 1) j1 (by rw [List.length_append, flatG_len depC_len]; show l.length * 4 + 4 = (l.length + 1) * 4; omega) (by omega) (apO_tail j2) fun h' le sl => ?_)
   exact fin_tail (fin_here (good h' _ le ⟨depC_len, by simpa using sl⟩))
 ·have ff := go.resolve_right q9
  cases nw with
  | false =>
   simp -dsimp -implicitDefEqProofs (disch := first|with_reducible assumption|omega) [go_sem]
   exact fin_tail (fin_here ff)
  | true =>
   have q7 : ¬ 0 < me := fun hh => q5 ⟨rfl, hh⟩
   simp -dsimp -implicitDefEqProofs (disch := first|with_reducible assumption|omega) [go_sem]
   exact fin_tail (fin_here ff)
end Go.X
