/- Contracts of bullionlaw40.awake and of the law CertWeighs. Conditions: the values read as certificates. -/
import Derived.Test.YtbobjcapmfpmkaaWI
set_option linter.unusedVariables false
set_option linter.unusedSimpArgs false
namespace Go.X
open Go.RowKit Go.Proofs Go.Bl
variable {L : Own} {h : PH} {K : PK}

def c0 : CertD := ⟨0, 3, [10, 10, 10], [3]⟩
def c1 : CertD := ⟨0, 3, [10, 10, 10], [7]⟩
theorem sign_c0 : signC c0 2 = (c1, 0) := by kernel_rfl
theorem fin_c0 : finC c0 = false := by kernel_rfl
theorem fin_c1 : finC c1 = true := by kernel_rfl
set_option maxRecDepth 20000 in
theorem awake40_any (hk : ∀ h', PH.le h h' → K (.bool true) L h') : Spec Try.prog 15 [] L h K := by
  refine x_enter Try.func15 rfl (rs := [_]) rfl rfl mixed (by kernel_rfl) rfl rfl ?_
  simp -dsimp -implicitDefEqProofs (disch := first | with_reducible assumption | omega) [go_sem]
  refine xnew fun b1 n_b1 h_b1 => ?_
  try simp only [Apart] at n_b1
  simp -dsimp -implicitDefEqProofs (disch := first | with_reducible assumption | omega) [go_sem]
  refine xnew fun b2 n_b2 h_b2 => ?_
  try simp only [Apart] at n_b2
  simp -dsimp -implicitDefEqProofs (disch := first | with_reducible assumption | omega) [go_sem]
  refine xnew fun b3 n_b3 h_b3 => ?_
  try simp only [Apart] at n_b3
  simp -dsimp -implicitDefEqProofs (disch := first | with_reducible assumption | omega) [go_sem]
  refine call_pub_at (sz := 1) (n := 1) (cap := 1) [_] ⟨Nat.le_refl _, by decide⟩ rfl (by decide) (by assumption) fun h1 le1 s1 f1 => ?_
  refine call_pub_at (sz := 1) (n := 3) (cap := 3) [_] ⟨Nat.le_refl _, by decide⟩ rfl (by decide) (by rw [f1 _ (by omega)]; assumption) fun h2 le2 s2 f2 => ?_
  have ic : IsCert h2 (.agg #[.int .i64 0, .int .i64 3, .slice (some ⟨b1, 0, none⟩) 3 3, .slice (some ⟨b2, 0, none⟩) 1 1]) c0 :=
    ⟨_, _, rfl, ⟨s2, by decide⟩, ⟨s1.up le2, by decide⟩, by decide, by decide, by decide, by decide⟩
  refine Spec.ap (sign_any _ 2 ic (by decide) fun h3 r le3 i3 ap => ?_)
  simp only [sign_c0] at i3 ⊢
  simp only [Ap, List.nil_append, List.cons_append] at ap
  obtain ⟨a3, _⟩ := ap
  have i3' := i3
  obtain ⟨sv, bv, rfl, hs, hb, _⟩ := i3
  have os := hs.open
  obtain ⟨a', ca', rfl, _⟩ := os
  have ob := hb.open
  obtain ⟨b', cb', rfl, _, _, _, hcy⟩ := ob
  simp -dsimp -implicitDefEqProofs (disch := first | with_reducible assumption | omega) [go_sem]
  refine xnew fun b4 n_b4 h_b4 => ?_
  try simp only [Apart] at n_b4
  simp -dsimp -implicitDefEqProofs (disch := first | with_reducible assumption | omega) [go_sem]
  refine final_any _ (ic.up le3) ?_
  rw [fin_c0]
  simp -dsimp -implicitDefEqProofs (disch := first | with_reducible assumption | omega) [go_sem]
  refine final_any _ i3' ?_
  rw [fin_c1]
  have e0 : c1.bs.length = 1 := rfl
  have e1 : at0 c1.bs 0 = 7 := rfl
  have hcy' : ∀ j, j < 1 → elemCell h3 b' j = some (Value.int IntKind.u8 (at0 c1.bs j)) := hcy
  simp -dsimp -implicitDefEqProofs (disch := first | with_reducible assumption | omega) [go_sem, idx hcy', e0, e1]
  exact fin_tail (fin_tail (fin_here (hk h3 (le1.trans (le2.trans le3)))))
theorem and_sgn (c : CertD) : (fun i : Nat => getB c.bs i && getB c.bs i) = sgn c := by
  funext i; simp [sgn]
set_option maxRecDepth 20000 in
theorem certweighs_any {c d : CertD} (v u : Value) (hc : IsCert h v c) (hd : IsCert h u d) (hk : ∀ h', PH.le h h' → K (.bool true) L h') : Spec Try.prog 3 [v, u] L h K := by
  have hc0 := hc
  have hd0 := hd
  obtain ⟨sv, bv, rfl, hs, hb, r1, r2, r3, r4⟩ := hc
  obtain ⟨su, bu, rfl, hs', hb', q1, q2, q3, q4⟩ := hd
  have os := hs.open
  obtain ⟨a, ca, rfl, _⟩ := os
  have ob := hb.open
  obtain ⟨b, cb, rfl, _⟩ := ob
  have os' := hs'.open
  obtain ⟨a', ca', rfl, _⟩ := os'
  have ob' := hb'.open
  obtain ⟨b', cb', rfl, _⟩ := ob'
  refine x_enter Try.func3 rfl (rs := [_]) rfl rfl mixed (by kernel_rfl) rfl rfl ?_
  simp -dsimp -implicitDefEqProofs (disch := first | with_reducible assumption | omega) [go_sem]
  refine xnew fun b1 n_b1 h_b1 => ?_
  try simp only [Apart] at n_b1
  simp -dsimp -implicitDefEqProofs (disch := first | with_reducible assumption | omega) [go_sem]
  refine xnew fun b2 n_b2 h_b2 => ?_
  try simp only [Apart] at n_b2
  simp -dsimp -implicitDefEqProofs (disch := first | with_reducible assumption | omega) [go_sem]
  refine Spec.ap (awake40_any fun h1 le1 ap => ?_)
  simp only [Ap] at ap
  obtain ⟨a2, a1, _⟩ := ap
  simp -dsimp -implicitDefEqProofs (disch := first | with_reducible assumption | omega) [go_sem]
  refine few_any _ (hc0.up le1) ?_
  by_cases l1 : ¬ ((c.st.length : Int) ≤ 300 ∧ (c.bs.length : Int) ≤ 100)
  · have : (decide ((c.st.length : Int) ≤ 300) && decide ((c.bs.length : Int) ≤ 100)) = false := by
      rw [← Bool.decide_and]; exact decide_eq_false l1
    rw [this]
    simp -dsimp -implicitDefEqProofs (disch := first | with_reducible assumption | omega) [go_sem]
    exact fin_tail (fin_tail (fin_here (hk h1 le1)))
  have e1 : (decide ((c.st.length : Int) ≤ 300) && decide ((c.bs.length : Int) ≤ 100)) = true := by
    rw [← Bool.decide_and]; exact decide_eq_true (Decidable.not_not.1 l1)
  rw [e1]
  simp -dsimp -implicitDefEqProofs (disch := first | with_reducible assumption | omega) [go_sem]
  refine few_any _ (hd0.up le1) ?_
  by_cases l2 : ¬ ((d.st.length : Int) ≤ 300 ∧ (d.bs.length : Int) ≤ 100)
  · have : (decide ((d.st.length : Int) ≤ 300) && decide ((d.bs.length : Int) ≤ 100)) = false := by
      rw [← Bool.decide_and]; exact decide_eq_false l2
    rw [this]
    simp -dsimp -implicitDefEqProofs (disch := first | with_reducible assumption | omega) [go_sem]
    exact fin_tail (fin_tail (fin_here (hk h1 le1)))
  have e2 : (decide ((d.st.length : Int) ≤ 300) && decide ((d.bs.length : Int) ≤ 100)) = true := by
    rw [← Bool.decide_and]; exact decide_eq_true (Decidable.not_not.1 l2)
  rw [e2]
  simp -dsimp -implicitDefEqProofs (disch := first | with_reducible assumption | omega) [go_sem]
  refine weight_any _ (hc0.up le1) ?_
  obtain ⟨p, hp⟩ : ∃ p, p = (if rightC c = true then pres c else 0) := ⟨_, rfl⟩
  obtain ⟨q, hq⟩ : ∃ q, q = (if rightC c = true then actv c else 0) := ⟨_, rfl⟩
  obtain ⟨e, he⟩ : ∃ e : Int, e = (if rightC c = true then 0 else 2) := ⟨_, rfl⟩
  have ew : (if rightC c = true then Value.tuple #[.int .u64 (pres c), .int .u64 (actv c), .int .i64 0] else Value.tuple #[.int .u64 0, .int .u64 0, .int .i64 2]) = Value.tuple #[.int .u64 p, .int .u64 q, .int .i64 e] := by
    cases hr : rightC c <;> simp [hp, hq, he, hr]
  rw [ew]
  simp -dsimp -implicitDefEqProofs (disch := first | with_reducible assumption | omega) [go_sem]
  obtain ⟨x, y, exy⟩ : ∃ x y : Int, bothV c d = .tuple #[.int .u64 x, .int .i64 y] := by
    unfold bothV; split
    · exact ⟨_, _, rfl⟩
    · exact ⟨_, _, rfl⟩
  refine both_any _ _ (hc0.up le1) (hd0.up le1) ?_
  rw [exy]
  simp -dsimp -implicitDefEqProofs (disch := first | with_reducible assumption | omega) [go_sem]
  refine xdraw (by kernel_rfl) rfl ?_
  simp -dsimp -implicitDefEqProofs (disch := first | with_reducible assumption | omega) [go_sem]
  refine xdcall _ (plain_any _ (hc0.up le1) ⟨rfl, rfl, rfl⟩) ?_
  simp -dsimp -implicitDefEqProofs (disch := first | with_reducible assumption | omega) [go_sem]
  refine xdcall _ (plain_any _ (hd0.up le1) ⟨rfl, rfl, rfl⟩) ?_
  simp -dsimp -implicitDefEqProofs (disch := first | with_reducible assumption | omega) [go_sem]
  refine xdcall _ (refboth_any _ _ (hc0.up le1) (hd0.up le1) ⟨exy, rfl, rfl⟩) ?_
  simp -dsimp -implicitDefEqProofs (disch := first | with_reducible assumption | omega) [go_sem]
  refine plain_any _ (hc0.up le1) ?_
  simp -dsimp -implicitDefEqProofs (disch := first | with_reducible assumption | omega) [go_sem]
  refine right_any _ (hc0.up le1) ?_
  cases hr : rightC c with
  | false =>
    rw [hr] at hp hq he
    simp only [Bool.false_eq_true, if_false] at hp hq he
    subst hp; subst hq; subst he
    simp -dsimp -implicitDefEqProofs (disch := first | with_reducible assumption | omega) [go_sem]
    refine final_any _ (hc0.up le1) ?_
    rw [show finC c = false by simp [finC, hr]]
    simp -dsimp -implicitDefEqProofs (disch := first | with_reducible assumption | omega) [go_sem]
    exact fin_tail (fin_tail (fin_here (hk h1 le1)))
  | true =>
    rw [hr] at hp hq he
    simp only [if_true] at hp hq he
    have w1 := wsum_le hc0 hr (sgn c)
    have w2 := wsum_le hc0 hr (fun _ => true)
    have p1 : 0 ≤ p ∧ p ≤ 18446744073709551615 := by rw [hp]; unfold pres; omega
    have p2 : 0 ≤ q ∧ q ≤ 18446744073709551615 := by rw [hq]; unfold actv; omega
    simp -dsimp -implicitDefEqProofs (disch := first | with_reducible assumption | omega) [go_sem]
    refine xdraw (by kernel_rfl) rfl ?_
    simp -dsimp -implicitDefEqProofs (disch := first | with_reducible assumption | omega) [go_sem]
    refine xdcall _ (plain_any _ (hc0.up le1) ⟨rfl, rfl, rfl⟩) ?_
    simp -dsimp -implicitDefEqProofs (disch := first | with_reducible assumption | omega) [go_sem]
    refine xdcall (.tuple #[.int .u64 p, .int .u64 q]) (refweight_any _ _ (hc0.up le1) hr (hb.up le1) ⟨by rw [and_sgn, hp, hq]; rfl, rfl, rfl⟩) ?_
    subst he
    simp -dsimp -implicitDefEqProofs (disch := first | with_reducible assumption | omega) [go_sem]
    refine final_any _ (hc0.up le1) ?_
    simp -dsimp -implicitDefEqProofs (disch := first | with_reducible assumption | omega) [go_sem]
    refine Spec.ap (two_any _ _ p1 p2 fun h2 le2 ap => ?_)
    simp only [Ap] at ap
    obtain ⟨a2', a1', _⟩ := ap
    rw [show finC c = (decide (0 < q) && decide (2 * q < 3 * p)) by simp [finC, hr, hp, hq]]
    simp -dsimp -implicitDefEqProofs (disch := first | with_reducible assumption | omega) [go_sem]
    exact fin_tail (fin_tail (fin_here (by simpa using hk h2 (le1.trans le2))))
end Go.X
