/- Contracts of bullionlaw40.awake and of the law CertWeighs. Conditions: the values read as certificates. -/
import Derived.Test.YtfilkbfkhdaakaaGreatWI
set_option linter.unusedVariables false
set_option linter.unusedSimpArgs false
namespace Go.X
open Go.RowKit Go.Proofs Go.Bl
variable {L : Own} {h : PH} {K : PK}

def c0 : CertD := ⟨0, 3, [10, 10, 10], [3]⟩
def c1 : CertD := ⟨0, 3, [10, 10, 10], [7]⟩
theorem sign_c0 : signC c0 2 = (c1, 0) := by kernel_rfl
theorem fin_c0 : finC c0 = false := by kernel_rfl
theorem fin_c1 : finC c1 = true := by kernel_rfl
set_option maxRecDepth 20000 in
theorem awake40_any (hk : ∀ h', PH.le h h' → K (.bool true) L h') : Spec Tryz.prog 13 [] L h K := by
  refine x_enter Tryz.func13 rfl (rs := [_]) rfl rfl mixed (by kernel_rfl) rfl rfl ?_
  simp -dsimp -implicitDefEqProofs (disch := first | with_reducible assumption | omega) [go_sem]
  refine xnew fun b1 n_b1 h_b1 => ?_
  try simp only [Apart] at n_b1
  simp -dsimp -implicitDefEqProofs (disch := first | with_reducible assumption | omega) [go_sem]
  refine xnew fun b2 n_b2 h_b2 => ?_
  try simp only [Apart] at n_b2
  simp -dsimp -implicitDefEqProofs (disch := first | with_reducible assumption | omega) [go_sem]
  refine xnew fun b3 n_b3 h_b3 => ?_
  try simp only [Apart] at n_b3
  simp -dsimp -implicitDefEqProofs (disch := first | with_reducible assumption | omega) [go_sem]
  refine call_pub_at (sz := 1) (n := 1) (cap := 1) [_] ⟨Nat.le_refl _, by decide⟩ rfl (by decide) (by assumption) fun h1 le1 s1 f1 => ?_
  refine call_pub_at (sz := 1) (n := 3) (cap := 3) [_] ⟨Nat.le_refl _, by decide⟩ rfl (by decide) (by rw [f1 _ (by omega)]; assumption) fun h2 le2 s2 f2 => ?_
  have ic : IsCert h2 (.agg #[.int .i64 0, .int .i64 3, .slice (some ⟨b1, 0, none⟩) 3 3, .slice (some ⟨b2, 0, none⟩) 1 1]) c0 :=
    ⟨_, _, rfl, ⟨s2, by decide⟩, ⟨s1.up le2, by decide⟩, by decide, by decide, by decide, by decide⟩
  refine Spec.ap (sign_any _ 2 ic (by decide) fun h3 r le3 i3 ap => ?_)
  simp only [sign_c0] at i3 ⊢
  simp only [Ap, List.nil_append, List.cons_append] at ap
  obtain ⟨a3, _⟩ := ap
  have i3' := i3
  obtain ⟨sv, bv, rfl, hs, hb, _⟩ := i3
  have os := hs.open
  obtain ⟨a', ca', rfl, _⟩ := os
  have ob := hb.open
  obtain ⟨b', cb', rfl, _, _, _, hcy⟩ := ob
  simp -dsimp -implicitDefEqProofs (disch := first | with_reducible assumption | omega) [go_sem]
  refine xnew fun b4 n_b4 h_b4 => ?_
  try simp only [Apart] at n_b4
  simp -dsimp -implicitDefEqProofs (disch := first | with_reducible assumption | omega) [go_sem]
  refine final_any _ (ic.up le3) ?_
  rw [fin_c0]
  simp -dsimp -implicitDefEqProofs (disch := first | with_reducible assumption | omega) [go_sem]
  refine final_any _ i3' ?_
  rw [fin_c1]
  have e0 : c1.bs.length = 1 := rfl
  have e1 : at0 c1.bs 0 = 7 := rfl
  have hcy' : ∀ j, j < 1 → elemCell h3 b' j = some (Value.int IntKind.u8 (at0 c1.bs j)) := hcy
  simp -dsimp -implicitDefEqProofs (disch := first | with_reducible assumption | omega) [go_sem, idx hcy', e0, e1]
  exact fin_tail (fin_tail (fin_here (hk h3 (le1.trans (le2.trans le3)))))
theorem and_sgn (c : CertD) : (fun i : Nat => getB c.bs i && getB c.bs i) = sgn c := by
  funext i; simp [sgn]
end Go.X
