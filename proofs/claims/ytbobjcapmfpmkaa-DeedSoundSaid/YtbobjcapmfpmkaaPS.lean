/- The contract of the law DeedSound. Conditions: the value reads as bytes. -/
import Derived.Test.YtbobjcapmfpmkaaPlainV
set_option linter.unusedVariables false
set_option linter.unusedSimpArgs false
namespace Go.X
open Go.RowKit Go.Proofs Go.Bl
variable {L : Own} {h : PH} {K : PK}
set_option maxHeartbeats 4000000 in
set_option maxRecDepth 20000 in
theorem deedsound_any {xs : List Int} (v : Value) (hx : Ints h .u8 v xs) (hk : ∀ h', PH.le h h' → K (.bool true) L h') : Spec Try.prog 12 [v] L h K := by
  have hz := byte_of hx
  have hx0 := hx
  have ox := hx.open
  obtain ⟨x1, y1, rfl, _⟩ := ox
  refine x_enter Try.func12 rfl (rs := [_]) rfl rfl mixed (by kernel_rfl) rfl rfl ?_
  simp -dsimp -implicitDefEqProofs (disch := first | with_reducible assumption | omega) [go_sem]
  refine Spec.ap (awake8_any fun h2 le2 ap => ?_)
  simp -dsimp -implicitDefEqProofs (disch := first | with_reducible assumption | omega) [go_sem]
  by_cases c1 : (xs.length : Int) > 2000
  · simp -dsimp -implicitDefEqProofs (disch := first | with_reducible assumption | omega) [go_sem]
    exact fin_here (hk h2 le2)
  simp -dsimp -implicitDefEqProofs (disch := first | with_reducible assumption | omega) [go_sem]
  refine Spec.ap (ddec_any _ (hx0.up le2) (by omega) fun h3 bv le3 hb3 ap => ?_)
  obtain ⟨d, e, hd⟩ : ∃ d e, ddec xs = (d, e) := ⟨_, _, rfl⟩
  rw [hd] at hb3 ⊢
  simp only at hb3 ⊢
  have ob := hb3.open
  obtain ⟨x2, y2, rfl, _⟩ := ob
  simp -dsimp -implicitDefEqProofs (disch := first | with_reducible assumption | omega) [go_sem]
  refine xnew fun b1 n_b1 h_b1 => ?_
  try simp only [Apart] at n_b1
  simp -dsimp -implicitDefEqProofs (disch := first | with_reducible assumption | omega) [go_sem]
  by_cases he : e = 0
  rotate_left
  · have hn := ddec_none (xs := xs) (by rw [hd]; exact he)
    rw [hd] at hn
    simp only at hn
    subst hn
    simp -dsimp -implicitDefEqProofs (disch := first | with_reducible assumption | omega) [go_sem]
    refine plain8_any (d := zeroD) _ hb3 ?_
    simp -dsimp -implicitDefEqProofs (disch := first | with_reducible assumption | omega) [go_sem]
    refine likeD_any zeroD _ _ hb3 (nil_ints _ .u8) ?_
    simp -dsimp -implicitDefEqProofs (disch := first | with_reducible assumption | omega) [go_sem]
    exact fin_tail (fin_here (hk h3 (le2.trans le3)))
  subst he
  obtain ⟨hr, ok, hen⟩ := ddec_sound hz (by rw [hd])
  rw [hd] at hr ok hen
  simp only at hr ok hen
  have hdd : IsDeed h3 (.slice x2 d.bits.length y2) d := ⟨hb3, ok⟩
  simp -dsimp -implicitDefEqProofs (disch := first | with_reducible assumption | omega) [go_sem]
  refine Spec.ap (denc_any _ hdd fun h4 r le4 hr4 ap => ?_)
  obtain ⟨q4, _⟩ := ap
  rw [hr, hen] at hr4
  rw [hr]
  simp only [if_true] at hr4 ⊢
  have hr4' := hr4
  have or4 := hr4.open
  obtain ⟨x3, y3, rfl, _⟩ := or4
  simp -dsimp -implicitDefEqProofs (disch := first | with_reducible assumption | omega) [go_sem]
  refine dright_any _ (hdd.up le4) fun h5 le5 => ?_
  rw [hr]
  simp -dsimp -implicitDefEqProofs (disch := first | with_reducible assumption | omega) [go_sem]
  refine same8 _ _ (hx0.up (le2.trans (le3.trans (le4.trans le5)))) (hr4'.up le5) ?_
  rw [decide_eq_true rfl]
  simp -dsimp -implicitDefEqProofs (disch := first | with_reducible assumption | omega) [go_sem]
  exact fin_tail (fin_here (hk h5 (le2.trans (le3.trans (le4.trans le5)))))
end Go.X
