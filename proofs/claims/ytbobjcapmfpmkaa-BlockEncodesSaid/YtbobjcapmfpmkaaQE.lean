/- The contract of the law BlockBack. Conditions: the values read as a list of deeds, as bytes. -/
import Derived.Test.YtbobjcapmfpmkaaQD
set_option linter.unusedVariables false
set_option linter.unusedSimpArgs false
namespace Go.X
open Go.RowKit Go.Proofs Go.Bl
variable {L : Own} {h : PH} {K : PK}
theorem sixteen : bdec [1, 4, 1, 3] = ([leaveD], 0, 0) := by kernel_rfl
set_option maxHeartbeats 1600000 in
set_option maxRecDepth 20000 in
theorem awake9_any (hk : ∀ h', PH.le h h' → K (.bool true) L h') : Spec Try.prog 57 [] L h K := by
  have en : encB (dl []) = [0] := by simp [encB, dl, encL, formN_lt]
  have ea : bencA (dl []) = (0, 0) := by kernel_rfl
  refine x_enter Try.func57 rfl (rs := [_]) rfl rfl mixed (by kernel_rfl) rfl rfl ?_
  simp -dsimp -implicitDefEqProofs (disch := first | with_reducible assumption | omega) [go_sem]
  refine benc_any (l := []) _ (Deeds.nil h) fun h2 r le2 hr2 => ?_
  rw [ea, if_pos rfl, en] at hr2
  rw [ea]
  have hr2' := hr2
  have or2 := hr2.open
  obtain ⟨x1, y1, rfl, _, _, _, hc1⟩ := or2
  simp -dsimp -implicitDefEqProofs (disch := first | with_reducible assumption | omega) [go_sem]
  refine xnew fun b1 n_b1 h_b1 => ?_
  try simp only [Apart] at n_b1
  simp -dsimp -implicitDefEqProofs (disch := first | with_reducible assumption | omega) [go_sem]
  refine call_pub_at (sz := 1) (n := 4) (cap := 4) [] ⟨Nat.le_refl _, by decide⟩ rfl (by decide) h_b1 fun h3 le3 s3 f3 => ?_
  simp only [List.nil_append]
  refine bdec_any (xs := [1, 4, 1, 3]) _ ⟨s3, by decide⟩ fun h4 r l le4 hd4 hl4 => ?_
  rw [sixteen] at hl4 ⊢
  have hn : l.length = 1 := by rw [← dl_len, hl4]; rfl
  have hg : (gq l 0).2 = leaveD := by
    have := dl_gq (l := l) (k := 0) (by omega)
    rw [hl4] at this
    simpa using this.symm
  obtain ⟨a, c, rfl, hc, _, _, hd⟩ := hd4.open
  have hc1' : ∀ j, j < 1 → elemCell h4 x1 j = some (.int .u8 0) := fun j hj => by
    have := hc1 j (by simpa using hj)
    have e : j = 0 := by omega
    subst e
    exact elemCell_up (le3.trans le4) this
  have hq2 : (qC (gq l 0))[2]? = some (.int .i64 3) := by rw [qC, hg]; rfl
  have hne : a ≠ none := fun e => by
    have := hd.cell (i := 0) (m := 2) (by omega) (by decide)
    rw [hq2, e] at this
    simp [elemCell] at this
  have hf : ∀ (L : Own) (K : Value → Prop) (t : Tok K), xCell L h4 (elem a 2) 0 K t = K (.int .i64 3) := fun L K t => by
    have := hd.fld (j := 0) (o := 2) (by omega) hq2 L K t
    simpa using this
  simp -dsimp -implicitDefEqProofs (disch := first | with_reducible assumption | omega) [go_sem, hn, idx hc1', ↓idxD hd, xAddO_elem hne, xPtr_elem hne, hf]
  exact fin_here (hk h4 (le2.trans (le3.trans le4)))
end Go.X
