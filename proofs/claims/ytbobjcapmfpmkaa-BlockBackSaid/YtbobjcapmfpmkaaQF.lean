/- The contract of the law BlockBack. Conditions: the values read as a list of deeds, as bytes. -/
import Derived.Test.YtbobjcapmfpmkaaQE
set_option linter.unusedVariables false
set_option linter.unusedSimpArgs false
namespace Go.X
open Go.RowKit Go.Proofs Go.Bl
variable {L : Own} {h : PH} {K : PK}
theorem bencA_ok {l : List DeedD} (ha : AllR l) (hl : l.length ≤ 64) : bencA l = (0, 0) := by
  rw [bencA, if_neg (by omega), goodN_all (fun d hd => (ha d hd).2), if_neg (by omega)]
theorem goodN_right : ∀ {l : List DeedD}, l.length ≤ goodN l → ∀ d ∈ l, rightD d = true
  | [], _, d, hd => by cases hd
  | x :: l, h, d, hd => by
    cases hx : rightD x with
    | false => simp [goodN, List.takeWhile_cons, hx] at h
    | true =>
      rcases List.mem_cons.1 hd with rfl | hd
      · exact hx
      · exact goodN_right (l := l) (by simpa [goodN, List.takeWhile_cons, hx] using h) d hd
theorem bencA_zero {l : List DeedD} (h : (bencA l).2 = 0) : l.length ≤ 64 ∧ ∀ d ∈ l, rightD d = true := by
  simp only [bencA] at h
  split at h
  · simp at h
  split at h
  · simp at h
  · exact ⟨by omega, goodN_right (by omega)⟩
set_option maxHeartbeats 8000000 in
set_option maxRecDepth 20000 in
theorem blockback_any {xs : List Int} (v u : Value) (cut : Int) (hq : ∃ l, Deeds h v l) (hx0 : Ints h .u8 u xs) (hi0 : -9223372036854775808 ≤ cut ∧ cut ≤ 9223372036854775807) (hk : ∀ h', PH.le h h' → K (.bool true) L h') : Spec Try.prog 13 [v, u, .int .i64 cut] L h K := by
  obtain ⟨l, hd0⟩ := hq
  have hz := byte_of hx0
  obtain ⟨a, c, rfl, hc, hl, _, hd⟩ := hd0.open
  have ox := hx0.open
  obtain ⟨xa, xc, rfl, _, hxl, _⟩ := ox
  refine x_enter Try.func13 rfl (rs := [_]) rfl rfl mixed (by kernel_rfl) rfl rfl ?_
  simp -dsimp -implicitDefEqProofs (disch := first | with_reducible assumption | omega) [go_sem]
  refine awake9_any fun h2 le2 => ?_
  simp -dsimp -implicitDefEqProofs (disch := first | with_reducible assumption | omega) [go_sem]
  refine few9_any _ 70 (hd.up le2) ?_
  cases hf : fewL (dl l) 70 with
  | false =>
    simp -dsimp -implicitDefEqProofs (disch := first | with_reducible assumption | omega) [go_sem]
    exact fin_here (hk h2 le2)
  | true =>
  have hl70 := (fewL_iff.1 hf).2
  rw [dl_len] at hl70
  by_cases c1 : (xs.length : Int) > 5000
  · simp -dsimp -implicitDefEqProofs (disch := first | with_reducible assumption | omega) [go_sem]
    exact fin_here (hk h2 le2)
  by_cases c2 : cut < 0
  · simp -dsimp -implicitDefEqProofs (disch := first | with_reducible assumption | omega) [go_sem]
    exact fin_here (hk h2 le2)
  simp -dsimp -implicitDefEqProofs (disch := first | with_reducible assumption | omega) [go_sem]
  refine benc_any _ (hd.up le2) fun h3 r le3 hr3 => ?_
  obtain ⟨p3, e3, hb3⟩ : ∃ p e, bencA (dl l) = (p, e) := ⟨_, _, rfl⟩
  rw [hb3] at hr3 ⊢
  by_cases c3 : e3 = 0
  rotate_left
  · rw [if_neg c3] at hr3
    subst hr3
    simp -dsimp -implicitDefEqProofs (disch := first | with_reducible assumption | omega) [go_sem]
    refine bdec_any (xs := xs) _ (hx0.up (le2.trans le3)) fun h16 r16 l16 le16 hd16 hl16 => ?_
    obtain ⟨a16, c16, rfl, _, _, _, hd16⟩ := hd16.open
    obtain ⟨w16, p16, e16, hb16⟩ : ∃ w p e, bdec xs = (w, p, e) := ⟨_, _, _, rfl⟩
    rw [hb16] at hl16 ⊢
    by_cases ce : e16 = 0
    rotate_left
    · have hn := bdec_none (xs := xs) (by rw [hb16]; exact ce)
      rw [hb16] at hn
      simp only at hn hl16
      rw [hn] at hl16
      have hl0 : l16.length = 0 := by rw [← dl_len, hl16]; rfl
      simp -dsimp -implicitDefEqProofs (disch := first | with_reducible assumption | omega) [go_sem, hl0]
      exact fin_here (hk h16 ((le2.trans le3).trans le16))
    · subst ce
      obtain ⟨q1, q2, q3⟩ := bdec_sound hz (by rw [hb16])
      rw [hb16] at q1 q2 q3
      simp only at q1 q2 q3 hl16
      rw [← hl16] at q1 q2 q3
      have eA16 := bencA_ok q1 q2
      simp -dsimp -implicitDefEqProofs (disch := first | with_reducible assumption | omega) [go_sem]
      refine benc_any _ hd16 fun h17 r17 le17 hr17 => ?_
      rw [eA16, if_pos rfl, q3] at hr17
      rw [eA16]
      have hr17' := hr17
      have or17 := hr17.open
      obtain ⟨x17, y17, rfl, _⟩ := or17
      simp -dsimp -implicitDefEqProofs (disch := first | with_reducible assumption | omega) [go_sem]
      refine same8 _ _ hr17' (hx0.up ((le2.trans le3).trans (le16.trans le17))) ?_
      rw [decide_eq_true rfl]
      simp -dsimp -implicitDefEqProofs (disch := first | with_reducible assumption | omega) [go_sem]
      exact fin_here (hk h17 ((le2.trans le3).trans (le16.trans le17)))
  subst c3
  obtain ⟨l64, hr⟩ := bencA_zero (l := dl l) (by rw [hb3])
  have hAll : AllR (dl l) := fun d hdm => by
    refine ⟨?_, hr d hdm⟩
    obtain ⟨q, hq, rfl⟩ := List.mem_map.1 hdm
    exact (hd.d q hq).ok
  rw [if_pos rfl] at hr3
  have hlen := encB_len hAll l64
  have hr3' := hr3
  have or3 := hr3.open
  obtain ⟨x3, y3, rfl, hy3, _⟩ := or3
  simp -dsimp -implicitDefEqProofs (disch := first | with_reducible assumption | omega) [go_sem]
  refine bdec_any _ hr3' fun h4 r4 l4 le4 hd4 hl4 => ?_
  rw [bdec_enc hAll l64] at hl4 ⊢
  simp only at hl4
  obtain ⟨a4, c4, rfl, _, _, _, hd4⟩ := hd4.open
  have hm1 : 0 ≤ cut % ((encB (dl l)).length : Int) := Int.emod_nonneg _ (by omega)
  have hm2 : cut % ((encB (dl l)).length : Int) < (encB (dl l)).length := Int.emod_lt_of_pos _ (by omega)
  simp -dsimp -implicitDefEqProofs (disch := first | with_reducible assumption | omega) [go_sem]
  obtain ⟨j, hj⟩ : ∃ j, j = (cut % ((encB (dl l)).length : Int)).toNat := ⟨_, rfl⟩
  rw [← hj]
  refine bdec_any _ ((hr3'.up le4).take j (by omega)) fun h5 r5 l5 le5 hd5 hl5 => ?_
  rw [bdec_cut hAll l64 j (by omega)]
  obtain ⟨a5, c5, rfl, _, _, _, hd5⟩ := hd5.open
  simp -dsimp -implicitDefEqProofs (disch := first | with_reducible assumption | omega) [go_sem]
  refine plain9_any _ (hd4.up le5) (by rw [← dl_len, hl4, dl_len]; omega) fun h6 r6 le6 hd6 => ?_
  obtain ⟨a6, c6, rfl, _, _, _, hd6⟩ := hd6.open
  simp -dsimp -implicitDefEqProofs (disch := first | with_reducible assumption | omega) [go_sem]
  refine plain9_any _ (hd.up (le2.trans (le3.trans (le4.trans (le5.trans le6))))) (by omega) fun h7 r7 le7 hd7 => ?_
  obtain ⟨a7, c7, rfl, _, _, _, hd7⟩ := hd7.open
  simp -dsimp -implicitDefEqProofs (disch := first | with_reducible assumption | omega) [go_sem]
  refine same9_like _ _ (hd6.up le7) hd7 hl4 ?_
  simp -dsimp -implicitDefEqProofs (disch := first | with_reducible assumption | omega) [go_sem]
  refine bdec_any (xs := xs) _ (hx0.up (le2.trans (le3.trans (le4.trans (le5.trans (le6.trans le7)))))) fun h16 r16 l16 le16 hd16 hl16 => ?_
  obtain ⟨a16, c16, rfl, _, _, _, hd16⟩ := hd16.open
  obtain ⟨w16, p16, e16, hb16⟩ : ∃ w p e, bdec xs = (w, p, e) := ⟨_, _, _, rfl⟩
  rw [hb16] at hl16 ⊢
  by_cases ce : e16 = 0
  rotate_left
  · have hn := bdec_none (xs := xs) (by rw [hb16]; exact ce)
    rw [hb16] at hn
    simp only at hn hl16
    rw [hn] at hl16
    have hl0 : l16.length = 0 := by rw [← dl_len, hl16]; rfl
    simp -dsimp -implicitDefEqProofs (disch := first | with_reducible assumption | omega) [go_sem, hl0]
    exact fin_here (hk h16 ((le2.trans (le3.trans (le4.trans (le5.trans (le6.trans le7))))).trans le16))
  · subst ce
    obtain ⟨q1, q2, q3⟩ := bdec_sound hz (by rw [hb16])
    rw [hb16] at q1 q2 q3
    simp only at q1 q2 q3 hl16
    rw [← hl16] at q1 q2 q3
    have eA16 := bencA_ok q1 q2
    simp -dsimp -implicitDefEqProofs (disch := first | with_reducible assumption | omega) [go_sem]
    refine benc_any _ hd16 fun h17 r17 le17 hr17 => ?_
    rw [eA16, if_pos rfl, q3] at hr17
    rw [eA16]
    have hr17' := hr17
    have or17 := hr17.open
    obtain ⟨x17, y17, rfl, _⟩ := or17
    simp -dsimp -implicitDefEqProofs (disch := first | with_reducible assumption | omega) [go_sem]
    refine same8 _ _ hr17' (hx0.up ((le2.trans (le3.trans (le4.trans (le5.trans (le6.trans le7))))).trans (le16.trans le17))) ?_
    rw [decide_eq_true rfl]
    simp -dsimp -implicitDefEqProofs (disch := first | with_reducible assumption | omega) [go_sem]
    exact fin_here (hk h17 ((le2.trans (le3.trans (le4.trans (le5.trans (le6.trans le7))))).trans (le16.trans le17)))
end Go.X
