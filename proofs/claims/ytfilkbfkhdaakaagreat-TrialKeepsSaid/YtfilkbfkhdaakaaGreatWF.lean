/- Contracts of certificates' checks: cert.Check, bullionref40.Right. Conditions: the value reads as a certificate. -/
import Derived.Test.YtfilkbfkhdaakaaGreatWA
import Derived.Test.YtfilkbfkhdaakaaGreatPlainA
set_option linter.unusedVariables false
set_option linter.unusedSimpArgs false
namespace Go.X
open Go.RowKit Go.Proofs Go.Bl
variable {L : Own} {h : PH} {K : PK}

def IsCert (h : PH) (v : Value) (c : CertD) : Prop :=
  ∃ sv bv, v = .agg #[.int .i64 c.ep, .int .i64 c.mem, sv, bv] ∧ Ints h .u64 sv c.st ∧ Ints h .u8 bv c.bs ∧ -9223372036854775808 ≤ c.ep ∧ c.ep ≤ 9223372036854775807 ∧ -9223372036854775808 ≤ c.mem ∧ c.mem ≤ 9223372036854775807
theorem IsCert.up {h h' : PH} (le : PH.le h h') {v : Value} {c : CertD} (hc : IsCert h v c) : IsCert h' v c := by
  obtain ⟨s, b, e, h1, h2, h3⟩ := hc
  exact ⟨s, b, e, h1.up le, h2.up le, h3⟩


set_option maxRecDepth 20000 in
theorem check_any {c : CertD} (v : Value) (hc : IsCert h v c) (hk : K (.int .i64 (if rightC c then 0 else 2)) L h) : Spec Tryz.prog 22 [v] L h K := by
  obtain ⟨sv, bv, rfl, hs, hb, r1, r2, r3, r4⟩ := hc
  have hsd := hs.word
  have hbd := hb.byte
  obtain ⟨a, ca, rfl, hna, hca, _, hcx⟩ := hs.open
  obtain ⟨b, cb, rfl, hnb, hcb, _, hcy⟩ := hb.open
  have bad : headC c = false → K (.int .i64 2) L h := fun e => by rw [rightC_nohead e] at hk; exact hk
  refine x_enter Tryz.func22 rfl (rs := [_]) rfl rfl mixed (by kernel_rfl) rfl rfl ?_
  simp -dsimp -implicitDefEqProofs (disch := first | with_reducible assumption | omega) [go_sem]
  refine xnew fun b1 n_b1 h_b1 => ?_
  try simp only [Apart] at n_b1
  simp -dsimp -implicitDefEqProofs (disch := first | with_reducible assumption | omega) [go_sem]
  by_cases c1 : c.ep < 0
  · simp -dsimp -implicitDefEqProofs (disch := first | with_reducible assumption | omega) [go_sem]
    exact fin_tail (fin_here (bad (by simp [headC]; omega)))
  by_cases c2 : 1073741824 < c.ep
  · simp -dsimp -implicitDefEqProofs (disch := first | with_reducible assumption | omega) [go_sem]
    exact fin_tail (fin_here (bad (by simp [headC]; omega)))
  by_cases c3 : c.mem < 0
  · simp -dsimp -implicitDefEqProofs (disch := first | with_reducible assumption | omega) [go_sem]
    exact fin_tail (fin_here (bad (by simp [headC]; omega)))
  by_cases c4 : 128 < c.mem
  · simp -dsimp -implicitDefEqProofs (disch := first | with_reducible assumption | omega) [go_sem]
    exact fin_tail (fin_here (bad (by simp [headC]; omega)))
  by_cases c5 : (c.st.length : Int) = c.mem
  · simp -dsimp -implicitDefEqProofs (disch := first | with_reducible assumption | omega) [go_sem]
    refine chk_any _ _ hb r3 r4 ?_
    simp -dsimp -implicitDefEqProofs (disch := first | with_reducible assumption | omega) [go_sem]
    rw [chk_right _ _ hbd]
    cases hr : rightB c.bs c.mem with
    | false =>
      simp -dsimp -implicitDefEqProofs (disch := first | with_reducible assumption | omega) [go_sem]
      exact fin_tail (fin_here (bad (by simp [headC, hr])))
    | true =>
      have hh : headC c = true := by simp [headC, hr]; omega
      simp -dsimp -implicitDefEqProofs (disch := first | with_reducible assumption | omega) [go_sem]
      refine xloop' (0 : Nat) (fun k => k ≤ c.st.length ∧ ∀ i, i < k → placeC c i = true) (fun k => [(42, .int .i64 k), (40, .slice a c.st.length ca), (41, .int .i64 c.st.length), (1, .pointer (some ⟨b1, 0, none⟩))]) (fun k => c.st.length - k) ?_ ?_ ?_
      · exact ⟨Nat.zero_le _, fun i hi => by omega⟩
      · simp [Ent, List.lookup]
      intro k ⟨k1, k2⟩
      simp -dsimp -implicitDefEqProofs (disch := first | with_reducible assumption | omega) [go_sem]
      refine xif_dec (fun d1 => ?_) (fun d1 => ?_)
      · have no : placeC c k = false → fin K (.int .i64 2) (⟨b1, 36, [.int .i64 c.ep, .int .i64 c.mem, .slice a c.st.length ca, .slice b c.bs.length cb], 4⟩ :: L) h := fun e => by
          rw [rightC_not k (by omega) e] at hk
          exact fin_tail (fin_here hk)
        have go : placeC c k = true → ∀ i, i < k + 1 → placeC c i = true := fun e i hi => by
          by_cases ei : i = k
          · subst ei; exact e
          · exact k2 i (by omega)
        have hsk := hsd k
        by_cases d2 : 1099511627776 < at0 c.st k
        · simp -dsimp -implicitDefEqProofs (disch := first | with_reducible assumption | omega) [go_sem, idx hcx]
          exact no (by simp [placeC]; omega)
        · by_cases d3 : at0 c.st k = 0
          · simp -dsimp -implicitDefEqProofs (disch := first | with_reducible assumption | omega) [go_sem, idx hcx]
            refine get_any _ _ hb (by omega) ?_
            simp -dsimp -implicitDefEqProofs (disch := first | with_reducible assumption | omega) [go_sem]
            cases hg : getB c.bs k with
            | true =>
              simp -dsimp -implicitDefEqProofs (disch := first | with_reducible assumption | omega) [go_sem]
              exact no (by simp [placeC, d3, hg])
            | false =>
              simp -dsimp -implicitDefEqProofs (disch := first | with_reducible assumption | omega) [go_sem]
              exact ⟨k + 1, ⟨by omega, go (by simp [placeC, hg]; omega)⟩, by omega, by simp [Ent, List.lookup], Drop.refl _ _⟩
          · simp -dsimp -implicitDefEqProofs (disch := first | with_reducible assumption | omega) [go_sem, idx hcx]
            exact ⟨k + 1, ⟨by omega, go (by simp [placeC, d3]; omega)⟩, by omega, by simp [Ent, List.lookup], Drop.refl _ _⟩
      · rw [rightC_of hh fun i hi => k2 i (by omega)] at hk
        simp -dsimp -implicitDefEqProofs (disch := first | with_reducible assumption | omega) [go_sem]
        exact fin_tail (fin_here hk)
  · simp -dsimp -implicitDefEqProofs (disch := first | with_reducible assumption | omega) [go_sem]
    exact fin_tail (fin_here (bad (by simp [headC]; omega)))

set_option maxRecDepth 20000 in
theorem right_any {c : CertD} (v : Value) (hc : IsCert h v c) (hk : K (.bool (rightC c)) L h) : Spec Tryz.prog 24 [v] L h K := by
  obtain ⟨sv, bv, rfl, hs, hb, r1, r2, r3, r4⟩ := hc
  have hsd := hs.word
  have hbd := hb.byte
  obtain ⟨a, ca, rfl, hna, hca, _, hcx⟩ := hs.open
  obtain ⟨b, cb, rfl, hnb, hcb, _, hcy⟩ := hb.open
  have bad : headC c = false → K (.bool false) L h := fun e => by rw [rightC_nohead e] at hk; exact hk
  refine x_enter Tryz.func24 rfl (rs := [_]) rfl rfl mixed (by kernel_rfl) rfl rfl ?_
  simp -dsimp -implicitDefEqProofs (disch := first | with_reducible assumption | omega) [go_sem]
  refine xnew fun b1 n_b1 h_b1 => ?_
  try simp only [Apart] at n_b1
  simp -dsimp -implicitDefEqProofs (disch := first | with_reducible assumption | omega) [go_sem]
  by_cases c1 : c.ep < 0
  · simp -dsimp -implicitDefEqProofs (disch := first | with_reducible assumption | omega) [go_sem]
    exact fin_tail (fin_here (bad (by simp [headC]; omega)))
  by_cases c2 : 1073741824 < c.ep
  · simp -dsimp -implicitDefEqProofs (disch := first | with_reducible assumption | omega) [go_sem]
    exact fin_tail (fin_here (bad (by simp [headC]; omega)))
  by_cases c3 : c.mem < 0
  · simp -dsimp -implicitDefEqProofs (disch := first | with_reducible assumption | omega) [go_sem]
    exact fin_tail (fin_here (bad (by simp [headC]; omega)))
  by_cases c4 : 128 < c.mem
  · simp -dsimp -implicitDefEqProofs (disch := first | with_reducible assumption | omega) [go_sem]
    exact fin_tail (fin_here (bad (by simp [headC]; omega)))
  by_cases c5 : (c.st.length : Int) = c.mem
  · simp -dsimp -implicitDefEqProofs (disch := first | with_reducible assumption | omega) [go_sem]
    refine rright_any _ _ hb r3 r4 ?_
    simp -dsimp -implicitDefEqProofs (disch := first | with_reducible assumption | omega) [go_sem]
    cases hr : rightB c.bs c.mem with
    | false =>
      simp -dsimp -implicitDefEqProofs (disch := first | with_reducible assumption | omega) [go_sem]
      exact fin_tail (fin_here (bad (by simp [headC, hr])))
    | true =>
      have hh : headC c = true := by simp [headC, hr]; omega
      simp -dsimp -implicitDefEqProofs (disch := first | with_reducible assumption | omega) [go_sem]
      refine xloop' (0 : Nat) (fun k => k ≤ c.st.length ∧ ∀ i, i < k → placeC c i = true) (fun k => [(3, .int .i64 k), (1, .pointer (some ⟨b1, 0, none⟩))]) (fun k => c.st.length - k) ?_ ?_ ?_
      · exact ⟨Nat.zero_le _, fun i hi => by omega⟩
      · simp [Ent, List.lookup]
      intro k ⟨k1, k2⟩
      simp -dsimp -implicitDefEqProofs (disch := first | with_reducible assumption | omega) [go_sem]
      refine xif_dec (fun d1 => ?_) (fun d1 => ?_)
      · have no : placeC c k = false → fin K (.bool false) (⟨b1, 53, [.int .i64 c.ep, .int .i64 c.mem, .slice a c.st.length ca, .slice b c.bs.length cb], 4⟩ :: L) h := fun e => by
          rw [rightC_not k (by omega) e] at hk
          exact fin_tail (fin_here hk)
        have go : placeC c k = true → ∀ i, i < k + 1 → placeC c i = true := fun e i hi => by
          by_cases ei : i = k
          · subst ei; exact e
          · exact k2 i (by omega)
        have hsk := hsd k
        by_cases d2 : 1099511627776 < at0 c.st k
        · simp -dsimp -implicitDefEqProofs (disch := first | with_reducible assumption | omega) [go_sem, idx hcx]
          exact no (by simp [placeC]; omega)
        · by_cases d3 : at0 c.st k = 0
          · simp -dsimp -implicitDefEqProofs (disch := first | with_reducible assumption | omega) [go_sem, idx hcx]
            refine rget_any _ _ hb (by omega) ?_
            simp -dsimp -implicitDefEqProofs (disch := first | with_reducible assumption | omega) [go_sem]
            cases hg : getB c.bs k with
            | true =>
              simp -dsimp -implicitDefEqProofs (disch := first | with_reducible assumption | omega) [go_sem]
              exact no (by simp [placeC, d3, hg])
            | false =>
              simp -dsimp -implicitDefEqProofs (disch := first | with_reducible assumption | omega) [go_sem]
              exact ⟨k + 1, ⟨by omega, go (by simp [placeC, hg]; omega)⟩, by omega, by simp [Ent, List.lookup], Drop.refl _ _⟩
          · simp -dsimp -implicitDefEqProofs (disch := first | with_reducible assumption | omega) [go_sem, idx hcx]
            exact ⟨k + 1, ⟨by omega, go (by simp [placeC, d3]; omega)⟩, by omega, by simp [Ent, List.lookup], Drop.refl _ _⟩
      · rw [rightC_of hh fun i hi => k2 i (by omega)] at hk
        simp -dsimp -implicitDefEqProofs (disch := first | with_reducible assumption | omega) [go_sem]
        exact fin_tail (fin_here hk)
  · simp -dsimp -implicitDefEqProofs (disch := first | with_reducible assumption | omega) [go_sem]
    exact fin_tail (fin_here (bad (by simp [headC]; omega)))
end Go.X
