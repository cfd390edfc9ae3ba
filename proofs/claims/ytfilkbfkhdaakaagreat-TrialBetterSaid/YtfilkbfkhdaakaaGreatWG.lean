/- Contracts of certificates' weights: signed, weigh, Weight, Final of package cert; Weight of bullionref40; Plain, few of bullionlaw40. Conditions: the values read as certificates; for weights: right ones. -/
import Derived.Test.YtfilkbfkhdaakaaGreatWF
import Derived.Test.YtfilkbfkhdaakaaGreatWA
import Derived.Test.YtfilkbfkhdaakaaGreatWD
set_option linter.unusedVariables false
set_option linter.unusedSimpArgs false
namespace Go.X
open Go.RowKit Go.Proofs Go.Bl
variable {L : Own} {h : PH} {K : PK}

theorem IsCert.range {v : Value} {c : CertD} (hc : IsCert h v c) (i : Nat) : 0 ≤ at0 c.st i ∧ at0 c.st i ≤ 18446744073709551615 := by
  obtain ⟨_, _, _, hs, _⟩ := hc; exact hs.word i
theorem signed_any {c : CertD} (v : Value) (i : Int) (hc : IsCert h v c) (hi : i ≤ 9223372036854775807) (hk : K (.bool (getB c.bs i)) L h) : Spec Tryz.prog 247 [v, .int .i64 i] L h K := by
  obtain ⟨sv, bv, rfl, hs, hb, r1, r2, r3, r4⟩ := hc
  obtain ⟨a, ca, rfl, hna, hca, _, hcx⟩ := hs.open
  obtain ⟨b, cb, rfl, hnb, hcb, _, hcy⟩ := hb.open
  refine x_enter Tryz.func247 rfl (rs := [_]) rfl rfl mixed (by kernel_rfl) rfl rfl ?_
  simp -dsimp -implicitDefEqProofs (disch := first | with_reducible assumption | omega) [go_sem]
  refine xnew fun b1 n_b1 h_b1 => ?_
  try simp only [Apart] at n_b1
  simp -dsimp -implicitDefEqProofs (disch := first | with_reducible assumption | omega) [go_sem]
  refine get_any _ _ hb hi ?_
  simp -dsimp -implicitDefEqProofs (disch := first | with_reducible assumption | omega) [go_sem]
  exact fin_tail (fin_here hk)
theorem all_any (i : Int) (hk : K (.bool true) L h) : Spec Tryz.prog 248 [.int .i64 i] L h K := by
  refine x_enter Tryz.func248 rfl (rs := [_]) rfl rfl mixed (by kernel_rfl) rfl rfl ?_
  simp -dsimp -implicitDefEqProofs (disch := first | with_reducible assumption | omega) [go_sem]
  exact fin_here hk
set_option maxRecDepth 20000 in
theorem weigh_any {c : CertD} (v fv : Value) (f : Nat → Bool) (hc : IsCert h v c) (hr : rightC c = true) (h1 : fv.oneCell' = true)
    (hf : ∀ b cs, Apart b L → h b = noC → ∀ i : Nat, i < c.st.length → ∀ K : PK, K (.bool (f i)) (⟨b, 36, cs, 4⟩ :: L) h → xCallV Tryz.prog fv [.int .i64 i] (⟨b, 36, cs, 4⟩ :: L) h K)
    (hk : K (.int .u64 (wsum c.st f c.st.length)) L h) : Spec Tryz.prog 246 [v, fv] L h K := by
  have hw := wsum_bound hr (fun i => (hc.range i).1) f
  have hhd := headC_facts (rightC_head hr)
  obtain ⟨sv, bv, rfl, hs, hb, r1, r2, r3, r4⟩ := hc
  have hsd := hs.word
  obtain ⟨a, ca, rfl, hna, hca, _, hcx⟩ := hs.open
  obtain ⟨b, cb, rfl, hnb, hcb, _, hcy⟩ := hb.open
  refine x_enter Tryz.func246 rfl (rs := [_]) rfl rfl mixed (by kernel_rfl) rfl rfl ?_
  simp -dsimp -implicitDefEqProofs (disch := first | with_reducible assumption | omega) [go_sem]
  refine xnew fun b1 n_b1 h_b1 => ?_
  try simp only [Apart] at n_b1
  simp -dsimp -implicitDefEqProofs (disch := first | with_reducible assumption | omega) [go_sem]
  refine xloop' (0 : Nat) (fun k => k ≤ c.st.length) (fun k => [(11, .int .i64 k), (5, .int .u64 (wsum c.st f k)), (9, .slice a c.st.length ca), (10, .int .i64 c.st.length), (1, fv)]) (fun k => c.st.length - k) ?_ ?_ ?_
  · exact Nat.zero_le _
  · simp [Ent, List.lookup, xEnv, wsum]
  intro k k1
  have hw1 := hw k k1
  simp -dsimp -implicitDefEqProofs (disch := first | with_reducible assumption | omega) [go_sem]
  refine xif_dec (fun d1 => ?_) (fun d1 => ?_)
  · have hw2 := hw (k + 1) (by omega)
    have hsk := hsd k
    simp -dsimp -implicitDefEqProofs (disch := first | with_reducible assumption | omega) [go_sem, idx hcx]
    refine Or.inl (hf b1 _ n_b1 h_b1 k (by omega) _ ?_)
    have e : wsum c.st f (k + 1) = wsum c.st f k + if f k then at0 c.st k else 0 := rfl
    cases hfk : f k with
    | true =>
      rw [hfk, if_pos rfl] at e
      simp -dsimp -implicitDefEqProofs (disch := first | with_reducible assumption | omega) [go_sem]
      exact ⟨k + 1, by omega, by omega, by simp [Ent, List.lookup, e], Drop.refl _ _⟩
    | false =>
      rw [hfk, if_neg (by decide), Int.add_zero] at e
      simp -dsimp -implicitDefEqProofs (disch := first | with_reducible assumption | omega) [go_sem]
      exact ⟨k + 1, by omega, by omega, by simp [Ent, List.lookup, e], Drop.refl _ _⟩
  · rw [show c.st.length = k by omega] at hk
    simp -dsimp -implicitDefEqProofs (disch := first | with_reducible assumption | omega) [go_sem]
    exact fin_tail (fin_here hk)
/-- whose bit is 1 -/
def sgn (c : CertD) (i : Nat) : Bool := getB c.bs i
def pres (c : CertD) : Int := wsum c.st (sgn c) c.st.length
def actv (c : CertD) : Int := wsum c.st (fun _ => true) c.st.length
theorem weight_any {c : CertD} (v : Value) (hc : IsCert h v c) (hk : K (if rightC c then .tuple #[.int .u64 (pres c), .int .u64 (actv c), .int .i64 0] else .tuple #[.int .u64 0, .int .u64 0, .int .i64 2]) L h) : Spec Tryz.prog 168 [v] L h K := by
  have hc0 := hc
  obtain ⟨sv, bv, rfl, hs, hb, r1, r2, r3, r4⟩ := hc
  obtain ⟨a, ca, rfl, hna, hca, _, hcx⟩ := hs.open
  obtain ⟨b, cb, rfl, hnb, hcb, _, hcy⟩ := hb.open
  refine x_enter Tryz.func168 rfl (rs := [_, _, _]) rfl rfl mixed (by kernel_rfl) rfl rfl ?_
  simp -dsimp -implicitDefEqProofs (disch := first | with_reducible assumption | omega) [go_sem]
  refine xnew fun b1 n_b1 h_b1 => ?_
  try simp only [Apart] at n_b1
  simp -dsimp -implicitDefEqProofs (disch := first | with_reducible assumption | omega) [go_sem]
  refine check_any _ hc0 ?_
  cases hr : rightC c with
  | false =>
    rw [hr] at hk
    simp -dsimp -implicitDefEqProofs (disch := first | with_reducible assumption | omega) [go_sem]
    exact fin_tail (fin_here hk)
  | true =>
    rw [hr] at hk
    simp -dsimp -implicitDefEqProofs (disch := first | with_reducible assumption | omega) [go_sem]
    refine xdraw (by kernel_rfl) rfl ?_
    simp -dsimp -implicitDefEqProofs (disch := first | with_reducible assumption | omega) [go_sem]
    refine xdcall _ (weigh_any _ _ (sgn c) hc0 hr rfl (fun b' cs _ _ i hi K hk => ?_) ⟨rfl, rfl, rfl⟩) ?_
    · simp -dsimp -implicitDefEqProofs (disch := first | with_reducible assumption | omega) [go_sem]
      exact signed_any _ _ hc0 (by have := hs.open; omega) hk
    simp -dsimp -implicitDefEqProofs (disch := first | with_reducible assumption | omega) [go_sem]
    refine xdcall _ (weigh_any _ _ (fun _ => true) hc0 hr rfl (fun b' cs _ _ i hi K hk => ?_) ⟨rfl, rfl, rfl⟩) ?_
    · simp -dsimp -implicitDefEqProofs (disch := first | with_reducible assumption | omega) [go_sem]
      exact all_any _ hk
    simp -dsimp -implicitDefEqProofs (disch := first | with_reducible assumption | omega) [go_sem]
    exact fin_tail (fin_here hk)
theorem wsum_le {c : CertD} {v : Value} (hc : IsCert h v c) (hr : rightC c = true) (f : Nat → Bool) : 0 ≤ wsum c.st f c.st.length ∧ wsum c.st f c.st.length ≤ 140737488355328 := by
  have h1 := wsum_bound hr (fun i => (hc.range i).1) f c.st.length (Nat.le_refl _)
  have h2 := headC_facts (rightC_head hr)
  omega
/-- enough have signed -/
def finC (c : CertD) : Bool := rightC c && (decide (0 < actv c) && decide (2 * actv c < 3 * pres c))
theorem final_any {c : CertD} (v : Value) (hc : IsCert h v c) (hk : K (.bool (finC c)) L h) : Spec Tryz.prog 60 [v] L h K := by
  have hc0 := hc
  obtain ⟨sv, bv, rfl, hs, hb, r1, r2, r3, r4⟩ := hc
  obtain ⟨a, ca, rfl, hna, hca, _, hcx⟩ := hs.open
  obtain ⟨b, cb, rfl, hnb, hcb, _, hcy⟩ := hb.open
  refine x_enter Tryz.func60 rfl (rs := [_]) rfl rfl mixed (by kernel_rfl) rfl rfl ?_
  simp -dsimp -implicitDefEqProofs (disch := first | with_reducible assumption | omega) [go_sem]
  refine xnew fun b1 n_b1 h_b1 => ?_
  try simp only [Apart] at n_b1
  simp -dsimp -implicitDefEqProofs (disch := first | with_reducible assumption | omega) [go_sem]
  refine weight_any _ hc0 ?_
  cases hr : rightC c with
  | false =>
    rw [show finC c = false by simp [finC, hr]] at hk
    simp only [Bool.false_eq_true, if_false]
    simp -dsimp -implicitDefEqProofs (disch := first | with_reducible assumption | omega) [go_sem]
    exact fin_tail (fin_here hk)
  | true =>
    have w1 := wsum_le hc0 hr (sgn c)
    have w2 := wsum_le hc0 hr (fun _ => true)
    rw [show finC c = (decide (0 < actv c) && decide (2 * actv c < 3 * pres c)) by simp [finC, hr]] at hk
    simp only [if_true]
    simp -dsimp -implicitDefEqProofs (disch := first | with_reducible assumption | omega) [go_sem]
    refine rtwo_any _ _ (by unfold pres; omega) (by unfold actv; omega) ?_
    simp -dsimp -implicitDefEqProofs (disch := first | with_reducible assumption | omega) [go_sem]
    exact fin_tail (fin_here (by simpa using hk))
theorem plain_any {c : CertD} (v : Value) (hc : IsCert h v c) (hk : K v L h) : Spec Tryz.prog 20 [v] L h K := by
  obtain ⟨sv, bv, rfl, hs, hb, r1, r2, r3, r4⟩ := hc
  obtain ⟨a, ca, rfl, hna, hca, _, hcx⟩ := hs.open
  obtain ⟨b, cb, rfl, hnb, hcb, _, hcy⟩ := hb.open
  refine x_enter Tryz.func20 rfl (rs := [_]) rfl rfl mixed (by kernel_rfl) rfl rfl ?_
  simp -dsimp -implicitDefEqProofs (disch := first | with_reducible assumption | omega) [go_sem]
  refine xnew fun b1 n_b1 h_b1 => ?_
  try simp only [Apart] at n_b1
  simp -dsimp -implicitDefEqProofs (disch := first | with_reducible assumption | omega) [go_sem]
  refine xnew fun b2 n_b2 h_b2 => ?_
  try simp only [Apart] at n_b2
  simp -dsimp -implicitDefEqProofs (disch := first | with_reducible assumption | omega) [go_sem]
  exact fin_tail (fin_tail (fin_here hk))
theorem few_any {c : CertD} (v : Value) (hc : IsCert h v c) (hk : K (.bool (decide ((c.st.length : Int) ≤ 300) && decide ((c.bs.length : Int) ≤ 100))) L h) : Spec Tryz.prog 15 [v] L h K := by
  obtain ⟨sv, bv, rfl, hs, hb, r1, r2, r3, r4⟩ := hc
  obtain ⟨a, ca, rfl, hna, hca, _, hcx⟩ := hs.open
  obtain ⟨b, cb, rfl, hnb, hcb, _, hcy⟩ := hb.open
  refine x_enter Tryz.func15 rfl (rs := [_]) rfl rfl mixed (by kernel_rfl) rfl rfl ?_
  simp -dsimp -implicitDefEqProofs (disch := first | with_reducible assumption | omega) [go_sem]
  refine xnew fun b1 n_b1 h_b1 => ?_
  try simp only [Apart] at n_b1
  simp -dsimp -implicitDefEqProofs (disch := first | with_reducible assumption | omega) [go_sem]
  by_cases d1 : (c.st.length : Int) ≤ 300
  · simp -dsimp -implicitDefEqProofs (disch := first | with_reducible assumption | omega) [go_sem]
    exact fin_tail (fin_here (by simpa [d1] using hk))
  · simp -dsimp -implicitDefEqProofs (disch := first | with_reducible assumption | omega) [go_sem]
    exact fin_tail (fin_here (by simpa [d1] using hk))
end Go.X
