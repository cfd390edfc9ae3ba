/- Contracts of bullionref01.Mul and bullionref02's Less, Two. Conditions: digits of at most some length; arguments of 64 bits. -/
import Derived.Test.YtbobjcapmfpmkaaWD
set_option linter.unusedVariables false
set_option linter.unusedSimpArgs false
namespace Go.X
open Go.RowKit Go.Proofs Go.Bl
variable {L : Own} {h : PH} {K : PK}

theorem digit_range {ds : List Int} (hd : Dg ds) : ∀ z ∈ ds, IntKind.i64.min ≤ z ∧ z ≤ IntKind.i64.max := by
  intro z hz
  obtain ⟨j, hj, rfl⟩ := List.mem_iff_getElem.1 hz
  have := hd j
  rw [at0_lt hj]
  simp only [IntKind.min, IntKind.max, IntKind.bits, IntKind.signed]
  simp
  omega
theorem pow_lt_pow {a b : Nat} {c x : Int} (hc : 0 < c) (hx : c * 10 ^ a ≤ x) (hy : x < 10 ^ b) : a < b := by
  by_cases e : a < b
  · exact e
  · exfalso
    have h1 : (10 : Int) ^ b ≤ 10 ^ a := by
      obtain ⟨m, rfl⟩ := Nat.exists_eq_add_of_le (show b ≤ a by omega)
      have h3 : (10 : Int) ^ b * 1 ≤ 10 ^ b * 10 ^ m := Int.mul_le_mul_of_nonneg_left (by have := p10 m; omega) (Int.le_of_lt (p10 b))
      rw [Int.pow_add]; omega
    have h2 : 1 * (10 : Int) ^ a ≤ c * 10 ^ a := Int.mul_le_mul_of_nonneg_right (by omega) (Int.le_of_lt (p10 a))
    omega
theorem mul_bound {ds es : List Int} (hd : Dg ds) (he : Dg es) (i : Nat) : 0 ≤ pv ds i * vl es ∧ pv ds i * vl es < 10 ^ (i + es.length) := by
  have h1 := pv_bound hd i
  have h2 := pv_bound he es.length
  have h3 := p10 es.length
  refine ⟨Int.mul_nonneg h1.1 h2.1, ?_⟩
  have h4 : pv ds i * vl es ≤ pv ds i * 10 ^ es.length := Int.mul_le_mul_of_nonneg_left (Int.le_of_lt h2.2) h1.1
  have h5 : pv ds i * 10 ^ es.length < 10 ^ i * 10 ^ es.length := Int.mul_lt_mul_of_pos_right h1.2 h3
  rw [Int.pow_add]
  omega
theorem step_eq (D c s p x y W T : Int) (hs : s = x + y + c) (h : D + c * p = W + T) : D + (s % 10 - x) * p + s / 10 * (p * 10) = W + (T + y * p) := by
  have e : s / 10 * (p * 10) = s / 10 * 10 * p := by rw [Int.mul_comm p 10, ← Int.mul_assoc]
  have e2 : (s % 10 - x) * p + s / 10 * 10 * p = (s % 10 - x + s / 10 * 10) * p := by rw [← Int.add_mul]
  have e3 : s % 10 - x + s / 10 * 10 = y + c := by omega
  rw [e]
  rw [e3, Int.add_mul] at e2
  omega
set_option maxRecDepth 20000 in
theorem mul_any {n m : Int} {k l : Nat} (v u : Value) (ha : Nt h v n k) (hb : Nt h u m l) (hkl : k + l ≤ 1000) (hk : ∀ h' r, PH.le h h' → Nt h' r (n * m) (k + l + 1) → K r L h') : Spec Try.prog 122 [v, u] L h K := by
  obtain ⟨s, ds, rfl, hs, hd, rfl, hdl⟩ := ha
  obtain ⟨r, es, rfl, hr, he, rfl, hel⟩ := hb
  obtain ⟨a, ca, rfl, hna, hca, _, hcx⟩ := hs.open
  obtain ⟨b, cb, rfl, hnb, hcb, _, hcy⟩ := hr.open
  refine x_enter Try.func122 rfl (rs := [_]) rfl rfl mixed (by kernel_rfl) rfl rfl ?_
  simp -dsimp -implicitDefEqProofs (disch := first | with_reducible assumption | omega) [go_sem]
  refine xnew fun b1 n_b1 h_b1 => ?_
  try simp only [Apart] at n_b1
  simp -dsimp -implicitDefEqProofs (disch := first | with_reducible assumption | omega) [go_sem]
  refine xnew fun b2 n_b2 h_b2 => ?_
  try simp only [Apart] at n_b2
  simp -dsimp -implicitDefEqProofs (disch := first | with_reducible assumption | omega) [go_sem]
  refine xnew fun b3 n_b3 h_b3 => ?_
  try simp only [Apart] at n_b3
  simp -dsimp -implicitDefEqProofs (disch := first | with_reducible assumption | omega) [go_sem]
  refine xMS_full (e := 3) (z := .int .i64 0) (by kernel_rfl) tI_3 rfl rfl .i64 .i64 _ (by omega) (by simp; omega) (by omega) ?_
  refine xnew fun b4 n_b4 h_b4 => ?_
  try simp only [Apart] at n_b4
  obtain ⟨N, hN⟩ : ∃ N, N = ds.length + es.length + 1 := ⟨_, rfl⟩
  have eN : ((ds.length : Int) + es.length + 1).toNat = N := by omega
  simp -dsimp -implicitDefEqProofs (disch := first | with_reducible assumption | omega) [go_sem]
  simp only [eN]
  refine xloop (γ := Nat × List Int) (0, List.replicate N 0)
    (fun s => s.1 ≤ ds.length ∧ s.2.length = N ∧ Dg s.2 ∧ vl s.2 = pv ds s.1 * vl es)
    (fun s => [(6, .int .i64 s.1), (5, .slice (some ⟨b4, 0, none⟩) N N), (4, .pointer (some ⟨b3, 0, none⟩)), (2, .pointer (some ⟨b1, 0, none⟩)), (3, .pointer (some ⟨b2, 0, none⟩))])
    (fun s => ⟨b4, 3, s.2.map (Value.int .i64), N⟩ :: ⟨b3, 177, [.slice none 0 0], 1⟩ :: ⟨b2, 177, [.slice b es.length cb], 1⟩ :: ⟨b1, 177, [.slice a ds.length ca], 1⟩ :: L)
    (fun _ => h) (fun s => ds.length - s.1) ?_ ?_ ?_ ?_
  · have z : ∀ j, at0 (List.replicate N 0) j = 0 := fun j => by
      simp only [at0, List.getD_eq_getElem?_getD, List.getElem?_replicate]
      split <;> rfl
    have z2 : ∀ k, pv (List.replicate N 0) k = 0 := fun k => by
      induction k with
      | zero => rfl
      | succ k ih => rw [pv, ih, z]; simp
    exact ⟨Nat.zero_le _, by simp, fun j => by rw [z]; omega, by rw [vl, z2]; simp [pv]⟩
  · simp [Ent, List.lookup]
  · rw [List.map_replicate]
    exact Drop.refl _ _
  rintro ⟨i, fs⟩ ⟨i1, i2, i3, i4⟩
  simp only at i1 i2 i3 i4
  simp -dsimp -implicitDefEqProofs (disch := first | with_reducible assumption | omega) [go_sem]
  refine xif_dec (fun c1 => ?_) (fun c1 => ?_)
  · simp -dsimp -implicitDefEqProofs (disch := first | with_reducible assumption | omega) [go_sem]
    refine xloop (γ := Nat × Int × List Int) (0, 0, fs)
      (fun s => s.1 ≤ es.length + 1 ∧ 0 ≤ s.2.1 ∧ s.2.1 ≤ 9 ∧ s.2.2.length = N ∧ Dg s.2.2 ∧ vl s.2.2 + s.2.1 * 10 ^ (i + s.1) = pv ds i * vl es + at0 ds i * pv es s.1 * 10 ^ i)
      (fun s => [(8, .int .i64 s.1), (7, .int .i64 s.2.1), (6, .int .i64 i), (5, .slice (some ⟨b4, 0, none⟩) N N), (4, .pointer (some ⟨b3, 0, none⟩)), (2, .pointer (some ⟨b1, 0, none⟩)), (3, .pointer (some ⟨b2, 0, none⟩))])
      (fun s => ⟨b4, 3, s.2.2.map (Value.int .i64), N⟩ :: ⟨b3, 177, [.slice none 0 0], 1⟩ :: ⟨b2, 177, [.slice b es.length cb], 1⟩ :: ⟨b1, 177, [.slice a ds.length ca], 1⟩ :: L)
      (fun _ => h) (fun s => es.length + 2 - s.1) ?_ ?_ ?_ ?_
    · exact ⟨Nat.zero_le _, Int.le_refl _, by simp, i2, i3, by simp only; rw [i4]; simp [pv]⟩
    · simp [Ent, List.lookup]
    · exact Drop.refl _ _
    rintro ⟨k', c, gs⟩ ⟨j1, j2, j3, j4, j5, j6⟩
    simp only at j1 j2 j3 j4 j5 j6
    have hp : pv ds (i + 1) = pv ds i + at0 ds i * 10 ^ i := rfl
    have hp2 : pv ds i * vl es + at0 ds i * vl es * 10 ^ i = pv ds (i + 1) * vl es := by
      rw [hp, Int.add_mul, Int.mul_assoc, Int.mul_assoc, Int.mul_comm (vl es)]
    by_cases c2 : (k' : Int) < es.length ∨ 0 < c
    · have hix : i + k' < N := by
        by_cases c3 : (k' : Int) < es.length
        · omega
        · rw [pv_more es k' (by omega), hp2] at j6
          have h1 := mul_bound hd he (i + 1)
          have h2 := vl_bound j5
          have := pow_lt_pow (a := i + k') (b := i + 1 + es.length) (c := c) (x := pv ds (i + 1) * vl es) (by omega) (by omega) h1.2
          omega
      have hk3 : k' ≤ es.length := by
        by_cases c3 : (k' : Int) < es.length
        · omega
        · rw [pv_more es k' (by omega), hp2] at j6
          have h1 := mul_bound hd he (i + 1)
          have h2 := vl_bound j5
          have := pow_lt_pow (a := i + k') (b := i + 1 + es.length) (c := c) (x := pv ds (i + 1) * vl es) (by omega) (by omega) h1.2
          omega
      have q1 := hd i
      have q2 := he k'
      have q3 := j5 (i + k')
      have q4 : 0 ≤ at0 ds i * at0 es k' ∧ at0 ds i * at0 es k' ≤ 81 := ⟨Int.mul_nonneg q1.1 q2.1, Int.le_trans (Int.mul_le_mul q1.2 q2.2 q2.1 (by decide)) (by decide)⟩
      have ej : ((i : Int) + (k' : Int)).toNat = i + k' := by omega
      obtain ⟨s, hs1⟩ : ∃ s, s = at0 gs (i + k') + at0 ds i * at0 es k' + c := ⟨_, rfl⟩
      have f1 : vl (gs.set (i + k') (s % 10)) + s / 10 * 10 ^ (i + (k' + 1)) = pv ds i * vl es + at0 ds i * pv es (k' + 1) * 10 ^ i := by
        rw [vl_set _ _ _ (by omega), ← Nat.add_assoc, Int.pow_succ, step_eq _ c s _ _ (at0 ds i * at0 es k') _ _ hs1 j6]
        have : pv es (k' + 1) = pv es k' + at0 es k' * 10 ^ k' := rfl
        rw [this, Int.mul_add, Int.add_mul, Int.pow_add]
        have e : at0 ds i * at0 es k' * (10 ^ i * 10 ^ k') = at0 ds i * (at0 es k' * 10 ^ k') * 10 ^ i := by
          rw [Int.mul_comm (10 ^ i), Int.mul_assoc, Int.mul_assoc, Int.mul_assoc]
        rw [e]
      have f2 := j5.set (i + k') (s % 10) (by omega) (by omega) (by omega)
      by_cases c3 : (k' : Int) < es.length
      all_goals
        simp -dsimp -implicitDefEqProofs (disch := first | with_reducible assumption | omega) [go_sem]
        refine xdraw (by kernel_rfl) rfl ?_
        simp -dsimp -implicitDefEqProofs (disch := first | with_reducible assumption | omega) [go_sem, ej, idx hcx, xNth_ints]
        refine xdcall _ (at_any _ _ hr (by omega) (by omega) ⟨rfl, rfl, rfl⟩) ?_
        simp -dsimp -implicitDefEqProofs (disch := first | with_reducible assumption | omega) [go_sem, ej, ← hs1]
        exact ⟨by omega, k' + 1, s / 10, gs.set (i + k') (s % 10), ⟨by omega, by omega, by omega, by simp [j4], f2, f1⟩, by omega, by simp [Ent, List.lookup], by rw [List.map_set]; exact Drop.refl _ _⟩
    · simp -dsimp -implicitDefEqProofs (disch := first | with_reducible assumption | omega) [go_sem]
      rw [pv_more es k' (by omega), hp2] at j6
      refine ⟨i + 1, gs, ⟨by omega, j4, j5, ?_⟩, by omega, by simp [Ent, List.lookup], Drop.refl _ _⟩
      rw [← j6, show c = 0 by omega]; simp
  · have hi : i = ds.length := by omega
    subst hi
    simp -dsimp -implicitDefEqProofs (disch := first | with_reducible assumption | omega) [go_sem]
    have eo : (⟨b4, 3, fs.map (Value.int .i64), N⟩ :: ⟨b3, 177, [.slice none 0 0], 1⟩ :: ⟨b2, 177, [.slice b es.length cb], 1⟩ :: ⟨b1, 177, [.slice a ds.length ca], 1⟩ :: L : Own)
        = oent 3 1 (some (b4, N)) (fs.map (Value.int .i64)) (⟨b3, 177, [.slice none 0 0], 1⟩ :: ⟨b2, 177, [.slice b es.length cb], 1⟩ :: ⟨b1, 177, [.slice a ds.length ca], 1⟩ :: L) := by simp [oent]
    rw [eo]
    refine call_pub (n := N) (L0 := ⟨b3, 177, [.slice none 0 0], 1⟩ :: ⟨b2, 177, [.slice b es.length cb], 1⟩ :: ⟨b1, 177, [.slice a ds.length ca], 1⟩ :: L) ⟨Nat.le_refl _, by simp [maxLen]; omega⟩ (by simp [i2]) (by omega) ⟨by simp only [Apart]; exact n_b4, h_b4⟩ fun h' le sl => ?_
    refine Spec.ap (trim_any (ds := fs) (m := k + l + 1) _ ⟨by rw [i2]; exact sl, digit_range i3⟩ i3 (by omega) fun r hr ap => ?_)
    simp only [Ap] at ap
    obtain ⟨a3, a2, a1, _⟩ := ap
    obtain ⟨s', fs', rfl, g1, g2, g3, g4⟩ := hr
    simp -dsimp -implicitDefEqProofs (disch := first | with_reducible assumption | omega) [go_sem]
    refine ⟨by obtain ⟨_, _, rfl, _⟩ := g1.open; rfl, fin_tail (fin_tail (fin_tail (fin_here (hk h' _ le ⟨s', fs', rfl, g1, g2, by rw [g3, i4]; rfl, g4⟩))))⟩
theorem less_any (a b c d : Int) (ha : 0 ≤ a ∧ a ≤ 18446744073709551615) (hb : 0 ≤ b ∧ b ≤ 18446744073709551615) (hc : 0 ≤ c ∧ c ≤ 18446744073709551615) (hd : 0 ≤ d ∧ d ≤ 18446744073709551615) (hk : ∀ h', PH.le h h' → K (.bool (decide (a * b < c * d))) L h') :
    Spec Try.prog 73 [.int .u64 a, .int .u64 b, .int .u64 c, .int .u64 d] L h K := by
  refine x_enter Try.func73 rfl (rs := [_]) rfl rfl mixed (by kernel_rfl) rfl rfl ?_
  simp -dsimp -implicitDefEqProofs (disch := first | with_reducible assumption | omega) [go_sem]
  refine of_any _ ha.1 ha.2 fun h1 r1 l1 n1 => ?_
  simp -dsimp -implicitDefEqProofs (disch := first | with_reducible assumption | omega) [go_sem]
  refine of_any _ hb.1 hb.2 fun h2 r2 l2 n2 => ?_
  simp -dsimp -implicitDefEqProofs (disch := first | with_reducible assumption | omega) [go_sem]
  refine mul_any _ _ (n1.up l2) n2 (by decide) fun h3 r3 l3 n3 => ?_
  simp -dsimp -implicitDefEqProofs (disch := first | with_reducible assumption | omega) [go_sem]
  refine of_any _ hc.1 hc.2 fun h4 r4 l4 n4 => ?_
  simp -dsimp -implicitDefEqProofs (disch := first | with_reducible assumption | omega) [go_sem]
  refine of_any _ hd.1 hd.2 fun h5 r5 l5 n5 => ?_
  simp -dsimp -implicitDefEqProofs (disch := first | with_reducible assumption | omega) [go_sem]
  refine mul_any _ _ (n4.up l5) n5 (by decide) fun h6 r6 l6 n6 => ?_
  simp -dsimp -implicitDefEqProofs (disch := first | with_reducible assumption | omega) [go_sem]
  refine cmp_any _ _ (n3.up (l4.trans (l5.trans l6))) n6 ?_
  simp -dsimp -implicitDefEqProofs (disch := first | with_reducible assumption | omega) [go_sem]
  have e : decide (cmp3 (a * b) (c * d) < 0) = decide (a * b < c * d) := by
    unfold cmp3
    rw [decide_eq_decide]
    split
    · simp [*]
    · split <;> simp [*]
  rw [e]
  exact fin_here (hk h6 (l1.trans (l2.trans (l3.trans (l4.trans (l5.trans l6))))))
theorem two_any (p a : Int) (hp : 0 ≤ p ∧ p ≤ 18446744073709551615) (ha : 0 ≤ a ∧ a ≤ 18446744073709551615) (hk : ∀ h', PH.le h h' → K (.bool (decide (0 < a) && decide (2 * a < 3 * p))) L h') :
    Spec Try.prog 24 [.int .u64 p, .int .u64 a] L h K := by
  refine x_enter Try.func24 rfl (rs := [_]) rfl rfl mixed (by kernel_rfl) rfl rfl ?_
  simp -dsimp -implicitDefEqProofs (disch := first | with_reducible assumption | omega) [go_sem]
  by_cases c : 0 < a
  · simp -dsimp -implicitDefEqProofs (disch := first | with_reducible assumption | omega) [go_sem]
    refine less_any _ _ _ _ (by omega) ha (by omega) hp fun h' le => ?_
    simp -dsimp -implicitDefEqProofs (disch := first | with_reducible assumption | omega) [go_sem]
    exact fin_here (by simpa [c] using hk h' le)
  · simp -dsimp -implicitDefEqProofs (disch := first | with_reducible assumption | omega) [go_sem]
    exact fin_here (by simpa [c] using hk h (PH.le_refl h))
end Go.X
