/- The contract of block.Decode. Conditions: the value reads as bytes. -/
import Derived.Test.YtbobjcapmfpmkaaQC
set_option linter.unusedVariables false
set_option linter.unusedSimpArgs false
namespace Go.X
open Go.RowKit Go.Proofs Go.Bl
variable {L : Own} {h : PH} {K : PK}
set_option maxHeartbeats 4000000 in
set_option maxRecDepth 20000 in
theorem bdec_any {xs : List Int} (v : Value) (hx0 : Ints h .u8 v xs) (hk : ∀ h' r l, PH.le h h' → Deeds h' r l → dl l = (bdec xs).1 → K (.tuple #[r, .int .i64 (bdec xs).2.1, .int .i64 (bdec xs).2.2]) L h') :
    Spec Try.prog 60 [v] L h K := by
  have hz := byte_of hx0
  have ox := hx0.open
  obtain ⟨xa, xc, rfl, _, hxl, _⟩ := ox
  refine x_enter Try.func60 rfl (rs := [_, _, _]) rfl rfl mixed (by kernel_rfl) rfl rfl ?_
  simp -dsimp -implicitDefEqProofs (disch := first | with_reducible assumption | omega) [go_sem]
  by_cases c0 : (xs.length : Int) > 131072
  · have e : bdec xs = ([], 0, 3) := by rw [bdec, if_pos (by omega)]
    rw [e] at hk
    simp -dsimp -implicitDefEqProofs (disch := first | with_reducible assumption | omega) [go_sem]
    exact fin_here (hk h _ [] (PH.le_refl _) (Deeds.nil h) rfl)
  simp -dsimp -implicitDefEqProofs (disch := first | with_reducible assumption | omega) [go_sem]
  refine Spec.apn (open_any _ hx0 (by omega) fun h2 br rv le2 hr2 ap nd => ?_)
  simp only [Ap] at ap
  obtain ⟨ap1, _⟩ := ap
  simp -dsimp -implicitDefEqProofs (disch := first | with_reducible assumption | omega) [go_sem]
  refine Spec.apn (rint_any (most := 64) hr2 (Nat.zero_le _) (by decide) (by decide) ?_)
  intro ap nd
  have hp := rNum_pos xs (0, 0) 64 hz (Nat.zero_le _) (by decide)
  obtain ⟨n, s0, hns⟩ : ∃ n s0, rNum xs (0, 0) 64 = (n, s0) := ⟨_, _, rfl⟩
  rw [hns] at hp ⊢
  simp only at hp ⊢
  simp only [wO, rO, dO, List.cons_append, List.nil_append]
  simp -dsimp -implicitDefEqProofs (disch := first | with_reducible assumption | omega) [go_sem]
  refine rerr_any (s := s0) ?_
  simp only [wO, rO, dO, List.cons_append, List.nil_append]
  simp -dsimp -implicitDefEqProofs (disch := first | with_reducible assumption | omega) [go_sem]
  have eb : bdec xs = if s0.2 ≠ 0 then ([], 0, s0.2) else if (rdL xs n.toNat s0).2.1 ≠ 0 then ([], ((rdL xs n.toNat s0).1.length : Int), (rdL xs n.toNat s0).2.1) else if rDone xs (rdL xs n.toNat s0).2.2 ≠ 0 then ([], n, rDone xs (rdL xs n.toNat s0).2.2) else ((rdL xs n.toNat s0).1, 0, 0) := by
    rw [bdec, if_neg (by omega), hns]
  by_cases c1 : s0.2 = 0
  rotate_left
  · rw [if_pos c1] at eb
    rw [eb] at hk
    simp -dsimp -implicitDefEqProofs (disch := first | with_reducible assumption | omega) [go_sem]
    exact fin_tail (fin_here (hk h2 _ [] le2 (Deeds.nil _) rfl))
  rw [if_neg (by simpa using c1)] at eb
  simp -dsimp -implicitDefEqProofs (disch := first | with_reducible assumption | omega) [go_sem]
  obtain ⟨m, rfl⟩ := Int.eq_ofNat_of_zero_le hp.2.1
  rw [Int.toNat_natCast] at eb
  refine xloop (γ := Nat × Option (Nat × Nat) × List QD × (Nat × Int) × PH) (0, none, [], s0, h2)
    (fun s => s.1 ≤ m ∧ okO s.2.1 s.1 ∧ apO s.2.1 (rO br rv s.2.2.2.1 L) s.2.2.2.2 ∧ s.2.2.1.length = s.1 ∧ (∀ q ∈ s.2.2.1, IsDeed s.2.2.2.2 q.1 q.2) ∧ s.2.2.2.1.1 ≤ xs.length ∧ s.2.2.2.1.2 = 0 ∧ PH.le h2 s.2.2.2.2 ∧ s.2.2.2.2 br = noC ∧
      rdL xs m s0 = (dl s.2.2.1 ++ (rdL xs (m - s.1) s.2.2.2.1).1, (rdL xs (m - s.1) s.2.2.2.1).2))
    (fun s => [(25, .int .i64 s.1), (24, .int .i64 m), (5, .pointer (some ⟨br, 0, none⟩)), (6, .int .i64 m), (2, ovs s.2.1 s.1)])
    (fun s => rO br rv s.2.2.2.1 (oent 84 34 s.2.1 (cellsL s.2.2.1) L)) (fun s => s.2.2.2.2) (fun s => m - s.1) ?_ ?_ ?_ ?_
  · exact ⟨Nat.zero_le _, rfl, trivial, rfl, (fun q hq => by cases hq), hp.1, c1, PH.le_refl _, ap1, by simp [dl]⟩
  · simp [Ent, List.lookup, xEnv, ovs]
  · exact Drop.refl _ _
  rintro ⟨k, o, acc, s, hh⟩ ⟨i1, i2, i3, i4, i5, i6, i7, i8, i9, i10⟩
  simp only at i1 i2 i3 i4 i5 i6 i7 i8 i9 i10 ⊢
  by_cases c2 : k < m
  · obtain ⟨u, hu⟩ : ∃ u, m - k = u + 1 := ⟨m - k - 1, by omega⟩
    rw [hu] at i10
    simp only [wO, rO, dO, List.cons_append, List.nil_append]
    simp -dsimp -implicitDefEqProofs (disch := first | with_reducible assumption | omega) [go_sem]
    refine Spec.apn (dread_any (hr2.up i8) i6 fun h4 bv le4 hb4 ap nd => ?_)
    have ob4 := hb4.open
    obtain ⟨x4, y4, rfl, _⟩ := ob4
    obtain ⟨d, e, s', hd⟩ : ∃ d e s', rdDeed xs s = (d, e, s') := ⟨_, _, _, rfl⟩
    rw [hd] at hb4 ap nd ⊢
    simp only at hb4 ap nd ⊢
    simp only [rO, Ap] at ap
    obtain ⟨u1, u2⟩ := ap
    simp only [wO, rO, dO, List.cons_append, List.nil_append]
    simp -dsimp -implicitDefEqProofs (disch := first | with_reducible assumption | omega) [go_sem]
    refine xnew fun b1 n_b1 h_b1 => ?_
    try simp only [Apart] at n_b1
    simp -dsimp -implicitDefEqProofs (disch := first | with_reducible assumption | omega) [go_sem]
    by_cases c3 : e = 0
    rotate_left
    · rw [rdL_bad (by rw [hd]; exact c3), hd] at i10
      simp only [List.append_nil] at i10
      rw [i10] at eb
      simp only at eb
      rw [if_pos c3, dl_len, i4] at eb
      rw [eb] at hk
      simp -dsimp -implicitDefEqProofs (disch := first | with_reducible assumption | omega) [go_sem]
      exact fin_tail (fin_tail (fin_oent (fin_here (hk h4 _ [] (le2.trans (i8.trans le4)) (Deeds.nil _) rfl))))
    subst c3
    have hps := rdL_pos hz i6 (by rw [hd])
    rw [rdL_ok (by rw [hd]), hd] at i10
    rw [hd] at hps
    simp only at i10 hps
    simp -dsimp -implicitDefEqProofs (disch := first | with_reducible assumption | omega) [go_sem]
    refine xnew fun b2 n_b2 h_b2 => ?_
    try simp only [Apart] at n_b2
    simp -dsimp -implicitDefEqProofs (disch := first | with_reducible assumption | omega) [go_sem]
    refine xappend (t := 105) (e := 84) (sz := 34) (bytes := 288) (by kernel_rfl) tI_84 rfl rfl rfl rfl (by decide) [_, _, _] L o k (cellsL acc) i2 (by rw [cellsL_len, i4]) (Src.own List.mem_cons_self) (m := 1) (news := qC (.slice x4 d.bits.length y4, d)) rfl (qC_one _ rfl) (by simp [maxLen]; omega) (by omega) ?_
    intro o' j1 j2 j3
    simp -dsimp -implicitDefEqProofs (disch := first | with_reducible assumption | omega) [go_sem]
    refine ⟨k + 1, o', acc ++ [(.slice x4 d.bits.length y4, d)], s'.1, s'.2, h4, ⟨by omega, j1, apO_tail (apO_tail j2), by simp [i4], ?_, hps.1, hps.2.1, i8.trans le4, u1, ?_⟩, by omega, by simp [Ent, List.lookup], ?_⟩
    · intro qa qb hq
      have hq : (qa, qb) ∈ acc ++ [(.slice x4 d.bits.length y4, d)] := by simpa using hq
      rcases List.mem_append.1 hq with hq | hq
      · exact (i5 (qa, qb) hq).up le4
      · have := List.mem_singleton.1 hq
        injection this with e1 e2
        subst e1; subst e2
        exact ⟨hb4, hps.2.2⟩
    · rw [i10, show m - (k + 1) = u by omega, dl_app]
      simp [dl]
    · rw [cellsL_app, cellsL_one]
      exact (Drop.tail _ _ _).trans (Drop.tail _ _ _)
  · have hkm : k = m := by omega
    subst hkm
    rw [Nat.sub_self] at i10
    simp only [rdL, List.append_nil] at i10
    rw [i10] at eb
    simp only [ne_eq, not_true_eq_false, if_false] at eb
    simp only [wO, rO, dO, List.cons_append, List.nil_append]
    simp -dsimp -implicitDefEqProofs (disch := first | with_reducible assumption | omega) [go_sem]
    refine Spec.apn (rdone_any (s := s) (hr2.up i8) ?_)
    intro ap nd
    by_cases c4 : rDone xs s = 0
    rotate_left
    · rw [if_pos c4] at eb
      rw [eb] at hk
      simp only [wO, rO, dO, List.cons_append, List.nil_append]
      simp -dsimp -implicitDefEqProofs (disch := first | with_reducible assumption | omega) [go_sem]
      exact fin_tail (fin_oent (fin_here (hk hh _ [] (le2.trans i8) (Deeds.nil _) rfl)))
    · rw [if_neg (by simpa using c4)] at eb
      rw [eb] at hk
      rw [c4]
      simp only [wO, rO, dO, List.cons_append, List.nil_append]
      simp -dsimp -implicitDefEqProofs (disch := first | with_reducible assumption | omega) [go_sem]
      refine fin_tail (fin_pub (n := acc.length) (by rw [i4]; exact i2) (cellsL_len acc) (by omega) (apO_tail i3) fun h' le sl => fin_here ?_)
      rw [← i4]
      exact hk h' _ acc (le2.trans (i8.trans le)) ⟨sl, fun q hq => (i5 q hq).up le⟩ rfl
end Go.X
