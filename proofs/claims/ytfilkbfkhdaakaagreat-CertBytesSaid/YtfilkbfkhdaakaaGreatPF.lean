/- The contract of bullionref07.Form. Conditions: the value reads as parameters. -/
import Derived.Test.YtfilkbfkhdaakaaGreatPE
set_option linter.unusedVariables false
set_option linter.unusedSimpArgs false
namespace Go.X
open Go.RowKit Go.Proofs Go.Bl
variable {L : Own} {h : PH} {K : PK}
/-- bytes of a call's own behind others of its own -/
theorem append_own {ty : Nat} (A : Own) {L : Own} {h : PH} {K : PK} (o o2 : Option (Nat × Nat)) (bs ys : List Int) (ho : okO o bs.length) (ho2 : okO o2 ys.length) (hy : 0 < ys.length) (hl : bs.length + ys.length ≤ 1000000)
    (hk : ∀ o' x, okO o' (bs ++ ys).length → apO o' (A ++ L) h → K (ovs o' (bs ++ ys).length) (x :: (A ++ oent 5 1 o' ((bs ++ ys).map (.int .u8)) L)) h) :
    xAct Tryz.prog (Builtin.append_ #[31, 31] ty #[ovs o bs.length, ovs o2 ys.length]) (oent 5 1 o2 (ys.map (.int .u8)) (A ++ oent 5 1 o (bs.map (.int .u8)) L)) h K := by
  cases o2 with
  | none => have : ys.length = 0 := ho2; omega
  | some p =>
    obtain ⟨b2, cap2⟩ := p
    refine xappend (t := 31) (e := 5) (sz := 1) (bytes := 1) (z := [.int .u8 0]) (by kernel_rfl) tI_5 rfl rfl rfl rfl (by decide) (⟨b2, 5, ys.map (.int .u8), cap2 * 1⟩ :: A) L o bs.length (bs.map (.int .u8)) ho (by simp) (m := ys.length) (news := ys.map (.int .u8)) (Src.own (b := b2) (t := 5) (cap := cap2 * 1) (by simp)) (by simp) (ints_one _ _) (by simp only [maxLen]; omega) (by omega) ?_
    intro o3 i1 i2 i3
    have := hk o3 ⟨b2, 5, ys.map (.int .u8), cap2 * 1⟩ (by simpa using i1) (apO_tail i2)
    rw [List.length_append, List.map_append] at this
    exact this
theorem encP_len {p : ParD} (ok : ParOk p) (hr : parR p = true) : (encP p).length ≤ 240 := by
  have := flatN_len (wides p ++ narrows p) (fun z hz => by
    rcases List.mem_append.1 hz with hz | hz
    · have := (ok.w z hz).2; omega
    · have := (narrows_pos hr z hz).2; omega)
  have e : (wides p ++ narrows p).length = 24 := by simp [wides, narrows]
  unfold encP
  omega
set_option maxHeartbeats 1600000 in
set_option maxRecDepth 20000 in
theorem pform_any (p : ParD) (ok : ParOk p) (hr : parR p = true) (hk : ∀ o, okO o (encP p).length → apO o L h → K (ovs o (encP p).length) (oent 5 1 o ((encP p).map (.int .u8)) L) h) : Spec Tryz.prog 150 [parV p] L h K := by
  have hnp := narrows_pos hr
  obtain ⟨B, hB⟩ : ∃ B : Nat → List Int, ∀ i, B i = flatN ((wides p).take i) := ⟨_, fun _ => rfl⟩
  have hBl : ∀ i, (B i).length ≤ 140 := fun i => by
    rw [hB]
    have := flatN_len ((wides p).take i) (fun z hz => by have := (ok.w z (List.mem_of_mem_take hz)).2; omega)
    have h2 : ((wides p).take i).length ≤ 14 := by
      rw [List.length_take]; exact Nat.le_trans (Nat.min_le_right _ _) (by simp [wides])
    omega
  refine x_enter Tryz.func150 rfl (rs := [_]) rfl rfl mixed (by kernel_rfl) rfl rfl ?_
  simp -dsimp -implicitDefEqProofs (disch := first | with_reducible assumption | omega) [go_sem]
  refine xnew fun b1 n_b1 h_b1 => ?_
  try simp only [Apart] at n_b1
  simp -dsimp -implicitDefEqProofs (disch := first | with_reducible assumption | omega) [go_sem]
  refine xnew fun b2 n_b2 h_b2 => ?_
  try simp only [Apart] at n_b2
  simp -dsimp -implicitDefEqProofs (disch := first | with_reducible assumption | omega) [go_sem]
  refine xnew fun b3 n_b3 h_b3 => ?_
  try simp only [Apart] at n_b3
  simp -dsimp -implicitDefEqProofs (disch := first | with_reducible assumption | omega) [go_sem]
  refine xloop (γ := Nat × Option (Nat × Nat)) (0, none)
    (fun s => s.1 ≤ 14 ∧ okO s.2 (B s.1).length ∧ apO s.2 L h)
    (fun s => [(6, .int .i64 s.1), (5, ovs s.2 (B s.1).length), (3, .slice (some ⟨b2, 0, none⟩) 14 14), (4, .slice (some ⟨b3, 0, none⟩) 10 10)])
    (fun s => ⟨b3, 3, (narrows p).map (.int .i64), 10⟩ :: ⟨b2, 22, (wides p).map (.int .u64), 14⟩ :: ⟨b1, 43, parC p, 24⟩ :: oent 5 1 s.2 ((B s.1).map (.int .u8)) L) (fun _ => h) (fun s => 14 - s.1) ?_ ?_ ?_ ?_
  · exact ⟨by simp, by simp only [hB]; exact rfl, trivial⟩
  · simp [Ent, List.lookup, hB, flatN, ovs]
  · simp only [hB]
    exact Drop.refl _ _
  rintro ⟨i, o⟩ ⟨i1, i3, i4⟩
  simp only at i1 i3 i4 ⊢
  by_cases d1 : i < 14
  · have hr1 := ok.w _ (at0_mem (zs := wides p) (k := i) (by simpa [wides] using d1))
    obtain ⟨m, hm⟩ := Int.eq_ofNat_of_zero_le hr1.1
    have es := flatN_snoc (wides p) i (by simpa [wides] using d1)
    rw [hm, Int.toNat_natCast] at es
    have eB : B i ++ formN m = B (i + 1) := by rw [hB, hB, es]
    have lm := formN_len 10 m (by have : (128 : Nat) ^ 10 = 1180591620717411303424 := by decide
                                  omega) (by decide)
    have hb1 := hBl i
    have hlw : (wides p).length = 14 := rfl
    simp -dsimp -implicitDefEqProofs (disch := first | with_reducible assumption | omega) [go_sem, xNth_ints]
    rw [hm]
    refine rform_any m (by omega) _ _ _ fun o2 k1 k2 => ?_
    simp -dsimp -implicitDefEqProofs (disch := first | with_reducible assumption | omega) [go_sem]
    refine append_own [⟨b3, 3, (narrows p).map (.int .i64), 10⟩, ⟨b2, 22, (wides p).map (.int .u64), 14⟩, ⟨b1, 43, parC p, 24⟩] o o2 (B i) (formN m) i3 k1 (formN_pos m) (by omega) fun o' x j1 j2 => ?_
    rw [eB] at j1 ⊢
    simp -dsimp -implicitDefEqProofs (disch := first | with_reducible assumption | omega) [go_sem]
    exact ⟨i + 1, o', ⟨by omega, j1, apO_tail (apO_tail (apO_tail j2))⟩, by omega, by simp [Ent, List.lookup], Drop.tail _ _ _⟩
  · have hi : i = 14 := by omega
    subst hi
    have hlw : (wides p).length = 14 := rfl
    simp -dsimp -implicitDefEqProofs (disch := first | with_reducible assumption | omega) [go_sem]
    obtain ⟨C, hC⟩ : ∃ C : Nat → List Int, ∀ i, C i = flatN (wides p) ++ flatN ((narrows p).take i) := ⟨_, fun _ => rfl⟩
    have e14 : B 14 = C 0 := by rw [hB, hC, show (wides p).take 14 = wides p by simp [wides]]; simp [flatN]
    have hCl : ∀ i, (C i).length ≤ 240 := fun i => by
      have h14 := hBl 14
      rw [hB, show (wides p).take 14 = wides p by simp [wides]] at h14
      rw [hC, List.length_append]
      have := flatN_len ((narrows p).take i) (fun z hz => by have := (hnp z (List.mem_of_mem_take hz)).2; omega)
      have h2 : ((narrows p).take i).length ≤ 10 := by
        rw [List.length_take]; exact Nat.le_trans (Nat.min_le_right _ _) (by simp [narrows])
      omega
    rw [e14] at i3 ⊢
    refine xloop (γ := Nat × Option (Nat × Nat)) (0, o)
      (fun s => s.1 ≤ 10 ∧ okO s.2 (C s.1).length ∧ apO s.2 L h)
      (fun s => [(7, .int .i64 s.1), (5, ovs s.2 (C s.1).length), (4, .slice (some ⟨b3, 0, none⟩) 10 10)])
      (fun s => ⟨b3, 3, (narrows p).map (.int .i64), 10⟩ :: ⟨b2, 22, (wides p).map (.int .u64), 14⟩ :: ⟨b1, 43, parC p, 24⟩ :: oent 5 1 s.2 ((C s.1).map (.int .u8)) L) (fun _ => h) (fun s => 10 - s.1) ?_ ?_ ?_ ?_
    · exact ⟨by simp, i3, i4⟩
    · simp [Ent, List.lookup]
    · exact Drop.refl _ _
    rintro ⟨j, o5⟩ ⟨j1, j3, j4⟩
    simp only at j1 j3 j4 ⊢
    have hln : (narrows p).length = 10 := rfl
    by_cases d2 : j < 10
    · have hr1 := hnp _ (at0_mem (zs := narrows p) (k := j) (by simpa [narrows] using d2))
      have es := flatN_snoc (narrows p) j (by simpa [narrows] using d2)
      obtain ⟨m, hm⟩ := Int.eq_ofNat_of_zero_le hr1.1
      rw [hm, Int.toNat_natCast] at es
      have eC : C j ++ formN m = C (j + 1) := by rw [hC, hC, es]; simp
      have lm := formN_len 10 m (by have : (128 : Nat) ^ 10 = 1180591620717411303424 := by decide
                                    omega) (by decide)
      have hb1 := hCl j
      simp -dsimp -implicitDefEqProofs (disch := first | with_reducible assumption | omega) [go_sem, xNth_ints]
      rw [hm]
      refine rform_any m (by omega) _ _ _ fun o2 k1 k2 => ?_
      simp -dsimp -implicitDefEqProofs (disch := first | with_reducible assumption | omega) [go_sem]
      refine append_own [⟨b3, 3, (narrows p).map (.int .i64), 10⟩, ⟨b2, 22, (wides p).map (.int .u64), 14⟩, ⟨b1, 43, parC p, 24⟩] o5 o2 (C j) (formN m) j3 k1 (formN_pos m) (by omega) fun o' x q1 q2 => ?_
      rw [eC] at q1 ⊢
      simp -dsimp -implicitDefEqProofs (disch := first | with_reducible assumption | omega) [go_sem]
      exact ⟨j + 1, o', ⟨by omega, q1, apO_tail (apO_tail (apO_tail q2))⟩, by omega, by simp [Ent, List.lookup], Drop.tail _ _ _⟩
    · have hj : j = 10 := by omega
      subst hj
      have eE : C 10 = encP p := by rw [hC, show (narrows p).take 10 = narrows p by simp [narrows]]; simp [encP, flatN_append]
      rw [eE] at j3 ⊢
      simp -dsimp -implicitDefEqProofs (disch := first | with_reducible assumption | omega) [go_sem]
      exact fin_tail (fin_tail (fin_tail (fin_here (hk o5 j3 j4))))
end Go.X
