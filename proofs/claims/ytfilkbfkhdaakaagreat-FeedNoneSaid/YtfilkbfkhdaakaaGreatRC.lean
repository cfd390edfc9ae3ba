/- Contracts of feed.parse and of the document's Parse. Conditions: the value reads as bytes. -/
import Derived.Test.YtfilkbfkhdaakaaGreatRB
set_option linter.unusedVariables false
set_option linter.unusedSimpArgs false
namespace Go.X
open Go.RowKit Go.Proofs Go.Bl
variable {L : Own} {h : PH} {K : PK}
theorem rRaw_pos {xs : List Int} {s : Nat × Int} {most : Int} (hz : ∀ z ∈ xs, 0 ≤ z ∧ z ≤ 255) (hs : s.1 ≤ xs.length) (h0 : 0 ≤ most) : (rRaw xs s most).2.1 ≤ xs.length := by
  have hp := rNum_pos xs s most hz hs h0
  simp only [rRaw]
  split
  · exact hs
  split
  · exact hp.1
  split
  · exact hs
  · simp only; omega
set_option maxHeartbeats 1600000 in
set_option maxRecDepth 20000 in
theorem fparse_any {xs : List Int} (v : Value) (hx0 : Ints h .u8 v xs) (hl : xs.length ≤ 1000000) (hk : ∀ h' dv, PH.le h h' → Ints h' .u8 dv (parseC xs).1.data → K (.tuple #[chV (parseC xs).1 dv, .int .i64 (parseC xs).2]) L h') :
    Spec Tryz.prog 163 [v] L h K := by
  have hz := byte_of hx0
  have ox := hx0.open
  obtain ⟨xa, xc, rfl, _⟩ := ox
  have z1 := rNum_pos xs (0, 0) 18446744073709551615 hz (Nat.zero_le _) (by decide)
  obtain ⟨f, s1, e1⟩ : ∃ f s, rNum xs (0, 0) 18446744073709551615 = (f, s) := ⟨_, _, rfl⟩
  rw [e1] at z1
  have z2 := rNum_pos xs s1 131072 hz z1.1 (by decide)
  obtain ⟨p, s2, e2⟩ : ∃ f s, rNum xs s1 131072 = (f, s) := ⟨_, _, rfl⟩
  rw [e2] at z2
  have z3 := rNum_pos xs s2 131072 hz z2.1 (by decide)
  obtain ⟨a, s3, e3⟩ : ∃ f s, rNum xs s2 131072 = (f, s) := ⟨_, _, rfl⟩
  rw [e3] at z3
  have z4 := rNum_pos xs s3 131072 hz z3.1 (by decide)
  obtain ⟨n, s4, e4⟩ : ∃ f s, rNum xs s3 131072 = (f, s) := ⟨_, _, rfl⟩
  rw [e4] at z4
  have z5 := rRaw_pos (most := 4096) hz z4.1 (by decide)
  obtain ⟨d, s5, e5⟩ : ∃ f s, rRaw xs s4 4096 = (f, s) := ⟨_, _, rfl⟩
  rw [e5] at z5
  simp only at z1 z2 z3 z4 z5
  have epar : parseC xs = if s3.2 = 0 ∧ a = 0 then (zeroCh, 51) else if rDone xs s5 ≠ 0 then (zeroCh, rDone xs s5) else if p ≥ a then (zeroCh, 370) else (⟨f, a, n, p, d⟩, 0) := by
    simp only [parseC, e1, e2, e3, e4, e5]
  refine x_enter Tryz.func163 rfl (rs := [_, _]) rfl rfl mixed (by kernel_rfl) rfl rfl ?_
  simp -dsimp -implicitDefEqProofs (disch := first | with_reducible assumption | omega) [go_sem]
  refine xnew fun b2 n_b2 h_b2 => ?_
  try simp only [Apart] at n_b2
  simp -dsimp -implicitDefEqProofs (disch := first | with_reducible assumption | omega) [go_sem]
  refine Spec.apn (open_any _ hx0 (by omega) fun h2 br rv le2 hr2 ap nd => ?_)
  simp only [Ap] at ap
  obtain ⟨ap1, ap2, _⟩ := ap
  simp only [Nd, Apart] at nd
  obtain ⟨⟨n1, _⟩, _⟩ := nd
  simp -dsimp -implicitDefEqProofs (disch := first | with_reducible assumption | omega) [go_sem]
  refine xnew fun b5 n_b5 h_b5 => ?_
  try simp only [Apart] at n_b5
  simp -dsimp -implicitDefEqProofs (disch := first | with_reducible assumption | omega) [go_sem]
  refine call_p1 (rnum_any (most := 18446744073709551615) hr2 (Nat.zero_le _) ?_)
  rw [e1]
  simp only [wO, rO, dO, List.cons_append, List.nil_append]
  simp -dsimp -implicitDefEqProofs (disch := first | with_reducible assumption | omega) [go_sem]
  refine rint_any (most := 131072) hr2 z1.1 (by decide) (by decide) ?_
  rw [e2]
  simp only [wO, rO, dO, List.cons_append, List.nil_append]
  simp -dsimp -implicitDefEqProofs (disch := first | with_reducible assumption | omega) [go_sem]
  refine rint_any (most := 131072) hr2 z2.1 (by decide) (by decide) ?_
  rw [e3]
  simp only [wO, rO, dO, List.cons_append, List.nil_append]
  simp -dsimp -implicitDefEqProofs (disch := first | with_reducible assumption | omega) [go_sem]
  refine rerr_any (s := s3) ?_
  simp only [wO, rO, dO, List.cons_append, List.nil_append]
  by_cases c1 : s3.2 = 0 ∧ a = 0
  · rw [if_pos c1] at epar
    rw [epar] at hk
    obtain ⟨c2, c3⟩ := c1
    simp -dsimp -implicitDefEqProofs (disch := first | with_reducible assumption | omega) [go_sem, c2, c3]
    exact fin_tail (fin_tail (fin_tail (fin_here (hk h2 _ le2 (nil_ints _ .u8)))))
  rw [if_neg c1] at epar
  obtain ⟨k3, t3⟩ := s3
  simp only at c1 z3 ⊢
  by_cases c2 : t3 = 0
  · have c3 : ¬ a = 0 := fun e => c1 ⟨c2, e⟩
    subst c2
    simp -dsimp -implicitDefEqProofs (disch := first | with_reducible assumption | omega) [go_sem]
    refine Spec.apn (rint_any (s := (k3, 0)) (most := 131072) hr2 z3.1 (by decide) (by decide) ?_)
    intro ap nd
    rw [e4]
    simp only [wO, rO, dO, List.cons_append, List.nil_append]
    simp -dsimp -implicitDefEqProofs (disch := first | with_reducible assumption | omega) [go_sem]
    refine Spec.apn (rraw_any (s := s4) (most := 4096) hr2 z4.1 (by decide) (by decide) fun h6 dv le6 hd6 ap nd => ?_)
    rw [e5] at hd6 ap ⊢
    simp only [rO, dO, Ap] at ap
    obtain ⟨u1, u5, u2, _⟩ := ap
    have hd6' := hd6
    have od := hd6.open
    obtain ⟨x6, y6, rfl, _⟩ := od
    simp only [wO, rO, dO, List.cons_append, List.nil_append]
    simp -dsimp -implicitDefEqProofs (disch := first | with_reducible assumption | omega) [go_sem]
    refine rdone_any (s := s5) (hr2.up le6) ?_
    simp only [wO, rO, dO, List.cons_append, List.nil_append]
    by_cases c4 : rDone xs s5 = 0
    rotate_left
    · rw [if_pos c4] at epar
      rw [epar] at hk
      simp -dsimp -implicitDefEqProofs (disch := first | with_reducible assumption | omega) [go_sem]
      exact fin_tail (fin_tail (fin_tail (fin_here (hk h6 _ (le2.trans le6) (nil_ints _ .u8)))))
    rw [if_neg (by simpa using c4)] at epar
    by_cases c5 : p ≥ a
    · rw [if_pos c5] at epar
      rw [epar] at hk
      simp -dsimp -implicitDefEqProofs (disch := first | with_reducible assumption | omega) [go_sem, c4]
      exact fin_tail (fin_tail (fin_tail (fin_here (hk h6 _ (le2.trans le6) (nil_ints _ .u8)))))
    · rw [if_neg c5] at epar
      rw [epar] at hk
      simp -dsimp -implicitDefEqProofs (disch := first | with_reducible assumption | omega) [go_sem, c4]
      exact fin_tail (fin_tail (fin_tail (fin_here (hk h6 _ (le2.trans le6) hd6'))))
  · simp -dsimp -implicitDefEqProofs (disch := first | with_reducible assumption | omega) [go_sem]
    refine Spec.apn (rint_any (s := (k3, t3)) (most := 131072) hr2 z3.1 (by decide) (by decide) ?_)
    intro ap nd
    rw [e4]
    simp only [wO, rO, dO, List.cons_append, List.nil_append]
    simp -dsimp -implicitDefEqProofs (disch := first | with_reducible assumption | omega) [go_sem]
    refine Spec.apn (rraw_any (s := s4) (most := 4096) hr2 z4.1 (by decide) (by decide) fun h6 dv le6 hd6 ap nd => ?_)
    rw [e5] at hd6 ap ⊢
    simp only [rO, dO, Ap] at ap
    obtain ⟨u1, u5, u2, _⟩ := ap
    have hd6' := hd6
    have od := hd6.open
    obtain ⟨x6, y6, rfl, _⟩ := od
    simp only [wO, rO, dO, List.cons_append, List.nil_append]
    simp -dsimp -implicitDefEqProofs (disch := first | with_reducible assumption | omega) [go_sem]
    refine rdone_any (s := s5) (hr2.up le6) ?_
    simp only [wO, rO, dO, List.cons_append, List.nil_append]
    by_cases c4 : rDone xs s5 = 0
    rotate_left
    · rw [if_pos c4] at epar
      rw [epar] at hk
      simp -dsimp -implicitDefEqProofs (disch := first | with_reducible assumption | omega) [go_sem]
      exact fin_tail (fin_tail (fin_tail (fin_here (hk h6 _ (le2.trans le6) (nil_ints _ .u8)))))
    rw [if_neg (by simpa using c4)] at epar
    by_cases c5 : p ≥ a
    · rw [if_pos c5] at epar
      rw [epar] at hk
      simp -dsimp -implicitDefEqProofs (disch := first | with_reducible assumption | omega) [go_sem, c4]
      exact fin_tail (fin_tail (fin_tail (fin_here (hk h6 _ (le2.trans le6) (nil_ints _ .u8)))))
    · rw [if_neg c5] at epar
      rw [epar] at hk
      simp -dsimp -implicitDefEqProofs (disch := first | with_reducible assumption | omega) [go_sem, c4]
      exact fin_tail (fin_tail (fin_tail (fin_here (hk h6 _ (le2.trans le6) hd6'))))
set_option maxHeartbeats 1600000 in
set_option maxRecDepth 20000 in
theorem rparse_any {xs : List Int} (v : Value) (hx0 : Ints h .u8 v xs) (hl : xs.length ≤ 1000000) (hk : ∀ h' dv, PH.le h h' → Ints h' .u8 dv (parseC xs).1.data → K (.tuple #[rchV (parseC xs).1 dv, .int .i64 (parseC xs).2]) L h') :
    Spec Tryz.prog 161 [v] L h K := by
  have hz := byte_of hx0
  have ox := hx0.open
  obtain ⟨xa, xc, rfl, _⟩ := ox
  have z1 := rNum_pos xs (0, 0) 18446744073709551615 hz (Nat.zero_le _) (by decide)
  obtain ⟨f, s1, e1⟩ : ∃ f s, rNum xs (0, 0) 18446744073709551615 = (f, s) := ⟨_, _, rfl⟩
  rw [e1] at z1
  have z2 := rNum_pos xs s1 131072 hz z1.1 (by decide)
  obtain ⟨p, s2, e2⟩ : ∃ f s, rNum xs s1 131072 = (f, s) := ⟨_, _, rfl⟩
  rw [e2] at z2
  have z3 := rNum_pos xs s2 131072 hz z2.1 (by decide)
  obtain ⟨a, s3, e3⟩ : ∃ f s, rNum xs s2 131072 = (f, s) := ⟨_, _, rfl⟩
  rw [e3] at z3
  have z4 := rNum_pos xs s3 131072 hz z3.1 (by decide)
  obtain ⟨n, s4, e4⟩ : ∃ f s, rNum xs s3 131072 = (f, s) := ⟨_, _, rfl⟩
  rw [e4] at z4
  have z5 := rRaw_pos (most := 4096) hz z4.1 (by decide)
  obtain ⟨d, s5, e5⟩ : ∃ f s, rRaw xs s4 4096 = (f, s) := ⟨_, _, rfl⟩
  rw [e5] at z5
  simp only at z1 z2 z3 z4 z5
  have epar : parseC xs = if s3.2 = 0 ∧ a = 0 then (zeroCh, 51) else if rDone xs s5 ≠ 0 then (zeroCh, rDone xs s5) else if p ≥ a then (zeroCh, 370) else (⟨f, a, n, p, d⟩, 0) := by
    simp only [parseC, e1, e2, e3, e4, e5]
  refine x_enter Tryz.func161 rfl (rs := [_, _]) rfl rfl mixed (by kernel_rfl) rfl rfl ?_
  simp -dsimp -implicitDefEqProofs (disch := first | with_reducible assumption | omega) [go_sem]
  refine xnew fun b2 n_b2 h_b2 => ?_
  try simp only [Apart] at n_b2
  simp -dsimp -implicitDefEqProofs (disch := first | with_reducible assumption | omega) [go_sem]
  refine xnew fun br n_br h_br => ?_
  try simp only [Apart] at n_br
  simp -dsimp -implicitDefEqProofs (disch := first | with_reducible assumption | omega) [go_sem]
  refine xnew fun b5 n_b5 h_b5 => ?_
  try simp only [Apart] at n_b5
  simp -dsimp -implicitDefEqProofs (disch := first | with_reducible assumption | omega) [go_sem]
  refine call_p1 (dnum_any (s := (0, 0)) (most := 18446744073709551615) hx0 (by omega) (Nat.zero_le _) ?_)
  rw [e1]
  simp only [wO, rO, dO, List.cons_append, List.nil_append]
  simp -dsimp -implicitDefEqProofs (disch := first | with_reducible assumption | omega) [go_sem]
  refine dint_any (s := s1) (most := 131072) hx0 (by omega) z1.1 (by decide) (by decide) ?_
  rw [e2]
  simp only [wO, rO, dO, List.cons_append, List.nil_append]
  simp -dsimp -implicitDefEqProofs (disch := first | with_reducible assumption | omega) [go_sem]
  refine dint_any (s := s2) (most := 131072) hx0 (by omega) z2.1 (by decide) (by decide) ?_
  rw [e3]
  simp only [wO, rO, dO, List.cons_append, List.nil_append]
  by_cases c1 : s3.2 = 0 ∧ a = 0
  · rw [if_pos c1] at epar
    rw [epar] at hk
    obtain ⟨c2, c3⟩ := c1
    simp -dsimp -implicitDefEqProofs (disch := first | with_reducible assumption | omega) [go_sem, c2, c3]
    exact fin_tail (fin_tail (fin_tail (fin_here (hk h _ (PH.le_refl _) (nil_ints _ .u8)))))
  rw [if_neg c1] at epar
  obtain ⟨k3, t3⟩ := s3
  simp only at c1 z3 ⊢
  by_cases c2 : t3 = 0
  · have c3 : ¬ a = 0 := fun e => c1 ⟨c2, e⟩
    subst c2
    simp -dsimp -implicitDefEqProofs (disch := first | with_reducible assumption | omega) [go_sem]
    refine Spec.apn (dint_any (s := (k3, 0)) (most := 131072) hx0 (by omega) z3.1 (by decide) (by decide) ?_)
    intro ap nd
    rw [e4]
    simp only [wO, rO, dO, List.cons_append, List.nil_append]
    simp -dsimp -implicitDefEqProofs (disch := first | with_reducible assumption | omega) [go_sem]
    refine Spec.apn (draw_any (s := s4) (most := 4096) hx0 (by omega) z4.1 (by decide) (by decide) fun h6 dv le6 hd6 ap nd => ?_)
    rw [e5] at hd6 ap ⊢
    simp only [rO, dO, Ap] at ap
    obtain ⟨u1, u5, u2, _⟩ := ap
    have hd6' := hd6
    have od := hd6.open
    obtain ⟨x6, y6, rfl, _⟩ := od
    simp only [wO, rO, dO, List.cons_append, List.nil_append]
    simp -dsimp -implicitDefEqProofs (disch := first | with_reducible assumption | omega) [go_sem]
    refine ddone_any (s := s5) (hx0.up le6) ?_
    simp only [wO, rO, dO, List.cons_append, List.nil_append]
    by_cases c4 : rDone xs s5 = 0
    rotate_left
    · rw [if_pos c4] at epar
      rw [epar] at hk
      simp -dsimp -implicitDefEqProofs (disch := first | with_reducible assumption | omega) [go_sem]
      exact fin_tail (fin_tail (fin_tail (fin_here (hk h6 _ le6 (nil_ints _ .u8)))))
    rw [if_neg (by simpa using c4)] at epar
    by_cases c5 : p ≥ a
    · rw [if_pos c5] at epar
      rw [epar] at hk
      simp -dsimp -implicitDefEqProofs (disch := first | with_reducible assumption | omega) [go_sem, c4]
      exact fin_tail (fin_tail (fin_tail (fin_here (hk h6 _ le6 (nil_ints _ .u8)))))
    · rw [if_neg c5] at epar
      rw [epar] at hk
      simp -dsimp -implicitDefEqProofs (disch := first | with_reducible assumption | omega) [go_sem, c4]
      exact fin_tail (fin_tail (fin_tail (fin_here (hk h6 _ le6 hd6'))))
  · simp -dsimp -implicitDefEqProofs (disch := first | with_reducible assumption | omega) [go_sem]
    refine Spec.apn (dint_any (s := (k3, t3)) (most := 131072) hx0 (by omega) z3.1 (by decide) (by decide) ?_)
    intro ap nd
    rw [e4]
    simp only [wO, rO, dO, List.cons_append, List.nil_append]
    simp -dsimp -implicitDefEqProofs (disch := first | with_reducible assumption | omega) [go_sem]
    refine Spec.apn (draw_any (s := s4) (most := 4096) hx0 (by omega) z4.1 (by decide) (by decide) fun h6 dv le6 hd6 ap nd => ?_)
    rw [e5] at hd6 ap ⊢
    simp only [rO, dO, Ap] at ap
    obtain ⟨u1, u5, u2, _⟩ := ap
    have hd6' := hd6
    have od := hd6.open
    obtain ⟨x6, y6, rfl, _⟩ := od
    simp only [wO, rO, dO, List.cons_append, List.nil_append]
    simp -dsimp -implicitDefEqProofs (disch := first | with_reducible assumption | omega) [go_sem]
    refine ddone_any (s := s5) (hx0.up le6) ?_
    simp only [wO, rO, dO, List.cons_append, List.nil_append]
    by_cases c4 : rDone xs s5 = 0
    rotate_left
    · rw [if_pos c4] at epar
      rw [epar] at hk
      simp -dsimp -implicitDefEqProofs (disch := first | with_reducible assumption | omega) [go_sem]
      exact fin_tail (fin_tail (fin_tail (fin_here (hk h6 _ le6 (nil_ints _ .u8)))))
    rw [if_neg (by simpa using c4)] at epar
    by_cases c5 : p ≥ a
    · rw [if_pos c5] at epar
      rw [epar] at hk
      simp -dsimp -implicitDefEqProofs (disch := first | with_reducible assumption | omega) [go_sem, c4]
      exact fin_tail (fin_tail (fin_tail (fin_here (hk h6 _ le6 (nil_ints _ .u8)))))
    · rw [if_neg c5] at epar
      rw [epar] at hk
      simp -dsimp -implicitDefEqProofs (disch := first | with_reducible assumption | omega) [go_sem, c4]
      exact fin_tail (fin_tail (fin_tail (fin_here (hk h6 _ le6 hd6'))))
theorem mem_gs {q : List QS} {p : List Int → Prop} (hp : ∀ j, j < q.length → p (gs q j).2) : ∀ x ∈ xsL q, p x := by
  intro x hx
  obtain ⟨e, he, rfl⟩ := List.mem_map.1 hx
  obtain ⟨i, hi, rfl⟩ := List.getElem_of_mem he
  have := hp i hi
  rwa [gs_lt hi] at this
set_option maxHeartbeats 1600000 in
set_option maxRecDepth 20000 in
theorem few37_any {q : List QS} (v : Value) (hq0 : Strs h v q) (hk : ∀ h' b, PH.le h h' → (b = true → (∀ x ∈ xsL q, x.length ≤ 5000) ∧ q.length ≤ 60) → K (.bool b) L h') : Spec Tryz.prog 54 [v] L h K := by
  obtain ⟨a, c, rfl, hc, hl, _, hcx, hq⟩ := hq0.open
  refine x_enter Tryz.func54 rfl (rs := [_]) rfl rfl mixed (by kernel_rfl) rfl rfl ?_
  simp -dsimp -implicitDefEqProofs (disch := first | with_reducible assumption | omega) [go_sem]
  refine xloop (γ := Nat × PH) (0, h) (fun s => s.1 ≤ q.length ∧ PH.le h s.2 ∧ ∀ j, j < s.1 → (gs q j).2.length ≤ 5000) (fun s => [(9, .int .i64 s.1), (8, .int .i64 q.length), (7, .slice a q.length c), (0, .slice a q.length c)])
    (fun _ => L) (fun s => s.2) (fun s => q.length - s.1) ?_ ?_ ?_ ?_
  · exact ⟨Nat.zero_le _, PH.le_refl _, fun j hj => by omega⟩
  · simp [Ent, List.lookup, xEnv]
  · exact Drop.refl _ _
  rintro ⟨k, hh⟩ ⟨i1, i2, i3⟩
  simp only at i1 i2 i3 ⊢
  have hcx' : ∀ j, j < q.length → elemCell hh a j = some ((fun j => (gs q j).1) j) := fun j hj => elemCell_up i2 (hcx j hj)
  by_cases c1 : k < q.length
  · have hx := (hq.up i2).at c1
    have hx0 := hx
    have ox := hx.open
    obtain ⟨x1, y1, hv, _⟩ := ox
    rw [hv] at hx0
    by_cases c2 : ((gs q k).2.length : Int) > 5000
    · simp -dsimp -implicitDefEqProofs (disch := first | with_reducible assumption | omega) [go_sem, idx hcx', hv]
      exact fin_here (hk hh false i2 (fun h => by cases h))
    simp -dsimp -implicitDefEqProofs (disch := first | with_reducible assumption | omega) [go_sem, idx hcx', hv]
    refine rparse_any _ hx0 (by omega) fun h2 dv le2 hd2 => ?_
    obtain ⟨ch, e, hp⟩ : ∃ ch e, parseC (gs q k).2 = (ch, e) := ⟨_, _, rfl⟩
    rw [hp] at hd2 ⊢
    simp only at hd2 ⊢
    have od := hd2.open
    obtain ⟨x2, y2, rfl, _⟩ := od
    simp -dsimp -implicitDefEqProofs (disch := first | with_reducible assumption | omega) [go_sem]
    refine xnew fun b5 n_b5 h_b5 => ?_
    try simp only [Apart] at n_b5
    simp -dsimp -implicitDefEqProofs (disch := first | with_reducible assumption | omega) [go_sem]
    by_cases c3 : e = 0
    · by_cases c4 : ch.all > 2000
      · simp -dsimp -implicitDefEqProofs (disch := first | with_reducible assumption | omega) [go_sem]
        exact fin_tail (fin_here (hk h2 false (i2.trans le2) (fun h => by cases h)))
      · simp -dsimp -implicitDefEqProofs (disch := first | with_reducible assumption | omega) [go_sem]
        refine ⟨k + 1, h2, ⟨by omega, i2.trans le2, fun j hj => ?_⟩, by omega, by simp [Ent, List.lookup], Drop.tail _ _ _⟩
        by_cases ej : j = k
        · subst ej; omega
        · exact i3 j (by omega)
    · simp -dsimp -implicitDefEqProofs (disch := first | with_reducible assumption | omega) [go_sem]
      refine ⟨k + 1, h2, ⟨by omega, i2.trans le2, fun j hj => ?_⟩, by omega, by simp [Ent, List.lookup], Drop.tail _ _ _⟩
      by_cases ej : j = k
      · subst ej; omega
      · exact i3 j (by omega)
  · simp -dsimp -implicitDefEqProofs (disch := first | with_reducible assumption | omega) [go_sem]
    refine fin_here (hk hh _ i2 fun hb => ⟨mem_gs fun j hj => i3 j (by omega), Int.ofNat_le.1 (by simpa using hb)⟩)
end Go.X
