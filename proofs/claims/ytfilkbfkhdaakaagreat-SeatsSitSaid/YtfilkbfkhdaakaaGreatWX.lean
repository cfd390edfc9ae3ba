/- The contract of cert.Decode. Conditions: the value reads as bytes. -/
import Derived.Test.YtfilkbfkhdaakaaGreatWW
import Derived.Test.YtfilkbfkhdaakaaGreatWI
set_option linter.unusedVariables false
set_option linter.unusedSimpArgs false
namespace Go.X
open Go.RowKit Go.Proofs Go.Bl
variable {L : Own} {h : PH} {K : PK}
theorem rSt_pos {xs : List Int} {most : Int} (hx : ∀ z ∈ xs, 0 ≤ z ∧ z ≤ 255) (hm : 0 ≤ most) : ∀ (m : Nat) (s : Nat × Int), s.1 ≤ xs.length → (rSt xs most m s).2.1 ≤ xs.length ∧ ∀ z ∈ (rSt xs most m s).1, 0 ≤ z ∧ z ≤ most
  | 0, s, hs => ⟨hs, fun z hz => by simp [rSt] at hz⟩
  | m + 1, s, hs => by
    simp only [rSt]
    split
    · exact ⟨hs, fun z hz => by simp at hz⟩
    · have hp := rNum_pos xs s most hx hs hm
      have ih := rSt_pos hx hm m (rNum xs s most).2 hp.1
      refine ⟨ih.1, fun z hz => ?_⟩
      rcases List.mem_cons.1 hz with rfl | hz
      · exact hp.2
      · exact ih.2 z hz
set_option maxHeartbeats 1600000 in
set_option maxRecDepth 20000 in
theorem decode_any {xs : List Int} (v : Value) (hx : Ints h .u8 v xs) (hlen : xs.length ≤ 900000) (hk : ∀ h' r, PH.le h h' → IsCert h' r (decC xs).1 → K (.tuple #[r, .int .i64 (decC xs).2]) L h') : Spec Tryz.prog 27 [v] L h K := by
  have hz := byte_of hx
  obtain ⟨ra, hra⟩ : ∃ ra, ra = rNum xs (0, 0) 1073741824 := ⟨_, rfl⟩
  obtain ⟨rb, hrb⟩ : ∃ rb, rb = rNum xs ra.2 128 := ⟨_, rfl⟩
  obtain ⟨rc, hrc⟩ : ∃ rc, rc = rSt xs 1099511627776 rb.1.toNat rb.2 := ⟨_, rfl⟩
  obtain ⟨rd, hrd⟩ : ∃ rd, rd = rRaw xs rc.2 32 := ⟨_, rfl⟩
  have hdec : decC xs = if rDone xs rd.2 ≠ 0 then (nilC, rDone xs rd.2) else if rightC ⟨ra.1, rb.1, rc.1, rd.1⟩ then (⟨ra.1, rb.1, rc.1, rd.1⟩, 0) else (nilC, 2) := by
    rw [hrd, hrc, hrb, hra]; rfl
  have pa := rNum_pos xs (0, 0) 1073741824 hz (Nat.zero_le _) (by decide)
  rw [← hra] at pa
  have pb := rNum_pos xs ra.2 128 hz pa.1 (by decide)
  rw [← hrb] at pb
  have pc := rSt_pos hz (most := 1099511627776) (by decide) rb.1.toNat rb.2 pb.1
  rw [← hrc] at pc
  refine x_enter Tryz.func27 rfl (rs := [_, _]) rfl rfl mixed (by kernel_rfl) rfl rfl ?_
  simp -dsimp -implicitDefEqProofs (disch := first | with_reducible assumption | omega) [go_sem]
  refine xnew fun b1 n_b1 h_b1 => ?_
  try simp only [Apart] at n_b1
  simp -dsimp -implicitDefEqProofs (disch := first | with_reducible assumption | omega) [go_sem]
  refine Spec.apn (open_any v hx (by omega) fun h1 br rv le1 hx1 ap nd => ?_)
  obtain ⟨q2, q1, _⟩ := ap
  simp only [Nd, Apart] at nd
  simp only [wO, rO, dO, List.cons_append, List.nil_append]
  simp -dsimp -implicitDefEqProofs (disch := first | with_reducible assumption | omega) [go_sem]
  refine rint_any (s := (0, 0)) hx1 (Nat.zero_le _) (by decide) (by decide) ?_
  rw [← hra]
  simp -dsimp -implicitDefEqProofs (disch := first | with_reducible assumption | omega) [go_sem]
  refine rint_any (s := ra.2) hx1 pa.1 (by decide) (by decide) ?_
  rw [← hrb]
  simp only [wO, rO, dO, List.cons_append, List.nil_append]
  simp -dsimp -implicitDefEqProofs (disch := first | with_reducible assumption | omega) [go_sem]
  refine xnew fun b5 n_b5 h_b5 => ?_
  try simp only [Apart] at n_b5
  simp -dsimp -implicitDefEqProofs (disch := first | with_reducible assumption | omega) [go_sem]
  refine xloop (γ := Nat × (Nat × Int) × Option (Nat × Nat) × List Int) (0, rb.2, none, [])
    (fun g => g.1 ≤ rb.1.toNat ∧ g.2.2.2.length = g.1 ∧ okO g.2.2.1 g.1 ∧ g.2.1.1 ≤ xs.length ∧ (∀ z ∈ g.2.2.2, 0 ≤ z ∧ z ≤ 1099511627776) ∧ rc = (g.2.2.2 ++ (rSt xs 1099511627776 (rb.1.toNat - g.1) g.2.1).1, (rSt xs 1099511627776 (rb.1.toNat - g.1) g.2.1).2))
    (fun g => [(6, .int .i64 g.1), (5, .pointer (some ⟨b5, 0, none⟩)), (4, .pointer (some ⟨br, 0, none⟩)), (2, .pointer (some ⟨b1, 0, none⟩))])
    (fun g => rO br rv g.2.1 (⟨b5, 36, [.int .i64 ra.1, .int .i64 rb.1, ovs g.2.2.1 g.1, .slice none 0 0], 4⟩ :: ⟨b1, 36, [.int .i64 0, .int .i64 0, .slice none 0 0, .slice none 0 0], 4⟩ :: oent 22 1 g.2.2.1 (g.2.2.2.map (.int .u64)) L)) (fun _ => h1) (fun g => rb.1.toNat - g.1) ?_ ?_ ?_ ?_
  · exact ⟨Nat.zero_le _, rfl, rfl, pb.1, fun z hz => by simp at hz, by simp only [List.nil_append, Nat.sub_zero]; exact hrc⟩
  · simp [Ent, List.lookup]
  · exact Drop.perm _ (List.Perm.swap _ _ _)
  rintro ⟨i, s, o, st⟩ ⟨i1, i2, i3, i4, i5, i6⟩
  simp only at i1 i2 i3 i4 i5 i6 ⊢
  by_cases d1 : i < rb.1.toNat ∧ s.2 = 0
  · obtain ⟨d1, d2⟩ := d1
    obtain ⟨k, hkk⟩ : ∃ k, rb.1.toNat - i = k + 1 := ⟨rb.1.toNat - i - 1, by omega⟩
    have hk2 : rb.1.toNat - (i + 1) = k := by omega
    rw [hkk] at i6
    simp only [rSt, d2, ne_eq, not_true_eq_false, if_false] at i6
    have pn := rNum_pos xs s 1099511627776 hz i4 (by decide)
    simp only [wO, rO, dO, List.cons_append, List.nil_append]
    simp -dsimp -implicitDefEqProofs (disch := first | with_reducible assumption | omega) [go_sem]
    refine rerr_any ?_
    simp only [wO, rO, dO, List.cons_append, List.nil_append]
    simp -dsimp -implicitDefEqProofs (disch := first | with_reducible assumption | omega) [go_sem]
    refine xanyl (.tk 0 (.tk 2 (.tkl 1 (.or true 3 (.or true 4 (.or true 5 (.tk 6 (.or false 7 (.fin) (.nil))) (.nil)) (.nil)) (.nil))))) (by kernel_rfl) (by kernel_rfl) [⟨b5, 36, [.int .i64 ra.1, .int .i64 rb.1, ovs o i, .slice none 0 0], 4⟩] (Drop.mem (by simp)) ?_
    simp -dsimp -implicitDefEqProofs (disch := first | with_reducible assumption | omega) [go_sem]
    refine rnum_any (s := s) hx1 i4 ?_
    simp only [wO, rO, dO, List.cons_append, List.nil_append]
    refine xkp (Drop.mem (by simp)) ?_
    simp -dsimp -implicitDefEqProofs (disch := first | with_reducible assumption | omega) [go_sem]
    refine xnew fun b6 n_b6 h_b6 => ?_
    try simp only [Apart] at n_b6
    refine xkp (Drop.mem (by simp)) ?_
    simp -dsimp -implicitDefEqProofs (disch := first | with_reducible assumption | omega) [go_sem]
    refine xappend (t := 25) (e := 22) (sz := 1) (bytes := 8) (z := [.int .u64 0]) (by kernel_rfl) tI_22 rfl rfl rfl rfl (by decide) [⟨b6, 22, [.int .u64 (rNum xs s 1099511627776).1], 1⟩, ⟨br, 278, [rv, .int .i64 (rNum xs s 1099511627776).2.2, .int .i64 (rNum xs s 1099511627776).2.1], 3⟩, ⟨b5, 36, [.int .i64 ra.1, .int .i64 rb.1, ovs o i, .slice none 0 0], 4⟩, ⟨b1, 36, [.int .i64 0, .int .i64 0, .slice none 0 0, .slice none 0 0], 4⟩] L o i (st.map (.int .u64)) i3 (by simp [i2]) (m := 1) (news := [.int .u64 (rNum xs s 1099511627776).1]) (Src.own (b := b6) (t := 22) (cap := 1) (by simp)) (by simp) (by simp [Value.oneCell']) (by simp only [maxLen]; omega) (by omega) ?_
    intro o2 j1 j2 j3
    simp only [List.cons_append, List.nil_append]
    refine xkp (Drop.mem (by simp)) ?_
    simp -dsimp -implicitDefEqProofs (disch := first | with_reducible assumption | omega) [go_sem]
    refine ⟨i + 1, (rNum xs s 1099511627776).2.1, (rNum xs s 1099511627776).2.2, o2, st ++ [(rNum xs s 1099511627776).1], ⟨by omega, by simp [i2], j1, pn.1, ?_, ?_⟩, by omega, by simp [Ent, List.lookup], ?_⟩
    · intro z hzz
      rcases List.mem_append.1 hzz with hzz | hzz
      · exact i5 z hzz
      · rw [List.mem_singleton.1 hzz]; exact pn.2
    · rw [hk2, i6]; simp
    · simp only [List.map_append, List.map_cons, List.map_nil]
      exact Drop.tail _ _ _
  · have hfin : rc = (st, s) := by
      rw [i6]
      by_cases d2 : s.2 = 0
      · have : rb.1.toNat - i = 0 := by omega
        rw [this]; simp [rSt]
      · rw [rSt_stop d2]; simp
    have hrd' : rd = rRaw xs s 32 := by rw [hrd, hfin]
    have hc1 : rc.1 = st := by rw [hfin]
    rw [hc1] at hdec
    have hi : i ≤ 128 := by omega
    subst i2
    by_cases d2 : st.length < rb.1.toNat
    all_goals
      simp only [wO, rO, dO, List.cons_append, List.nil_append]
      simp -dsimp -implicitDefEqProofs (disch := first | with_reducible assumption | omega) [go_sem]
      try
        refine rerr_any ?_
        simp only [wO, rO, dO, List.cons_append, List.nil_append]
        simp -dsimp -implicitDefEqProofs (disch := first | with_reducible assumption | omega) [go_sem]
      refine Spec.apn (rraw_any (s := s) hx1 i4 (by decide) (by decide) fun h2 r le2 hr2 ap nd => ?_)
      rw [← hrd'] at hr2 ap nd ⊢
      obtain ⟨p3, p5, p1, _⟩ := ap
      obtain ⟨⟨n1, n2, _⟩, ⟨n3, _⟩, _⟩ := nd
      have hr2' := hr2
      have or2 := hr2.open
      obtain ⟨y1, y2, rfl, _⟩ := or2
      simp only [wO, rO, dO, List.cons_append, List.nil_append]
      simp -dsimp -implicitDefEqProofs (disch := first | with_reducible assumption | omega) [go_sem]
      refine rdone_any (s := rd.2) (hx1.up le2) ?_
      by_cases e : rDone xs rd.2 = 0
      · rw [if_neg (by simpa using e)] at hdec
        simp only [wO, rO, dO, List.cons_append, List.nil_append]
        simp -dsimp -implicitDefEqProofs (disch := first | with_reducible assumption | omega) [go_sem]
        refine call_pub_o (n := st.length) [_, _, _] i3 (by simp) (by omega) (fun h3 le3 sl => ?_) ⟨Tryz.f22, Tryz.func22, by decide +kernel, rfl⟩
        have ic : IsCert h3 (.agg #[.int .i64 ra.1, .int .i64 rb.1, ovs o st.length, .slice y1 rd.1.length y2]) ⟨ra.1, rb.1, st, rd.1⟩ :=
          ⟨_, _, rfl, ⟨by simpa using sl, fun z hzz => by
            have := i5 z hzz
            rw [show IntKind.u64.min = 0 by decide, show IntKind.u64.max = 18446744073709551615 by decide]; omega⟩, hr2'.up le3, by simp only; omega, by simp only; omega, by simp only; omega, by simp only; omega⟩
        refine Spec.apn (check_any _ ic fun ap nd => ?_)
        simp only [List.cons_append, List.nil_append, Ap] at ap
        obtain ⟨w3, w5, w1, _⟩ := ap
        cases hr : rightC ⟨ra.1, rb.1, st, rd.1⟩ with
        | true =>
          rw [if_pos hr] at hdec
          rw [hdec] at hk
          simp only [if_true, List.cons_append, List.nil_append]
          simp -dsimp -implicitDefEqProofs (disch := first | with_reducible assumption | omega) [go_sem]
          exact fin_tail (fin_tail (fin_tail (fin_here (hk h3 _ (le1.trans (le2.trans le3)) ic))))
        | false =>
          rw [if_neg (by simp [hr])] at hdec
          rw [hdec] at hk
          simp only [Bool.false_eq_true, if_false, List.cons_append, List.nil_append]
          simp -dsimp -implicitDefEqProofs (disch := first | with_reducible assumption | omega) [go_sem]
          exact fin_tail (fin_tail (fin_tail (fin_here (hk h3 _ (le1.trans (le2.trans le3)) (zeroC_is h3)))))
      · rw [if_pos e] at hdec
        rw [hdec] at hk
        simp only [wO, rO, dO, List.cons_append, List.nil_append]
        simp -dsimp -implicitDefEqProofs (disch := first | with_reducible assumption | omega) [go_sem]
        exact fin_tail (fin_tail (fin_tail (fin_oent (fin_here (hk h2 _ (le1.trans le2) (zeroC_is h2))))))
end Go.X
