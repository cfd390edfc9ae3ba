/- The contract of the law DeedBack. Conditions: the value reads as a deed. -/
import Derived.Test.YtbobjcapmfpmkaaPlainU
set_option linter.unusedVariables false
set_option linter.unusedSimpArgs false
namespace Go.X
open Go.RowKit Go.Proofs Go.Bl
variable {L : Own} {h : PH} {K : PK}
theorem ddec_enc {d : DeedD} (ok : DeedOk d) (hr : rightD d = true) : ddec (encD d) = (d, 0) := by
  rcases rd_ahead (xs := encD d) (rest := []) (s := (0, 0)) (c := false) ok hr (by simp) with ⟨h, _⟩ | ⟨h1, h2, h3, h4⟩
  · cases h
  · have h4 := h4 rfl
    simp only [Bool.false_eq_true, if_false] at h3
    simp only [ddec]
    rw [if_neg (by simpa using h2), if_neg, h1]
    simp only [rDone]
    rw [if_neg (by omega)]
    simpa using h3.1
theorem ddec_cut {d : DeedD} (ok : DeedOk d) (hr : rightD d = true) (n : Nat) (hn : n < (encD d).length) : (ddec ((encD d).take n)).2 = 50 := by
  have hs : Short ((encD d).take n) (0, 0) (encD d ++ []) := by
    refine Or.inr ⟨rfl, (encD d).drop n, ?_, by simp⟩
    intro h
    have := congrArg List.length h
    simp at this
    omega
  rcases rd_ahead (rest := []) (c := true) ok hr (by simpa using hs) with ⟨_, h⟩ | ⟨h1, h2, h3, h4⟩
  · simp only [ddec]
    rw [if_pos (by omega)]
    exact h
  · simp only [if_true] at h3
    have := h3.nil
    simp only [ddec]
    rw [if_neg (by simpa using h2)]
    have e : rDone ((encD d).take n) (rdDeed ((encD d).take n) (0, 0)).2.2 = 50 := by
      simp only [rDone]
      rw [if_neg (by omega)]
      exact this
    rw [e]
    rfl
theorem ddec_more {d : DeedD} (ok : DeedOk d) (hr : rightD d = true) (z : Int) : (ddec (encD d ++ [z])).2 = 52 := by
  rcases rd_ahead (xs := encD d ++ [z]) (rest := [z]) (s := (0, 0)) (c := false) ok hr (by simp) with ⟨h, _⟩ | ⟨h1, h2, h3, h4⟩
  · cases h
  · have h4 := h4 rfl
    simp only [Bool.false_eq_true, if_false] at h3
    simp only [ddec]
    rw [if_neg (by simpa using h2)]
    have e : rDone (encD d ++ [z]) (rdDeed (encD d ++ [z]) (0, 0)).2.2 = 52 := by
      simp only [rDone]
      rw [if_pos ⟨h3.1, by simp only [List.length_append, List.length_singleton]; simp only at h4; omega⟩]
    rw [e]
    rfl
set_option maxHeartbeats 4000000 in
set_option maxRecDepth 20000 in
theorem deedback_any (v : Value) (cut : Int) (hq : ∃ q : Value × DeedD, v = deedV q.2 q.1 ∧ IsDeed h q.1 q.2) (hi0 : -9223372036854775808 ≤ cut ∧ cut ≤ 9223372036854775807) (hk : ∀ h', PH.le h h' → K (.bool true) L h') : Spec Try.prog 11 [v, .int .i64 cut] L h K := by
  obtain ⟨⟨bv, d⟩, rfl, hd0⟩ := hq
  have hd : IsDeed h bv d := hd0
  clear hd0
  change Spec Try.prog 11 [deedV d bv, .int .i64 cut] L h K
  have ob := hd.i.open
  obtain ⟨x1, y1, rfl, _⟩ := ob
  refine x_enter Try.func11 rfl (rs := [_]) rfl rfl mixed (by kernel_rfl) rfl rfl ?_
  simp -dsimp -implicitDefEqProofs (disch := first | with_reducible assumption | omega) [go_sem]
  refine xnew fun b1 n_b1 h_b1 => ?_
  try simp only [Apart] at n_b1
  simp -dsimp -implicitDefEqProofs (disch := first | with_reducible assumption | omega) [go_sem]
  refine Spec.ap (awake8_any fun h2 le2 ap => ?_)
  obtain ⟨q1, _⟩ := ap
  simp -dsimp -implicitDefEqProofs (disch := first | with_reducible assumption | omega) [go_sem]
  by_cases c1 : (d.bits.length : Int) > 200
  · simp -dsimp -implicitDefEqProofs (disch := first | with_reducible assumption | omega) [go_sem]
    exact fin_tail (fin_here (hk h2 le2))
  by_cases c2 : cut < 0
  · simp -dsimp -implicitDefEqProofs (disch := first | with_reducible assumption | omega) [go_sem]
    exact fin_tail (fin_here (hk h2 le2))
  simp -dsimp -implicitDefEqProofs (disch := first | with_reducible assumption | omega) [go_sem]
  refine Spec.ap (denc_any _ (hd.up le2) fun h3 r le3 hr3 ap => ?_)
  obtain ⟨q3, _⟩ := ap
  cases hr : rightD d with
  | false =>
    rw [hr] at hr3
    simp only [Bool.false_eq_true, if_false] at hr3 ⊢
    subst hr3
    simp -dsimp -implicitDefEqProofs (disch := first | with_reducible assumption | omega) [go_sem]
    exact fin_tail (fin_here (hk h3 (le2.trans le3)))
  | true =>
  rw [hr] at hr3
  simp only [if_true] at hr3 ⊢
  have hlen := encD_len hd.ok hr
  have hr3' := hr3
  have or3 := hr3.open
  obtain ⟨x2, y2, rfl, hy2, _⟩ := or3
  simp -dsimp -implicitDefEqProofs (disch := first | with_reducible assumption | omega) [go_sem]
  refine Spec.ap (ddec_any _ hr3' (by omega) fun h4 cv le4 hc4 ap => ?_)
  rw [ddec_enc hd.ok hr] at hc4 ⊢
  simp only at hc4 ⊢
  obtain ⟨q4, _⟩ := ap
  have hc4' := hc4
  have oc4 := hc4.open
  obtain ⟨x3, y3, rfl, _⟩ := oc4
  simp -dsimp -implicitDefEqProofs (disch := first | with_reducible assumption | omega) [go_sem]
  refine xnew fun b2 n_b2 h_b2 => ?_
  try simp only [Apart] at n_b2
  have hm1 : 0 ≤ cut % ((encD d).length : Int) := Int.emod_nonneg _ (by omega)
  have hm2 : cut % ((encD d).length : Int) < (encD d).length := Int.emod_lt_of_pos _ (by omega)
  simp -dsimp -implicitDefEqProofs (disch := first | with_reducible assumption | omega) [go_sem]
  obtain ⟨j, hj⟩ : ∃ j, j = (cut % ((encD d).length : Int)).toNat := ⟨_, rfl⟩
  rw [← hj]
  refine Spec.ap (ddec_any _ ((hr3'.up le4).take j (by omega)) (by simp; omega) fun h5 ev le5 he5 ap => ?_)
  simp only [Ap] at ap
  obtain ⟨u2, u1, _⟩ := ap
  obtain ⟨dz, hdz⟩ : ∃ dz, dz = (ddec ((encD d).take j)).1 := ⟨_, rfl⟩
  rw [ddec_cut hd.ok hr j (by omega)]
  rw [← hdz] at he5 ⊢
  have oe5 := he5.open
  obtain ⟨x4, y4, rfl, _⟩ := oe5
  simp -dsimp -implicitDefEqProofs (disch := first | with_reducible assumption | omega) [go_sem]
  refine xnew fun b3 n_b3 h_b3 => ?_
  try simp only [Apart] at n_b3
  simp -dsimp -implicitDefEqProofs (disch := first | with_reducible assumption | omega) [go_sem]
  refine xnew fun b4 n_b4 h_b4 => ?_
  try simp only [Apart] at n_b4
  simp -dsimp -implicitDefEqProofs (disch := first | with_reducible assumption | omega) [go_sem]
  have hk5 := hr3'.up (le4.trans le5)
  refine xappend (t := 23) (e := 5) (sz := 1) (bytes := 1) (z := [.int .u8 0]) (by kernel_rfl) tI_5 rfl rfl rfl rfl (by decide) [] _ (some (b4, 0)) 0 [] ⟨Nat.le_refl _, Nat.zero_le _⟩ rfl (m := (encD d).length) (Src.known hk5.1) (by simp) (ints_one _ _) (by simp only [maxLen]; omega) (by omega) ?_
  intro o1 j1 j2 j3
  simp only [Nat.zero_add, List.nil_append] at j1 j2 ⊢
  simp -dsimp -implicitDefEqProofs (disch := first | with_reducible assumption | omega) [go_sem]
  refine xnew fun b6 n_b6 h_b6 => ?_
  try simp only [Apart] at n_b6
  simp -dsimp -implicitDefEqProofs (disch := first | with_reducible assumption | omega) [go_sem]
  refine xappend (t := 23) (e := 5) (sz := 1) (bytes := 1) (z := [.int .u8 0]) (by kernel_rfl) tI_5 rfl rfl rfl rfl (by decide) [⟨b6, 5, [.int .u8 0], 1⟩] _ o1 (encD d).length ((encD d).map (.int .u8)) j1 (by simp) (m := 1) (news := [.int .u8 0]) (Src.own (b := b6) (t := 5) (cap := 1) (by simp)) (by simp) (by intro u hu; simp only [List.mem_singleton] at hu; subst hu; rfl) (by simp only [maxLen]; omega) (by omega) ?_
  intro o2 k1 k2 k3
  simp only [wO, rO, dO, List.cons_append, List.nil_append]
  simp -dsimp -implicitDefEqProofs (disch := first | with_reducible assumption | omega) [go_sem]
  refine call_pub_o (n := (encD d).length + 1) [_] k1 (by simp) (by omega) (fun h6 le6 sl => ?_) ⟨Try.f56, Try.func56, by decide +kernel, rfl⟩
  have hm : Ints h6 .u8 (ovs o2 ((encD d).length + 1)) (encD d ++ [0]) := by
    have hk6 := hk5.2
    refine ⟨by simpa using sl, ?_⟩
    intro z hz
    rcases List.mem_append.1 hz with hz | hz
    · exact hk6 z hz
    · simp only [List.mem_singleton] at hz
      subst hz
      decide
  refine Spec.apn (ddec_any _ (by simpa using hm) (by simp; omega) fun h7 gv le7 hg7 ap nd => ?_)
  rw [ddec_more hd.ok hr]
  simp only [List.cons_append, List.nil_append, Ap] at ap
  obtain ⟨w6, w3, w2, w1, _⟩ := ap
  simp only [List.cons_append, List.nil_append, Nd, Apart] at nd
  obtain ⟨⟨e1, e2, e3, _⟩, ⟨e4, e5, _⟩, ⟨e6, _⟩, _⟩ := nd
  obtain ⟨dy, hdy⟩ : ∃ dy, dy = (ddec (encD d ++ [0])).1 := ⟨_, rfl⟩
  rw [← hdy] at hg7 ⊢
  have og7 := hg7.open
  obtain ⟨x5, y5, rfl, _⟩ := og7
  simp only [wO, rO, dO, List.cons_append, List.nil_append]
  simp -dsimp -implicitDefEqProofs (disch := first | with_reducible assumption | omega) [go_sem]
  refine xnew fun b7 n_b7 h_b7 => ?_
  try simp only [Apart] at n_b7
  simp -dsimp -implicitDefEqProofs (disch := first | with_reducible assumption | omega) [go_sem]
  refine xdraw (by kernel_rfl) rfl ?_
  simp -dsimp -implicitDefEqProofs (disch := first | with_reducible assumption | omega) [go_sem]
  refine xdcall _ (plain8_any (d := d) _ (hc4.up (le5.trans (le6.trans le7))) ⟨rfl, rfl, rfl⟩) ?_
  simp -dsimp -implicitDefEqProofs (disch := first | with_reducible assumption | omega) [go_sem]
  refine xdcall _ (plain8_any (d := d) _ ((hd.up (le2.trans (le3.trans (le4.trans (le5.trans (le6.trans le7)))))).i) ⟨rfl, rfl, rfl⟩) ?_
  simp -dsimp -implicitDefEqProofs (disch := first | with_reducible assumption | omega) [go_sem]
  refine xdcall _ (likeD_any d _ _ (hc4.up (le5.trans (le6.trans le7))) ((hd.up (le2.trans (le3.trans (le4.trans (le5.trans (le6.trans le7)))))).i) ⟨rfl, rfl, rfl⟩) ?_
  simp -dsimp -implicitDefEqProofs (disch := first | with_reducible assumption | omega) [go_sem]
  exact fin_tail (fin_tail (fin_tail (fin_tail (fin_tail (fin_here (hk h7 (le2.trans (le3.trans (le4.trans (le5.trans (le6.trans le7)))))))))))
end Go.X
