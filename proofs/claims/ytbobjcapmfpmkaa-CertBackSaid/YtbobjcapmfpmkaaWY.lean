/- The contract of the law CertBack. Conditions: the values read as a certificate and as bytes. -/
import Derived.Test.YtbobjcapmfpmkaaWX
import Derived.Test.YtbobjcapmfpmkaaWP
set_option linter.unusedVariables false
set_option linter.unusedSimpArgs false
namespace Go.X
open Go.RowKit Go.Proofs Go.Bl
variable {L : Own} {h : PH} {K : PK}
theorem Ints.take0 {h : PH} {k : IntKind} {a : Option Addr} {n c : Nat} {zs : List Int} (hs : Ints h k (.slice a n c) zs) (j : Nat) (hj : j ≤ zs.length) : Ints h k (.slice a j c) (zs.take j) := hs.take j hj
theorem dec_bad {xs : List Int} {y : CertD} {e : Int} (h : decC xs = (y, e)) (he : e ≠ 0) : y = zeroC := by
  unfold decC at h
  simp only at h
  split at h
  · injection h with h1 _; exact h1.symm
  · split at h
    · injection h with _ h2; exact absurd h2.symm he
    · injection h with h1 _; exact h1.symm
theorem encC_pos (c : CertD) : 0 < (encC c).length := by
  have := formN_pos c.ep.toNat
  simp only [encC, List.length_append]
  omega
theorem encC_len {c : CertD} (h0 : ∀ i, 0 ≤ at0 c.st i) (hr : rightC c = true) : (encC c).length ≤ 2000 := by
  have hf := headC_facts (rightC_head hr)
  have hz := right_bounds h0 hr
  have hb := right_bs hr
  have e : (128 : Nat) ^ 10 = 1180591620717411303424 := by decide
  have l1 := formN_len 10 c.ep.toNat (by omega) (by decide)
  have l2 := formN_len 10 c.mem.toNat (by omega) (by decide)
  have l3 := flatN_len c.st (fun z hzz => by have := hz z hzz; omega)
  have l4 := formN_len 10 c.bs.length (by omega) (by decide)
  simp only [encC, rawN, List.length_append]
  omega
set_option maxHeartbeats 1600000 in
set_option maxRecDepth 20000 in
theorem certback_any {c : CertD} {bs : List Int} (v u : Value) (cut : Int) (hc : IsCert h v c) (hu : Ints h .u8 u bs) (hi0 : -9223372036854775808 ≤ cut ∧ cut ≤ 9223372036854775807) (hk : ∀ h', PH.le h h' → K (.bool true) L h') : Spec Try.prog 8 [v, u, .int .i64 cut] L h K := by
  have hi := hi0.2
  have hc0 := hc
  have hu0 := hu
  obtain ⟨sv, bv, rfl, hs, hb, r1, r2, r3, r4⟩ := hc
  have hsw := hs.word
  have os := hs.open
  obtain ⟨a, ca, rfl, _⟩ := os
  have ob := hb.open
  obtain ⟨b, cb, rfl, _⟩ := ob
  have ou := hu.open
  obtain ⟨a', ca', rfl, _⟩ := ou
  refine x_enter Try.func8 rfl (rs := [_]) rfl rfl mixed (by kernel_rfl) rfl rfl ?_
  simp -dsimp -implicitDefEqProofs (disch := first | with_reducible assumption | omega) [go_sem]
  refine xnew fun b1 n_b1 h_b1 => ?_
  try simp only [Apart] at n_b1
  simp -dsimp -implicitDefEqProofs (disch := first | with_reducible assumption | omega) [go_sem]
  refine Spec.ap (awake40_any fun h1 le1 ap => ?_)
  simp only [Ap] at ap
  obtain ⟨a1, _⟩ := ap
  simp -dsimp -implicitDefEqProofs (disch := first | with_reducible assumption | omega) [go_sem]
  refine few_any _ (hc0.up le1) ?_
  by_cases l1 : ¬ ((c.st.length : Int) ≤ 300 ∧ (c.bs.length : Int) ≤ 100)
  · have : (decide ((c.st.length : Int) ≤ 300) && decide ((c.bs.length : Int) ≤ 100)) = false := by
      rw [← Bool.decide_and]; exact decide_eq_false l1
    rw [this]
    simp -dsimp -implicitDefEqProofs (disch := first | with_reducible assumption | omega) [go_sem]
    exact fin_tail (fin_here (hk h1 le1))
  have e1 : (decide ((c.st.length : Int) ≤ 300) && decide ((c.bs.length : Int) ≤ 100)) = true := by
    rw [← Bool.decide_and]; exact decide_eq_true (Decidable.not_not.1 l1)
  rw [e1]
  by_cases l2 : (bs.length : Int) > 3000
  · simp -dsimp -implicitDefEqProofs (disch := first | with_reducible assumption | omega) [go_sem]
    exact fin_tail (fin_here (hk h1 le1))
  by_cases l3 : cut < 0
  · simp -dsimp -implicitDefEqProofs (disch := first | with_reducible assumption | omega) [go_sem]
    exact fin_tail (fin_here (hk h1 le1))
  simp -dsimp -implicitDefEqProofs (disch := first | with_reducible assumption | omega) [go_sem]
  refine Spec.apn (encode_any _ (hc0.up le1) fun h2 r le2 hr2 ap nd => ?_)
  obtain ⟨p1, _⟩ := ap
  have hc2 := hc0.up (le1.trans le2)
  have hu2 := hu0.up (le1.trans le2)
  have hpos := encC_pos c
  cases hr : rightC c with
  | false =>
    rw [hr] at hr2
    simp only [Bool.false_eq_true, if_false] at hr2 ⊢
    subst hr2
    simp -dsimp -implicitDefEqProofs (disch := first | with_reducible assumption | omega) [go_sem]
    refine Spec.apn (decode_any _ (hu0.up (le1.trans le2)) (by omega) fun h8 y le8 iy ap nd => ?_)
    simp only [Ap] at ap
    obtain ⟨yc, ye, hy⟩ : ∃ yc ye, decC bs = (yc, ye) := ⟨_, _, rfl⟩
    rw [hy] at iy ⊢
    simp only at iy ⊢
    have iy0 := iy
    obtain ⟨ya, yb, rfl, hya, hyb, _⟩ := iy
    have hyw := hya.word
    have oya := hya.open
    obtain ⟨ua, va, rfl, _⟩ := oya
    have oyb := hyb.open
    obtain ⟨ub, vb, rfl, _⟩ := oyb
    simp -dsimp -implicitDefEqProofs (disch := first | with_reducible assumption | omega) [go_sem]
    refine xnew fun b9 n_b9 h_b9 => ?_
    try simp only [Apart] at n_b9
    simp -dsimp -implicitDefEqProofs (disch := first | with_reducible assumption | omega) [go_sem]
    by_cases e : ye = 0
    · subst e
      obtain ⟨hry, hey⟩ := dec_sound (byte_of hu0) hy
      simp -dsimp -implicitDefEqProofs (disch := first | with_reducible assumption | omega) [go_sem]
      refine encode_any _ iy0 fun h9 t le9 ht => ?_
      rw [if_pos hry] at ht ⊢
      have ht' := ht
      have ot := ht.open
      obtain ⟨xt, yt, rfl, _⟩ := ot
      simp -dsimp -implicitDefEqProofs (disch := first | with_reducible assumption | omega) [go_sem]
      refine same8 _ _ ht' (hu0.up ((le1.trans le2).trans (le8.trans le9))) ?_
      rw [decide_eq_true hey]
      simp -dsimp -implicitDefEqProofs (disch := first | with_reducible assumption | omega) [go_sem]
      exact fin_tail (fin_tail (fin_here (hk h9 ((le1.trans le2).trans (le8.trans le9)))))
    · have hyz := dec_bad hy e
      subst hyz
      simp -dsimp -implicitDefEqProofs (disch := first | with_reducible assumption | omega) [go_sem]
      refine plain_any _ iy0 ?_
      simp -dsimp -implicitDefEqProofs (disch := first | with_reducible assumption | omega) [go_sem]
      refine same40_any _ _ iy0 (zeroC_is h8) ?_
      simp -dsimp -implicitDefEqProofs (disch := first | with_reducible assumption | omega) [go_sem]
      exact fin_tail (fin_tail (fin_here (hk h8 ((le1.trans le2).trans le8))))

  | true =>
    rw [hr] at hr2
    simp only [if_true] at hr2 ⊢
    have hel := encC_len (fun i => (hsw i).1) hr
    have hr2' := hr2
    have or2 := hr2.open
    obtain ⟨x1, y1, rfl, hy1, _⟩ := or2
    simp -dsimp -implicitDefEqProofs (disch := first | with_reducible assumption | omega) [go_sem]
    refine Spec.apn (decode_any _ hr2' (by omega) fun h3 x le3 ix ap nd => ?_)
    simp only [Ap] at ap
    obtain ⟨q1, _⟩ := ap
    rw [dec_enc (fun i => (hsw i).1) hr] at ix ⊢
    simp only at ix ⊢
    have ix0 := ix
    obtain ⟨xa, xb, rfl, hxa, hxb, _⟩ := ix
    have oxa := hxa.open
    obtain ⟨xa1, xa2, rfl, _⟩ := oxa
    have oxb := hxb.open
    obtain ⟨xb1, xb2, rfl, _⟩ := oxb
    simp -dsimp -implicitDefEqProofs (disch := first | with_reducible assumption | omega) [go_sem]
    refine xnew fun b2 n_b2 h_b2 => ?_
    try simp only [Apart] at n_b2
    have hm1 : 0 ≤ cut % ((encC c).length : Int) := Int.emod_nonneg _ (by omega)
    have hm2 : cut % ((encC c).length : Int) < (encC c).length := Int.emod_lt_of_pos _ (by omega)
    simp -dsimp -implicitDefEqProofs (disch := first | with_reducible assumption | omega) [go_sem]
    obtain ⟨j, hj⟩ : ∃ j, j = (cut % ((encC c).length : Int)).toNat := ⟨_, rfl⟩
    rw [← hj]
    refine Spec.apn (decode_any _ ((hr2'.up le3).take j (by omega)) (by simp; omega) fun h4 z le4 iz ap nd => ?_)
    simp only [Ap] at ap
    obtain ⟨t2, t1, _⟩ := ap
    rw [dec_cut (fun i => (hsw i).1) hr j (by omega)] at ⊢
    obtain ⟨zc, hzc⟩ : ∃ zc, zc = (decC ((encC c).take j)).1 := ⟨_, rfl⟩
    rw [← hzc] at iz
    obtain ⟨za, zb, rfl, hza, hzb, _⟩ := iz
    have oza := hza.open
    obtain ⟨za1, za2, rfl, _⟩ := oza
    have ozb := hzb.open
    obtain ⟨zb1, zb2, rfl, _⟩ := ozb
    simp -dsimp -implicitDefEqProofs (disch := first | with_reducible assumption | omega) [go_sem]
    refine xnew fun b3 n_b3 h_b3 => ?_
    try simp only [Apart] at n_b3
    simp -dsimp -implicitDefEqProofs (disch := first | with_reducible assumption | omega) [go_sem]
    refine xdraw (by kernel_rfl) rfl ?_
    simp -dsimp -implicitDefEqProofs (disch := first | with_reducible assumption | omega) [go_sem]
    refine xdcall _ (plain_any _ (ix0.up le4) ⟨rfl, rfl, rfl⟩) ?_
    simp -dsimp -implicitDefEqProofs (disch := first | with_reducible assumption | omega) [go_sem]
    refine xdcall _ (plain_any _ (hc2.up (le3.trans le4)) ⟨rfl, rfl, rfl⟩) ?_
    simp -dsimp -implicitDefEqProofs (disch := first | with_reducible assumption | omega) [go_sem]
    refine xdcall _ (same40_any _ _ (ix0.up le4) (hc2.up (le3.trans le4)) ⟨rfl, rfl, rfl⟩) ?_
    simp -dsimp -implicitDefEqProofs (disch := first | with_reducible assumption | omega) [go_sem]
    refine Spec.apn (decode_any _ (hu0.up ((le1.trans le2).trans (le3.trans le4))) (by omega) fun h8 y le8 iy ap nd => ?_)
    simp only [Ap] at ap
    obtain ⟨yc, ye, hy⟩ : ∃ yc ye, decC bs = (yc, ye) := ⟨_, _, rfl⟩
    rw [hy] at iy ⊢
    simp only at iy ⊢
    have iy0 := iy
    obtain ⟨ya, yb, rfl, hya, hyb, _⟩ := iy
    have hyw := hya.word
    have oya := hya.open
    obtain ⟨ua, va, rfl, _⟩ := oya
    have oyb := hyb.open
    obtain ⟨ub, vb, rfl, _⟩ := oyb
    simp -dsimp -implicitDefEqProofs (disch := first | with_reducible assumption | omega) [go_sem]
    refine xnew fun b9 n_b9 h_b9 => ?_
    try simp only [Apart] at n_b9
    simp -dsimp -implicitDefEqProofs (disch := first | with_reducible assumption | omega) [go_sem]
    by_cases e : ye = 0
    · subst e
      obtain ⟨hry, hey⟩ := dec_sound (byte_of hu0) hy
      simp -dsimp -implicitDefEqProofs (disch := first | with_reducible assumption | omega) [go_sem]
      refine encode_any _ iy0 fun h9 t le9 ht => ?_
      rw [if_pos hry] at ht ⊢
      have ht' := ht
      have ot := ht.open
      obtain ⟨xt, yt, rfl, _⟩ := ot
      simp -dsimp -implicitDefEqProofs (disch := first | with_reducible assumption | omega) [go_sem]
      refine same8 _ _ ht' (hu0.up (((le1.trans le2).trans (le3.trans le4)).trans (le8.trans le9))) ?_
      rw [decide_eq_true hey]
      simp -dsimp -implicitDefEqProofs (disch := first | with_reducible assumption | omega) [go_sem]
      exact fin_tail (fin_tail (fin_tail (fin_tail (fin_here (hk h9 (((le1.trans le2).trans (le3.trans le4)).trans (le8.trans le9)))))))
    · have hyz := dec_bad hy e
      subst hyz
      simp -dsimp -implicitDefEqProofs (disch := first | with_reducible assumption | omega) [go_sem]
      refine plain_any _ iy0 ?_
      simp -dsimp -implicitDefEqProofs (disch := first | with_reducible assumption | omega) [go_sem]
      refine same40_any _ _ iy0 (zeroC_is h8) ?_
      simp -dsimp -implicitDefEqProofs (disch := first | with_reducible assumption | omega) [go_sem]
      exact fin_tail (fin_tail (fin_tail (fin_tail (fin_here (hk h8 (((le1.trans le2).trans (le3.trans le4)).trans le8))))))

end Go.X
