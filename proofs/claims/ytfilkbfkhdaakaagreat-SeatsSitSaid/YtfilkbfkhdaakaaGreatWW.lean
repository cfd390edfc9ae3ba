/- Contracts of certificates' coding: Encode, Decode. Conditions: the values read as certificates and as bytes. -/
import Derived.Test.YtfilkbfkhdaakaaGreatWV
import Derived.Test.YtfilkbfkhdaakaaGreatWG
import Derived.Test.YtfilkbfkhdaakaaGreatPlainA
set_option linter.unusedVariables false
set_option linter.unusedSimpArgs false
namespace Go.X
open Go.RowKit Go.Proofs Go.Bl
variable {L : Own} {h : PH} {K : PK}

theorem flatN_snoc (st : List Int) (i : Nat) (hi : i < st.length) : flatN (st.take (i + 1)) = flatN (st.take i) ++ formN (at0 st i).toNat := by
  rw [List.take_succ_eq_append_getElem hi, flatN_append, at0_lt hi]
  simp [flatN]
set_option maxRecDepth 20000 in
theorem encode_any {c : CertD} (v : Value) (hc : IsCert h v c) (hk : ∀ h' r, PH.le h h' → (if rightC c = true then Ints h' .u8 r (encC c) else r = .slice none 0 0) → K (.tuple #[r, .int .i64 (if rightC c = true then 0 else 2)]) L h') : Spec Tryz.prog 23 [v] L h K := by
  have hc0 := hc
  obtain ⟨sv, bv, rfl, hs, hb, r1, r2, r3, r4⟩ := hc
  have hsw := hs.word
  have os := hs.open
  obtain ⟨a, ca, rfl, _, _, _, hcx⟩ := os
  have ob := hb.open
  obtain ⟨b, cb, rfl, _⟩ := ob
  refine x_enter Tryz.func23 rfl (rs := [_, _]) rfl rfl mixed (by kernel_rfl) rfl rfl ?_
  simp -dsimp -implicitDefEqProofs (disch := first | with_reducible assumption | omega) [go_sem]
  refine xnew fun b1 n_b1 h_b1 => ?_
  try simp only [Apart] at n_b1
  simp -dsimp -implicitDefEqProofs (disch := first | with_reducible assumption | omega) [go_sem]
  refine check_any _ hc0 ?_
  cases hr : rightC c with
  | false =>
    rw [hr] at hk
    simp only [Bool.false_eq_true, if_false] at hk ⊢
    simp -dsimp -implicitDefEqProofs (disch := first | with_reducible assumption | omega) [go_sem]
    exact fin_tail (fin_here (hk h _ (PH.le_refl h) rfl))
  | true =>
  rw [hr] at hk
  simp only [if_true] at hk ⊢
  have hf := headC_facts (rightC_head hr)
  have hz := right_bounds (fun i => (hsw i).1) hr
  have hbl := right_bs hr
  have l1 := formN_len 10 c.ep.toNat (by have : (128 : Nat) ^ 10 = 1180591620717411303424 := by decide
                                         omega) (by decide)
  have l2 := formN_len 10 c.mem.toNat (by have : (128 : Nat) ^ 10 = 1180591620717411303424 := by decide
                                          omega) (by decide)
  have l3 := flatN_len c.st (fun z hzz => by have := hz z hzz; omega)
  have l4 := formN_len 10 c.bs.length (by have : (128 : Nat) ^ 10 = 1180591620717411303424 := by decide
                                          omega) (by decide)
  have l5 : (rawN c.bs).length ≤ 26 := by simp [rawN]; omega
  simp -dsimp -implicitDefEqProofs (disch := first | with_reducible assumption | omega) [go_sem]
  refine xnew fun b2 n_b2 h_b2 => ?_
  try simp only [Apart] at n_b2
  simp -dsimp -implicitDefEqProofs (disch := first | with_reducible assumption | omega) [go_sem]
  refine Spec.apn (wint_any (o := none) (s := ([], 0)) [_] c.ep (by omega) rfl (by simp) fun h1 o1 le1 k1 ap nd => ?_)
  rw [wInt_ok hf.1 (by simp; omega)] at k1 ap nd ⊢
  simp only [List.nil_append] at k1 ap nd ⊢
  obtain ⟨q2, q1, _⟩ := ap
  simp only [wO, rO, dO, List.cons_append, List.nil_append]
  simp -dsimp -implicitDefEqProofs (disch := first | with_reducible assumption | omega) [go_sem]
  have k1' : (formN c.ep.toNat).length ≤ 10 := l1
  refine Spec.apn (wint_any (o := o1) (s := (formN c.ep.toNat, 0)) [_] c.mem (by omega) k1 (by simp only; omega) fun h2 o2 le2 k2 ap nd => ?_)
  obtain ⟨B, hB⟩ : ∃ B : Nat → List Int, ∀ i, B i = formN c.ep.toNat ++ formN c.mem.toNat ++ flatN (c.st.take i) := ⟨_, fun _ => rfl⟩
  have e0 : formN c.ep.toNat ++ formN c.mem.toNat = B 0 := by rw [hB]; simp [flatN]
  rw [wInt_ok hf.2.2.1 (by omega), e0] at k2 ap nd ⊢
  simp only at k2 ap nd ⊢
  obtain ⟨p2, p1, _⟩ := ap
  simp only [wO, rO, dO, List.cons_append, List.nil_append]
  simp -dsimp -implicitDefEqProofs (disch := first | with_reducible assumption | omega) [go_sem]
  refine xloop (γ := Nat × Option (Nat × Nat) × PH) (0, o2, h2)
    (fun s => s.1 ≤ c.st.length ∧ PH.le h s.2.2 ∧ okO s.2.1 (B s.1).length ∧ s.2.2 b2 = noC ∧ s.2.2 b1 = noC)
    (fun s => [(26, .int .i64 s.1), (25, .int .i64 c.st.length), (24, .slice a c.st.length ca), (5, .pointer (some ⟨b2, 0, none⟩)), (1, .pointer (some ⟨b1, 0, none⟩))])
    (fun s => wO b2 s.2.1 (B s.1, 0) [⟨b1, 36, [.int .i64 c.ep, .int .i64 c.mem, .slice a c.st.length ca, .slice b c.bs.length cb], 4⟩] L) (fun s => s.2.2) (fun s => c.st.length - s.1) ?_ ?_ ?_ ?_
  · exact ⟨Nat.zero_le _, le1.trans le2, k2, p2, p1⟩
  · simp [Ent, List.lookup]
  · exact Drop.refl _ _
  rintro ⟨i, o, hh⟩ ⟨i1, i2, i3, i4, i5⟩
  simp only at i1 i2 i3 i4 i5 ⊢
  have hfl : (flatN (c.st.take i)).length ≤ 1280 := by
    have := flatN_len (c.st.take i) (fun z hzz => by have := hz z (List.mem_of_mem_take hzz); omega)
    have h2 : (c.st.take i).length ≤ c.st.length := by simp; omega
    omega
  have hBl : (B i).length ≤ 1300 := by rw [hB]; simp only [List.length_append]; omega
  have hcx' : ∀ j, j < c.st.length → elemCell hh a j = some (Value.int IntKind.u64 (at0 c.st j)) := fun j hj => elemCell_up i2 (hcx j hj)
  by_cases d1 : i < c.st.length
  · obtain ⟨m, hm⟩ := Int.eq_ofNat_of_zero_le (hsw i).1
    have hmb := (hsw i).2
    have lm := formN_len 10 m (by have : (128 : Nat) ^ 10 = 1180591620717411303424 := by decide
                                  omega) (by decide)
    simp only [wO, rO, dO, List.cons_append, List.nil_append]
    simp -dsimp -implicitDefEqProofs (disch := first | with_reducible assumption | omega) [go_sem, idx hcx']
    rw [hm]
    refine Spec.apn (wnum_any (o := o) (s := (B i, 0)) [_] m (by omega) i3 (by simp only; omega) fun h3 o3 le3 k3 ap nd => ?_)
    have es := flatN_snoc c.st i d1
    rw [hm, Int.toNat_natCast] at es
    have eB : B i ++ formN m = B (i + 1) := by rw [hB, hB, es]; simp
    rw [wPut_ok (by omega), eB] at k3 ap nd ⊢
    simp only at k3 ap nd ⊢
    obtain ⟨t2, t1, _⟩ := ap
    simp only [wO, rO, dO, List.cons_append, List.nil_append]
    simp -dsimp -implicitDefEqProofs (disch := first | with_reducible assumption | omega) [go_sem]
    exact ⟨i + 1, o3, h3, ⟨by omega, i2.trans le3, k3, t2, t1⟩, by omega, by simp [Ent, List.lookup], Drop.refl _ _⟩
  · have hi : i = c.st.length := by omega
    subst hi
    simp only [wO, rO, dO, List.cons_append, List.nil_append]
    simp -dsimp -implicitDefEqProofs (disch := first | with_reducible assumption | omega) [go_sem]
    refine Spec.apn (wraw_any (o := o) (s := (B c.st.length, 0)) [_] _ (hb.up i2) (by omega) i3 (by simp only; omega) fun h3 o3 le3 k3 ap nd => ?_)
    have ee : B c.st.length ++ rawN c.bs = encC c := by rw [hB]; simp [encC]
    rw [wPut_ok (by omega), ee] at k3 ap nd ⊢
    simp only at k3 ap nd ⊢
    have eb : ∀ z ∈ encC c, 0 ≤ z ∧ z ≤ 255 := by
      intro z hzz
      simp only [encC, List.mem_append, rawN] at hzz
      rcases hzz with hzz | hzz | hzz | hzz | hzz
      · exact formN_byte _ z hzz
      · exact formN_byte _ z hzz
      · exact flatN_byte _ z hzz
      · exact formN_byte _ z hzz
      · have := hb.2 z hzz
        rwa [show IntKind.u8.min = 0 by decide, show IntKind.u8.max = 255 by decide] at this
    have el : (encC c).length ≤ 131072 := by rw [← ee]; simp only [List.length_append]; omega
    simp only [wO, rO, dO, List.cons_append, List.nil_append]
    simp -dsimp -implicitDefEqProofs (disch := first | with_reducible assumption | omega) [go_sem]
    refine wout_any (o := o3) (s := (encC c, 0)) [_] eb k3 el fun h4 r le4 hr4 _ => ?_
    simp only [wO, rO, dO, List.cons_append, List.nil_append]
    simp -dsimp -implicitDefEqProofs (disch := first | with_reducible assumption | omega) [go_sem]
    refine fin_tail (fin_tail ?_)
    cases o3 with
    | none => exact fin_here (hk h4 r (i2.trans (le3.trans le4)) (hr4 rfl))
    | some p => exact fin_tail (fin_here (hk h4 r (i2.trans (le3.trans le4)) (hr4 rfl)))
end Go.X
