/- Part of the proof of a statement about the given program: lemmas and contracts. Conditions: as each says. -/
import Derived.Test.YtkmojeioedjfkaaGreatQ15
/- Plain laws of deeds' coding: what is encoded is read as it was; cut off it is not all there; what is read has just these bytes. Conditions: as each lemma says. -/
set_option linter.unusedVariables false
set_option linter.unusedSimpArgs false
namespace Go.X
open Go.RowKit Go.Bl

/-! ### where a failure came ahead -/
theorem rAll_stop {xs : List Int} {most : Int} {s : Nat × Int} (h : s.2 ≠ 0) : ∀ k, (rAll xs most k s).2 = s
  | 0 => rfl
  | k + 1 => by simp only [rAll, rNum_stop h]; exact rAll_stop h k
theorem rdMove_stop {xs : List Int} {d : DeedD} {s : Nat × Int} {e : Int} (h : s.2 ≠ 0) : (rdMove xs d s e).2.1 = s := by
  simp only [rdMove, rNum_stop h]
  rw [if_neg (fun hh => h hh.2)]
theorem rdBody_stop {xs : List Int} {d : DeedD} {s : Nat × Int} {e : Int} (h : s.2 ≠ 0) : (rdBody xs d s e).2.1 = s := by
  unfold rdBody
  split
  · rw [rNum_stop h]
  · split
    · rw [rNum_stop h]
    · split
      · exact rdMove_stop h
      · split
        · simp only [rNum_stop h]
        · rfl
theorem rdAmt_stop {xs : List Int} {q : DeedD × (Nat × Int) × Int} (h : q.2.1.2 ≠ 0) : rdAmt xs q = q := by
  unfold rdAmt
  rw [if_neg (fun hh => h hh.2.1)]
/-! ### there and back -/
theorem rNum_formI {xs rest : List Int} {k : Nat} {z most : Int} (h : xs.drop k = formN z.toNat ++ rest) (h0 : 0 ≤ z) (hm : z ≤ most) (hn : z < 18446744073709551616) : rNum xs (k, 0) most = (z, (k + (formN z.toNat).length, 0)) ∧ xs.drop (k + (formN z.toNat).length) = rest := by
  obtain ⟨n, rfl⟩ := Int.eq_ofNat_of_zero_le h0
  simp only [Int.toNat_natCast] at h ⊢
  exact rNum_form h (by omega) hm
theorem rAll_form {xs : List Int} {most : Int} (hm : most < 18446744073709551616) : ∀ (st : List Int) (k : Nat) (rest : List Int), xs.drop k = flatN st ++ rest → (∀ z ∈ st, 0 ≤ z ∧ z ≤ most) →
    rAll xs most st.length (k, 0) = (st, (k + (flatN st).length, 0)) ∧ xs.drop (k + (flatN st).length) = rest
  | [], k, rest, h, _ => ⟨rfl, by simpa [flatN] using h⟩
  | z :: st, k, rest, h, hz => by
    have h1 := hz z (by simp)
    simp only [flatN, List.append_assoc] at h
    obtain ⟨h2, h3⟩ := rNum_formI h h1.1 h1.2 (by omega)
    obtain ⟨h4, h5⟩ := rAll_form hm st _ rest h3 (fun x hx => hz x (by simp [hx]))
    refine ⟨?_, ?_⟩
    · simp only [rAll, List.length_cons, h2, h4, flatN, List.length_append, Nat.add_assoc]
    · simp only [flatN, List.length_append]
      rw [← Nat.add_assoc]; exact h5
theorem rAll_short {xs : List Int} {most : Int} (hm : most < 18446744073709551616) : ∀ (st : List Int) (s : Nat × Int) (rest : List Int), Short xs s (flatN st ++ rest) → (∀ z ∈ st, 0 ≤ z ∧ z ≤ most) →
    (rAll xs most st.length s).2.2 = 50 ∨ rAll xs most st.length s = (st, (rAll xs most st.length s).2) ∧ (rAll xs most st.length s).2.2 = 0 ∧ Short xs (rAll xs most st.length s).2 rest
  | [], s, rest, h, _ => by
    simp only [flatN, List.nil_append] at h
    simp only [rAll, List.length_nil]
    rcases h with h | h
    · exact Or.inl h
    · exact Or.inr ⟨trivial, h.1, Or.inr h⟩
  | z :: st, s, rest, h, hz => by
    have h1 := hz z (by simp)
    obtain ⟨n, rfl⟩ := Int.eq_ofNat_of_zero_le h1.1
    simp only [flatN, List.append_assoc, Int.toNat_natCast] at h
    simp only [rAll, List.length_cons]
    rcases h.num (by omega) h1.2 with h2 | ⟨h3, h4, h5⟩
    · left; rw [rAll_stop (by omega)]; exact h2
    · rcases rAll_short hm st _ rest h5 (fun x hx => hz x (by simp [hx])) with g | ⟨g1, g2, g3⟩
      · exact Or.inl g
      · refine Or.inr ⟨?_, g2, g3⟩
        rw [h3, g1]
theorem rAll_sound {xs : List Int} {most : Int} (hx : ∀ z ∈ xs, 0 ≤ z ∧ z ≤ 255) : ∀ (m : Nat) (s : Nat × Int) (st : List Int) (k : Nat), s.1 ≤ xs.length → rAll xs most m s = (st, (k, 0)) →
    s.2 = 0 ∧ xs.drop s.1 = flatN st ++ xs.drop k ∧ k ≤ xs.length
  | 0, s, st, k, hs, h => by
    simp only [rAll] at h
    injection h with h1 h2
    subst h1
    subst h2
    exact ⟨rfl, by simp [flatN], hs⟩
  | m + 1, s, st, k, hs, h => by
    simp only [rAll] at h
    injection h with h1 h2
    subst h1
    cases hr : rNum xs s most with
    | mk v p =>
      obtain ⟨j, e⟩ := p
      rw [hr] at h2
      simp only at h2 ⊢
      by_cases he : e = 0
      · subst he
        obtain ⟨h0, n, rfl, hn, _, hd, _, hj⟩ := rNum_sound hx hr
        obtain ⟨_, b4, b5⟩ := rAll_sound hx m (j, 0) (rAll xs most m (j, 0)).1 k (hj hs) (Prod.ext rfl h2)
        refine ⟨h0, ?_, b5⟩
        simp only [flatN, Int.toNat_natCast, List.append_assoc]
        simp only at b4
        rw [hd, b4]
      · rw [rAll_stop (by simpa using he)] at h2
        injection h2 with _ h2
        exact absurd h2 he
theorem parL_self (p : ParD) : parL (wides p) (narrows p) = p := by cases p; rfl
theorem par_bounds {p : ParD} (ok : ParOk p) (hr : parR p = true) : (∀ z ∈ wides p, 0 ≤ z ∧ z ≤ 18446744073709551615) ∧ ∀ z ∈ narrows p, 0 ≤ z ∧ z ≤ 2147483647 :=
  ⟨ok.w, fun z hz => by have := narrows_pos hr z hz; omega⟩
theorem rPar_form {xs rest : List Int} {k : Nat} {p : ParD} (ok : ParOk p) (hr : parR p = true) (h : xs.drop k = encP p ++ rest) : rPar xs (k, 0) = (p, (k + (encP p).length, 0)) ∧ pRead xs (k, 0) = (p, 0) ∧ xs.drop (k + (encP p).length) = rest := by
  obtain ⟨b1, b2⟩ := par_bounds ok hr
  have ep : encP p = flatN (wides p) ++ flatN (narrows p) := by rw [encP, flatN_append]
  rw [ep, List.append_assoc] at h
  obtain ⟨h1, h2⟩ := rAll_form (by decide) (wides p) k _ h b1
  obtain ⟨h3, h4⟩ := rAll_form (by decide) (narrows p) _ rest h2 b2
  have l1 : (wides p).length = 14 := rfl
  have l2 : (narrows p).length = 10 := rfl
  rw [l1] at h1
  rw [l2] at h3
  have e : rPar xs (k, 0) = (p, (k + (encP p).length, 0)) := by
    simp only [rPar, h1, h3, parL_self, ep, List.length_append, Nat.add_assoc]
  refine ⟨e, ?_, ?_⟩
  · simp [pRead, e, hr]
  · rw [ep, List.length_append, ← Nat.add_assoc]; exact h4
theorem rPar_short {xs rest : List Int} {s : Nat × Int} {p : ParD} (ok : ParOk p) (hr : parR p = true) (h : Short xs s (encP p ++ rest)) : (rPar xs s).2.2 = 50 ∨ (rPar xs s).1 = p ∧ (rPar xs s).2.2 = 0 ∧ pRead xs s = (p, 0) ∧ Short xs (rPar xs s).2 rest := by
  obtain ⟨b1, b2⟩ := par_bounds ok hr
  have ep : encP p = flatN (wides p) ++ flatN (narrows p) := by rw [encP, flatN_append]
  rw [ep, List.append_assoc] at h
  have l1 : (wides p).length = 14 := rfl
  have l2 : (narrows p).length = 10 := rfl
  rcases rAll_short (by decide) (wides p) s _ h b1 with h1 | ⟨h1, h2, h3⟩
  · left
    rw [l1] at h1
    simp only [rPar]
    rw [rAll_stop (by omega)]; exact h1
  · rw [l1] at h1 h2 h3
    rcases rAll_short (by decide) (narrows p) _ _ h3 b2 with g1 | ⟨g1, g2, g3⟩
    · left; rw [l2] at g1; exact g1
    · rw [l2] at g1 g2 g3
      have e1 : (rAll xs 18446744073709551615 14 s).1 = wides p := by rw [h1]
      have e2 : (rAll xs 2147483647 10 (rAll xs 18446744073709551615 14 s).2).1 = narrows p := by rw [g1]
      have e : (rPar xs s).1 = p := by simp only [rPar, e1, e2, parL_self]
      have e3 : (rPar xs s).2.2 = 0 := g2
      refine Or.inr ⟨e, e3, ?_, g3⟩
      simp [pRead, e3, e, hr]
theorem rPar_sound {xs : List Int} {s : Nat × Int} {k : Nat} (hx : ∀ z ∈ xs, 0 ≤ z ∧ z ≤ 255) (hs : s.1 ≤ xs.length) (h : (rPar xs s).2 = (k, 0)) : s.2 = 0 ∧ xs.drop s.1 = encP (rPar xs s).1 ++ xs.drop k ∧ k ≤ xs.length := by
  simp only [rPar] at h ⊢
  have hp := rAll_pos hx (most := 18446744073709551615) (by decide) 14 s hs
  obtain ⟨a1, a2, a3⟩ := rAll_sound hx 10 (rAll xs 18446744073709551615 14 s).2 _ k hp.1 (Prod.ext rfl h)
  obtain ⟨j, e⟩ : ∃ j, (rAll xs 18446744073709551615 14 s).2 = (j, 0) := ⟨(rAll xs 18446744073709551615 14 s).2.1, Prod.ext rfl a1⟩
  obtain ⟨b1, b2, b3⟩ := rAll_sound hx 14 s _ j hs (Prod.ext rfl e)
  refine ⟨b1, ?_, a3⟩
  rw [encP, wides_parL _ _ (rAll_len _ _ _ _), narrows_parL _ _ (rAll_len _ _ _ _), flatN_append, List.append_assoc, ← a2, b2, e]
end Go.X
/-! Plain laws of deeds' coding, whole deeds. Conditions: as each lemma says. -/
namespace Go.X
open Go.RowKit Go.Bl

theorem must_true (n e t : Int) : must true n e t = e := by simp [must]
theorem must_z {ok : Bool} {n e t : Int} (hn : n ≠ 0) (ht : t = 0) (he : e = 0) (h : must ok n e t = 0) : ok = true := by
  cases ok with
  | true => rfl
  | false => simp [must, he, ht] at h; exact absurd h hn
theorem sameD_eq {a b : DeedD} (h : sameD a b = true) (hb : b.bits = [] ∨ b.bits = a.bits) : a = b := by
  cases a; cases b
  simp only [sameD, Bool.and_eq_true, decide_eq_true_eq, beq_iff_eq] at h
  simp only at hb
  obtain ⟨h1, h2, h3, h4, h5, h6, h7, h8, h9, h10, h11⟩ := h
  simp only [DeedD.mk.injEq]
  refine ⟨h1, h2, h3, h4, h5, h6, ?_, h7, h8, h9, h10⟩
  rcases hb with hb | hb
  · subst hb
    exact List.eq_nil_of_length_eq_zero (by simpa using h11)
  · exact hb.symm
theorem bareD_bits (d : DeedD) : (bareD d).bits = [] ∨ (bareD d).bits = d.bits := by
  unfold bareD
  repeat' split
  all_goals first | exact Or.inl rfl | exact Or.inr rfl
theorem right_bare {d : DeedD} (hr : rightD d = true) : d = bareD d := by
  have : sameD d (bareD d) = true := by
    simp only [rightD, Bool.and_eq_true] at hr; exact hr.1.1.1.2
  exact sameD_eq this (bareD_bits d)
theorem right_paid {d : DeedD} (hr : rightD d = true) : paidD d = decide (0 < d.amt) := by
  simp only [rightD, Bool.and_eq_true, beq_iff_eq] at hr
  exact hr.1.2.1.1.1
theorem rdAll_ok {xs : List Int} {s : Nat × Int} {z : Int} {t : Nat × Int} (h : rNum xs s 255 = (z, t)) (ht : t.2 = 0) (hw : wi z 1 7 = true) : rdAll xs s = rdFields xs { zeroD with kind := z } t 0 := by
  simp only [rdAll, h, hw, must_true, ht]
  simp
theorem rdAll_bad {xs : List Int} {s : Nat × Int} (h : (rNum xs s 255).2.2 ≠ 0) : (rdAll xs s).2.1 = (rNum xs s 255).2 := by
  simp only [rdAll]
  rw [if_neg (fun hh => h hh.2)]
theorem rdFields_ok {xs : List Int} {d : DeedD} {s : Nat × Int} {e : Int} (hk : ¬ d.kind = 5) : rdFields xs d s e = rdAmt xs (rdBody xs { d with acct := (rNum xs s 63).1 } (rNum xs s 63).2 e) := by
  simp [rdFields, hk]
theorem rdAmt_no {xs : List Int} {d : DeedD} {s : Nat × Int} {e : Int} (h : paidD d = false) : rdAmt xs (d, s, e) = (d, s, e) := by
  unfold rdAmt
  rw [if_neg (fun hh => by have := hh.2.2; simp only at this; rw [h] at this; cases this)]
theorem rdAmt_ok {xs : List Int} {d : DeedD} {s : Nat × Int} (h : paidD d = true) (hs : s.2 = 0) (hp : 0 < (rNum xs s 4611686018427387904).1 ∨ (rNum xs s 4611686018427387904).2.2 ≠ 0) : rdAmt xs (d, s, 0) = ({ d with amt := (rNum xs s 4611686018427387904).1 }, (rNum xs s 4611686018427387904).2, 0) := by
  unfold rdAmt
  rw [if_pos ⟨rfl, hs, h⟩]
  simp only
  rcases hp with hp | hp
  · rw [decide_eq_true hp, must_true]
  · simp only [must]
    rw [if_neg (fun hh => hp hh.2.2)]
theorem rdDeed_ok {xs : List Int} {s : Nat × Int} {d : DeedD} {t : Nat × Int} (h : rdAll xs s = (d, t, 0)) (ht : t.2 = 0) : rdDeed xs s = (d, 0, t) := by
  simp [rdDeed, h, ht]
theorem rdDeed_err {xs : List Int} {s : Nat × Int} (h : (rdAll xs s).2.1.2 = 50) : (rdDeed xs s).2.1 = 50 := by
  simp only [rdDeed]
  rw [if_pos (by omega)]
  exact h
theorem num_ahead {xs rest : List Int} {s : Nat × Int} {z most : Int} {c : Bool} (h0 : 0 ≤ z) (hm : z ≤ most) (hn : z < 18446744073709551616) (h : if c then Short xs s (formN z.toNat ++ rest) else s.2 = 0 ∧ xs.drop s.1 = formN z.toNat ++ rest) :
    (c = true ∧ (rNum xs s most).2.2 = 50) ∨ (rNum xs s most).1 = z ∧ (rNum xs s most).2.2 = 0 ∧ (if c then Short xs (rNum xs s most).2 rest else (rNum xs s most).2.2 = 0 ∧ xs.drop (rNum xs s most).2.1 = rest) ∧ (c = false → (rNum xs s most).2.1 = s.1 + (formN z.toNat).length) := by
  obtain ⟨n, rfl⟩ := Int.eq_ofNat_of_zero_le h0
  simp only [Int.toNat_natCast] at h ⊢
  cases c with
  | true =>
    simp only [if_true] at h ⊢
    rcases h.num (by omega) hm with h1 | ⟨h1, h2, h3⟩
    · exact Or.inl ⟨trivial, h1⟩
    · exact Or.inr ⟨h1, h2, h3, fun h => by cases h⟩
  | false =>
    simp only [Bool.false_eq_true, if_false] at h ⊢
    obtain ⟨k, e⟩ := s
    obtain ⟨he, hd⟩ := h
    simp only at he hd
    subst he
    obtain ⟨a1, a2⟩ := rNum_form hd (by omega) hm
    rw [a1]
    refine Or.inr ?_
    simp [a2]
theorem raw_ahead {xs rest b : List Int} {s : Nat × Int} {most : Int} {c : Bool} (hm : (b.length : Int) ≤ most) (hn : b.length < 18446744073709551616) (h : if c then Short xs s (rawN b ++ rest) else s.2 = 0 ∧ xs.drop s.1 = rawN b ++ rest) :
    (c = true ∧ (rRaw xs s most).2.2 = 50) ∨ (rRaw xs s most).1 = b ∧ (rRaw xs s most).2.2 = 0 ∧ (if c then Short xs (rRaw xs s most).2 rest else (rRaw xs s most).2.2 = 0 ∧ xs.drop (rRaw xs s most).2.1 = rest) ∧ (c = false → (rRaw xs s most).2.1 = s.1 + (rawN b).length) := by
  cases c with
  | true =>
    simp only [if_true] at h ⊢
    rcases h.raw (by omega) hm with h1 | ⟨h1, h2, h3⟩
    · exact Or.inl ⟨trivial, h1⟩
    · exact Or.inr ⟨h1, h2, h3, fun h => by cases h⟩
  | false =>
    simp only [Bool.false_eq_true, if_false] at h ⊢
    obtain ⟨k, e⟩ := s
    obtain ⟨he, hd⟩ := h
    simp only at he hd
    subst he
    obtain ⟨a1, a2⟩ := rRaw_form hd (by omega) hm
    rw [a1]
    refine Or.inr ?_
    simp [a2]
theorem par_ahead {xs rest : List Int} {s : Nat × Int} {p : ParD} {c : Bool} (ok : ParOk p) (hr : parR p = true) (h : if c then Short xs s (encP p ++ rest) else s.2 = 0 ∧ xs.drop s.1 = encP p ++ rest) :
    (c = true ∧ (rPar xs s).2.2 = 50) ∨ pRead xs s = (p, 0) ∧ (rPar xs s).2.2 = 0 ∧ (if c then Short xs (rPar xs s).2 rest else (rPar xs s).2.2 = 0 ∧ xs.drop (rPar xs s).2.1 = rest) ∧ (c = false → (rPar xs s).2.1 = s.1 + (encP p).length) := by
  cases c with
  | true =>
    simp only [if_true] at h ⊢
    rcases rPar_short ok hr h with h1 | ⟨_, h2, h3, h4⟩
    · exact Or.inl ⟨trivial, h1⟩
    · exact Or.inr ⟨h3, h2, h4, fun h => by cases h⟩
  | false =>
    simp only [Bool.false_eq_true, if_false] at h ⊢
    obtain ⟨k, e⟩ := s
    obtain ⟨he, hd⟩ := h
    simp only at he hd
    subst he
    obtain ⟨a1, a2, a3⟩ := rPar_form ok hr hd
    rw [a1]
    refine Or.inr ?_
    simp [a2, a3]
/-- a deed's bytes, or their beginning, read -/
theorem rd_ahead {xs rest : List Int} {s : Nat × Int} {d : DeedD} {c : Bool} (ok : DeedOk d) (hr : rightD d = true) (h : if c then Short xs s (encD d ++ rest) else s.2 = 0 ∧ xs.drop s.1 = encD d ++ rest) :
    (c = true ∧ (rdDeed xs s).2.1 = 50) ∨ (rdDeed xs s).1 = d ∧ (rdDeed xs s).2.1 = 0 ∧ (if c then Short xs (rdDeed xs s).2.2 rest else (rdDeed xs s).2.2.2 = 0 ∧ xs.drop (rdDeed xs s).2.2.1 = rest) ∧ (c = false → (rdDeed xs s).2.2.1 = s.1 + (encD d).length) := by
  have ff := rightD_facts hr
  have hamt := ok.a
  have hbare := right_bare hr
  have hpaid := right_paid hr
  by_cases kd1 : d.kind = 1
  · have ee : encD d = formN d.kind.toNat ++ (formN d.acct.toNat ++ (formN d.to.toNat ++ (formN d.amt.toNat))) := by simp [encD, paidD, wi, kd1]
    rw [ee] at h
    simp only [List.append_assoc] at h
    have hw : wi d.kind 1 7 = true := wi_iff.2 ⟨by omega, by omega⟩
    rcases num_ahead (most := 255) (z := d.kind) (by omega) (by omega) (by omega) h with ⟨hc, f0⟩ | ⟨v0, z0, n0, m0⟩
    · exact Or.inl ⟨hc, rdDeed_err (by rw [rdAll_bad (by omega)]; exact f0)⟩
    have hA := rdAll_ok (xs := xs) (s := s) (Prod.ext v0 rfl : rNum xs s 255 = (d.kind, (rNum xs s 255).2)) z0 hw
    obtain ⟨t0, ht0⟩ : ∃ t, t = (rNum xs s 255).2 := ⟨_, rfl⟩
    rw [← ht0] at hA n0 m0 z0
    rw [rdFields_ok (by simp only; omega)] at hA
    rcases num_ahead (most := 63) (z := d.acct) (by omega) (by omega) (by omega) n0 with ⟨hc, f1⟩ | ⟨v1, z1, n1, m1⟩
    · refine Or.inl ⟨hc, rdDeed_err ?_⟩
      have hb := rdBody_stop (xs := xs) (d := { ({ zeroD with kind := d.kind } : DeedD) with acct := (rNum xs t0 63).1 }) (s := (rNum xs t0 63).2) (e := 0) (by omega)
      rw [hA, rdAmt_stop (by rw [hb]; omega), hb]; exact f1
    rw [v1] at hA
    obtain ⟨t1, ht1⟩ : ∃ t, t = (rNum xs t0 63).2 := ⟨_, rfl⟩
    rw [← ht1] at hA n1 m1 z1
    rw [show ∀ a t, rdBody xs { ({ zeroD with kind := d.kind } : DeedD) with acct := a } t 0 = ({ zeroD with kind := d.kind, acct := a, to := (rNum xs t 63).1 }, (rNum xs t 63).2, 0) from fun a t => by simp [rdBody, kd1]] at hA
    rcases num_ahead (most := 63) (z := d.to) (by omega) (by omega) (by omega) n1 with ⟨hc, f2⟩ | ⟨v2, z2, n2, m2⟩
    · refine Or.inl ⟨hc, rdDeed_err ?_⟩
      rw [hA, rdAmt_stop (by simp only; omega)]; exact f2
    rw [v2] at hA
    obtain ⟨t2, ht2⟩ : ∃ t, t = (rNum xs t1 63).2 := ⟨_, rfl⟩
    rw [← ht2] at hA n2 m2 z2
    have hp : paidD ({ zeroD with kind := d.kind, acct := d.acct, to := d.to } : DeedD) = true := by simp [paidD, wi, zeroD, kd1]
    have hpos : 0 < d.amt := by
      have hq : paidD d = true := by simp [paidD, wi, kd1]
      rw [hpaid] at hq; simpa using hq
    rcases num_ahead (rest := rest) (most := 4611686018427387904) (z := d.amt) (by omega) (by omega) (by omega) n2 with ⟨hc, f3⟩ | ⟨v3, z3, n3, m3⟩
    · refine Or.inl ⟨hc, rdDeed_err ?_⟩
      rw [hA, rdAmt_ok hp z2 (Or.inr (by omega))]; exact f3
    rw [rdAmt_ok hp z2 (Or.inl (by omega)), v3] at hA
    have hd := rdDeed_ok hA z3
    rw [hd]
    refine Or.inr ⟨by rw [hbare]; simp [bareD, kd1, zeroD], rfl, ?_, fun hc => ?_⟩
    · cases c with
      | true => simpa using n3
      | false => simpa using n3
    · rw [ee]
      simp only [List.length_append]
      have q0 := m0 hc
      have q1 := m1 hc
      have q2 := m2 hc
      have q3 := m3 hc
      omega
  by_cases kd2 : d.kind = 2
  · have ee : encD d = formN d.kind.toNat ++ (formN d.acct.toNat ++ (formN d.amt.toNat)) := by simp [encD, paidD, wi, kd2]
    rw [ee] at h
    simp only [List.append_assoc] at h
    have hw : wi d.kind 1 7 = true := wi_iff.2 ⟨by omega, by omega⟩
    rcases num_ahead (most := 255) (z := d.kind) (by omega) (by omega) (by omega) h with ⟨hc, f0⟩ | ⟨v0, z0, n0, m0⟩
    · exact Or.inl ⟨hc, rdDeed_err (by rw [rdAll_bad (by omega)]; exact f0)⟩
    have hA := rdAll_ok (xs := xs) (s := s) (Prod.ext v0 rfl : rNum xs s 255 = (d.kind, (rNum xs s 255).2)) z0 hw
    obtain ⟨t0, ht0⟩ : ∃ t, t = (rNum xs s 255).2 := ⟨_, rfl⟩
    rw [← ht0] at hA n0 m0 z0
    rw [rdFields_ok (by simp only; omega)] at hA
    rcases num_ahead (most := 63) (z := d.acct) (by omega) (by omega) (by omega) n0 with ⟨hc, f1⟩ | ⟨v1, z1, n1, m1⟩
    · refine Or.inl ⟨hc, rdDeed_err ?_⟩
      have hb := rdBody_stop (xs := xs) (d := { ({ zeroD with kind := d.kind } : DeedD) with acct := (rNum xs t0 63).1 }) (s := (rNum xs t0 63).2) (e := 0) (by omega)
      rw [hA, rdAmt_stop (by rw [hb]; omega), hb]; exact f1
    rw [v1] at hA
    obtain ⟨t1, ht1⟩ : ∃ t, t = (rNum xs t0 63).2 := ⟨_, rfl⟩
    rw [← ht1] at hA n1 m1 z1
    rw [show ∀ a t, rdBody xs { ({ zeroD with kind := d.kind } : DeedD) with acct := a } t 0 = ({ zeroD with kind := d.kind, acct := a }, t, 0) from fun a t => by simp [rdBody, kd2]] at hA
    have hp : paidD ({ zeroD with kind := d.kind, acct := d.acct } : DeedD) = true := by simp [paidD, wi, zeroD, kd2]
    have hpos : 0 < d.amt := by
      have hq : paidD d = true := by simp [paidD, wi, kd2]
      rw [hpaid] at hq; simpa using hq
    rcases num_ahead (rest := rest) (most := 4611686018427387904) (z := d.amt) (by omega) (by omega) (by omega) n1 with ⟨hc, f2⟩ | ⟨v2, z2, n2, m2⟩
    · refine Or.inl ⟨hc, rdDeed_err ?_⟩
      rw [hA, rdAmt_ok hp z1 (Or.inr (by omega))]; exact f2
    rw [rdAmt_ok hp z1 (Or.inl (by omega)), v2] at hA
    have hd := rdDeed_ok hA z2
    rw [hd]
    refine Or.inr ⟨by rw [hbare]; simp [bareD, kd2, zeroD], rfl, ?_, fun hc => ?_⟩
    · cases c with
      | true => simpa using n2
      | false => simpa using n2
    · rw [ee]
      simp only [List.length_append]
      have q0 := m0 hc
      have q1 := m1 hc
      have q2 := m2 hc
      omega
  by_cases kd3 : d.kind = 3
  · have ee : encD d = formN d.kind.toNat ++ (formN d.acct.toNat ++ (formN d.mem.toNat ++ (formN d.amt.toNat))) := by simp [encD, paidD, wi, kd3]
    rw [ee] at h
    simp only [List.append_assoc] at h
    have hw : wi d.kind 1 7 = true := wi_iff.2 ⟨by omega, by omega⟩
    rcases num_ahead (most := 255) (z := d.kind) (by omega) (by omega) (by omega) h with ⟨hc, f0⟩ | ⟨v0, z0, n0, m0⟩
    · exact Or.inl ⟨hc, rdDeed_err (by rw [rdAll_bad (by omega)]; exact f0)⟩
    have hA := rdAll_ok (xs := xs) (s := s) (Prod.ext v0 rfl : rNum xs s 255 = (d.kind, (rNum xs s 255).2)) z0 hw
    obtain ⟨t0, ht0⟩ : ∃ t, t = (rNum xs s 255).2 := ⟨_, rfl⟩
    rw [← ht0] at hA n0 m0 z0
    rw [rdFields_ok (by simp only; omega)] at hA
    rcases num_ahead (most := 63) (z := d.acct) (by omega) (by omega) (by omega) n0 with ⟨hc, f1⟩ | ⟨v1, z1, n1, m1⟩
    · refine Or.inl ⟨hc, rdDeed_err ?_⟩
      have hb := rdBody_stop (xs := xs) (d := { ({ zeroD with kind := d.kind } : DeedD) with acct := (rNum xs t0 63).1 }) (s := (rNum xs t0 63).2) (e := 0) (by omega)
      rw [hA, rdAmt_stop (by rw [hb]; omega), hb]; exact f1
    rw [v1] at hA
    obtain ⟨t1, ht1⟩ : ∃ t, t = (rNum xs t0 63).2 := ⟨_, rfl⟩
    rw [← ht1] at hA n1 m1 z1
    rw [show ∀ a t, rdBody xs { ({ zeroD with kind := d.kind } : DeedD) with acct := a } t 0 = ({ zeroD with kind := d.kind, acct := a, mem := (rNum xs t 127).1 }, (rNum xs t 127).2, 0) from fun a t => by simp [rdBody, kd3]] at hA
    rcases num_ahead (most := 127) (z := d.mem) (by omega) (by omega) (by omega) n1 with ⟨hc, f2⟩ | ⟨v2, z2, n2, m2⟩
    · refine Or.inl ⟨hc, rdDeed_err ?_⟩
      rw [hA, rdAmt_stop (by simp only; omega)]; exact f2
    rw [v2] at hA
    obtain ⟨t2, ht2⟩ : ∃ t, t = (rNum xs t1 127).2 := ⟨_, rfl⟩
    rw [← ht2] at hA n2 m2 z2
    have hp : paidD ({ zeroD with kind := d.kind, acct := d.acct, mem := d.mem } : DeedD) = true := by simp [paidD, wi, zeroD, kd3]
    have hpos : 0 < d.amt := by
      have hq : paidD d = true := by simp [paidD, wi, kd3]
      rw [hpaid] at hq; simpa using hq
    rcases num_ahead (rest := rest) (most := 4611686018427387904) (z := d.amt) (by omega) (by omega) (by omega) n2 with ⟨hc, f3⟩ | ⟨v3, z3, n3, m3⟩
    · refine Or.inl ⟨hc, rdDeed_err ?_⟩
      rw [hA, rdAmt_ok hp z2 (Or.inr (by omega))]; exact f3
    rw [rdAmt_ok hp z2 (Or.inl (by omega)), v3] at hA
    have hd := rdDeed_ok hA z3
    rw [hd]
    refine Or.inr ⟨by rw [hbare]; simp [bareD, kd3, zeroD], rfl, ?_, fun hc => ?_⟩
    · cases c with
      | true => simpa using n3
      | false => simpa using n3
    · rw [ee]
      simp only [List.length_append]
      have q0 := m0 hc
      have q1 := m1 hc
      have q2 := m2 hc
      have q3 := m3 hc
      omega
  by_cases kd4 : d.kind = 4
  · have ee : encD d = formN d.kind.toNat ++ (formN d.acct.toNat ++ (formN d.mem.toNat)) := by simp [encD, paidD, wi, kd4]
    rw [ee] at h
    simp only [List.append_assoc] at h
    have hw : wi d.kind 1 7 = true := wi_iff.2 ⟨by omega, by omega⟩
    rcases num_ahead (most := 255) (z := d.kind) (by omega) (by omega) (by omega) h with ⟨hc, f0⟩ | ⟨v0, z0, n0, m0⟩
    · exact Or.inl ⟨hc, rdDeed_err (by rw [rdAll_bad (by omega)]; exact f0)⟩
    have hA := rdAll_ok (xs := xs) (s := s) (Prod.ext v0 rfl : rNum xs s 255 = (d.kind, (rNum xs s 255).2)) z0 hw
    obtain ⟨t0, ht0⟩ : ∃ t, t = (rNum xs s 255).2 := ⟨_, rfl⟩
    rw [← ht0] at hA n0 m0 z0
    rw [rdFields_ok (by simp only; omega)] at hA
    rcases num_ahead (most := 63) (z := d.acct) (by omega) (by omega) (by omega) n0 with ⟨hc, f1⟩ | ⟨v1, z1, n1, m1⟩
    · refine Or.inl ⟨hc, rdDeed_err ?_⟩
      have hb := rdBody_stop (xs := xs) (d := { ({ zeroD with kind := d.kind } : DeedD) with acct := (rNum xs t0 63).1 }) (s := (rNum xs t0 63).2) (e := 0) (by omega)
      rw [hA, rdAmt_stop (by rw [hb]; omega), hb]; exact f1
    rw [v1] at hA
    obtain ⟨t1, ht1⟩ : ∃ t, t = (rNum xs t0 63).2 := ⟨_, rfl⟩
    rw [← ht1] at hA n1 m1 z1
    rw [show ∀ a t, rdBody xs { ({ zeroD with kind := d.kind } : DeedD) with acct := a } t 0 = ({ zeroD with kind := d.kind, acct := a, mem := (rNum xs t 127).1 }, (rNum xs t 127).2, 0) from fun a t => by simp [rdBody, kd4]] at hA
    rcases num_ahead (most := 127) (z := d.mem) (by omega) (by omega) (by omega) n1 with ⟨hc, f2⟩ | ⟨v2, z2, n2, m2⟩
    · refine Or.inl ⟨hc, rdDeed_err ?_⟩
      rw [hA, rdAmt_stop (by simp only; omega)]; exact f2
    rw [v2] at hA
    obtain ⟨t2, ht2⟩ : ∃ t, t = (rNum xs t1 127).2 := ⟨_, rfl⟩
    rw [← ht2] at hA n2 m2 z2
    have hp : paidD ({ zeroD with kind := d.kind, acct := d.acct, mem := d.mem } : DeedD) = false := by simp [paidD, wi, zeroD, kd4]
    rw [rdAmt_no hp] at hA
    have hd := rdDeed_ok hA z2
    rw [hd]
    refine Or.inr ⟨by rw [hbare]; simp [bareD, kd4, zeroD], rfl, ?_, fun hc => ?_⟩
    · cases c with
      | true => simpa using n2
      | false => simpa using n2
    · rw [ee]
      simp only [List.length_append]
      have q0 := m0 hc
      have q1 := m1 hc
      have q2 := m2 hc
      omega
  by_cases kd5 : d.kind = 5
  · have ee : encD d = formN d.kind.toNat ++ (formN d.ep.toNat ++ rawN d.bits) := by simp [encD, paidD, wi, kd5]
    rw [ee] at h
    simp only [List.append_assoc] at h
    have hw : wi d.kind 1 7 = true := wi_iff.2 ⟨by omega, by omega⟩
    rcases num_ahead (most := 255) (z := d.kind) (by omega) (by omega) (by omega) h with ⟨hc, f0⟩ | ⟨v0, z0, n0, m0⟩
    · exact Or.inl ⟨hc, rdDeed_err (by rw [rdAll_bad (by omega)]; exact f0)⟩
    have hA := rdAll_ok (xs := xs) (s := s) (Prod.ext v0 rfl : rNum xs s 255 = (d.kind, (rNum xs s 255).2)) z0 hw
    obtain ⟨t0, ht0⟩ : ∃ t, t = (rNum xs s 255).2 := ⟨_, rfl⟩
    rw [← ht0] at hA n0 m0 z0
    rw [show ∀ t, rdFields xs ({ zeroD with kind := d.kind } : DeedD) t 0 = ({ zeroD with kind := d.kind, ep := (rNum xs t 1073741824).1, bits := (rRaw xs (rNum xs t 1073741824).2 32).1 }, (rRaw xs (rNum xs t 1073741824).2 32).2, 0) from fun t => by simp [rdFields, kd5]] at hA
    rcases num_ahead (most := 1073741824) (z := d.ep) (by omega) (by omega) (by omega) n0 with ⟨hc, f1⟩ | ⟨v1, z1, n1, m1⟩
    · refine Or.inl ⟨hc, rdDeed_err ?_⟩
      rw [hA]; simp only; rw [rRaw_stop (by omega)]; exact f1
    rw [v1] at hA
    obtain ⟨t1, ht1⟩ : ∃ t, t = (rNum xs t0 1073741824).2 := ⟨_, rfl⟩
    rw [← ht1] at hA n1 m1 z1
    rcases raw_ahead (rest := rest) (most := 32) (b := d.bits) (by omega) (by omega) n1 with ⟨hc, f2⟩ | ⟨v2, z2, n2, m2⟩
    · refine Or.inl ⟨hc, rdDeed_err ?_⟩
      rw [hA]; exact f2
    rw [v2] at hA
    have hd := rdDeed_ok hA z2
    rw [hd]
    refine Or.inr ⟨by rw [hbare]; simp [bareD, kd5, zeroD], rfl, ?_, fun hc => ?_⟩
    · cases c with
      | true => simpa using n2
      | false => simpa using n2
    · rw [ee]
      simp only [List.length_append]
      have q0 := m0 hc
      have q1 := m1 hc
      have q2 := m2 hc
      omega
  by_cases kd7 : d.kind = 7
  · have ee : encD d = formN d.kind.toNat ++ (formN d.acct.toNat ++ (formN d.mem.toNat ++ (formN d.mot.toNat ++ (formN d.yes.toNat)))) := by simp [encD, paidD, wi, kd7]
    rw [ee] at h
    simp only [List.append_assoc] at h
    have hw : wi d.kind 1 7 = true := wi_iff.2 ⟨by omega, by omega⟩
    rcases num_ahead (most := 255) (z := d.kind) (by omega) (by omega) (by omega) h with ⟨hc, f0⟩ | ⟨v0, z0, n0, m0⟩
    · exact Or.inl ⟨hc, rdDeed_err (by rw [rdAll_bad (by omega)]; exact f0)⟩
    have hA := rdAll_ok (xs := xs) (s := s) (Prod.ext v0 rfl : rNum xs s 255 = (d.kind, (rNum xs s 255).2)) z0 hw
    obtain ⟨t0, ht0⟩ : ∃ t, t = (rNum xs s 255).2 := ⟨_, rfl⟩
    rw [← ht0] at hA n0 m0 z0
    rw [rdFields_ok (by simp only; omega)] at hA
    rcases num_ahead (most := 63) (z := d.acct) (by omega) (by omega) (by omega) n0 with ⟨hc, f1⟩ | ⟨v1, z1, n1, m1⟩
    · refine Or.inl ⟨hc, rdDeed_err ?_⟩
      have hb := rdBody_stop (xs := xs) (d := { ({ zeroD with kind := d.kind } : DeedD) with acct := (rNum xs t0 63).1 }) (s := (rNum xs t0 63).2) (e := 0) (by omega)
      rw [hA, rdAmt_stop (by rw [hb]; omega), hb]; exact f1
    rw [v1] at hA
    obtain ⟨t1, ht1⟩ : ∃ t, t = (rNum xs t0 63).2 := ⟨_, rfl⟩
    rw [← ht1] at hA n1 m1 z1
    rw [show ∀ a t, rdBody xs { ({ zeroD with kind := d.kind } : DeedD) with acct := a } t 0 = ({ zeroD with kind := d.kind, acct := a, mem := (rNum xs t 127).1, mot := (rNum xs (rNum xs t 127).2 31).1, yes := decide ((rNum xs (rNum xs (rNum xs t 127).2 31).2 1).1 = 1) }, (rNum xs (rNum xs (rNum xs t 127).2 31).2 1).2, 0) from fun a t => by simp [rdBody, kd7]] at hA
    rcases num_ahead (most := 127) (z := d.mem) (by omega) (by omega) (by omega) n1 with ⟨hc, f2⟩ | ⟨v2, z2, n2, m2⟩
    · refine Or.inl ⟨hc, rdDeed_err ?_⟩
      have g : ∀ most, rNum xs (rNum xs t1 127).2 most = (0, (rNum xs t1 127).2) := fun most => rNum_stop (by omega)
      rw [hA, rdAmt_stop]
      · simp only [g]; exact f2
      · simp only [g]; omega
    rw [v2] at hA
    obtain ⟨t2, ht2⟩ : ∃ t, t = (rNum xs t1 127).2 := ⟨_, rfl⟩
    rw [← ht2] at hA n2 m2 z2
    rcases num_ahead (most := 31) (z := d.mot) (by omega) (by omega) (by omega) n2 with ⟨hc, f3⟩ | ⟨v3, z3, n3, m3⟩
    · refine Or.inl ⟨hc, rdDeed_err ?_⟩
      have g : ∀ most, rNum xs (rNum xs t2 31).2 most = (0, (rNum xs t2 31).2) := fun most => rNum_stop (by omega)
      rw [hA, rdAmt_stop]
      · simp only [g]; exact f3
      · simp only [g]; omega
    rw [v3] at hA
    obtain ⟨t3, ht3⟩ : ∃ t, t = (rNum xs t2 31).2 := ⟨_, rfl⟩
    rw [← ht3] at hA n3 m3 z3
    have hyn : ((d.yes.toNat : Nat) : Int) ≤ 1 := by cases d.yes <;> decide
    rcases num_ahead (rest := rest) (most := 1) (z := ((d.yes.toNat : Nat) : Int)) (by omega) hyn (by omega) (by simpa using n3) with ⟨hc, f4⟩ | ⟨v4, z4, n4, m4⟩
    · refine Or.inl ⟨hc, rdDeed_err ?_⟩
      rw [hA, rdAmt_stop (by simp only; omega)]; exact f4
    rw [v4, show decide (((d.yes.toNat : Nat) : Int) = 1) = d.yes by cases d.yes <;> rfl] at hA
    have hp : paidD ({ zeroD with kind := d.kind, acct := d.acct, mem := d.mem, mot := d.mot, yes := d.yes } : DeedD) = false := by simp [paidD, wi, zeroD, kd7]
    rw [rdAmt_no hp] at hA
    have hd := rdDeed_ok hA z4
    rw [hd]
    refine Or.inr ⟨by rw [hbare]; simp [bareD, kd7, zeroD], rfl, ?_, fun hc => ?_⟩
    · cases c with
      | true => simpa using n4
      | false => simpa using n4
    · rw [ee]
      simp only [List.length_append]
      have q0 := m0 hc
      have q1 := m1 hc
      have q2 := m2 hc
      have q3 := m3 hc
      have q4 := m4 hc
      rw [Int.toNat_natCast] at q4
      omega
  have kd6 : d.kind = 6 := by omega
  have hwh := rightD_what hr kd6
  by_cases w1 : d.what = 1
  · have ee : encD d = formN d.kind.toNat ++ (formN d.acct.toNat ++ (formN d.what.toNat ++ (encP d.par))) := by simp [encD, paidD, wi, kd6, w1]
    rw [ee] at h
    simp only [List.append_assoc] at h
    have hw : wi d.kind 1 7 = true := wi_iff.2 ⟨by omega, by omega⟩
    rcases num_ahead (most := 255) (z := d.kind) (by omega) (by omega) (by omega) h with ⟨hc, f0⟩ | ⟨v0, z0, n0, m0⟩
    · exact Or.inl ⟨hc, rdDeed_err (by rw [rdAll_bad (by omega)]; exact f0)⟩
    have hA := rdAll_ok (xs := xs) (s := s) (Prod.ext v0 rfl : rNum xs s 255 = (d.kind, (rNum xs s 255).2)) z0 hw
    obtain ⟨t0, ht0⟩ : ∃ t, t = (rNum xs s 255).2 := ⟨_, rfl⟩
    rw [← ht0] at hA n0 m0 z0
    rw [rdFields_ok (by simp only; omega)] at hA
    rcases num_ahead (most := 63) (z := d.acct) (by omega) (by omega) (by omega) n0 with ⟨hc, f1⟩ | ⟨v1, z1, n1, m1⟩
    · refine Or.inl ⟨hc, rdDeed_err ?_⟩
      have hb := rdBody_stop (xs := xs) (d := { ({ zeroD with kind := d.kind } : DeedD) with acct := (rNum xs t0 63).1 }) (s := (rNum xs t0 63).2) (e := 0) (by omega)
      rw [hA, rdAmt_stop (by rw [hb]; omega), hb]; exact f1
    rw [v1] at hA
    obtain ⟨t1, ht1⟩ : ∃ t, t = (rNum xs t0 63).2 := ⟨_, rfl⟩
    rw [← ht1] at hA n1 m1 z1
    rw [show ∀ a t, rdBody xs { ({ zeroD with kind := d.kind } : DeedD) with acct := a } t 0 = rdMove xs { ({ zeroD with kind := d.kind } : DeedD) with acct := a } t 0 from fun a t => by simp [rdBody, kd6]] at hA
    rcases num_ahead (most := 255) (z := d.what) (by omega) (by omega) (by omega) n1 with ⟨hc, f2⟩ | ⟨v2, z2, n2, m2⟩
    · refine Or.inl ⟨hc, rdDeed_err ?_⟩
      have g : (rdMove xs { ({ zeroD with kind := d.kind } : DeedD) with acct := d.acct } t1 0).2.1 = (rNum xs t1 255).2 := by
        simp only [rdMove]
        rw [if_neg (fun hh => by omega)]
      rw [hA, rdAmt_stop (by rw [g]; omega), g]; exact f2
    have hww : wi d.what 1 4 = true := wi_iff.2 ⟨by omega, by omega⟩
    have hM : rdMove xs { ({ zeroD with kind := d.kind } : DeedD) with acct := d.acct } t1 0 = ({ zeroD with kind := d.kind, acct := d.acct, what := d.what, par := (pRead xs (rNum xs t1 255).2).1 }, (rPar xs (rNum xs t1 255).2).2, must (decide ((pRead xs (rNum xs t1 255).2).2 = 0)) 70 0 (rPar xs (rNum xs t1 255).2).2.2) := by
      simp only [rdMove, v2, hww, must_true, z2]
      simp [w1]
    rw [hM] at hA
    obtain ⟨t2, ht2⟩ : ∃ t, t = (rNum xs t1 255).2 := ⟨_, rfl⟩
    rw [← ht2] at hA n2 m2 z2
    rcases par_ahead (rest := rest) ok.p (hwh.2.2 w1) (by simpa using n2) with ⟨hc, f3⟩ | ⟨v3, z3, n3, m3⟩
    · refine Or.inl ⟨hc, rdDeed_err ?_⟩
      rw [hA, rdAmt_stop (by simp only; omega)]; exact f3
    rw [v3] at hA
    simp only [decide_true, must_true] at hA
    have hp : paidD ({ zeroD with kind := d.kind, acct := d.acct, what := d.what, par := d.par } : DeedD) = false := by simp [paidD, wi, zeroD, kd6, w1]
    rw [rdAmt_no hp] at hA
    have hd := rdDeed_ok hA z3
    rw [hd]
    refine Or.inr ⟨by rw [hbare]; simp [bareD, kd6, w1, zeroD], rfl, ?_, fun hc => ?_⟩
    · cases c with
      | true => simpa using n3
      | false => simpa using n3
    · rw [ee]
      simp only [List.length_append]
      have q0 := m0 hc
      have q1 := m1 hc
      have q2 := m2 hc
      have q3 := m3 hc
      omega
  by_cases w2 : d.what = 2
  · have ee : encD d = formN d.kind.toNat ++ (formN d.acct.toNat ++ (formN d.what.toNat ++ (formN d.to.toNat ++ (formN d.amt.toNat)))) := by simp [encD, paidD, wi, kd6, w2]
    rw [ee] at h
    simp only [List.append_assoc] at h
    have hw : wi d.kind 1 7 = true := wi_iff.2 ⟨by omega, by omega⟩
    rcases num_ahead (most := 255) (z := d.kind) (by omega) (by omega) (by omega) h with ⟨hc, f0⟩ | ⟨v0, z0, n0, m0⟩
    · exact Or.inl ⟨hc, rdDeed_err (by rw [rdAll_bad (by omega)]; exact f0)⟩
    have hA := rdAll_ok (xs := xs) (s := s) (Prod.ext v0 rfl : rNum xs s 255 = (d.kind, (rNum xs s 255).2)) z0 hw
    obtain ⟨t0, ht0⟩ : ∃ t, t = (rNum xs s 255).2 := ⟨_, rfl⟩
    rw [← ht0] at hA n0 m0 z0
    rw [rdFields_ok (by simp only; omega)] at hA
    rcases num_ahead (most := 63) (z := d.acct) (by omega) (by omega) (by omega) n0 with ⟨hc, f1⟩ | ⟨v1, z1, n1, m1⟩
    · refine Or.inl ⟨hc, rdDeed_err ?_⟩
      have hb := rdBody_stop (xs := xs) (d := { ({ zeroD with kind := d.kind } : DeedD) with acct := (rNum xs t0 63).1 }) (s := (rNum xs t0 63).2) (e := 0) (by omega)
      rw [hA, rdAmt_stop (by rw [hb]; omega), hb]; exact f1
    rw [v1] at hA
    obtain ⟨t1, ht1⟩ : ∃ t, t = (rNum xs t0 63).2 := ⟨_, rfl⟩
    rw [← ht1] at hA n1 m1 z1
    rw [show ∀ a t, rdBody xs { ({ zeroD with kind := d.kind } : DeedD) with acct := a } t 0 = rdMove xs { ({ zeroD with kind := d.kind } : DeedD) with acct := a } t 0 from fun a t => by simp [rdBody, kd6]] at hA
    rcases num_ahead (most := 255) (z := d.what) (by omega) (by omega) (by omega) n1 with ⟨hc, f2⟩ | ⟨v2, z2, n2, m2⟩
    · refine Or.inl ⟨hc, rdDeed_err ?_⟩
      have g : (rdMove xs { ({ zeroD with kind := d.kind } : DeedD) with acct := d.acct } t1 0).2.1 = (rNum xs t1 255).2 := by
        simp only [rdMove]
        rw [if_neg (fun hh => by omega)]
      rw [hA, rdAmt_stop (by rw [g]; omega), g]; exact f2
    have hww : wi d.what 1 4 = true := wi_iff.2 ⟨by omega, by omega⟩
    have hM : rdMove xs { ({ zeroD with kind := d.kind } : DeedD) with acct := d.acct } t1 0 = ({ zeroD with kind := d.kind, acct := d.acct, what := d.what, to := (rNum xs (rNum xs t1 255).2 63).1 }, (rNum xs (rNum xs t1 255).2 63).2, 0) := by
      simp only [rdMove, v2, hww, must_true, z2]
      simp [w2]
    rw [hM] at hA
    obtain ⟨t2, ht2⟩ : ∃ t, t = (rNum xs t1 255).2 := ⟨_, rfl⟩
    rw [← ht2] at hA n2 m2 z2
    rcases num_ahead (most := 63) (z := d.to) (by omega) (by omega) (by omega) n2 with ⟨hc, f3⟩ | ⟨v3, z3, n3, m3⟩
    · refine Or.inl ⟨hc, rdDeed_err ?_⟩
      rw [hA, rdAmt_stop (by simp only; omega)]; exact f3
    rw [v3] at hA
    obtain ⟨t3, ht3⟩ : ∃ t, t = (rNum xs t2 63).2 := ⟨_, rfl⟩
    rw [← ht3] at hA n3 m3 z3
    have hp : paidD ({ zeroD with kind := d.kind, acct := d.acct, what := d.what, to := d.to } : DeedD) = true := by simp [paidD, wi, zeroD, kd6, w2]
    have hpos : 0 < d.amt := by
      have hq : paidD d = true := by simp [paidD, wi, kd6, w2]
      rw [hpaid] at hq; simpa using hq
    rcases num_ahead (rest := rest) (most := 4611686018427387904) (z := d.amt) (by omega) (by omega) (by omega) n3 with ⟨hc, f4⟩ | ⟨v4, z4, n4, m4⟩
    · refine Or.inl ⟨hc, rdDeed_err ?_⟩
      rw [hA, rdAmt_ok hp z3 (Or.inr (by omega))]; exact f4
    rw [rdAmt_ok hp z3 (Or.inl (by omega)), v4] at hA
    have hd := rdDeed_ok hA z4
    rw [hd]
    refine Or.inr ⟨by rw [hbare]; simp [bareD, kd6, w2, zeroD], rfl, ?_, fun hc => ?_⟩
    · cases c with
      | true => simpa using n4
      | false => simpa using n4
    · rw [ee]
      simp only [List.length_append]
      have q0 := m0 hc
      have q1 := m1 hc
      have q2 := m2 hc
      have q3 := m3 hc
      have q4 := m4 hc
      omega
  have ee : encD d = formN d.kind.toNat ++ (formN d.acct.toNat ++ (formN d.what.toNat)) := by simp [encD, paidD, wi, kd6, w1, w2]
  rw [ee] at h
  simp only [List.append_assoc] at h
  have hw : wi d.kind 1 7 = true := wi_iff.2 ⟨by omega, by omega⟩
  rcases num_ahead (most := 255) (z := d.kind) (by omega) (by omega) (by omega) h with ⟨hc, f0⟩ | ⟨v0, z0, n0, m0⟩
  · exact Or.inl ⟨hc, rdDeed_err (by rw [rdAll_bad (by omega)]; exact f0)⟩
  have hA := rdAll_ok (xs := xs) (s := s) (Prod.ext v0 rfl : rNum xs s 255 = (d.kind, (rNum xs s 255).2)) z0 hw
  obtain ⟨t0, ht0⟩ : ∃ t, t = (rNum xs s 255).2 := ⟨_, rfl⟩
  rw [← ht0] at hA n0 m0 z0
  rw [rdFields_ok (by simp only; omega)] at hA
  rcases num_ahead (most := 63) (z := d.acct) (by omega) (by omega) (by omega) n0 with ⟨hc, f1⟩ | ⟨v1, z1, n1, m1⟩
  · refine Or.inl ⟨hc, rdDeed_err ?_⟩
    have hb := rdBody_stop (xs := xs) (d := { ({ zeroD with kind := d.kind } : DeedD) with acct := (rNum xs t0 63).1 }) (s := (rNum xs t0 63).2) (e := 0) (by omega)
    rw [hA, rdAmt_stop (by rw [hb]; omega), hb]; exact f1
  rw [v1] at hA
  obtain ⟨t1, ht1⟩ : ∃ t, t = (rNum xs t0 63).2 := ⟨_, rfl⟩
  rw [← ht1] at hA n1 m1 z1
  rw [show ∀ a t, rdBody xs { ({ zeroD with kind := d.kind } : DeedD) with acct := a } t 0 = rdMove xs { ({ zeroD with kind := d.kind } : DeedD) with acct := a } t 0 from fun a t => by simp [rdBody, kd6]] at hA
  rcases num_ahead (most := 255) (z := d.what) (by omega) (by omega) (by omega) n1 with ⟨hc, f2⟩ | ⟨v2, z2, n2, m2⟩
  · refine Or.inl ⟨hc, rdDeed_err ?_⟩
    have g : (rdMove xs { ({ zeroD with kind := d.kind } : DeedD) with acct := d.acct } t1 0).2.1 = (rNum xs t1 255).2 := by
      simp only [rdMove]
      rw [if_neg (fun hh => by omega)]
    rw [hA, rdAmt_stop (by rw [g]; omega), g]; exact f2
  have hww : wi d.what 1 4 = true := wi_iff.2 ⟨by omega, by omega⟩
  have hM : rdMove xs { ({ zeroD with kind := d.kind } : DeedD) with acct := d.acct } t1 0 = ({ zeroD with kind := d.kind, acct := d.acct, what := d.what }, (rNum xs t1 255).2, 0) := by
    simp only [rdMove, v2, hww, must_true, z2]
    simp [w1, w2]
  rw [hM] at hA
  have hp : paidD ({ zeroD with kind := d.kind, acct := d.acct, what := d.what } : DeedD) = false := by simp [paidD, wi, zeroD, kd6, w1, w2]
  rw [rdAmt_no hp] at hA
  have hd := rdDeed_ok hA z2
  rw [hd]
  refine Or.inr ⟨by rw [hbare]; simp [bareD, kd6, w1, w2, zeroD], rfl, ?_, fun hc => ?_⟩
  · cases c with
    | true => simpa using n2
    | false => simpa using n2
  · rw [ee]
    simp only [List.length_append]
    have q0 := m0 hc
    have q1 := m1 hc
    have q2 := m2 hc
    omega
end Go.X
/-! Plain law of deeds' coding: what is read is right and has just these bytes. Conditions: as each lemma says. -/
namespace Go.X
open Go.RowKit Go.Bl

theorem num_got {xs : List Int} {s : Nat × Int} {most z : Int} {t : Nat × Int} (hz : ∀ z ∈ xs, 0 ≤ z ∧ z ≤ 255) (hs : s.1 ≤ xs.length) (e : rNum xs s most = (z, t)) (h : t.2 = 0) :
    s.2 = 0 ∧ 0 ≤ z ∧ z ≤ most ∧ xs.drop s.1 = formN z.toNat ++ xs.drop t.1 ∧ t.1 ≤ xs.length := by
  obtain ⟨k, q⟩ := t
  simp only at h
  subst h
  obtain ⟨h0, n, rfl, hn, _, hd, _, hk⟩ := rNum_sound hz e
  exact ⟨h0, by omega, hn, by simpa using hd, hk hs⟩
theorem amt_got {xs : List Int} (hz : ∀ z ∈ xs, 0 ≤ z ∧ z ≤ 255) {q : DeedD × (Nat × Int) × Int} (hs : q.2.1.1 ≤ xs.length) {d : DeedD} {k : Nat} (h : rdAmt xs q = (d, (k, 0), 0)) :
    q.2.2 = 0 ∧ q.2.1.2 = 0 ∧ ((paidD q.1 = false ∧ d = q.1 ∧ q.2.1 = (k, 0)) ∨ (paidD q.1 = true ∧ ∃ a : Int, 0 < a ∧ a ≤ 4611686018427387904 ∧ d = { q.1 with amt := a } ∧ xs.drop q.2.1.1 = formN a.toNat ++ xs.drop k ∧ k ≤ xs.length)) := by
  unfold rdAmt at h
  split at h
  · rename_i c
    injection h with h1 h2
    injection h2 with h2 h3
    obtain ⟨_, b1, b2, b3, b4⟩ := num_got hz hs (Prod.ext rfl h2 : rNum xs q.2.1 4611686018427387904 = ((rNum xs q.2.1 4611686018427387904).1, (k, 0))) rfl
    have hp := must_z (by decide) (by rw [h2]) c.1 h3
    exact ⟨c.1, c.2.1, Or.inr ⟨c.2.2, _, of_decide_eq_true hp, b2, h1.symm, b3, b4⟩⟩
  · rename_i c
    subst h
    refine ⟨rfl, rfl, Or.inl ⟨?_, rfl, rfl⟩⟩
    cases hp : paidD d with
    | false => rfl
    | true => exact absurd ⟨rfl, rfl, hp⟩ c
theorem sameD_self (d : DeedD) : sameD d d = true := by simp [sameD]
theorem right_of {d : DeedD} (hk : 1 ≤ d.kind ∧ d.kind ≤ 7) (hb : bareD d = d) (h1 : 0 ≤ d.acct ∧ d.acct ≤ 63) (h2 : 0 ≤ d.to ∧ d.to ≤ 63) (h3 : 0 ≤ d.mem ∧ d.mem ≤ 127) (h4 : 0 ≤ d.mot ∧ d.mot ≤ 31)
    (hp : paidD d = decide (0 < d.amt)) (ha : d.amt ≤ 4611686018427387904) (he : 0 ≤ d.ep ∧ d.ep ≤ 1073741824) (hl : (d.bits.length : Int) ≤ 32) (h6 : d.kind = 6 → (1 ≤ d.what ∧ d.what ≤ 4) ∧ (d.what = 1 → parR d.par = true)) : rightD d = true := by
  unfold rightD
  rw [hb, sameD_self, hp, wi_iff.2 hk, wi_iff.2 h1, wi_iff.2 h2, wi_iff.2 h3, wi_iff.2 h4, wi_iff.2 he, decide_eq_true ha, decide_eq_true hl]
  by_cases k6 : d.kind = 6
  · obtain ⟨g1, g2⟩ := h6 k6
    rw [wi_iff.2 g1]
    by_cases w1 : d.what = 1
    · simp [g2 w1]
    · simp [w1]
  · simp [k6]
def SoundAt (xs : List Int) (s : Nat × Int) (z : Int) (d : DeedD) (k : Nat) : Prop :=
  s.2 = 0 ∧ k ≤ xs.length ∧ rightD d = true ∧ DeedOk d ∧ (∀ y ∈ d.bits, 0 ≤ y ∧ y ≤ 255) ∧ ∃ b, encD d = formN z.toNat ++ b ∧ xs.drop s.1 = b ++ xs.drop k

theorem sound1 {xs : List Int} (hz : ∀ z ∈ xs, 0 ≤ z ∧ z ≤ 255) {s : Nat × Int} (hs : s.1 ≤ xs.length) {d : DeedD} {k : Nat} (h : rdFields xs ({ zeroD with kind := 1 }) s 0 = (d, (k, 0), 0)) : SoundAt xs s 1 d k := by
  rw [rdFields_ok (by simp)] at h
  have p0 := (rNum_pos xs s 63 hz hs (by decide)).1
  obtain ⟨a, t0, e0'⟩ : ∃ a t, rNum xs s 63 = (a, t) := ⟨_, _, rfl⟩
  rw [e0'] at h p0
  simp only at h p0
  have p1 := (rNum_pos xs t0 63 hz p0 (by decide)).1
  obtain ⟨v1, t1, e1'⟩ : ∃ a t, rNum xs t0 63 = (a, t) := ⟨_, _, rfl⟩
  rw [e1'] at p1; simp only at p1
  rw [show rdBody xs ({ ({ zeroD with kind := 1 } : DeedD) with acct := a }) t0 0 = ({ zeroD with kind := 1, acct := a, to := v1 }, t1, 0) from by simp [rdBody, e1']] at h
  obtain ⟨_, g0, g⟩ := amt_got hz p1 h
  rcases g with ⟨g, _⟩ | ⟨_, c, m1, m2, rfl, m3, m4⟩
  · simp [paidD, wi, zeroD] at g
  simp only at g0
  obtain ⟨z1, a1, b1, c1, d1⟩ := num_got hz p0 e1' g0
  obtain ⟨e0, a0, b0, c0', d0⟩ := num_got hz hs e0' z1
  exact ⟨e0, m4, right_of (by simp only [zeroD]; omega) (by simp [bareD, zeroD]) (by simp only [zeroD]; omega) (by simp only [zeroD]; omega) (by simp only [zeroD]; omega) (by simp only [zeroD]; omega) (by simp [paidD, wi, zeroD]; omega) (by simp only [zeroD]; omega) (by simp only [zeroD]; omega) (by simp [zeroD]) (fun h => by simp at h), ⟨fun y hy => by simp only [zeroD, List.mem_cons, List.not_mem_nil, or_false] at hy; omega, ⟨by simp only [zeroD]; omega, by simp only [zeroD]; omega⟩, zeroP_ok⟩, by simp [zeroD], formN a.toNat ++ (formN v1.toNat ++ (formN c.toNat)), by simp [encD, paidD, wi, zeroD], by rw [c0', c1, m3]; simp⟩

theorem sound2 {xs : List Int} (hz : ∀ z ∈ xs, 0 ≤ z ∧ z ≤ 255) {s : Nat × Int} (hs : s.1 ≤ xs.length) {d : DeedD} {k : Nat} (h : rdFields xs ({ zeroD with kind := 2 }) s 0 = (d, (k, 0), 0)) : SoundAt xs s 2 d k := by
  rw [rdFields_ok (by simp)] at h
  have p0 := (rNum_pos xs s 63 hz hs (by decide)).1
  obtain ⟨a, t0, e0'⟩ : ∃ a t, rNum xs s 63 = (a, t) := ⟨_, _, rfl⟩
  rw [e0'] at h p0
  simp only at h p0
  rw [show rdBody xs ({ ({ zeroD with kind := 2 } : DeedD) with acct := a }) t0 0 = ({ zeroD with kind := 2, acct := a }, t0, 0) from by simp [rdBody]] at h
  obtain ⟨_, g0, g⟩ := amt_got hz p0 h
  rcases g with ⟨g, _⟩ | ⟨_, c, m1, m2, rfl, m3, m4⟩
  · simp [paidD, wi, zeroD] at g
  simp only at g0
  obtain ⟨e0, a0, b0, c0', d0⟩ := num_got hz hs e0' g0
  exact ⟨e0, m4, right_of (by simp only [zeroD]; omega) (by simp [bareD, zeroD]) (by simp only [zeroD]; omega) (by simp only [zeroD]; omega) (by simp only [zeroD]; omega) (by simp only [zeroD]; omega) (by simp [paidD, wi, zeroD]; omega) (by simp only [zeroD]; omega) (by simp only [zeroD]; omega) (by simp [zeroD]) (fun h => by simp at h), ⟨fun y hy => by simp only [zeroD, List.mem_cons, List.not_mem_nil, or_false] at hy; omega, ⟨by simp only [zeroD]; omega, by simp only [zeroD]; omega⟩, zeroP_ok⟩, by simp [zeroD], formN a.toNat ++ (formN c.toNat), by simp [encD, paidD, wi, zeroD], by rw [c0', m3]; simp⟩

theorem sound3 {xs : List Int} (hz : ∀ z ∈ xs, 0 ≤ z ∧ z ≤ 255) {s : Nat × Int} (hs : s.1 ≤ xs.length) {d : DeedD} {k : Nat} (h : rdFields xs ({ zeroD with kind := 3 }) s 0 = (d, (k, 0), 0)) : SoundAt xs s 3 d k := by
  rw [rdFields_ok (by simp)] at h
  have p0 := (rNum_pos xs s 63 hz hs (by decide)).1
  obtain ⟨a, t0, e0'⟩ : ∃ a t, rNum xs s 63 = (a, t) := ⟨_, _, rfl⟩
  rw [e0'] at h p0
  simp only at h p0
  have p1 := (rNum_pos xs t0 127 hz p0 (by decide)).1
  obtain ⟨v1, t1, e1'⟩ : ∃ a t, rNum xs t0 127 = (a, t) := ⟨_, _, rfl⟩
  rw [e1'] at p1; simp only at p1
  rw [show rdBody xs ({ ({ zeroD with kind := 3 } : DeedD) with acct := a }) t0 0 = ({ zeroD with kind := 3, acct := a, mem := v1 }, t1, 0) from by simp [rdBody, e1']] at h
  obtain ⟨_, g0, g⟩ := amt_got hz p1 h
  rcases g with ⟨g, _⟩ | ⟨_, c, m1, m2, rfl, m3, m4⟩
  · simp [paidD, wi, zeroD] at g
  simp only at g0
  obtain ⟨z1, a1, b1, c1, d1⟩ := num_got hz p0 e1' g0
  obtain ⟨e0, a0, b0, c0', d0⟩ := num_got hz hs e0' z1
  exact ⟨e0, m4, right_of (by simp only [zeroD]; omega) (by simp [bareD, zeroD]) (by simp only [zeroD]; omega) (by simp only [zeroD]; omega) (by simp only [zeroD]; omega) (by simp only [zeroD]; omega) (by simp [paidD, wi, zeroD]; omega) (by simp only [zeroD]; omega) (by simp only [zeroD]; omega) (by simp [zeroD]) (fun h => by simp at h), ⟨fun y hy => by simp only [zeroD, List.mem_cons, List.not_mem_nil, or_false] at hy; omega, ⟨by simp only [zeroD]; omega, by simp only [zeroD]; omega⟩, zeroP_ok⟩, by simp [zeroD], formN a.toNat ++ (formN v1.toNat ++ (formN c.toNat)), by simp [encD, paidD, wi, zeroD], by rw [c0', c1, m3]; simp⟩

theorem sound4 {xs : List Int} (hz : ∀ z ∈ xs, 0 ≤ z ∧ z ≤ 255) {s : Nat × Int} (hs : s.1 ≤ xs.length) {d : DeedD} {k : Nat} (h : rdFields xs ({ zeroD with kind := 4 }) s 0 = (d, (k, 0), 0)) : SoundAt xs s 4 d k := by
  rw [rdFields_ok (by simp)] at h
  have p0 := (rNum_pos xs s 63 hz hs (by decide)).1
  obtain ⟨a, t0, e0'⟩ : ∃ a t, rNum xs s 63 = (a, t) := ⟨_, _, rfl⟩
  rw [e0'] at h p0
  simp only at h p0
  have p1 := (rNum_pos xs t0 127 hz p0 (by decide)).1
  obtain ⟨v1, t1, e1'⟩ : ∃ a t, rNum xs t0 127 = (a, t) := ⟨_, _, rfl⟩
  rw [e1'] at p1; simp only at p1
  rw [show rdBody xs ({ ({ zeroD with kind := 4 } : DeedD) with acct := a }) t0 0 = ({ zeroD with kind := 4, acct := a, mem := v1 }, t1, 0) from by simp [rdBody, e1']] at h
  obtain ⟨_, g0, g⟩ := amt_got hz p1 h
  rcases g with ⟨_, rfl, g1⟩ | ⟨g, _⟩
  rotate_left
  · simp [paidD, wi, zeroD] at g
  simp only at g0 g1
  subst g1
  obtain ⟨z1, a1, b1, c1, d1⟩ := num_got hz p0 e1' g0
  obtain ⟨e0, a0, b0, c0', d0⟩ := num_got hz hs e0' z1
  exact ⟨e0, d1, right_of (by simp only [zeroD]; omega) (by simp [bareD, zeroD]) (by simp only [zeroD]; omega) (by simp only [zeroD]; omega) (by simp only [zeroD]; omega) (by simp only [zeroD]; omega) (by simp [paidD, wi, zeroD]) (by simp only [zeroD]; omega) (by simp only [zeroD]; omega) (by simp [zeroD]) (fun h => by simp at h), ⟨fun y hy => by simp only [zeroD, List.mem_cons, List.not_mem_nil, or_false] at hy; omega, ⟨by simp only [zeroD]; omega, by simp only [zeroD]; omega⟩, zeroP_ok⟩, by simp [zeroD], formN a.toNat ++ (formN v1.toNat), by simp [encD, paidD, wi, zeroD], by rw [c0', c1]; simp⟩

theorem sound7 {xs : List Int} (hz : ∀ z ∈ xs, 0 ≤ z ∧ z ≤ 255) {s : Nat × Int} (hs : s.1 ≤ xs.length) {d : DeedD} {k : Nat} (h : rdFields xs ({ zeroD with kind := 7 }) s 0 = (d, (k, 0), 0)) : SoundAt xs s 7 d k := by
  rw [rdFields_ok (by simp)] at h
  have p0 := (rNum_pos xs s 63 hz hs (by decide)).1
  obtain ⟨a, t0, e0'⟩ : ∃ a t, rNum xs s 63 = (a, t) := ⟨_, _, rfl⟩
  rw [e0'] at h p0
  simp only at h p0
  have p1 := (rNum_pos xs t0 127 hz p0 (by decide)).1
  obtain ⟨v1, t1, e1'⟩ : ∃ a t, rNum xs t0 127 = (a, t) := ⟨_, _, rfl⟩
  rw [e1'] at p1; simp only at p1
  have p2 := (rNum_pos xs t1 31 hz p1 (by decide)).1
  obtain ⟨v2, t2, e2'⟩ : ∃ a t, rNum xs t1 31 = (a, t) := ⟨_, _, rfl⟩
  rw [e2'] at p2; simp only at p2
  have p3 := (rNum_pos xs t2 1 hz p2 (by decide)).1
  obtain ⟨v3, t3, e3'⟩ : ∃ a t, rNum xs t2 1 = (a, t) := ⟨_, _, rfl⟩
  rw [e3'] at p3; simp only at p3
  rw [show rdBody xs ({ ({ zeroD with kind := 7 } : DeedD) with acct := a }) t0 0 = ({ zeroD with kind := 7, acct := a, mem := v1, mot := v2, yes := decide (v3 = 1) }, t3, 0) from by simp [rdBody, e1', e2', e3']] at h
  obtain ⟨_, g0, g⟩ := amt_got hz p3 h
  rcases g with ⟨_, rfl, g1⟩ | ⟨g, _⟩
  rotate_left
  · simp [paidD, wi, zeroD] at g
  simp only at g0 g1
  subst g1
  obtain ⟨z3, a3, b3, c3, d3⟩ := num_got hz p2 e3' g0
  obtain ⟨z2, a2, b2, c2, d2⟩ := num_got hz p1 e2' z3
  obtain ⟨z1, a1, b1, c1, d1⟩ := num_got hz p0 e1' z2
  obtain ⟨e0, a0, b0, c0', d0⟩ := num_got hz hs e0' z1
  have hy : ((decide (v3 = 1)).toNat : Nat) = v3.toNat := by
    rcases (by omega : v3 = 0 ∨ v3 = 1) with rfl | rfl <;> rfl
  exact ⟨e0, d3, right_of (by simp only [zeroD]; omega) (by simp [bareD, zeroD]) (by simp only [zeroD]; omega) (by simp only [zeroD]; omega) (by simp only [zeroD]; omega) (by simp only [zeroD]; omega) (by simp [paidD, wi, zeroD]) (by simp only [zeroD]; omega) (by simp only [zeroD]; omega) (by simp [zeroD]) (fun h => by simp at h), ⟨fun y hy => by simp only [zeroD, List.mem_cons, List.not_mem_nil, or_false] at hy; omega, ⟨by simp only [zeroD]; omega, by simp only [zeroD]; omega⟩, zeroP_ok⟩, by simp [zeroD], formN a.toNat ++ (formN v1.toNat ++ (formN v2.toNat ++ (formN v3.toNat))), by simp [encD, paidD, wi, zeroD, hy], by rw [c0', c1, c2, c3]; simp⟩

theorem sound5 {xs : List Int} (hz : ∀ z ∈ xs, 0 ≤ z ∧ z ≤ 255) {s : Nat × Int} (hs : s.1 ≤ xs.length) {d : DeedD} {k : Nat} (h : rdFields xs ({ zeroD with kind := 5 }) s 0 = (d, (k, 0), 0)) : SoundAt xs s 5 d k := by
  have p0 := (rNum_pos xs s 1073741824 hz hs (by decide)).1
  obtain ⟨a, t0, e0'⟩ : ∃ a t, rNum xs s 1073741824 = (a, t) := ⟨_, _, rfl⟩
  obtain ⟨bs, t1, e1'⟩ : ∃ a t, rRaw xs t0 32 = (a, t) := ⟨_, _, rfl⟩
  rw [show rdFields xs ({ zeroD with kind := 5 }) s 0 = ({ zeroD with kind := 5, ep := a, bits := bs }, t1, 0) from by simp [rdFields, e0', e1']] at h
  injection h with h1 h2
  injection h2 with h2 _
  subst h1
  subst h2
  rw [e0'] at p0
  simp only at p0
  obtain ⟨z1, a1, c1', d1, _⟩ := rRaw_sound hz p0 e1'
  obtain ⟨e0, a0, b0, c0', d0⟩ := num_got hz hs e0' z1
  have hbs : ∀ y ∈ bs, 0 ≤ y ∧ y ≤ 255 := fun y hy => hz y (List.mem_of_mem_drop (i := t0.1) (by rw [c1', rawN]; simp [hy]))
  exact ⟨e0, d1, right_of (by simp only [zeroD]; omega) (by simp [bareD, zeroD]) (by simp only [zeroD]; omega) (by simp only [zeroD]; omega) (by simp only [zeroD]; omega) (by simp only [zeroD]; omega) (by simp [paidD, wi, zeroD]) (by simp only [zeroD]; omega) (by simp only [zeroD]; omega) a1 (fun h => by simp at h), ⟨fun y hy => by simp only [zeroD, List.mem_cons, List.not_mem_nil, or_false] at hy; omega, ⟨by simp only [zeroD]; omega, by simp only [zeroD]; omega⟩, zeroP_ok⟩, hbs, formN a.toNat ++ rawN bs, by simp [encD, paidD, wi, zeroD], by rw [c0', c1']; simp⟩
theorem sound6 {xs : List Int} (hz : ∀ z ∈ xs, 0 ≤ z ∧ z ≤ 255) {s : Nat × Int} (hs : s.1 ≤ xs.length) {d : DeedD} {k : Nat} (h : rdFields xs ({ zeroD with kind := 6 }) s 0 = (d, (k, 0), 0)) : SoundAt xs s 6 d k := by
  rw [rdFields_ok (by simp)] at h
  have p0 := (rNum_pos xs s 63 hz hs (by decide)).1
  obtain ⟨a, t0, e0'⟩ : ∃ a t, rNum xs s 63 = (a, t) := ⟨_, _, rfl⟩
  rw [e0'] at h p0
  simp only at h p0
  have p1 := (rNum_pos xs t0 255 hz p0 (by decide)).1
  obtain ⟨w, t1, e1'⟩ : ∃ a t, rNum xs t0 255 = (a, t) := ⟨_, _, rfl⟩
  rw [e1'] at p1; simp only at p1
  rw [show rdBody xs ({ ({ zeroD with kind := 6 } : DeedD) with acct := a }) t0 0 = rdMove xs ({ ({ zeroD with kind := 6 } : DeedD) with acct := a }) t0 0 from by simp [rdBody]] at h
  simp only [rdMove, e1'] at h
  by_cases cc : must (wi w 1 4) 80 0 t1.2 = 0 ∧ t1.2 = 0
  rotate_left
  · rw [if_neg cc] at h
    obtain ⟨g1, g0, _⟩ := amt_got hz p1 h
    exact absurd ⟨g1, g0⟩ cc
  rw [if_pos cc, cc.1] at h
  have hw := wi_iff.1 (must_z (by decide) cc.2 rfl cc.1)
  obtain ⟨z1, a1, b1, c1', d1⟩ := num_got hz p0 e1' cc.2
  obtain ⟨e0, a0, b0, c0', d0⟩ := num_got hz hs e0' z1
  by_cases w1 : w = 1
  · subst w1
    rw [if_pos rfl] at h
    have pp := rPar_ok (s := t1) hz p1
    obtain ⟨g1, g0, g⟩ := amt_got hz pp.2 h
    simp only at g1 g0
    have hpr := of_decide_eq_true (must_z (by decide) g0 rfl g1)
    rcases g with ⟨_, rfl, g2⟩ | ⟨g, _⟩
    rotate_left
    · simp [paidD, wi, zeroD] at g
    simp only at g2
    obtain ⟨z2, c2', d2⟩ := rPar_sound hz p1 g2
    have hpd : (pRead xs t1).1 = (rPar xs t1).1 ∧ parR (rPar xs t1).1 = true := by
      unfold pRead at hpr ⊢
      rw [if_neg (by rw [g0]; simp)] at hpr ⊢
      by_cases hr : parR (rPar xs t1).1 = true
      · rw [if_pos hr]; exact ⟨rfl, hr⟩
      · rw [if_neg hr] at hpr; simp at hpr
    rw [hpd.1]
    exact ⟨e0, d2, right_of (by simp only [zeroD]; omega) (by simp [bareD, zeroD]) (by simp only [zeroD]; omega) (by simp only [zeroD]; omega) (by simp only [zeroD]; omega) (by simp only [zeroD]; omega) (by simp [paidD, wi, zeroD]) (by simp only [zeroD]; omega) (by simp only [zeroD]; omega) (by simp [zeroD]) (fun _ => ⟨by simp, fun _ => hpd.2⟩), ⟨fun y hy => by simp only [zeroD, List.mem_cons, List.not_mem_nil, or_false] at hy; omega, ⟨by simp only [zeroD]; omega, by simp only [zeroD]; omega⟩, pp.1⟩, by simp [zeroD], formN a.toNat ++ (formN 1 ++ encP (rPar xs t1).1), by simp [encD, paidD, wi, zeroD], by rw [c0', c1', c2']; simp⟩
  rw [if_neg w1] at h
  by_cases w2 : w = 2
  · subst w2
    rw [if_pos rfl] at h
    have p2 := (rNum_pos xs t1 63 hz p1 (by decide)).1
    obtain ⟨v, t2, e2'⟩ : ∃ a t, rNum xs t1 63 = (a, t) := ⟨_, _, rfl⟩
    rw [e2'] at h p2
    simp only at h p2
    obtain ⟨_, g0, g⟩ := amt_got hz p2 h
    rcases g with ⟨g, _⟩ | ⟨_, c, m1, m2, rfl, m3, m4⟩
    · simp [paidD, wi, zeroD] at g
    simp only at g0 m3
    obtain ⟨z2, a2, b2, c2', d2⟩ := num_got hz p1 e2' g0
    exact ⟨e0, m4, right_of (by simp only [zeroD]; omega) (by simp [bareD, zeroD]) (by simp only [zeroD]; omega) (by simp only [zeroD]; omega) (by simp only [zeroD]; omega) (by simp only [zeroD]; omega) (by simp [paidD, wi, zeroD]; omega) (by simp only [zeroD]; omega) (by simp only [zeroD]; omega) (by simp [zeroD]) (fun _ => ⟨by simp, fun h => by simp at h⟩), ⟨fun y hy => by simp only [zeroD, List.mem_cons, List.not_mem_nil, or_false] at hy; omega, ⟨by simp only [zeroD]; omega, by simp only [zeroD]; omega⟩, zeroP_ok⟩, by simp [zeroD], formN a.toNat ++ (formN 2 ++ (formN v.toNat ++ formN c.toNat)), by simp [encD, paidD, wi, zeroD], by rw [c0', c1', c2', m3]; simp⟩
  rw [if_neg w2] at h
  obtain ⟨_, g0, g⟩ := amt_got hz p1 h
  rcases g with ⟨_, rfl, g1⟩ | ⟨g, _⟩
  rotate_left
  · simp [paidD, wi, zeroD, w2] at g
  simp only at g1
  subst g1
  exact ⟨e0, d1, right_of (by simp only [zeroD]; omega) (by simp [bareD, zeroD, w1, w2]) (by simp only [zeroD]; omega) (by simp only [zeroD]; omega) (by simp only [zeroD]; omega) (by simp only [zeroD]; omega) (by simp [paidD, wi, zeroD, w2]) (by simp only [zeroD]; omega) (by simp only [zeroD]; omega) (by simp [zeroD]) (fun _ => ⟨hw, fun h => absurd h w1⟩), ⟨fun y hy => by simp only [zeroD, List.mem_cons, List.not_mem_nil, or_false] at hy; omega, ⟨by simp only [zeroD]; omega, by simp only [zeroD]; omega⟩, zeroP_ok⟩, by simp [zeroD], formN a.toNat ++ formN w.toNat, by simp [encD, paidD, wi, zeroD, w1, w2], by rw [c0', c1']; simp⟩
/-- what is read is right, and has just these bytes -/
theorem rd_sound {xs : List Int} (hz : ∀ z ∈ xs, 0 ≤ z ∧ z ≤ 255) {s t : Nat × Int} (hs : s.1 ≤ xs.length) {d : DeedD} (h : rdDeed xs s = (d, 0, t)) :
    s.2 = 0 ∧ t.2 = 0 ∧ t.1 ≤ xs.length ∧ rightD d = true ∧ DeedOk d ∧ (∀ y ∈ d.bits, 0 ≤ y ∧ y ≤ 255) ∧ xs.drop s.1 = encD d ++ xs.drop t.1 := by
  simp only [rdDeed] at h
  split at h
  · rename_i c
    injection h with _ h2
    injection h2 with h2 _
    exact absurd h2 c
  rename_i c1
  split at h
  · rename_i c
    injection h with _ h2
    injection h2 with h2 _
    exact absurd h2 c
  rename_i c2
  injection h with h1 h2
  injection h2 with _ h2
  have t2 : t.2 = 0 := by rw [← h2]; omega
  have hall : rdAll xs s = (d, (t.1, 0), 0) := Prod.ext h1 (Prod.ext (by rw [h2, ← t2]) (by simp only; omega))
  have p0 := (rNum_pos xs s 255 hz hs (by decide)).1
  obtain ⟨z, t0, e0'⟩ : ∃ a t, rNum xs s 255 = (a, t) := ⟨_, _, rfl⟩
  rw [e0'] at p0
  simp only at p0
  simp only [rdAll, e0'] at hall
  by_cases cc : must (wi z 1 7) 80 0 t0.2 = 0 ∧ t0.2 = 0
  rotate_left
  · rw [if_neg cc] at hall
    injection hall with _ hq
    injection hq with hq1 hq2
    exact absurd ⟨hq2, by rw [hq1]⟩ cc
  rw [if_pos cc, cc.1] at hall
  have hw := wi_iff.1 (must_z (by decide) cc.2 rfl cc.1)
  obtain ⟨e0, a0, b0, c0', d0⟩ := num_got hz hs e0' cc.2
  have key : SoundAt xs t0 z d t.1 := by
    rcases (by omega : z = 1 ∨ z = 2 ∨ z = 3 ∨ z = 4 ∨ z = 5 ∨ z = 6 ∨ z = 7) with rfl | rfl | rfl | rfl | rfl | rfl | rfl
    · exact sound1 hz p0 hall
    · exact sound2 hz p0 hall
    · exact sound3 hz p0 hall
    · exact sound4 hz p0 hall
    · exact sound5 hz p0 hall
    · exact sound6 hz p0 hall
    · exact sound7 hz p0 hall
  obtain ⟨_, k1, k2, k3, k4, b, k5, k6⟩ := key
  refine ⟨e0, t2, k1, k2, k3, k4, ?_⟩
  rw [c0', k6, k5, List.append_assoc]
end Go.X
