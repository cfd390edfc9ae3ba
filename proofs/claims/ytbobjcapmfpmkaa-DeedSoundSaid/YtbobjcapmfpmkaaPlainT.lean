/- Plain laws of deeds' coding: what is encoded is read as it was; cut off it is not all there; what is read has just these bytes. Conditions: as each lemma says. -/
import Derived.Test.YtbobjcapmfpmkaaPN
set_option linter.unusedVariables false
set_option linter.unusedSimpArgs false
namespace Go.X
open Go.RowKit Go.Bl

/-! ### where a failure came ahead -/
theorem rAll_stop {xs : List Int} {most : Int} {s : Nat × Int} (h : s.2 ≠ 0) : ∀ k, (rAll xs most k s).2 = s
  | 0 => rfl
  | k + 1 => by simp only [rAll, rNum_stop h]; exact rAll_stop h k
theorem rPar_stop {xs : List Int} {s : Nat × Int} (h : s.2 ≠ 0) : (rPar xs s).2 = s := by
  simp only [rPar]
  have h1 := rAll_stop (xs := xs) (most := 18446744073709551615) h 14
  have h2 := rAll_stop (xs := xs) (most := 2147483647) (s := (rAll xs 18446744073709551615 14 s).2) (by rw [h1]; exact h) 10
  rw [h2, h1]
theorem rdMove_stop {xs : List Int} {d : DeedD} {s : Nat × Int} {e : Int} (h : s.2 ≠ 0) : (rdMove xs d s e).2.1 = s := by
  simp only [rdMove, rNum_stop h]
  rw [if_neg (fun hh => h hh.2)]
theorem rdBody_stop {xs : List Int} {d : DeedD} {s : Nat × Int} {e : Int} (h : s.2 ≠ 0) : (rdBody xs d s e).2.1 = s := by
  unfold rdBody
  split
  · rw [rNum_stop h]
  · split
    · rw [rNum_stop h]
    · split
      · exact rdMove_stop h
      · split
        · simp only [rNum_stop h]
        · rfl
theorem rdAmt_stop {xs : List Int} {q : DeedD × (Nat × Int) × Int} (h : q.2.1.2 ≠ 0) : rdAmt xs q = q := by
  unfold rdAmt
  rw [if_neg (fun hh => h hh.2.1)]
theorem rdFields_stop {xs : List Int} {d : DeedD} {s : Nat × Int} {e : Int} (h : s.2 ≠ 0) : (rdFields xs d s e).2.1 = s := by
  unfold rdFields
  split
  · simp only [rNum_stop h, rRaw_stop h]
  · simp only [rNum_stop h]
    have hb := rdBody_stop (xs := xs) (d := { d with acct := (rNum xs s 63).1 }) (e := e) h
    simp only [rNum_stop h] at hb
    rw [rdAmt_stop (by rw [hb]; exact h)]
    exact hb

/-! ### there and back -/
theorem rNum_formI {xs rest : List Int} {k : Nat} {z most : Int} (h : xs.drop k = formN z.toNat ++ rest) (h0 : 0 ≤ z) (hm : z ≤ most) (hn : z < 18446744073709551616) : rNum xs (k, 0) most = (z, (k + (formN z.toNat).length, 0)) ∧ xs.drop (k + (formN z.toNat).length) = rest := by
  obtain ⟨n, rfl⟩ := Int.eq_ofNat_of_zero_le h0
  simp only [Int.toNat_natCast] at h ⊢
  exact rNum_form h (by omega) hm
theorem rAll_form {xs : List Int} {most : Int} (hm : most < 18446744073709551616) : ∀ (st : List Int) (k : Nat) (rest : List Int), xs.drop k = flatN st ++ rest → (∀ z ∈ st, 0 ≤ z ∧ z ≤ most) →
    rAll xs most st.length (k, 0) = (st, (k + (flatN st).length, 0)) ∧ xs.drop (k + (flatN st).length) = rest
  | [], k, rest, h, _ => ⟨rfl, by simpa [flatN] using h⟩
  | z :: st, k, rest, h, hz => by
    have h1 := hz z (by simp)
    simp only [flatN, List.append_assoc] at h
    obtain ⟨h2, h3⟩ := rNum_formI h h1.1 h1.2 (by omega)
    obtain ⟨h4, h5⟩ := rAll_form hm st _ rest h3 (fun x hx => hz x (by simp [hx]))
    refine ⟨?_, ?_⟩
    · simp only [rAll, List.length_cons, h2, h4, flatN, List.length_append, Nat.add_assoc]
    · simp only [flatN, List.length_append]
      rw [← Nat.add_assoc]; exact h5
theorem rAll_short {xs : List Int} {most : Int} (hm : most < 18446744073709551616) : ∀ (st : List Int) (s : Nat × Int) (rest : List Int), Short xs s (flatN st ++ rest) → (∀ z ∈ st, 0 ≤ z ∧ z ≤ most) →
    (rAll xs most st.length s).2.2 = 50 ∨ rAll xs most st.length s = (st, (rAll xs most st.length s).2) ∧ (rAll xs most st.length s).2.2 = 0 ∧ Short xs (rAll xs most st.length s).2 rest
  | [], s, rest, h, _ => by
    simp only [flatN, List.nil_append] at h
    simp only [rAll, List.length_nil]
    rcases h with h | h
    · exact Or.inl h
    · exact Or.inr ⟨trivial, h.1, Or.inr h⟩
  | z :: st, s, rest, h, hz => by
    have h1 := hz z (by simp)
    obtain ⟨n, rfl⟩ := Int.eq_ofNat_of_zero_le h1.1
    simp only [flatN, List.append_assoc, Int.toNat_natCast] at h
    simp only [rAll, List.length_cons]
    rcases h.num (by omega) h1.2 with h2 | ⟨h3, h4, h5⟩
    · left; rw [rAll_stop (by omega)]; exact h2
    · rcases rAll_short hm st _ rest h5 (fun x hx => hz x (by simp [hx])) with g | ⟨g1, g2, g3⟩
      · exact Or.inl g
      · refine Or.inr ⟨?_, g2, g3⟩
        rw [h3, g1]
theorem rAll_sound {xs : List Int} {most : Int} (hx : ∀ z ∈ xs, 0 ≤ z ∧ z ≤ 255) : ∀ (m : Nat) (s : Nat × Int) (st : List Int) (k : Nat), s.1 ≤ xs.length → rAll xs most m s = (st, (k, 0)) →
    s.2 = 0 ∧ xs.drop s.1 = flatN st ++ xs.drop k ∧ k ≤ xs.length
  | 0, s, st, k, hs, h => by
    simp only [rAll] at h
    injection h with h1 h2
    subst h1
    subst h2
    exact ⟨rfl, by simp [flatN], hs⟩
  | m + 1, s, st, k, hs, h => by
    simp only [rAll] at h
    injection h with h1 h2
    subst h1
    cases hr : rNum xs s most with
    | mk v p =>
      obtain ⟨j, e⟩ := p
      rw [hr] at h2
      simp only at h2 ⊢
      by_cases he : e = 0
      · subst he
        obtain ⟨h0, n, rfl, hn, _, hd, _, hj⟩ := rNum_sound hx hr
        obtain ⟨_, b4, b5⟩ := rAll_sound hx m (j, 0) (rAll xs most m (j, 0)).1 k (hj hs) (Prod.ext rfl h2)
        refine ⟨h0, ?_, b5⟩
        simp only [flatN, Int.toNat_natCast, List.append_assoc]
        simp only at b4
        rw [hd, b4]
      · rw [rAll_stop (by simpa using he)] at h2
        injection h2 with _ h2
        exact absurd h2 he
theorem parL_self (p : ParD) : parL (wides p) (narrows p) = p := by cases p; rfl
theorem par_bounds {p : ParD} (ok : ParOk p) (hr : parR p = true) : (∀ z ∈ wides p, 0 ≤ z ∧ z ≤ 18446744073709551615) ∧ ∀ z ∈ narrows p, 0 ≤ z ∧ z ≤ 2147483647 :=
  ⟨ok.w, fun z hz => by have := narrows_pos hr z hz; omega⟩
theorem rPar_form {xs rest : List Int} {k : Nat} {p : ParD} (ok : ParOk p) (hr : parR p = true) (h : xs.drop k = encP p ++ rest) : rPar xs (k, 0) = (p, (k + (encP p).length, 0)) ∧ pRead xs (k, 0) = (p, 0) ∧ xs.drop (k + (encP p).length) = rest := by
  obtain ⟨b1, b2⟩ := par_bounds ok hr
  have ep : encP p = flatN (wides p) ++ flatN (narrows p) := by rw [encP, flatN_append]
  rw [ep, List.append_assoc] at h
  obtain ⟨h1, h2⟩ := rAll_form (by decide) (wides p) k _ h b1
  obtain ⟨h3, h4⟩ := rAll_form (by decide) (narrows p) _ rest h2 b2
  have l1 : (wides p).length = 14 := rfl
  have l2 : (narrows p).length = 10 := rfl
  rw [l1] at h1
  rw [l2] at h3
  have e : rPar xs (k, 0) = (p, (k + (encP p).length, 0)) := by
    simp only [rPar, h1, h3, parL_self, ep, List.length_append, Nat.add_assoc]
  refine ⟨e, ?_, ?_⟩
  · simp [pRead, e, hr]
  · rw [ep, List.length_append, ← Nat.add_assoc]; exact h4
theorem rPar_short {xs rest : List Int} {s : Nat × Int} {p : ParD} (ok : ParOk p) (hr : parR p = true) (h : Short xs s (encP p ++ rest)) : (rPar xs s).2.2 = 50 ∨ (rPar xs s).1 = p ∧ (rPar xs s).2.2 = 0 ∧ pRead xs s = (p, 0) ∧ Short xs (rPar xs s).2 rest := by
  obtain ⟨b1, b2⟩ := par_bounds ok hr
  have ep : encP p = flatN (wides p) ++ flatN (narrows p) := by rw [encP, flatN_append]
  rw [ep, List.append_assoc] at h
  have l1 : (wides p).length = 14 := rfl
  have l2 : (narrows p).length = 10 := rfl
  rcases rAll_short (by decide) (wides p) s _ h b1 with h1 | ⟨h1, h2, h3⟩
  · left
    rw [l1] at h1
    simp only [rPar]
    rw [rAll_stop (by omega)]; exact h1
  · rw [l1] at h1 h2 h3
    rcases rAll_short (by decide) (narrows p) _ _ h3 b2 with g1 | ⟨g1, g2, g3⟩
    · left; rw [l2] at g1; exact g1
    · rw [l2] at g1 g2 g3
      have e1 : (rAll xs 18446744073709551615 14 s).1 = wides p := by rw [h1]
      have e2 : (rAll xs 2147483647 10 (rAll xs 18446744073709551615 14 s).2).1 = narrows p := by rw [g1]
      have e : (rPar xs s).1 = p := by simp only [rPar, e1, e2, parL_self]
      have e3 : (rPar xs s).2.2 = 0 := g2
      refine Or.inr ⟨e, e3, ?_, g3⟩
      simp [pRead, e3, e, hr]
theorem rPar_sound {xs : List Int} {s : Nat × Int} {k : Nat} (hx : ∀ z ∈ xs, 0 ≤ z ∧ z ≤ 255) (hs : s.1 ≤ xs.length) (h : (rPar xs s).2 = (k, 0)) : s.2 = 0 ∧ xs.drop s.1 = encP (rPar xs s).1 ++ xs.drop k ∧ k ≤ xs.length := by
  simp only [rPar] at h ⊢
  have hp := rAll_pos hx (most := 18446744073709551615) (by decide) 14 s hs
  obtain ⟨a1, a2, a3⟩ := rAll_sound hx 10 (rAll xs 18446744073709551615 14 s).2 _ k hp.1 (Prod.ext rfl h)
  obtain ⟨j, e⟩ : ∃ j, (rAll xs 18446744073709551615 14 s).2 = (j, 0) := ⟨(rAll xs 18446744073709551615 14 s).2.1, Prod.ext rfl a1⟩
  obtain ⟨b1, b2, b3⟩ := rAll_sound hx 14 s _ j hs (Prod.ext rfl e)
  refine ⟨b1, ?_, a3⟩
  rw [encP, wides_parL _ _ (rAll_len _ _ _ _), narrows_parL _ _ (rAll_len _ _ _ _), flatN_append, List.append_assoc, ← a2, b2, e]
end Go.X
