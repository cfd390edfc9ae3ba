/- Plain coding of certificates: their bytes, what bytes read as, and how the two belong together; no program in sight. Conditions: as each lemma says. -/
import Derived.Test.YtbobjcapmfpmkaaPlainC
import Derived.Test.YtbobjcapmfpmkaaPlainK
set_option linter.unusedVariables false
set_option linter.unusedSimpArgs false
namespace Go.Bl
open Go.RowKit

/-- the bytes of numbers, one behind the other -/
def flatN : List Int → List Int
  | [] => []
  | z :: l => formN z.toNat ++ flatN l
theorem flatN_append (a b : List Int) : flatN (a ++ b) = flatN a ++ flatN b := by
  induction a with
  | nil => rfl
  | cons z a ih => simp [flatN, ih]
theorem flatN_len : ∀ (l : List Int), (∀ z ∈ l, z < 18446744073709551616) → (flatN l).length ≤ 10 * l.length
  | [], _ => by simp [flatN]
  | z :: l, h => by
    have h1 := flatN_len l (fun x hx => h x (by simp [hx]))
    have h2 := h z (by simp)
    have h3 := formN_len 10 z.toNat (by have : (128 : Nat) ^ 10 = 1180591620717411303424 := by decide
                                        omega) (by decide)
    simp only [flatN, List.length_append, List.length_cons]
    omega
theorem flatN_byte : ∀ (l : List Int), ∀ z ∈ flatN l, 0 ≤ z ∧ z ≤ 255
  | [], z, h => by simp [flatN] at h
  | x :: l, z, h => by
    rcases List.mem_append.1 h with h | h
    · exact formN_byte _ z h
    · exact flatN_byte l z h
/-- a row of numbers: it stops behind a failure -/
def rSt (xs : List Int) (most : Int) : Nat → Nat × Int → List Int × (Nat × Int)
  | 0, s => ([], s)
  | k + 1, s => if s.2 ≠ 0 then ([], s) else ((rNum xs s most).1 :: (rSt xs most k (rNum xs s most).2).1, (rSt xs most k (rNum xs s most).2).2)
theorem rSt_stop {xs : List Int} {most : Int} {s : Nat × Int} (h : s.2 ≠ 0) : ∀ k, rSt xs most k s = ([], s)
  | 0 => rfl
  | k + 1 => by simp [rSt, h]
theorem rSt_form {xs : List Int} {most : Int} (hm : most < 18446744073709551616) : ∀ (st : List Int) (k : Nat) (rest : List Int), xs.drop k = flatN st ++ rest → (∀ z ∈ st, 0 ≤ z ∧ z ≤ most) →
    rSt xs most st.length (k, 0) = (st, (k + (flatN st).length, 0)) ∧ xs.drop (k + (flatN st).length) = rest
  | [], k, rest, h, _ => ⟨rfl, by simpa [flatN] using h⟩
  | z :: st, k, rest, h, hz => by
    have h1 := hz z (by simp)
    obtain ⟨n, rfl⟩ := Int.eq_ofNat_of_zero_le h1.1
    simp only [flatN, List.append_assoc, Int.toNat_natCast] at h
    obtain ⟨h2, h3⟩ := rNum_form h (by omega) h1.2
    obtain ⟨h4, h5⟩ := rSt_form hm st _ rest h3 (fun x hx => hz x (by simp [hx]))
    refine ⟨?_, ?_⟩
    · simp only [rSt, List.length_cons, h2, h4, flatN, List.length_append, Int.toNat_natCast, Nat.add_assoc]
      simp
    · simp only [flatN, List.length_append, Int.toNat_natCast]
      rw [← Nat.add_assoc]; exact h5
theorem rSt_short {xs : List Int} {most : Int} (hm : most < 18446744073709551616) : ∀ (st : List Int) (s : Nat × Int) (rest : List Int), Short xs s (flatN st ++ rest) → (∀ z ∈ st, 0 ≤ z ∧ z ≤ most) →
    (rSt xs most st.length s).2.2 = 50 ∨ (rSt xs most st.length s).2.2 = 0 ∧ Short xs (rSt xs most st.length s).2 rest
  | [], s, rest, h, _ => by
    simp only [flatN, List.nil_append] at h
    simp only [rSt, List.length_nil]
    rcases h with h | h
    · exact Or.inl h
    · exact Or.inr ⟨h.1, Or.inr h⟩
  | z :: st, s, rest, h, hz => by
    have h1 := hz z (by simp)
    obtain ⟨n, rfl⟩ := Int.eq_ofNat_of_zero_le h1.1
    simp only [flatN, List.append_assoc, Int.toNat_natCast] at h
    by_cases h0 : s.2 = 0
    · simp only [rSt, List.length_cons, ne_eq, h0, not_true_eq_false, if_false]
      rcases h.num (by omega) h1.2 with h2 | ⟨_, _, h4⟩
      · left; rw [rSt_stop (by omega)]; exact h2
      · exact rSt_short hm st _ rest h4 (fun x hx => hz x (by simp [hx]))
    · left
      rw [rSt_stop h0]
      rcases h with h | h
      · exact h
      · exact absurd h.1 h0
theorem rSt_sound {xs : List Int} {most : Int} (hx : ∀ z ∈ xs, 0 ≤ z ∧ z ≤ 255) : ∀ (m : Nat) (s : Nat × Int) (st : List Int) (k : Nat), s.1 ≤ xs.length → rSt xs most m s = (st, (k, 0)) →
    s.2 = 0 ∧ st.length = m ∧ (∀ z ∈ st, 0 ≤ z ∧ z ≤ most) ∧ xs.drop s.1 = flatN st ++ xs.drop k ∧ k ≤ xs.length
  | 0, s, st, k, hs, h => by
    simp only [rSt] at h
    injection h with h1 h2
    subst h1
    subst h2
    exact ⟨rfl, rfl, fun z hz => by simp at hz, by simp [flatN], hs⟩
  | m + 1, s, st, k, hs, h => by
    simp only [rSt] at h
    by_cases h0 : s.2 = 0
    · simp only [ne_eq, h0, not_true_eq_false, if_false] at h
      injection h with h1 h2
      subst h1
      cases hr : rNum xs s most with
      | mk v p =>
        obtain ⟨j, e⟩ := p
        have hb : (rNum xs s most).2.1 ≤ xs.length ∨ e ≠ 0 := by
          by_cases he : e = 0
          · subst he
            obtain ⟨_, n, _, _, _, _, _, hj⟩ := rNum_sound hx hr
            left; rw [hr]; exact hj hs
          · exact Or.inr he
        rw [hr] at h2 hb
        simp only at h2 hb ⊢
        by_cases he : e = 0
        · subst he
          obtain ⟨_, n, rfl, hn, _, hd, _, hj⟩ := rNum_sound hx hr
          obtain ⟨_, b2, b3, b4, b5⟩ := rSt_sound hx m (j, 0) (rSt xs most m (j, 0)).1 k (hj hs) (Prod.ext rfl h2)
          refine ⟨h0, by simp [b2], ?_, ?_, b5⟩
          · intro z hz
            rcases List.mem_cons.1 hz with rfl | hz
            · omega
            · exact b3 z hz
          · simp only [flatN, Int.toNat_natCast, List.append_assoc]
            simp only at b4
            rw [hd, b4]
        · rw [rSt_stop (by simpa using he)] at h2
          injection h2 with _ h2
          exact absurd h2 he
    · simp only [ne_eq, h0, not_false_eq_true, if_true] at h
      injection h with _ h2
      rw [h2] at h0
      exact absurd rfl h0
/-- a certificate's bytes -/
def encC (c : CertD) : List Int := formN c.ep.toNat ++ (formN c.mem.toNat ++ (flatN c.st ++ rawN c.bs))
def nilC : CertD := ⟨0, 0, [], []⟩
/-- what bytes read as, an error's number -/
def decC (xs : List Int) : CertD × Int :=
  let a := rNum xs (0, 0) 1073741824
  let b := rNum xs a.2 128
  let c := rSt xs 1099511627776 b.1.toNat b.2
  let d := rRaw xs c.2 32
  let e := rDone xs d.2
  if e ≠ 0 then (nilC, e) else if rightC ⟨a.1, b.1, c.1, d.1⟩ then (⟨a.1, b.1, c.1, d.1⟩, 0) else (nilC, 2)
theorem right_bounds {c : CertD} (h0 : ∀ i, 0 ≤ at0 c.st i) (hr : rightC c = true) : ∀ z ∈ c.st, 0 ≤ z ∧ z ≤ 1099511627776 := by
  intro z hz
  obtain ⟨j, hj, rfl⟩ := List.mem_iff_getElem.1 hz
  have := rightC_place hr j hj
  simp only [placeC, Bool.and_eq_true, decide_eq_true_eq] at this
  rw [at0_lt hj]
  exact ⟨h0 j, this.1⟩
theorem right_bs {c : CertD} (hr : rightC c = true) : c.bs.length ≤ 16 := by
  have h := rightC_head hr
  have hf := headC_facts h
  simp only [headC, rightB, Bool.and_eq_true, decide_eq_true_eq] at h
  omega
theorem dec_enc {c : CertD} (h0 : ∀ i, 0 ≤ at0 c.st i) (hr : rightC c = true) : decC (encC c) = (c, 0) := by
  have hf := headC_facts (rightC_head hr)
  have hz := right_bounds h0 hr
  have hb := right_bs hr
  obtain ⟨ep, mem, st, bs⟩ := c
  simp only at hf hz hb h0 ⊢
  obtain ⟨e, rfl⟩ := Int.eq_ofNat_of_zero_le hf.1
  obtain ⟨m, rfl⟩ := Int.eq_ofNat_of_zero_le hf.2.2.1
  obtain ⟨a1, a2⟩ := rNum_form (xs := encC ⟨e, m, st, bs⟩) (k := 0) (most := 1073741824) (n := e) (rest := formN m ++ (flatN st ++ rawN bs)) (by simp [encC]) (by omega) (by omega)
  obtain ⟨b1, b2⟩ := rNum_form (most := 128) a2 (by omega) (by omega)
  obtain ⟨c1, c2⟩ := rSt_form (most := 1099511627776) (by omega) st _ _ b2 hz
  obtain ⟨d1, d2⟩ := rRaw_form (b := bs) (rest := []) (most := 32) (by rw [c2]; simp) (by omega) (by omega)
  have hm : st.length = m := by omega
  rw [hm] at c1
  have hl : (encC ⟨e, m, st, bs⟩).length ≤ 0 + (formN e).length + (formN m).length + (flatN st).length + (rawN bs).length := by
    have := congrArg List.length d2
    simp at this
    omega
  unfold decC
  simp only [a1, b1, Int.toNat_natCast, c1, d1]
  rw [if_neg (by simp [rDone]; omega), if_pos hr]
theorem dec_cut {c : CertD} (h0 : ∀ i, 0 ≤ at0 c.st i) (hr : rightC c = true) (n : Nat) (hn : n < (encC c).length) : (decC ((encC c).take n)).2 = 50 := by
  have hf := headC_facts (rightC_head hr)
  have hz := right_bounds h0 hr
  have hb := right_bs hr
  have hs : Short ((encC c).take n) (0, 0) (encC c) := by
    refine Or.inr ⟨rfl, (encC c).drop n, ?_, by simp⟩
    intro h
    have := congrArg List.length h
    simp at this
    omega
  obtain ⟨ep, mem, st, bs⟩ := c
  simp only at hf hz hb h0
  obtain ⟨e, rfl⟩ := Int.eq_ofNat_of_zero_le hf.1
  obtain ⟨m, rfl⟩ := Int.eq_ofNat_of_zero_le hf.2.2.1
  have hm : st.length = m := by omega
  generalize hxs : (encC ⟨e, m, st, bs⟩).take n = xs at hs ⊢
  simp only [encC, Int.toNat_natCast] at hs
  unfold decC
  simp only
  have stop : ∀ s : Nat × Int, s.2 = 50 → ∀ k most, rDone xs (rRaw xs (rSt xs most k s).2 32).2 = 50 := by
    intro s h k most
    rw [rSt_stop (by omega), rRaw_stop (by simp only; omega)]
    simp [rDone, h]
  have ends : ∀ z : Int, z = 50 → ∀ y : CertD × Int, (if z ≠ 0 then (nilC, z) else y).2 = 50 := by
    intro z h y; rw [if_pos (by omega)]; exact h
  rcases hs.num (most := 1073741824) (by omega) (by omega) with h1 | ⟨h1, h2, h3⟩
  · refine ends _ ?_ _
    rw [rNum_stop (s := (rNum xs (0, 0) 1073741824).2) (by omega)]
    exact stop _ h1 _ _
  rcases h3.num (most := 128) (by omega) (by omega) with g1 | ⟨g1, g2, g3⟩
  · exact ends _ (stop _ g1 _ _) _
  rw [g1, Int.toNat_natCast, ← hm]
  rcases rSt_short (most := 1099511627776) (by omega) st _ _ g3 hz with f1 | ⟨f1, f2⟩
  · refine ends _ ?_ _
    rw [rRaw_stop (by omega)]
    simp [rDone, f1]
  have f3 : Short xs (rSt xs 1099511627776 st.length (rNum xs (rNum xs (0, 0) 1073741824).2 128).2).2 (rawN bs ++ []) := by simpa using f2
  rcases f3.raw (most := 32) (by omega) (by omega) with e1 | ⟨_, e2, e3⟩
  · refine ends _ ?_ _
    simp [rDone, e1]
  · have := e3.nil
    omega
theorem dec_sound {xs : List Int} {y : CertD} (hx : ∀ z ∈ xs, 0 ≤ z ∧ z ≤ 255) (h : decC xs = (y, 0)) : rightC y = true ∧ encC y = xs := by
  unfold decC at h
  simp only at h
  split at h
  · rename_i h1
    injection h with _ h2
    exact absurd h2 h1
  rename_i h1
  split at h
  · rename_i h2
    injection h with h3 _
    have h1 : rDone xs (rRaw xs (rSt xs 1099511627776 (rNum xs (rNum xs (0, 0) 1073741824).2 128).1.toNat (rNum xs (rNum xs (0, 0) 1073741824).2 128).2).2 32).2 = 0 := by simpa using h1
    refine ⟨by rw [← h3]; exact h2, ?_⟩
    cases ha : rNum xs (0, 0) 1073741824 with
    | mk a1 a2 =>
    rw [ha] at h1 h3
    simp only at h1 h3
    cases hb : rNum xs a2 128 with
    | mk b1 b2 =>
    rw [hb] at h1 h3
    simp only at h1 h3
    cases hc : rSt xs 1099511627776 b1.toNat b2 with
    | mk c1 c2 =>
    rw [hc] at h1 h3
    simp only at h1 h3
    cases hd : rRaw xs c2 32 with
    | mk d1 d2 =>
    rw [hd] at h1 h3
    simp only at h1 h3
    obtain ⟨dk, de⟩ := d2
    have hde : de = 0 ∧ ¬ dk < xs.length := by
      unfold rDone at h1
      split at h1
      · omega
      · simp only at h1
        rename_i hh
        simp only [not_and] at hh
        exact ⟨h1, hh h1⟩
    obtain ⟨rfl, hdk⟩ := hde
    -- from behind
    have pos : ∀ (k : Nat) (s : Nat × Int) most v e, s.1 ≤ xs.length → rNum xs s most = (v, (k, e)) → e = 0 → k ≤ xs.length := by
      intro k s most v e hs hr he
      subst he
      obtain ⟨_, n, _, _, _, _, _, hj⟩ := rNum_sound hx hr
      exact hj hs
    obtain ⟨ck, ce⟩ := c2
    have hce : ce = 0 := by
      by_cases hce : ce = 0
      · exact hce
      · rw [rRaw_stop (by simpa using hce)] at hd
        injection hd with _ hd
        injection hd with _ hd
    subst hce
    obtain ⟨bk, be⟩ := b2
    have hbe : be = 0 := by
      by_cases hbe : be = 0
      · exact hbe
      · rw [rSt_stop (by simpa using hbe)] at hc
        injection hc with _ hc
        injection hc with _ hc
    subst hbe
    obtain ⟨ak, ae⟩ := a2
    obtain ⟨hae, bn, rfl, hbn, _, hbd, _, hbj⟩ := rNum_sound hx hb
    simp only at hae
    subst hae
    obtain ⟨_, an, rfl, han, _, had, _, haj⟩ := rNum_sound hx ha
    have l1 := haj (Nat.zero_le _)
    have l2 := hbj l1
    obtain ⟨_, hst, _, hcd, l3⟩ := rSt_sound hx _ _ _ _ l2 hc
    obtain ⟨_, _, hdd, l4, _⟩ := rRaw_sound hx l3 hd
    rw [← h3]
    simp only [encC, Int.toNat_natCast]
    simp only [List.drop_zero] at had
    have hend : xs.drop dk = [] := List.drop_eq_nil_of_le (by omega)
    simp only at hbd hcd hdd
    rw [hend, List.append_nil] at hdd
    rw [← hdd, ← hcd, ← hbd, ← had]
  · injection h with _ h2
    simp at h2
end Go.Bl
