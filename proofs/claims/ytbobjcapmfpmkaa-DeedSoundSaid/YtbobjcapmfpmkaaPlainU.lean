/- Plain laws of deeds' coding, whole deeds. Conditions: as each lemma says. -/
import Derived.Test.YtbobjcapmfpmkaaPlainT
set_option linter.unusedVariables false
set_option linter.unusedSimpArgs false
namespace Go.X
open Go.RowKit Go.Bl

theorem must_true (n e t : Int) : must true n e t = e := by simp [must]
theorem must_z {ok : Bool} {n e t : Int} (hn : n ≠ 0) (ht : t = 0) (he : e = 0) (h : must ok n e t = 0) : ok = true := by
  cases ok with
  | true => rfl
  | false => simp [must, he, ht] at h; exact absurd h hn
theorem must_e {ok : Bool} {n e t : Int} (hn : n ≠ 0) (h : must ok n e t = 0) : e = 0 := by
  unfold must at h
  split at h
  · exact absurd h hn
  · exact h
theorem sameD_eq {a b : DeedD} (h : sameD a b = true) (hb : b.bits = [] ∨ b.bits = a.bits) : a = b := by
  cases a; cases b
  simp only [sameD, Bool.and_eq_true, decide_eq_true_eq, beq_iff_eq] at h
  simp only at hb
  obtain ⟨h1, h2, h3, h4, h5, h6, h7, h8, h9, h10, h11⟩ := h
  simp only [DeedD.mk.injEq]
  refine ⟨h1, h2, h3, h4, h5, h6, ?_, h7, h8, h9, h10⟩
  rcases hb with hb | hb
  · subst hb
    exact List.eq_nil_of_length_eq_zero (by simpa using h11)
  · exact hb.symm
theorem bareD_bits (d : DeedD) : (bareD d).bits = [] ∨ (bareD d).bits = d.bits := by
  unfold bareD
  repeat' split
  all_goals first | exact Or.inl rfl | exact Or.inr rfl
theorem right_bare {d : DeedD} (hr : rightD d = true) : d = bareD d := by
  have : sameD d (bareD d) = true := by
    simp only [rightD, Bool.and_eq_true] at hr; exact hr.1.1.1.2
  exact sameD_eq this (bareD_bits d)
theorem right_paid {d : DeedD} (hr : rightD d = true) : paidD d = decide (0 < d.amt) := by
  simp only [rightD, Bool.and_eq_true, beq_iff_eq] at hr
  exact hr.1.2.1.1.1
theorem rdAll_ok {xs : List Int} {s : Nat × Int} {z : Int} {t : Nat × Int} (h : rNum xs s 255 = (z, t)) (ht : t.2 = 0) (hw : wi z 1 7 = true) : rdAll xs s = rdFields xs { zeroD with kind := z } t 0 := by
  simp only [rdAll, h, hw, must_true, ht]
  simp
theorem rdAll_bad {xs : List Int} {s : Nat × Int} (h : (rNum xs s 255).2.2 ≠ 0) : (rdAll xs s).2.1 = (rNum xs s 255).2 := by
  simp only [rdAll]
  rw [if_neg (fun hh => h hh.2)]
theorem rdFields_ok {xs : List Int} {d : DeedD} {s : Nat × Int} {e : Int} (hk : ¬ d.kind = 5) : rdFields xs d s e = rdAmt xs (rdBody xs { d with acct := (rNum xs s 63).1 } (rNum xs s 63).2 e) := by
  simp [rdFields, hk]
theorem rdAmt_no {xs : List Int} {d : DeedD} {s : Nat × Int} {e : Int} (h : paidD d = false) : rdAmt xs (d, s, e) = (d, s, e) := by
  unfold rdAmt
  rw [if_neg (fun hh => by have := hh.2.2; simp only at this; rw [h] at this; cases this)]
theorem rdAmt_ok {xs : List Int} {d : DeedD} {s : Nat × Int} (h : paidD d = true) (hs : s.2 = 0) (hp : 0 < (rNum xs s 4611686018427387904).1 ∨ (rNum xs s 4611686018427387904).2.2 ≠ 0) : rdAmt xs (d, s, 0) = ({ d with amt := (rNum xs s 4611686018427387904).1 }, (rNum xs s 4611686018427387904).2, 0) := by
  unfold rdAmt
  rw [if_pos ⟨rfl, hs, h⟩]
  simp only
  rcases hp with hp | hp
  · rw [decide_eq_true hp, must_true]
  · simp only [must]
    rw [if_neg (fun hh => hp hh.2.2)]
theorem rdDeed_ok {xs : List Int} {s : Nat × Int} {d : DeedD} {t : Nat × Int} (h : rdAll xs s = (d, t, 0)) (ht : t.2 = 0) : rdDeed xs s = (d, 0, t) := by
  simp [rdDeed, h, ht]
theorem rdDeed_err {xs : List Int} {s : Nat × Int} (h : (rdAll xs s).2.1.2 = 50) : (rdDeed xs s).2.1 = 50 := by
  simp only [rdDeed]
  rw [if_pos (by omega)]
  exact h
/-- at a place where all that is told follows, or a beginning of it -/
def Ahead (xs : List Int) (s : Nat × Int) (b rest : List Int) : Prop := Short xs s (b ++ rest) ∨ s.2 = 0 ∧ xs.drop s.1 = b ++ rest
/-- behind it: the number that is told, or cut off -/
def Behind (xs : List Int) (s : Nat × Int) (rest : List Int) : Prop := Ahead xs s [] rest
theorem num_ahead {xs rest : List Int} {s : Nat × Int} {z most : Int} {c : Bool} (h0 : 0 ≤ z) (hm : z ≤ most) (hn : z < 18446744073709551616) (h : if c then Short xs s (formN z.toNat ++ rest) else s.2 = 0 ∧ xs.drop s.1 = formN z.toNat ++ rest) :
    (c = true ∧ (rNum xs s most).2.2 = 50) ∨ (rNum xs s most).1 = z ∧ (rNum xs s most).2.2 = 0 ∧ (if c then Short xs (rNum xs s most).2 rest else (rNum xs s most).2.2 = 0 ∧ xs.drop (rNum xs s most).2.1 = rest) ∧ (c = false → (rNum xs s most).2.1 = s.1 + (formN z.toNat).length) := by
  obtain ⟨n, rfl⟩ := Int.eq_ofNat_of_zero_le h0
  simp only [Int.toNat_natCast] at h ⊢
  cases c with
  | true =>
    simp only [if_true] at h ⊢
    rcases h.num (by omega) hm with h1 | ⟨h1, h2, h3⟩
    · exact Or.inl ⟨trivial, h1⟩
    · exact Or.inr ⟨h1, h2, h3, fun h => by cases h⟩
  | false =>
    simp only [Bool.false_eq_true, if_false] at h ⊢
    obtain ⟨k, e⟩ := s
    obtain ⟨he, hd⟩ := h
    simp only at he hd
    subst he
    obtain ⟨a1, a2⟩ := rNum_form hd (by omega) hm
    rw [a1]
    refine Or.inr ?_
    simp [a2]
theorem raw_ahead {xs rest b : List Int} {s : Nat × Int} {most : Int} {c : Bool} (hm : (b.length : Int) ≤ most) (hn : b.length < 18446744073709551616) (h : if c then Short xs s (rawN b ++ rest) else s.2 = 0 ∧ xs.drop s.1 = rawN b ++ rest) :
    (c = true ∧ (rRaw xs s most).2.2 = 50) ∨ (rRaw xs s most).1 = b ∧ (rRaw xs s most).2.2 = 0 ∧ (if c then Short xs (rRaw xs s most).2 rest else (rRaw xs s most).2.2 = 0 ∧ xs.drop (rRaw xs s most).2.1 = rest) ∧ (c = false → (rRaw xs s most).2.1 = s.1 + (rawN b).length) := by
  cases c with
  | true =>
    simp only [if_true] at h ⊢
    rcases h.raw (by omega) hm with h1 | ⟨h1, h2, h3⟩
    · exact Or.inl ⟨trivial, h1⟩
    · exact Or.inr ⟨h1, h2, h3, fun h => by cases h⟩
  | false =>
    simp only [Bool.false_eq_true, if_false] at h ⊢
    obtain ⟨k, e⟩ := s
    obtain ⟨he, hd⟩ := h
    simp only at he hd
    subst he
    obtain ⟨a1, a2⟩ := rRaw_form hd (by omega) hm
    rw [a1]
    refine Or.inr ?_
    simp [a2]
theorem par_ahead {xs rest : List Int} {s : Nat × Int} {p : ParD} {c : Bool} (ok : ParOk p) (hr : parR p = true) (h : if c then Short xs s (encP p ++ rest) else s.2 = 0 ∧ xs.drop s.1 = encP p ++ rest) :
    (c = true ∧ (rPar xs s).2.2 = 50) ∨ pRead xs s = (p, 0) ∧ (rPar xs s).2.2 = 0 ∧ (if c then Short xs (rPar xs s).2 rest else (rPar xs s).2.2 = 0 ∧ xs.drop (rPar xs s).2.1 = rest) ∧ (c = false → (rPar xs s).2.1 = s.1 + (encP p).length) := by
  cases c with
  | true =>
    simp only [if_true] at h ⊢
    rcases rPar_short ok hr h with h1 | ⟨_, h2, h3, h4⟩
    · exact Or.inl ⟨trivial, h1⟩
    · exact Or.inr ⟨h3, h2, h4, fun h => by cases h⟩
  | false =>
    simp only [Bool.false_eq_true, if_false] at h ⊢
    obtain ⟨k, e⟩ := s
    obtain ⟨he, hd⟩ := h
    simp only at he hd
    subst he
    obtain ⟨a1, a2, a3⟩ := rPar_form ok hr hd
    rw [a1]
    refine Or.inr ?_
    simp [a2, a3]
/-- a deed's bytes, or their beginning, read -/
theorem rd_ahead {xs rest : List Int} {s : Nat × Int} {d : DeedD} {c : Bool} (ok : DeedOk d) (hr : rightD d = true) (h : if c then Short xs s (encD d ++ rest) else s.2 = 0 ∧ xs.drop s.1 = encD d ++ rest) :
    (c = true ∧ (rdDeed xs s).2.1 = 50) ∨ (rdDeed xs s).1 = d ∧ (rdDeed xs s).2.1 = 0 ∧ (if c then Short xs (rdDeed xs s).2.2 rest else (rdDeed xs s).2.2.2 = 0 ∧ xs.drop (rdDeed xs s).2.2.1 = rest) ∧ (c = false → (rdDeed xs s).2.2.1 = s.1 + (encD d).length) := by
  have ff := rightD_facts hr
  have hamt := ok.a
  have hbare := right_bare hr
  have hpaid := right_paid hr
  by_cases kd1 : d.kind = 1
  · have ee : encD d = formN d.kind.toNat ++ (formN d.acct.toNat ++ (formN d.to.toNat ++ (formN d.amt.toNat))) := by simp [encD, paidD, wi, kd1]
    rw [ee] at h
    simp only [List.append_assoc] at h
    have hw : wi d.kind 1 7 = true := wi_iff.2 ⟨by omega, by omega⟩
    rcases num_ahead (most := 255) (z := d.kind) (by omega) (by omega) (by omega) h with ⟨hc, f0⟩ | ⟨v0, z0, n0, m0⟩
    · exact Or.inl ⟨hc, rdDeed_err (by rw [rdAll_bad (by omega)]; exact f0)⟩
    have hA := rdAll_ok (xs := xs) (s := s) (Prod.ext v0 rfl : rNum xs s 255 = (d.kind, (rNum xs s 255).2)) z0 hw
    obtain ⟨t0, ht0⟩ : ∃ t, t = (rNum xs s 255).2 := ⟨_, rfl⟩
    rw [← ht0] at hA n0 m0 z0
    rw [rdFields_ok (by simp only; omega)] at hA
    rcases num_ahead (most := 63) (z := d.acct) (by omega) (by omega) (by omega) n0 with ⟨hc, f1⟩ | ⟨v1, z1, n1, m1⟩
    · refine Or.inl ⟨hc, rdDeed_err ?_⟩
      have hb := rdBody_stop (xs := xs) (d := { ({ zeroD with kind := d.kind } : DeedD) with acct := (rNum xs t0 63).1 }) (s := (rNum xs t0 63).2) (e := 0) (by omega)
      rw [hA, rdAmt_stop (by rw [hb]; omega), hb]; exact f1
    rw [v1] at hA
    obtain ⟨t1, ht1⟩ : ∃ t, t = (rNum xs t0 63).2 := ⟨_, rfl⟩
    rw [← ht1] at hA n1 m1 z1
    rw [show ∀ a t, rdBody xs { ({ zeroD with kind := d.kind } : DeedD) with acct := a } t 0 = ({ zeroD with kind := d.kind, acct := a, to := (rNum xs t 63).1 }, (rNum xs t 63).2, 0) from fun a t => by simp [rdBody, kd1]] at hA
    rcases num_ahead (most := 63) (z := d.to) (by omega) (by omega) (by omega) n1 with ⟨hc, f2⟩ | ⟨v2, z2, n2, m2⟩
    · refine Or.inl ⟨hc, rdDeed_err ?_⟩
      rw [hA, rdAmt_stop (by simp only; omega)]; exact f2
    rw [v2] at hA
    obtain ⟨t2, ht2⟩ : ∃ t, t = (rNum xs t1 63).2 := ⟨_, rfl⟩
    rw [← ht2] at hA n2 m2 z2
    have hp : paidD ({ zeroD with kind := d.kind, acct := d.acct, to := d.to } : DeedD) = true := by simp [paidD, wi, zeroD, kd1]
    have hpos : 0 < d.amt := by
      have hq : paidD d = true := by simp [paidD, wi, kd1]
      rw [hpaid] at hq; simpa using hq
    rcases num_ahead (rest := rest) (most := 4611686018427387904) (z := d.amt) (by omega) (by omega) (by omega) n2 with ⟨hc, f3⟩ | ⟨v3, z3, n3, m3⟩
    · refine Or.inl ⟨hc, rdDeed_err ?_⟩
      rw [hA, rdAmt_ok hp z2 (Or.inr (by omega))]; exact f3
    rw [rdAmt_ok hp z2 (Or.inl (by omega)), v3] at hA
    have hd := rdDeed_ok hA z3
    rw [hd]
    refine Or.inr ⟨by rw [hbare]; simp [bareD, kd1, zeroD], rfl, ?_, fun hc => ?_⟩
    · cases c with
      | true => simpa using n3
      | false => simpa using n3
    · rw [ee]
      simp only [List.length_append]
      have q0 := m0 hc
      have q1 := m1 hc
      have q2 := m2 hc
      have q3 := m3 hc
      omega
  by_cases kd2 : d.kind = 2
  · have ee : encD d = formN d.kind.toNat ++ (formN d.acct.toNat ++ (formN d.amt.toNat)) := by simp [encD, paidD, wi, kd2]
    rw [ee] at h
    simp only [List.append_assoc] at h
    have hw : wi d.kind 1 7 = true := wi_iff.2 ⟨by omega, by omega⟩
    rcases num_ahead (most := 255) (z := d.kind) (by omega) (by omega) (by omega) h with ⟨hc, f0⟩ | ⟨v0, z0, n0, m0⟩
    · exact Or.inl ⟨hc, rdDeed_err (by rw [rdAll_bad (by omega)]; exact f0)⟩
    have hA := rdAll_ok (xs := xs) (s := s) (Prod.ext v0 rfl : rNum xs s 255 = (d.kind, (rNum xs s 255).2)) z0 hw
    obtain ⟨t0, ht0⟩ : ∃ t, t = (rNum xs s 255).2 := ⟨_, rfl⟩
    rw [← ht0] at hA n0 m0 z0
    rw [rdFields_ok (by simp only; omega)] at hA
    rcases num_ahead (most := 63) (z := d.acct) (by omega) (by omega) (by omega) n0 with ⟨hc, f1⟩ | ⟨v1, z1, n1, m1⟩
    · refine Or.inl ⟨hc, rdDeed_err ?_⟩
      have hb := rdBody_stop (xs := xs) (d := { ({ zeroD with kind := d.kind } : DeedD) with acct := (rNum xs t0 63).1 }) (s := (rNum xs t0 63).2) (e := 0) (by omega)
      rw [hA, rdAmt_stop (by rw [hb]; omega), hb]; exact f1
    rw [v1] at hA
    obtain ⟨t1, ht1⟩ : ∃ t, t = (rNum xs t0 63).2 := ⟨_, rfl⟩
    rw [← ht1] at hA n1 m1 z1
    rw [show ∀ a t, rdBody xs { ({ zeroD with kind := d.kind } : DeedD) with acct := a } t 0 = ({ zeroD with kind := d.kind, acct := a }, t, 0) from fun a t => by simp [rdBody, kd2]] at hA
    have hp : paidD ({ zeroD with kind := d.kind, acct := d.acct } : DeedD) = true := by simp [paidD, wi, zeroD, kd2]
    have hpos : 0 < d.amt := by
      have hq : paidD d = true := by simp [paidD, wi, kd2]
      rw [hpaid] at hq; simpa using hq
    rcases num_ahead (rest := rest) (most := 4611686018427387904) (z := d.amt) (by omega) (by omega) (by omega) n1 with ⟨hc, f2⟩ | ⟨v2, z2, n2, m2⟩
    · refine Or.inl ⟨hc, rdDeed_err ?_⟩
      rw [hA, rdAmt_ok hp z1 (Or.inr (by omega))]; exact f2
    rw [rdAmt_ok hp z1 (Or.inl (by omega)), v2] at hA
    have hd := rdDeed_ok hA z2
    rw [hd]
    refine Or.inr ⟨by rw [hbare]; simp [bareD, kd2, zeroD], rfl, ?_, fun hc => ?_⟩
    · cases c with
      | true => simpa using n2
      | false => simpa using n2
    · rw [ee]
      simp only [List.length_append]
      have q0 := m0 hc
      have q1 := m1 hc
      have q2 := m2 hc
      omega
  by_cases kd3 : d.kind = 3
  · have ee : encD d = formN d.kind.toNat ++ (formN d.acct.toNat ++ (formN d.mem.toNat ++ (formN d.amt.toNat))) := by simp [encD, paidD, wi, kd3]
    rw [ee] at h
    simp only [List.append_assoc] at h
    have hw : wi d.kind 1 7 = true := wi_iff.2 ⟨by omega, by omega⟩
    rcases num_ahead (most := 255) (z := d.kind) (by omega) (by omega) (by omega) h with ⟨hc, f0⟩ | ⟨v0, z0, n0, m0⟩
    · exact Or.inl ⟨hc, rdDeed_err (by rw [rdAll_bad (by omega)]; exact f0)⟩
    have hA := rdAll_ok (xs := xs) (s := s) (Prod.ext v0 rfl : rNum xs s 255 = (d.kind, (rNum xs s 255).2)) z0 hw
    obtain ⟨t0, ht0⟩ : ∃ t, t = (rNum xs s 255).2 := ⟨_, rfl⟩
    rw [← ht0] at hA n0 m0 z0
    rw [rdFields_ok (by simp only; omega)] at hA
    rcases num_ahead (most := 63) (z := d.acct) (by omega) (by omega) (by omega) n0 with ⟨hc, f1⟩ | ⟨v1, z1, n1, m1⟩
    · refine Or.inl ⟨hc, rdDeed_err ?_⟩
      have hb := rdBody_stop (xs := xs) (d := { ({ zeroD with kind := d.kind } : DeedD) with acct := (rNum xs t0 63).1 }) (s := (rNum xs t0 63).2) (e := 0) (by omega)
      rw [hA, rdAmt_stop (by rw [hb]; omega), hb]; exact f1
    rw [v1] at hA
    obtain ⟨t1, ht1⟩ : ∃ t, t = (rNum xs t0 63).2 := ⟨_, rfl⟩
    rw [← ht1] at hA n1 m1 z1
    rw [show ∀ a t, rdBody xs { ({ zeroD with kind := d.kind } : DeedD) with acct := a } t 0 = ({ zeroD with kind := d.kind, acct := a, mem := (rNum xs t 127).1 }, (rNum xs t 127).2, 0) from fun a t => by simp [rdBody, kd3]] at hA
    rcases num_ahead (most := 127) (z := d.mem) (by omega) (by omega) (by omega) n1 with ⟨hc, f2⟩ | ⟨v2, z2, n2, m2⟩
    · refine Or.inl ⟨hc, rdDeed_err ?_⟩
      rw [hA, rdAmt_stop (by simp only; omega)]; exact f2
    rw [v2] at hA
    obtain ⟨t2, ht2⟩ : ∃ t, t = (rNum xs t1 127).2 := ⟨_, rfl⟩
    rw [← ht2] at hA n2 m2 z2
    have hp : paidD ({ zeroD with kind := d.kind, acct := d.acct, mem := d.mem } : DeedD) = true := by simp [paidD, wi, zeroD, kd3]
    have hpos : 0 < d.amt := by
      have hq : paidD d = true := by simp [paidD, wi, kd3]
      rw [hpaid] at hq; simpa using hq
    rcases num_ahead (rest := rest) (most := 4611686018427387904) (z := d.amt) (by omega) (by omega) (by omega) n2 with ⟨hc, f3⟩ | ⟨v3, z3, n3, m3⟩
    · refine Or.inl ⟨hc, rdDeed_err ?_⟩
      rw [hA, rdAmt_ok hp z2 (Or.inr (by omega))]; exact f3
    rw [rdAmt_ok hp z2 (Or.inl (by omega)), v3] at hA
    have hd := rdDeed_ok hA z3
    rw [hd]
    refine Or.inr ⟨by rw [hbare]; simp [bareD, kd3, zeroD], rfl, ?_, fun hc => ?_⟩
    · cases c with
      | true => simpa using n3
      | false => simpa using n3
    · rw [ee]
      simp only [List.length_append]
      have q0 := m0 hc
      have q1 := m1 hc
      have q2 := m2 hc
      have q3 := m3 hc
      omega
  by_cases kd4 : d.kind = 4
  · have ee : encD d = formN d.kind.toNat ++ (formN d.acct.toNat ++ (formN d.mem.toNat)) := by simp [encD, paidD, wi, kd4]
    rw [ee] at h
    simp only [List.append_assoc] at h
    have hw : wi d.kind 1 7 = true := wi_iff.2 ⟨by omega, by omega⟩
    rcases num_ahead (most := 255) (z := d.kind) (by omega) (by omega) (by omega) h with ⟨hc, f0⟩ | ⟨v0, z0, n0, m0⟩
    · exact Or.inl ⟨hc, rdDeed_err (by rw [rdAll_bad (by omega)]; exact f0)⟩
    have hA := rdAll_ok (xs := xs) (s := s) (Prod.ext v0 rfl : rNum xs s 255 = (d.kind, (rNum xs s 255).2)) z0 hw
    obtain ⟨t0, ht0⟩ : ∃ t, t = (rNum xs s 255).2 := ⟨_, rfl⟩
    rw [← ht0] at hA n0 m0 z0
    rw [rdFields_ok (by simp only; omega)] at hA
    rcases num_ahead (most := 63) (z := d.acct) (by omega) (by omega) (by omega) n0 with ⟨hc, f1⟩ | ⟨v1, z1, n1, m1⟩
    · refine Or.inl ⟨hc, rdDeed_err ?_⟩
      have hb := rdBody_stop (xs := xs) (d := { ({ zeroD with kind := d.kind } : DeedD) with acct := (rNum xs t0 63).1 }) (s := (rNum xs t0 63).2) (e := 0) (by omega)
      rw [hA, rdAmt_stop (by rw [hb]; omega), hb]; exact f1
    rw [v1] at hA
    obtain ⟨t1, ht1⟩ : ∃ t, t = (rNum xs t0 63).2 := ⟨_, rfl⟩
    rw [← ht1] at hA n1 m1 z1
    rw [show ∀ a t, rdBody xs { ({ zeroD with kind := d.kind } : DeedD) with acct := a } t 0 = ({ zeroD with kind := d.kind, acct := a, mem := (rNum xs t 127).1 }, (rNum xs t 127).2, 0) from fun a t => by simp [rdBody, kd4]] at hA
    rcases num_ahead (most := 127) (z := d.mem) (by omega) (by omega) (by omega) n1 with ⟨hc, f2⟩ | ⟨v2, z2, n2, m2⟩
    · refine Or.inl ⟨hc, rdDeed_err ?_⟩
      rw [hA, rdAmt_stop (by simp only; omega)]; exact f2
    rw [v2] at hA
    obtain ⟨t2, ht2⟩ : ∃ t, t = (rNum xs t1 127).2 := ⟨_, rfl⟩
    rw [← ht2] at hA n2 m2 z2
    have hp : paidD ({ zeroD with kind := d.kind, acct := d.acct, mem := d.mem } : DeedD) = false := by simp [paidD, wi, zeroD, kd4]
    rw [rdAmt_no hp] at hA
    have hd := rdDeed_ok hA z2
    rw [hd]
    refine Or.inr ⟨by rw [hbare]; simp [bareD, kd4, zeroD], rfl, ?_, fun hc => ?_⟩
    · cases c with
      | true => simpa using n2
      | false => simpa using n2
    · rw [ee]
      simp only [List.length_append]
      have q0 := m0 hc
      have q1 := m1 hc
      have q2 := m2 hc
      omega
  by_cases kd5 : d.kind = 5
  · have ee : encD d = formN d.kind.toNat ++ (formN d.ep.toNat ++ rawN d.bits) := by simp [encD, paidD, wi, kd5]
    rw [ee] at h
    simp only [List.append_assoc] at h
    have hw : wi d.kind 1 7 = true := wi_iff.2 ⟨by omega, by omega⟩
    rcases num_ahead (most := 255) (z := d.kind) (by omega) (by omega) (by omega) h with ⟨hc, f0⟩ | ⟨v0, z0, n0, m0⟩
    · exact Or.inl ⟨hc, rdDeed_err (by rw [rdAll_bad (by omega)]; exact f0)⟩
    have hA := rdAll_ok (xs := xs) (s := s) (Prod.ext v0 rfl : rNum xs s 255 = (d.kind, (rNum xs s 255).2)) z0 hw
    obtain ⟨t0, ht0⟩ : ∃ t, t = (rNum xs s 255).2 := ⟨_, rfl⟩
    rw [← ht0] at hA n0 m0 z0
    rw [show ∀ t, rdFields xs ({ zeroD with kind := d.kind } : DeedD) t 0 = ({ zeroD with kind := d.kind, ep := (rNum xs t 1073741824).1, bits := (rRaw xs (rNum xs t 1073741824).2 32).1 }, (rRaw xs (rNum xs t 1073741824).2 32).2, 0) from fun t => by simp [rdFields, kd5]] at hA
    rcases num_ahead (most := 1073741824) (z := d.ep) (by omega) (by omega) (by omega) n0 with ⟨hc, f1⟩ | ⟨v1, z1, n1, m1⟩
    · refine Or.inl ⟨hc, rdDeed_err ?_⟩
      rw [hA]; simp only; rw [rRaw_stop (by omega)]; exact f1
    rw [v1] at hA
    obtain ⟨t1, ht1⟩ : ∃ t, t = (rNum xs t0 1073741824).2 := ⟨_, rfl⟩
    rw [← ht1] at hA n1 m1 z1
    rcases raw_ahead (rest := rest) (most := 32) (b := d.bits) (by omega) (by omega) n1 with ⟨hc, f2⟩ | ⟨v2, z2, n2, m2⟩
    · refine Or.inl ⟨hc, rdDeed_err ?_⟩
      rw [hA]; exact f2
    rw [v2] at hA
    have hd := rdDeed_ok hA z2
    rw [hd]
    refine Or.inr ⟨by rw [hbare]; simp [bareD, kd5, zeroD], rfl, ?_, fun hc => ?_⟩
    · cases c with
      | true => simpa using n2
      | false => simpa using n2
    · rw [ee]
      simp only [List.length_append]
      have q0 := m0 hc
      have q1 := m1 hc
      have q2 := m2 hc
      omega
  by_cases kd7 : d.kind = 7
  · have ee : encD d = formN d.kind.toNat ++ (formN d.acct.toNat ++ (formN d.mem.toNat ++ (formN d.mot.toNat ++ (formN d.yes.toNat)))) := by simp [encD, paidD, wi, kd7]
    rw [ee] at h
    simp only [List.append_assoc] at h
    have hw : wi d.kind 1 7 = true := wi_iff.2 ⟨by omega, by omega⟩
    rcases num_ahead (most := 255) (z := d.kind) (by omega) (by omega) (by omega) h with ⟨hc, f0⟩ | ⟨v0, z0, n0, m0⟩
    · exact Or.inl ⟨hc, rdDeed_err (by rw [rdAll_bad (by omega)]; exact f0)⟩
    have hA := rdAll_ok (xs := xs) (s := s) (Prod.ext v0 rfl : rNum xs s 255 = (d.kind, (rNum xs s 255).2)) z0 hw
    obtain ⟨t0, ht0⟩ : ∃ t, t = (rNum xs s 255).2 := ⟨_, rfl⟩
    rw [← ht0] at hA n0 m0 z0
    rw [rdFields_ok (by simp only; omega)] at hA
    rcases num_ahead (most := 63) (z := d.acct) (by omega) (by omega) (by omega) n0 with ⟨hc, f1⟩ | ⟨v1, z1, n1, m1⟩
    · refine Or.inl ⟨hc, rdDeed_err ?_⟩
      have hb := rdBody_stop (xs := xs) (d := { ({ zeroD with kind := d.kind } : DeedD) with acct := (rNum xs t0 63).1 }) (s := (rNum xs t0 63).2) (e := 0) (by omega)
      rw [hA, rdAmt_stop (by rw [hb]; omega), hb]; exact f1
    rw [v1] at hA
    obtain ⟨t1, ht1⟩ : ∃ t, t = (rNum xs t0 63).2 := ⟨_, rfl⟩
    rw [← ht1] at hA n1 m1 z1
    rw [show ∀ a t, rdBody xs { ({ zeroD with kind := d.kind } : DeedD) with acct := a } t 0 = ({ zeroD with kind := d.kind, acct := a, mem := (rNum xs t 127).1, mot := (rNum xs (rNum xs t 127).2 31).1, yes := decide ((rNum xs (rNum xs (rNum xs t 127).2 31).2 1).1 = 1) }, (rNum xs (rNum xs (rNum xs t 127).2 31).2 1).2, 0) from fun a t => by simp [rdBody, kd7]] at hA
    rcases num_ahead (most := 127) (z := d.mem) (by omega) (by omega) (by omega) n1 with ⟨hc, f2⟩ | ⟨v2, z2, n2, m2⟩
    · refine Or.inl ⟨hc, rdDeed_err ?_⟩
      have g : ∀ most, rNum xs (rNum xs t1 127).2 most = (0, (rNum xs t1 127).2) := fun most => rNum_stop (by omega)
      rw [hA, rdAmt_stop]
      · simp only [g]; exact f2
      · simp only [g]; omega
    rw [v2] at hA
    obtain ⟨t2, ht2⟩ : ∃ t, t = (rNum xs t1 127).2 := ⟨_, rfl⟩
    rw [← ht2] at hA n2 m2 z2
    rcases num_ahead (most := 31) (z := d.mot) (by omega) (by omega) (by omega) n2 with ⟨hc, f3⟩ | ⟨v3, z3, n3, m3⟩
    · refine Or.inl ⟨hc, rdDeed_err ?_⟩
      have g : ∀ most, rNum xs (rNum xs t2 31).2 most = (0, (rNum xs t2 31).2) := fun most => rNum_stop (by omega)
      rw [hA, rdAmt_stop]
      · simp only [g]; exact f3
      · simp only [g]; omega
    rw [v3] at hA
    obtain ⟨t3, ht3⟩ : ∃ t, t = (rNum xs t2 31).2 := ⟨_, rfl⟩
    rw [← ht3] at hA n3 m3 z3
    have hyn : ((d.yes.toNat : Nat) : Int) ≤ 1 := by cases d.yes <;> decide
    rcases num_ahead (rest := rest) (most := 1) (z := ((d.yes.toNat : Nat) : Int)) (by omega) hyn (by omega) (by simpa using n3) with ⟨hc, f4⟩ | ⟨v4, z4, n4, m4⟩
    · refine Or.inl ⟨hc, rdDeed_err ?_⟩
      rw [hA, rdAmt_stop (by simp only; omega)]; exact f4
    rw [v4, show decide (((d.yes.toNat : Nat) : Int) = 1) = d.yes by cases d.yes <;> rfl] at hA
    have hp : paidD ({ zeroD with kind := d.kind, acct := d.acct, mem := d.mem, mot := d.mot, yes := d.yes } : DeedD) = false := by simp [paidD, wi, zeroD, kd7]
    rw [rdAmt_no hp] at hA
    have hd := rdDeed_ok hA z4
    rw [hd]
    refine Or.inr ⟨by rw [hbare]; simp [bareD, kd7, zeroD], rfl, ?_, fun hc => ?_⟩
    · cases c with
      | true => simpa using n4
      | false => simpa using n4
    · rw [ee]
      simp only [List.length_append]
      have q0 := m0 hc
      have q1 := m1 hc
      have q2 := m2 hc
      have q3 := m3 hc
      have q4 := m4 hc
      rw [Int.toNat_natCast] at q4
      omega
  have kd6 : d.kind = 6 := by omega
  have hwh := rightD_what hr kd6
  by_cases w1 : d.what = 1
  · have ee : encD d = formN d.kind.toNat ++ (formN d.acct.toNat ++ (formN d.what.toNat ++ (encP d.par))) := by simp [encD, paidD, wi, kd6, w1]
    rw [ee] at h
    simp only [List.append_assoc] at h
    have hw : wi d.kind 1 7 = true := wi_iff.2 ⟨by omega, by omega⟩
    rcases num_ahead (most := 255) (z := d.kind) (by omega) (by omega) (by omega) h with ⟨hc, f0⟩ | ⟨v0, z0, n0, m0⟩
    · exact Or.inl ⟨hc, rdDeed_err (by rw [rdAll_bad (by omega)]; exact f0)⟩
    have hA := rdAll_ok (xs := xs) (s := s) (Prod.ext v0 rfl : rNum xs s 255 = (d.kind, (rNum xs s 255).2)) z0 hw
    obtain ⟨t0, ht0⟩ : ∃ t, t = (rNum xs s 255).2 := ⟨_, rfl⟩
    rw [← ht0] at hA n0 m0 z0
    rw [rdFields_ok (by simp only; omega)] at hA
    rcases num_ahead (most := 63) (z := d.acct) (by omega) (by omega) (by omega) n0 with ⟨hc, f1⟩ | ⟨v1, z1, n1, m1⟩
    · refine Or.inl ⟨hc, rdDeed_err ?_⟩
      have hb := rdBody_stop (xs := xs) (d := { ({ zeroD with kind := d.kind } : DeedD) with acct := (rNum xs t0 63).1 }) (s := (rNum xs t0 63).2) (e := 0) (by omega)
      rw [hA, rdAmt_stop (by rw [hb]; omega), hb]; exact f1
    rw [v1] at hA
    obtain ⟨t1, ht1⟩ : ∃ t, t = (rNum xs t0 63).2 := ⟨_, rfl⟩
    rw [← ht1] at hA n1 m1 z1
    rw [show ∀ a t, rdBody xs { ({ zeroD with kind := d.kind } : DeedD) with acct := a } t 0 = rdMove xs { ({ zeroD with kind := d.kind } : DeedD) with acct := a } t 0 from fun a t => by simp [rdBody, kd6]] at hA
    rcases num_ahead (most := 255) (z := d.what) (by omega) (by omega) (by omega) n1 with ⟨hc, f2⟩ | ⟨v2, z2, n2, m2⟩
    · refine Or.inl ⟨hc, rdDeed_err ?_⟩
      have g : (rdMove xs { ({ zeroD with kind := d.kind } : DeedD) with acct := d.acct } t1 0).2.1 = (rNum xs t1 255).2 := by
        simp only [rdMove]
        rw [if_neg (fun hh => by omega)]
      rw [hA, rdAmt_stop (by rw [g]; omega), g]; exact f2
    have hww : wi d.what 1 4 = true := wi_iff.2 ⟨by omega, by omega⟩
    have hM : rdMove xs { ({ zeroD with kind := d.kind } : DeedD) with acct := d.acct } t1 0 = ({ zeroD with kind := d.kind, acct := d.acct, what := d.what, par := (pRead xs (rNum xs t1 255).2).1 }, (rPar xs (rNum xs t1 255).2).2, must (decide ((pRead xs (rNum xs t1 255).2).2 = 0)) 70 0 (rPar xs (rNum xs t1 255).2).2.2) := by
      simp only [rdMove, v2, hww, must_true, z2]
      simp [w1]
    rw [hM] at hA
    obtain ⟨t2, ht2⟩ : ∃ t, t = (rNum xs t1 255).2 := ⟨_, rfl⟩
    rw [← ht2] at hA n2 m2 z2
    rcases par_ahead (rest := rest) ok.p (hwh.2.2 w1) (by simpa using n2) with ⟨hc, f3⟩ | ⟨v3, z3, n3, m3⟩
    · refine Or.inl ⟨hc, rdDeed_err ?_⟩
      rw [hA, rdAmt_stop (by simp only; omega)]; exact f3
    rw [v3] at hA
    simp only [decide_true, must_true] at hA
    have hp : paidD ({ zeroD with kind := d.kind, acct := d.acct, what := d.what, par := d.par } : DeedD) = false := by simp [paidD, wi, zeroD, kd6, w1]
    rw [rdAmt_no hp] at hA
    have hd := rdDeed_ok hA z3
    rw [hd]
    refine Or.inr ⟨by rw [hbare]; simp [bareD, kd6, w1, zeroD], rfl, ?_, fun hc => ?_⟩
    · cases c with
      | true => simpa using n3
      | false => simpa using n3
    · rw [ee]
      simp only [List.length_append]
      have q0 := m0 hc
      have q1 := m1 hc
      have q2 := m2 hc
      have q3 := m3 hc
      omega
  by_cases w2 : d.what = 2
  · have ee : encD d = formN d.kind.toNat ++ (formN d.acct.toNat ++ (formN d.what.toNat ++ (formN d.to.toNat ++ (formN d.amt.toNat)))) := by simp [encD, paidD, wi, kd6, w2]
    rw [ee] at h
    simp only [List.append_assoc] at h
    have hw : wi d.kind 1 7 = true := wi_iff.2 ⟨by omega, by omega⟩
    rcases num_ahead (most := 255) (z := d.kind) (by omega) (by omega) (by omega) h with ⟨hc, f0⟩ | ⟨v0, z0, n0, m0⟩
    · exact Or.inl ⟨hc, rdDeed_err (by rw [rdAll_bad (by omega)]; exact f0)⟩
    have hA := rdAll_ok (xs := xs) (s := s) (Prod.ext v0 rfl : rNum xs s 255 = (d.kind, (rNum xs s 255).2)) z0 hw
    obtain ⟨t0, ht0⟩ : ∃ t, t = (rNum xs s 255).2 := ⟨_, rfl⟩
    rw [← ht0] at hA n0 m0 z0
    rw [rdFields_ok (by simp only; omega)] at hA
    rcases num_ahead (most := 63) (z := d.acct) (by omega) (by omega) (by omega) n0 with ⟨hc, f1⟩ | ⟨v1, z1, n1, m1⟩
    · refine Or.inl ⟨hc, rdDeed_err ?_⟩
      have hb := rdBody_stop (xs := xs) (d := { ({ zeroD with kind := d.kind } : DeedD) with acct := (rNum xs t0 63).1 }) (s := (rNum xs t0 63).2) (e := 0) (by omega)
      rw [hA, rdAmt_stop (by rw [hb]; omega), hb]; exact f1
    rw [v1] at hA
    obtain ⟨t1, ht1⟩ : ∃ t, t = (rNum xs t0 63).2 := ⟨_, rfl⟩
    rw [← ht1] at hA n1 m1 z1
    rw [show ∀ a t, rdBody xs { ({ zeroD with kind := d.kind } : DeedD) with acct := a } t 0 = rdMove xs { ({ zeroD with kind := d.kind } : DeedD) with acct := a } t 0 from fun a t => by simp [rdBody, kd6]] at hA
    rcases num_ahead (most := 255) (z := d.what) (by omega) (by omega) (by omega) n1 with ⟨hc, f2⟩ | ⟨v2, z2, n2, m2⟩
    · refine Or.inl ⟨hc, rdDeed_err ?_⟩
      have g : (rdMove xs { ({ zeroD with kind := d.kind } : DeedD) with acct := d.acct } t1 0).2.1 = (rNum xs t1 255).2 := by
        simp only [rdMove]
        rw [if_neg (fun hh => by omega)]
      rw [hA, rdAmt_stop (by rw [g]; omega), g]; exact f2
    have hww : wi d.what 1 4 = true := wi_iff.2 ⟨by omega, by omega⟩
    have hM : rdMove xs { ({ zeroD with kind := d.kind } : DeedD) with acct := d.acct } t1 0 = ({ zeroD with kind := d.kind, acct := d.acct, what := d.what, to := (rNum xs (rNum xs t1 255).2 63).1 }, (rNum xs (rNum xs t1 255).2 63).2, 0) := by
      simp only [rdMove, v2, hww, must_true, z2]
      simp [w2]
    rw [hM] at hA
    obtain ⟨t2, ht2⟩ : ∃ t, t = (rNum xs t1 255).2 := ⟨_, rfl⟩
    rw [← ht2] at hA n2 m2 z2
    rcases num_ahead (most := 63) (z := d.to) (by omega) (by omega) (by omega) n2 with ⟨hc, f3⟩ | ⟨v3, z3, n3, m3⟩
    · refine Or.inl ⟨hc, rdDeed_err ?_⟩
      rw [hA, rdAmt_stop (by simp only; omega)]; exact f3
    rw [v3] at hA
    obtain ⟨t3, ht3⟩ : ∃ t, t = (rNum xs t2 63).2 := ⟨_, rfl⟩
    rw [← ht3] at hA n3 m3 z3
    have hp : paidD ({ zeroD with kind := d.kind, acct := d.acct, what := d.what, to := d.to } : DeedD) = true := by simp [paidD, wi, zeroD, kd6, w2]
    have hpos : 0 < d.amt := by
      have hq : paidD d = true := by simp [paidD, wi, kd6, w2]
      rw [hpaid] at hq; simpa using hq
    rcases num_ahead (rest := rest) (most := 4611686018427387904) (z := d.amt) (by omega) (by omega) (by omega) n3 with ⟨hc, f4⟩ | ⟨v4, z4, n4, m4⟩
    · refine Or.inl ⟨hc, rdDeed_err ?_⟩
      rw [hA, rdAmt_ok hp z3 (Or.inr (by omega))]; exact f4
    rw [rdAmt_ok hp z3 (Or.inl (by omega)), v4] at hA
    have hd := rdDeed_ok hA z4
    rw [hd]
    refine Or.inr ⟨by rw [hbare]; simp [bareD, kd6, w2, zeroD], rfl, ?_, fun hc => ?_⟩
    · cases c with
      | true => simpa using n4
      | false => simpa using n4
    · rw [ee]
      simp only [List.length_append]
      have q0 := m0 hc
      have q1 := m1 hc
      have q2 := m2 hc
      have q3 := m3 hc
      have q4 := m4 hc
      omega
  have ee : encD d = formN d.kind.toNat ++ (formN d.acct.toNat ++ (formN d.what.toNat)) := by simp [encD, paidD, wi, kd6, w1, w2]
  rw [ee] at h
  simp only [List.append_assoc] at h
  have hw : wi d.kind 1 7 = true := wi_iff.2 ⟨by omega, by omega⟩
  rcases num_ahead (most := 255) (z := d.kind) (by omega) (by omega) (by omega) h with ⟨hc, f0⟩ | ⟨v0, z0, n0, m0⟩
  · exact Or.inl ⟨hc, rdDeed_err (by rw [rdAll_bad (by omega)]; exact f0)⟩
  have hA := rdAll_ok (xs := xs) (s := s) (Prod.ext v0 rfl : rNum xs s 255 = (d.kind, (rNum xs s 255).2)) z0 hw
  obtain ⟨t0, ht0⟩ : ∃ t, t = (rNum xs s 255).2 := ⟨_, rfl⟩
  rw [← ht0] at hA n0 m0 z0
  rw [rdFields_ok (by simp only; omega)] at hA
  rcases num_ahead (most := 63) (z := d.acct) (by omega) (by omega) (by omega) n0 with ⟨hc, f1⟩ | ⟨v1, z1, n1, m1⟩
  · refine Or.inl ⟨hc, rdDeed_err ?_⟩
    have hb := rdBody_stop (xs := xs) (d := { ({ zeroD with kind := d.kind } : DeedD) with acct := (rNum xs t0 63).1 }) (s := (rNum xs t0 63).2) (e := 0) (by omega)
    rw [hA, rdAmt_stop (by rw [hb]; omega), hb]; exact f1
  rw [v1] at hA
  obtain ⟨t1, ht1⟩ : ∃ t, t = (rNum xs t0 63).2 := ⟨_, rfl⟩
  rw [← ht1] at hA n1 m1 z1
  rw [show ∀ a t, rdBody xs { ({ zeroD with kind := d.kind } : DeedD) with acct := a } t 0 = rdMove xs { ({ zeroD with kind := d.kind } : DeedD) with acct := a } t 0 from fun a t => by simp [rdBody, kd6]] at hA
  rcases num_ahead (most := 255) (z := d.what) (by omega) (by omega) (by omega) n1 with ⟨hc, f2⟩ | ⟨v2, z2, n2, m2⟩
  · refine Or.inl ⟨hc, rdDeed_err ?_⟩
    have g : (rdMove xs { ({ zeroD with kind := d.kind } : DeedD) with acct := d.acct } t1 0).2.1 = (rNum xs t1 255).2 := by
      simp only [rdMove]
      rw [if_neg (fun hh => by omega)]
    rw [hA, rdAmt_stop (by rw [g]; omega), g]; exact f2
  have hww : wi d.what 1 4 = true := wi_iff.2 ⟨by omega, by omega⟩
  have hM : rdMove xs { ({ zeroD with kind := d.kind } : DeedD) with acct := d.acct } t1 0 = ({ zeroD with kind := d.kind, acct := d.acct, what := d.what }, (rNum xs t1 255).2, 0) := by
    simp only [rdMove, v2, hww, must_true, z2]
    simp [w1, w2]
  rw [hM] at hA
  have hp : paidD ({ zeroD with kind := d.kind, acct := d.acct, what := d.what } : DeedD) = false := by simp [paidD, wi, zeroD, kd6, w1, w2]
  rw [rdAmt_no hp] at hA
  have hd := rdDeed_ok hA z2
  rw [hd]
  refine Or.inr ⟨by rw [hbare]; simp [bareD, kd6, w1, w2, zeroD], rfl, ?_, fun hc => ?_⟩
  · cases c with
    | true => simpa using n2
    | false => simpa using n2
  · rw [ee]
    simp only [List.length_append]
    have q0 := m0 hc
    have q1 := m1 hc
    have q2 := m2 hc
    omega
end Go.X
