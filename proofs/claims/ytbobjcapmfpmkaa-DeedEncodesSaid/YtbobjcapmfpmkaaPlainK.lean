/- Plain coding of numbers: the bytes of a number, the number of bytes, and how the two belong together; no program in sight. Conditions: as each lemma says. -/
import Derived.Test.YtbobjcapmfpmkaaPlainA
set_option linter.unusedVariables false
set_option linter.unusedSimpArgs false
namespace Go.Bl
open Go.RowKit

/-- a number's bytes -/
def formN (n : Nat) : List Int := if n < 128 then [(n : Int)] else ((n % 128 + 128 : Nat) : Int) :: formN (n / 128)
decreasing_by omega
theorem formN_lt {n : Nat} (h : n < 128) : formN n = [(n : Int)] := by rw [formN, if_pos h]
theorem formN_ge {n : Nat} (h : ¬ n < 128) : formN n = ((n % 128 + 128 : Nat) : Int) :: formN (n / 128) := by rw [formN, if_neg h]
/-- the number at the head of bytes: an error's number, the number, how many bytes -/
def scanL : List Int → Nat → Int → Int × Int × Nat
  | [], _, _ => (50, 0, 0)
  | b :: l, i, n => if i = 9 ∧ b > 1 ∨ b = 0 ∧ i > 0 then (51, 0, 0) else if b < 128 then (0, n + b % 128 * 128 ^ i, i + 1) else scanL l (i + 1) (n + b % 128 * 128 ^ i)
theorem formN_pos (n : Nat) : 0 < (formN n).length := by
  by_cases h : n < 128
  · simp [formN_lt h]
  · simp [formN_ge h]
theorem formN_byte : ∀ (n : Nat), ∀ z ∈ formN n, 0 ≤ z ∧ z ≤ 255 := by
  intro n
  induction n using Nat.strongRecOn with
  | ind n ih =>
    by_cases h : n < 128
    · simp only [formN_lt h, List.mem_singleton]; rintro z rfl; omega
    · rw [formN_ge h]
      intro z hz
      rcases List.mem_cons.1 hz with rfl | hz
      · omega
      · exact ih (n / 128) (by omega) z hz
theorem split128 (n i : Nat) : n * 128 ^ i = n % 128 * 128 ^ i + n / 128 * 128 ^ (i + 1) := by
  rw [Nat.pow_succ, Nat.mul_comm (128 ^ i) 128, ← Nat.mul_assoc, ← Nat.add_mul, Nat.mul_comm (n / 128) 128, Nat.mod_add_div]
theorem formN_len : ∀ (k n : Nat), n < 128 ^ k → 0 < k → (formN n).length ≤ k
  | 0, _, _, h => by omega
  | k + 1, n, h, _ => by
    by_cases h1 : n < 128
    · simp [formN_lt h1]
    · rw [formN_ge h1]
      have : n / 128 < 128 ^ k := by rw [Nat.div_lt_iff_lt_mul (by decide)]; rwa [Nat.pow_succ] at h
      have hk : 0 < k := by
        rcases Nat.eq_zero_or_pos k with rfl | h
        · simp at h; omega
        · exact h
      have := formN_len k (n / 128) this hk
      simp; omega
/-- what a number's bytes tell -/
theorem scan_form (rest : List Int) : ∀ (n i : Nat) (acc : Int), n * 128 ^ i < 18446744073709551616 → (0 < i → 0 < n) → scanL (formN n ++ rest) i acc = (0, acc + ((n * 128 ^ i : Nat) : Int), i + (formN n).length) := by
  intro n
  induction n using Nat.strongRecOn with
  | ind n ih =>
    intro i acc hb hp
    by_cases h : n < 128
    · simp only [formN_lt h, List.cons_append, List.nil_append, scanL, List.length_singleton]
      rw [if_neg, if_pos (by omega), show (n : Int) % 128 = n by omega]
      · push_cast; rfl
      · rintro (⟨rfl, h2⟩ | ⟨h2, h3⟩)
        · have : n * 9223372036854775808 < 18446744073709551616 := hb
          omega
        · have := hp h3; omega
    · rw [formN_ge h]
      have hs := split128 n i
      have h9 : i ≠ 9 := by
        rintro rfl
        have : n * 9223372036854775808 < 18446744073709551616 := hb
        omega
      have hr := ih (n / 128) (by omega) (i + 1) (acc + ((n % 128 * 128 ^ i : Nat) : Int)) (by omega) (fun _ => by omega)
      simp only [List.cons_append, scanL, List.length_cons]
      rw [if_neg (by omega), if_neg (by omega), show (((n % 128 + 128 : Nat) : Int) % 128) = ((n % 128 : Nat) : Int) by omega]
      have e : acc + ((n % 128 : Nat) : Int) * 128 ^ i = acc + ((n % 128 * 128 ^ i : Nat) : Int) := by push_cast; rfl
      rw [e, hr, hs]
      refine Prod.ext rfl (Prod.ext ?_ ?_)
      · simp only; omega
      · simp only; omega
/-- a number's bytes cut off -/
theorem scan_cut (s : List Int) (hs : s ≠ []) : ∀ (l : List Int) (n i : Nat) (acc : Int), l ++ s = formN n → n * 128 ^ i < 18446744073709551616 → scanL l i acc = (50, 0, 0)
  | [], _, _, _, _, _ => rfl
  | b :: l, n, i, acc, he, hb => by
    by_cases h : n < 128
    · rw [formN_lt h] at he
      simp only [List.cons_append, List.cons.injEq, List.append_eq_nil_iff] at he
      exact absurd he.2.2 hs
    · rw [formN_ge h] at he
      simp only [List.cons_append, List.cons.injEq] at he
      obtain ⟨rfl, he⟩ := he
      have h9 : i ≠ 9 := by
        rintro rfl
        have : n * 9223372036854775808 < 18446744073709551616 := hb
        omega
      have hs' := split128 n i
      simp only [scanL]
      rw [if_neg (by omega), if_neg (by omega)]
      exact scan_cut s hs l (n / 128) (i + 1) _ he (by omega)
/-- what is told has just its bytes -/
theorem scan_sound : ∀ (l : List Int) (i : Nat) (acc v : Int) (k : Nat), (∀ z ∈ l, 0 ≤ z ∧ z ≤ 255) → i ≤ 9 → scanL l i acc = (0, v, k) →
    ∃ n m : Nat, k = i + m ∧ 0 < m ∧ m ≤ l.length ∧ l.take m = formN n ∧ v = acc + ((n * 128 ^ i : Nat) : Int) ∧ (0 < i → 0 < n) ∧ n * 128 ^ i < 18446744073709551616
  | [], i, acc, v, k, _, _, h => by simp [scanL] at h
  | b :: l, i, acc, v, k, hz, hi, h => by
    have hb := hz b (by simp)
    simp only [scanL] at h
    split at h
    · simp at h
    rename_i h1
    obtain ⟨c, rfl⟩ := Int.eq_ofNat_of_zero_le hb.1
    have hpow : 128 ^ i ≤ 128 ^ 9 := Nat.pow_le_pow_right (by decide) hi
    split at h
    · rename_i h2
      injection h with _ h
      injection h with h3 h4
      have e : (c : Int) % 128 = c := by omega
      have hb2 : c * 128 ^ i < 18446744073709551616 := by
        by_cases h9 : i = 9
        · subst h9
          have : c ≤ 1 := by omega
          have : c * 128 ^ 9 ≤ 1 * 128 ^ 9 := Nat.mul_le_mul_right _ this
          have e9 : (128 : Nat) ^ 9 = 9223372036854775808 := by decide
          omega
        · have hp8 : 128 ^ i ≤ 128 ^ 8 := Nat.pow_le_pow_right (by decide) (by omega)
          have e8 : (128 : Nat) ^ 8 = 72057594037927936 := by decide
          have : c * 128 ^ i ≤ 127 * 128 ^ 8 := Nat.mul_le_mul (by omega) hp8
          omega
      refine ⟨c, 1, by omega, by omega, by simp, by simp [formN_lt (show c < 128 by omega)], ?_, fun h0 => by omega, hb2⟩
      rw [← h3, e]; push_cast; rfl
    · rename_i h2
      have h9 : i ≠ 9 := by omega
      obtain ⟨n, m, e1, e2, e3, e4, e5, e6, e7⟩ := scan_sound l (i + 1) _ v k (fun z hz' => hz z (by simp [hz'])) (by omega) h
      have hn := e6 (by omega)
      have hs := split128 (c % 128 + 128 * n) i
      have ea : (c % 128 + 128 * n) % 128 = c % 128 := by omega
      have eb : (c % 128 + 128 * n) / 128 = n := by omega
      rw [ea, eb] at hs
      have hcb : c % 128 * 128 ^ i < 128 ^ (i + 1) := by
        rw [Nat.pow_succ, Nat.mul_comm (128 ^ i) 128]
        exact Nat.mul_lt_mul_of_pos_right (by omega) (Nat.pow_pos (by decide))
      refine ⟨c % 128 + 128 * n, m + 1, by omega, by omega, by simp; omega, ?_, ?_, fun _ => by omega, ?_⟩
      · rw [formN_ge (by omega), ea, eb, List.take_succ_cons, e4]
        congr 1
        omega
      · rw [e5, hs]
        have : (c : Int) % 128 * 128 ^ i = ((c % 128 * 128 ^ i : Nat) : Int) := by push_cast; rfl
        rw [this]; omega
      · rw [hs]
        have hi8 : i ≤ 8 := by omega
        have key : n * 128 ^ (i + 1) + 128 ^ (i + 1) ≤ 18446744073709551616 := by
          have hdvd : 18446744073709551616 = 2 * 128 ^ (8 - i) * 128 ^ (i + 1) := by
            rw [Nat.mul_assoc, ← Nat.pow_add, show 8 - i + (i + 1) = 9 by omega]
          rw [hdvd] at e7 ⊢
          have hlt : n < 2 * 128 ^ (8 - i) := Nat.lt_of_mul_lt_mul_right e7
          rw [← Nat.succ_mul]
          exact Nat.mul_le_mul_right _ hlt
        omega
theorem scan_err : ∀ (l : List Int) (i : Nat) (acc : Int), (scanL l i acc).1 = 0 ∨ (scanL l i acc = (50, 0, 0)) ∨ scanL l i acc = (51, 0, 0)
  | [], _, _ => by simp [scanL]
  | b :: l, i, acc => by
    simp only [scanL]
    split
    · simp
    · split
      · simp
      · exact scan_err l (i + 1) _

/-! ### reading: a place and an error's number -/
/-- a number at a place, not above most: the number, the place, the error -/
def rNum (xs : List Int) (s : Nat × Int) (most : Int) : Int × (Nat × Int) :=
  if s.2 ≠ 0 then (0, s) else
  let r := scanL (xs.drop s.1) 0 0
  if r.1 ≠ 0 then (0, (s.1, r.1)) else if r.2.1 > most then (0, (s.1, 51)) else (r.2.1, (s.1 + r.2.2, 0))
/-- a string of bytes -/
def rRaw (xs : List Int) (s : Nat × Int) (most : Int) : List Int × (Nat × Int) :=
  if s.2 ≠ 0 then ([], s) else
  let r := rNum xs s most
  if r.2.2 ≠ 0 then ([], r.2) else if ((xs.length - r.2.1 : Nat) : Int) < r.1 then ([], (s.1, 50)) else ((xs.drop r.2.1).take r.1.toNat, (r.2.1 + r.1.toNat, 0))
def rDone (xs : List Int) (s : Nat × Int) : Int := if s.2 = 0 ∧ s.1 < xs.length then 52 else s.2
def rawN (b : List Int) : List Int := formN b.length ++ b
theorem rNum_stop {xs : List Int} {s : Nat × Int} {most : Int} (h : s.2 ≠ 0) : rNum xs s most = (0, s) := by simp [rNum, h]
theorem rRaw_stop {xs : List Int} {s : Nat × Int} {most : Int} (h : s.2 ≠ 0) : rRaw xs s most = ([], s) := by simp [rRaw, h]
theorem rNum_form {xs rest : List Int} {k n : Nat} {most : Int} (h : xs.drop k = formN n ++ rest) (hn : n < 18446744073709551616) (hm : (n : Int) ≤ most) : rNum xs (k, 0) most = ((n : Int), (k + (formN n).length, (0 : Int))) ∧ xs.drop (k + (formN n).length) = rest := by
  have := scan_form rest n 0 0 (by simpa using hn) (by omega)
  refine ⟨?_, ?_⟩
  · simp only [rNum, h, this]
    simp; omega
  · rw [← List.drop_drop, h, List.drop_left]
theorem rRaw_form {xs rest b : List Int} {k : Nat} {most : Int} (h : xs.drop k = rawN b ++ rest) (hn : b.length < 18446744073709551616) (hm : (b.length : Int) ≤ most) : rRaw xs (k, 0) most = (b, (k + (rawN b).length, 0)) ∧ xs.drop (k + (rawN b).length) = rest := by
  rw [rawN, List.append_assoc] at h
  obtain ⟨h1, h2⟩ := rNum_form h hn hm
  have hl : (xs.drop (k + (formN b.length).length)).length = (b ++ rest).length := by rw [h2]
  simp only [List.length_drop, List.length_append] at hl
  refine ⟨?_, ?_⟩
  · simp only [rRaw, h1]
    rw [if_neg (by simp), if_neg (by simp), if_neg (by omega)]
    simp only [Int.toNat_natCast, h2, List.take_left, rawN, List.length_append, Nat.add_assoc]
  · simp only [rawN, List.length_append]
    rw [← Nat.add_assoc, ← List.drop_drop, h2, List.drop_left]
/-- what is there is the beginning of the rest, and less -/
def Short (xs : List Int) (s : Nat × Int) (rest : List Int) : Prop := s.2 = 50 ∨ s.2 = 0 ∧ ∃ t, t ≠ [] ∧ xs.drop s.1 ++ t = rest
theorem Short.num {xs rest : List Int} {s : Nat × Int} {n : Nat} {most : Int} (h : Short xs s (formN n ++ rest)) (hn : n < 18446744073709551616) (hm : (n : Int) ≤ most) :
    (rNum xs s most).2.2 = 50 ∨ (rNum xs s most).1 = n ∧ (rNum xs s most).2.2 = 0 ∧ Short xs (rNum xs s most).2 rest := by
  rcases h with h | ⟨h0, t, ht, he⟩
  · left; rw [rNum_stop (by omega)]; exact h
  · obtain ⟨k, e⟩ := s
    simp only at h0 he
    subst h0
    rcases List.append_eq_append_iff.1 he with ⟨u, h1, h2⟩ | ⟨u, h1, h2⟩
    · -- cut within the number's bytes
      by_cases hu : u = []
      · subst hu
        simp only [List.append_nil, List.nil_append] at h1 h2
        right
        have hr := rNum_form (rest := []) (k := k) (by rw [← h1]; simp) hn hm
        rw [hr.1]
        refine ⟨rfl, rfl, Or.inr ⟨rfl, t, ht, ?_⟩⟩
        simp only
        rw [hr.2, ← h2]; rfl
      · left
        have := scan_cut u hu (xs.drop k) n 0 0 h1.symm (by simpa using hn)
        simp [rNum, this]
    · right
      have hr := rNum_form (rest := u) (k := k) h1 hn hm
      rw [hr.1]
      refine ⟨rfl, rfl, Or.inr ⟨rfl, t, ht, ?_⟩⟩
      simp only
      rw [hr.2, ← h2]
theorem Short.nil {xs : List Int} {s : Nat × Int} (h : Short xs s []) : s.2 = 50 := by
  rcases h with h | ⟨_, t, ht, he⟩
  · exact h
  · simp at he; exact absurd he.2 ht
theorem Short.raw {xs rest b : List Int} {s : Nat × Int} {most : Int} (h : Short xs s (rawN b ++ rest)) (hn : b.length < 18446744073709551616) (hm : (b.length : Int) ≤ most) :
    (rRaw xs s most).2.2 = 50 ∨ (rRaw xs s most).1 = b ∧ (rRaw xs s most).2.2 = 0 ∧ Short xs (rRaw xs s most).2 rest := by
  by_cases h0 : s.2 = 0
  · rw [rawN, List.append_assoc] at h
    have hq := h.num hn hm
    unfold rRaw
    rw [if_neg (by omega)]
    simp only
    generalize rNum xs s most = r at hq
    obtain ⟨v, k, e⟩ := r
    simp only at hq ⊢
    rcases hq with h1 | ⟨h1, h2, h3⟩
    · left; rw [if_pos (by omega)]; exact h1
    · subst h1; subst h2
      rw [if_neg (by simp)]
      rcases h3 with h3 | ⟨_, t, ht, he⟩
      · simp at h3
      · simp only at he
        have hl : (xs.drop k ++ t).length = (b ++ rest).length := by rw [he]
        simp only [List.length_drop, List.length_append] at hl
        by_cases hs : ((xs.length - k : Nat) : Int) < b.length
        · left; rw [if_pos hs]
        · right
          rw [if_neg hs]
          have e1 : (xs.drop k).take b.length = b := by
            have := congrArg (List.take b.length) he
            rw [List.take_append_of_le_length (by simp; omega), List.take_left] at this
            exact this
          have e2 : xs.drop (k + b.length) ++ t = rest := by
            have := congrArg (List.drop b.length) he
            rw [List.drop_append_of_le_length (by simp; omega), List.drop_left, List.drop_drop] at this
            exact this
          refine ⟨by simpa using e1, rfl, Or.inr ⟨rfl, t, ht, by simpa using e2⟩⟩
  · rcases h with h | h
    · left; rw [rRaw_stop (by omega)]; exact h
    · exact absurd h.1 h0
/-- what is read has just its bytes -/
theorem rNum_sound {xs : List Int} {s : Nat × Int} {most v : Int} {k : Nat} (hz : ∀ z ∈ xs, 0 ≤ z ∧ z ≤ 255) (h : rNum xs s most = (v, (k, 0))) :
    s.2 = 0 ∧ ∃ n : Nat, v = n ∧ (n : Int) ≤ most ∧ n < 18446744073709551616 ∧ xs.drop s.1 = formN n ++ xs.drop k ∧ k = s.1 + (formN n).length ∧ (s.1 ≤ xs.length → k ≤ xs.length) := by
  unfold rNum at h
  split at h
  · rename_i h0
    injection h with h1 h2
    rw [h2] at h0
    simp at h0
  rename_i h0
  refine ⟨by omega, ?_⟩
  simp only at h
  split at h
  · rename_i h1
    injection h with _ h2
    injection h2 with _ h2
    exact absurd h2 h1
  rename_i h1
  split at h
  · simp at h
  rename_i h2
  injection h with h3 h4
  injection h4 with h4 _
  obtain ⟨n, m, e1, e2, e3, e4, e5, e6, e7⟩ := scan_sound (xs.drop s.1) 0 0 (scanL (xs.drop s.1) 0 0).2.1 (scanL (xs.drop s.1) 0 0).2.2 (fun z hz' => hz z (List.mem_of_mem_drop hz')) (by omega) (Prod.ext (by simp only; omega) rfl)
  have hm : m = (formN n).length := by
    rw [← e4, List.length_take]; omega
  have hv : v = n := by rw [← h3, e5]; simp
  have hk : k = s.1 + m := by rw [← h4, e1]; omega
  refine ⟨n, hv, by omega, by simpa using e7, ?_, by omega, fun hs => by rw [hk]; simp at e3; omega⟩
  rw [← e4, hk, ← List.drop_drop, List.take_append_drop]
theorem rRaw_sound {xs : List Int} {s : Nat × Int} {most : Int} {b : List Int} {k : Nat} (hz : ∀ z ∈ xs, 0 ≤ z ∧ z ≤ 255) (hs : s.1 ≤ xs.length) (h : rRaw xs s most = (b, (k, 0))) :
    s.2 = 0 ∧ (b.length : Int) ≤ most ∧ xs.drop s.1 = rawN b ++ xs.drop k ∧ k ≤ xs.length ∧ s.1 ≤ k := by
  unfold rRaw at h
  split at h
  · rename_i h0
    injection h with h1 h2
    rw [h2] at h0
    simp at h0
  rename_i h0
  refine ⟨by omega, ?_⟩
  simp only at h
  cases hr : rNum xs s most with
  | mk v p =>
    obtain ⟨j, e⟩ := p
    rw [hr] at h
    simp only at h
    split at h
    · rename_i h1
      injection h with _ h2
      injection h2 with _ h2
      exact absurd h2 h1
    rename_i h1
    have he : e = 0 := by omega
    subst he
    obtain ⟨_, n, rfl, hn, hn', hd, hj, hjl⟩ := rNum_sound hz hr
    have hjl := hjl hs
    split at h
    · simp at h
    rename_i h2
    injection h with h3 h4
    injection h4 with h4 _
    simp only [Int.toNat_natCast] at h3 h4
    have hbl : b.length = n := by rw [← h3]; simp; omega
    refine ⟨by omega, ?_, by omega, by omega⟩
    rw [hd, rawN, hbl, List.append_assoc, ← h3, ← h4]
    congr 1
    rw [← List.drop_drop, List.take_append_drop]
theorem rNum_pos (xs : List Int) (s : Nat × Int) (most : Int) (hz : ∀ z ∈ xs, 0 ≤ z ∧ z ≤ 255) (hs : s.1 ≤ xs.length) (h0 : 0 ≤ most) : (rNum xs s most).2.1 ≤ xs.length ∧ 0 ≤ (rNum xs s most).1 ∧ (rNum xs s most).1 ≤ most := by
  by_cases he : (rNum xs s most).2.2 = 0
  · obtain ⟨_, n, h1, h2, _, _, _, h3⟩ := rNum_sound (xs := xs) (s := s) (most := most) (v := (rNum xs s most).1) (k := (rNum xs s most).2.1) hz (Prod.ext rfl (Prod.ext rfl he))
    exact ⟨h3 hs, by omega, by omega⟩
  · unfold rNum at he ⊢
    split
    · exact ⟨hs, by simp, by simpa using h0⟩
    · rename_i h1
      rw [if_neg h1] at he
      simp only at he ⊢
      split
      · exact ⟨hs, by simp, by simpa using h0⟩
      · rename_i h2
        rw [if_neg h2] at he
        split
        · exact ⟨hs, by simp, by simpa using h0⟩
        · rename_i h3
          rw [if_neg h3] at he
          simp at he
end Go.Bl
