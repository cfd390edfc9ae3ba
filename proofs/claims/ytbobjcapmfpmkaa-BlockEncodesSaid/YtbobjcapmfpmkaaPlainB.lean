/- Plain blocks: lists of deeds as bytes and back; no program in sight. Conditions: none. -/
import Derived.Test.YtbobjcapmfpmkaaPlainT
set_option linter.unusedVariables false
set_option linter.unusedSimpArgs false
namespace Go.X
open Go.RowKit Go.Bl
def encL (l : List DeedD) : List Int := l.flatMap encD
def encB (l : List DeedD) : List Int := formN l.length ++ encL l
theorem encL_cons (d : DeedD) (l : List DeedD) : encL (d :: l) = encD d ++ encL l := rfl
theorem encL_nil : encL [] = [] := rfl
theorem encL_app (a b : List DeedD) : encL (a ++ b) = encL a ++ encL b := by simp [encL]
/-- each is right, each number of its type -/
def AllR (l : List DeedD) : Prop := ∀ d ∈ l, DeedOk d ∧ rightD d = true
theorem encL_len : ∀ {l : List DeedD}, AllR l → (encL l).length ≤ 400 * l.length
  | [], _ => by simp [encL]
  | d :: l, h => by
    have h1 := encD_len (h d (by simp)).1 (h d (by simp)).2
    have h2 := encL_len (l := l) fun x hx => h x (by simp [hx])
    rw [encL_cons, List.length_append, List.length_cons]
    omega
theorem encB_len {l : List DeedD} (h : AllR l) (hl : l.length ≤ 64) : (encB l).length ≤ 26000 ∧ 0 < (encB l).length := by
  have h1 := encL_len h
  have h2 := formN_pos l.length
  have h3 : (formN l.length).length = 1 := by rw [formN_lt (by omega)]; rfl
  simp only [encB, List.length_append]
  omega
/-- as many as are asked: what is read, an error's number, the state behind -/
def rdL (xs : List Int) : Nat → Nat × Int → List DeedD × Int × (Nat × Int)
  | 0, s => ([], 0, s)
  | k + 1, s => if (rdDeed xs s).2.1 ≠ 0 then ([], (rdDeed xs s).2.1, (rdDeed xs s).2.2) else ((rdDeed xs s).1 :: (rdL xs k (rdDeed xs s).2.2).1, (rdL xs k (rdDeed xs s).2.2).2)
/-- what Decode answers: the deeds, the place, an error's number -/
def bdec (xs : List Int) : List DeedD × Int × Int :=
  if 131072 < xs.length then ([], 0, 3)
  else if (rNum xs (0, 0) 64).2.2 ≠ 0 then ([], 0, (rNum xs (0, 0) 64).2.2)
  else if (rdL xs (rNum xs (0, 0) 64).1.toNat (rNum xs (0, 0) 64).2).2.1 ≠ 0 then ([], (rdL xs (rNum xs (0, 0) 64).1.toNat (rNum xs (0, 0) 64).2).1.length, (rdL xs (rNum xs (0, 0) 64).1.toNat (rNum xs (0, 0) 64).2).2.1)
  else if rDone xs (rdL xs (rNum xs (0, 0) 64).1.toNat (rNum xs (0, 0) 64).2).2.2 ≠ 0 then ([], (rNum xs (0, 0) 64).1, rDone xs (rdL xs (rNum xs (0, 0) 64).1.toNat (rNum xs (0, 0) 64).2).2.2)
  else ((rdL xs (rNum xs (0, 0) 64).1.toNat (rNum xs (0, 0) 64).2).1, 0, 0)
theorem rdL_bad {xs : List Int} {k : Nat} {s : Nat × Int} (h : (rdDeed xs s).2.1 ≠ 0) : rdL xs (k + 1) s = ([], (rdDeed xs s).2.1, (rdDeed xs s).2.2) := by rw [rdL, if_pos h]
theorem rdL_ok {xs : List Int} {k : Nat} {s : Nat × Int} (h : (rdDeed xs s).2.1 = 0) : rdL xs (k + 1) s = ((rdDeed xs s).1 :: (rdL xs k (rdDeed xs s).2.2).1, (rdL xs k (rdDeed xs s).2.2).2) := by rw [rdL, if_neg (by simpa using h)]
theorem rdL_ahead {xs rest : List Int} {c : Bool} : ∀ (l : List DeedD) (s : Nat × Int), AllR l → (if c then Short xs s (encL l ++ rest) else s.2 = 0 ∧ xs.drop s.1 = encL l ++ rest) →
    (c = true ∧ (rdL xs l.length s).2.1 = 50) ∨ (rdL xs l.length s).1 = l ∧ (rdL xs l.length s).2.1 = 0 ∧ (if c then Short xs (rdL xs l.length s).2.2 rest else (rdL xs l.length s).2.2.2 = 0 ∧ xs.drop (rdL xs l.length s).2.2.1 = rest)
  | [], s, _, h => Or.inr ⟨rfl, rfl, by simpa [encL, rdL] using h⟩
  | d :: l, s, ha, h => by
    rw [encL_cons, List.append_assoc] at h
    rcases rd_ahead (ha d (by simp)).1 (ha d (by simp)).2 h with ⟨hc, h1⟩ | ⟨h1, h2, h3, _⟩
    · left
      refine ⟨hc, ?_⟩
      rw [List.length_cons, rdL_bad (by omega)]
      exact h1
    · rw [List.length_cons, rdL_ok h2]
      rcases rdL_ahead l _ (fun x hx => ha x (by simp [hx])) h3 with ⟨hc, h4⟩ | ⟨h4, h5, h6⟩
      · exact Or.inl ⟨hc, h4⟩
      · exact Or.inr ⟨by rw [h1]; simp only [h4], h5, h6⟩
theorem rdL_sound {xs : List Int} (hz : ∀ z ∈ xs, 0 ≤ z ∧ z ≤ 255) : ∀ (k : Nat) (s : Nat × Int), s.1 ≤ xs.length → s.2 = 0 → (rdL xs k s).2.1 = 0 →
    (rdL xs k s).2.2.2 = 0 ∧ (rdL xs k s).2.2.1 ≤ xs.length ∧ (rdL xs k s).1.length = k ∧ AllR (rdL xs k s).1 ∧ xs.drop s.1 = encL (rdL xs k s).1 ++ xs.drop (rdL xs k s).2.2.1
  | 0, s, h1, h2, _ => ⟨h2, h1, rfl, (fun d hd => by cases hd), rfl⟩
  | k + 1, s, h1, h2, h => by
    by_cases c : (rdDeed xs s).2.1 = 0
    · rw [rdL_ok c] at h ⊢
      have hd : rdDeed xs s = ((rdDeed xs s).1, 0, (rdDeed xs s).2.2) := Prod.ext rfl (Prod.ext c rfl)
      obtain ⟨_, t2, t1, r1, r2, _, r3⟩ := rd_sound hz h1 hd
      obtain ⟨q1, q2, q3, q4, q5⟩ := rdL_sound hz k _ t1 t2 h
      refine ⟨q1, q2, by simp only [List.length_cons, q3], fun d hd => ?_, ?_⟩
      · rcases List.mem_cons.1 hd with rfl | hd
        · exact ⟨r2, r1⟩
        · exact q4 d hd
      · rw [r3, q5, encL_cons, List.append_assoc]
    · rw [rdL_bad c] at h
      exact absurd h c
theorem rdL_pos {xs : List Int} (hz : ∀ z ∈ xs, 0 ≤ z ∧ z ≤ 255) {s : Nat × Int} (h1 : s.1 ≤ xs.length) (h : (rdDeed xs s).2.1 = 0) : (rdDeed xs s).2.2.1 ≤ xs.length ∧ (rdDeed xs s).2.2.2 = 0 ∧ DeedOk (rdDeed xs s).1 := by
  have hd : rdDeed xs s = ((rdDeed xs s).1, 0, (rdDeed xs s).2.2) := Prod.ext rfl (Prod.ext h rfl)
  obtain ⟨_, t2, t1, _, r2, _⟩ := rd_sound hz h1 hd
  exact ⟨t1, t2, r2⟩
theorem bdec_enc {l : List DeedD} (ha : AllR l) (hl : l.length ≤ 64) : bdec (encB l) = (l, 0, 0) := by
  have hlen := encB_len ha hl
  obtain ⟨n1, n2⟩ := rNum_form (xs := encB l) (k := 0) (n := l.length) (most := 64) (rest := encL l) (by simp [encB]) (by omega) (by omega)
  have hs : (rNum (encB l) (0, 0) 64).1.toNat = l.length := by rw [n1]; simp
  simp only [bdec]
  rw [if_neg (by omega), hs, n1]
  rcases rdL_ahead (xs := encB l) (rest := []) (c := false) l (0 + (formN l.length).length, 0) ha (by simpa using n2) with ⟨h, _⟩ | ⟨h1, h2, h3⟩
  · cases h
  · simp only [Bool.false_eq_true, if_false] at h3
    have h4 := List.drop_eq_nil_iff.1 h3.2
    have hd : rDone (encB l) (rdL (encB l) l.length (0 + (formN l.length).length, 0)).2.2 = 0 := by
      simp only [rDone]
      rw [if_neg (by omega)]
      exact h3.1
    simp only [h2, hd, h1]
    simp
theorem bdec_cut {l : List DeedD} (ha : AllR l) (hl : l.length ≤ 64) (n : Nat) (hn : n < (encB l).length) : (bdec ((encB l).take n)).2.2 = 50 := by
  have hlen := encB_len ha hl
  have hs : Short ((encB l).take n) (0, 0) (formN l.length ++ (encL l ++ [])) := by
    refine Or.inr ⟨rfl, (encB l).drop n, ?_, by simp [encB]⟩
    intro h
    have := congrArg List.length h
    simp at this
    omega
  obtain ⟨xs, hx⟩ : ∃ xs, xs = (encB l).take n := ⟨_, rfl⟩
  rw [← hx] at hs ⊢
  have hxl : xs.length ≤ 26000 := by rw [hx]; simp; omega
  simp only [bdec]
  rw [if_neg (by omega)]
  rcases hs.num (most := 64) (by omega) (by omega) with h1 | ⟨h1, h2, h3⟩
  · rw [if_pos (by omega)]
    exact h1
  · rw [if_neg (by simpa using h2)]
    have ht : (rNum xs (0, 0) 64).1.toNat = l.length := by rw [h1]; simp
    rw [ht]
    rcases rdL_ahead (xs := xs) (rest := []) (c := true) l (rNum xs (0, 0) 64).2 ha (by simpa using h3) with ⟨_, h⟩ | ⟨h4, h5, h6⟩
    · rw [if_pos (by omega)]
      exact h
    · simp only [if_true] at h6
      have := h6.nil
      rw [if_neg (by simpa using h5)]
      have e : rDone xs (rdL xs l.length (rNum xs (0, 0) 64).2).2.2 = 50 := by
        simp only [rDone]
        rw [if_neg (by omega)]
        exact this
      rw [e]
      rfl
theorem bdec_none {xs : List Int} (h : (bdec xs).2.2 ≠ 0) : (bdec xs).1 = [] := by
  simp only [bdec] at h ⊢
  split
  · rfl
  split
  · rfl
  split
  · rfl
  split
  · rfl
  · rename_i a b c d
    rw [if_neg a, if_neg b, if_neg c, if_neg d] at h
    exact absurd rfl h
theorem bdec_sound {xs : List Int} (hz : ∀ z ∈ xs, 0 ≤ z ∧ z ≤ 255) (h : (bdec xs).2.2 = 0) : AllR (bdec xs).1 ∧ (bdec xs).1.length ≤ 64 ∧ encB (bdec xs).1 = xs := by
  have hp := rNum_pos xs (0, 0) 64 hz (Nat.zero_le _) (by decide)
  simp only [bdec] at h ⊢
  split at h
  · simp at h
  rename_i c0
  split at h
  · rename_i c1; exact absurd h c1
  rename_i c1
  split at h
  · rename_i c2; exact absurd h c2
  rename_i c2
  split at h
  · rename_i c3; exact absurd h c3
  rename_i c3
  rw [if_neg c0, if_neg c1, if_neg c2, if_neg c3]
  have c1 : (rNum xs (0, 0) 64).2.2 = 0 := by simpa using c1
  have c2 := Decidable.of_not_not c2
  have c3 := Decidable.of_not_not c3
  obtain ⟨_, n, m1, m2, m3, m4, m5, m6⟩ := rNum_sound (xs := xs) (s := (0, 0)) (most := 64) (v := (rNum xs (0, 0) 64).1) (k := (rNum xs (0, 0) 64).2.1) hz (Prod.ext rfl (Prod.ext rfl c1))
  obtain ⟨q1, q2, q3, q4, q5⟩ := rdL_sound hz _ _ hp.1 c1 c2
  refine ⟨q4, by rw [q3]; omega, ?_⟩
  simp only [rDone] at c3
  rw [encB, q3]
  have hn : (rNum xs (0, 0) 64).1.toNat = n := by omega
  by_cases hl : (rdL xs (rNum xs (0, 0) 64).1.toNat (rNum xs (0, 0) 64).2).2.2.1 < xs.length
  · rw [if_pos ⟨q1, hl⟩] at c3; simp at c3
  · have hnil : xs.drop (rdL xs (rNum xs (0, 0) 64).1.toNat (rNum xs (0, 0) 64).2).2.2.1 = [] := List.drop_eq_nil_of_le (by omega)
    rw [hnil, List.append_nil] at q5
    rw [List.drop_zero] at m4
    rw [← q5, hn]
    exact m4.symm
theorem encL_byte {l : List DeedD} (hb : ∀ d ∈ l, ∀ z ∈ d.bits, 0 ≤ z ∧ z ≤ 255) : ∀ z ∈ encL l, 0 ≤ z ∧ z ≤ 255 := by
  intro z hz
  obtain ⟨d, hd, hz⟩ := List.mem_flatMap.1 hz
  exact encD_byte (hb d hd) z hz
theorem encB_byte {l : List DeedD} (hb : ∀ d ∈ l, ∀ z ∈ d.bits, 0 ≤ z ∧ z ≤ 255) : ∀ z ∈ encB l, 0 ≤ z ∧ z ≤ 255 := by
  intro z hz
  rcases List.mem_append.1 hz with hz | hz
  · exact formN_byte _ z hz
  · exact encL_byte hb z hz
end Go.X
