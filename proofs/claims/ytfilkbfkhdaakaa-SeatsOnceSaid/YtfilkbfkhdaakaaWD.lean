/- Digit lists: what the document's whole numbers come to; and the contracts of bullionref01's Of, at, trim, Cmp, Mul and of bullionref02's Less, Two. Conditions: lists of digits of at most some length. -/
import Derived.Test.YtfilkbfkhdaakaaTy
import Derived.Test.YtfilkbfkhdaakaaXA
set_option linter.unusedVariables false
set_option linter.unusedSimpArgs false
namespace Go.X
open Go.RowKit Go.Proofs Go.Bl
variable {L : Own} {h : PH} {K : PK}

/-! ### digits -/
/-- the first k digits' number -/
def pv (ds : List Int) : Nat → Int
  | 0 => 0
  | k + 1 => pv ds k + at0 ds k * 10 ^ k
def Dg (ds : List Int) : Prop := ∀ j, 0 ≤ at0 ds j ∧ at0 ds j ≤ 9
def vl (ds : List Int) : Int := pv ds ds.length
theorem p10 (k : Nat) : (0 : Int) < 10 ^ k := Int.pow_pos (by decide)
theorem pv_bound {ds : List Int} (hd : Dg ds) : ∀ k, 0 ≤ pv ds k ∧ pv ds k < 10 ^ k
  | 0 => by simp [pv]
  | k + 1 => by
    have ih := pv_bound hd k
    have hk := hd k
    have h10 := p10 k
    simp only [pv, Int.pow_succ]
    have h1 : 0 ≤ at0 ds k * 10 ^ k := Int.mul_nonneg hk.1 (Int.le_of_lt h10)
    have h2 : at0 ds k * 10 ^ k ≤ 9 * 10 ^ k := Int.mul_le_mul_of_nonneg_right hk.2 (Int.le_of_lt h10)
    omega
theorem pv_more (ds : List Int) (k : Nat) (hk : ds.length ≤ k) : pv ds k = vl ds := by
  obtain ⟨m, rfl⟩ := Nat.exists_eq_add_of_le hk
  clear hk
  induction m with
  | zero => rfl
  | succ m ih => rw [Nat.add_succ, pv, ih, at0_ge (by omega)]; simp
theorem at0_set (ds : List Int) (j : Nat) (s : Int) (i : Nat) (hj : j < ds.length) : at0 (ds.set j s) i = if i = j then s else at0 ds i := by
  simp only [at0, List.getD_eq_getElem?_getD, List.getElem?_set]
  by_cases e : i = j
  · subst e; simp [hj]
  · simp [e, Ne.symm e]
theorem Dg.set {ds : List Int} (hd : Dg ds) (j : Nat) (s : Int) (hj : j < ds.length) (h0 : 0 ≤ s) (h1 : s ≤ 9) : Dg (ds.set j s) := by
  intro i
  rw [at0_set ds j s i hj]
  split
  · exact ⟨h0, h1⟩
  · exact hd i
theorem pv_set (ds : List Int) (j : Nat) (s : Int) (hj : j < ds.length) : ∀ k, pv (ds.set j s) k = if j < k then pv ds k + (s - at0 ds j) * 10 ^ j else pv ds k
  | 0 => by simp [pv]
  | k + 1 => by
    simp only [pv, pv_set ds j s hj k, at0_set ds j s k hj]
    by_cases e1 : k = j
    · subst e1
      simp [Int.sub_mul]
      omega
    · by_cases e2 : j < k
      · rw [if_pos e2, if_neg e1, if_pos (by omega)]; omega
      · rw [if_neg e2, if_neg e1, if_neg (by omega)]
theorem vl_set (ds : List Int) (j : Nat) (s : Int) (hj : j < ds.length) : vl (ds.set j s) = vl ds + (s - at0 ds j) * 10 ^ j := by
  unfold vl
  rw [pv_set ds j s hj, List.length_set, if_pos hj]
theorem at0_append (ds : List Int) (s : Int) (i : Nat) : at0 (ds ++ [s]) i = if i < ds.length then at0 ds i else if i = ds.length then s else 0 := by
  simp only [at0, List.getD_eq_getElem?_getD]
  by_cases e : i < ds.length
  · simp [e, List.getElem?_append_left e]
  · rw [if_neg e, List.getElem?_append_right (by omega)]
    by_cases e2 : i = ds.length
    · subst e2; simp
    · rw [if_neg e2, List.getElem?_eq_none (by simp; omega)]; rfl
theorem Dg.append {ds : List Int} (hd : Dg ds) {s : Int} (h0 : 0 ≤ s) (h1 : s ≤ 9) : Dg (ds ++ [s]) := by
  intro i
  rw [at0_append]
  have := hd i
  split
  · exact this
  · split
    · exact ⟨h0, h1⟩
    · omega
theorem pv_append (ds : List Int) (s : Int) : ∀ k, k ≤ ds.length → pv (ds ++ [s]) k = pv ds k
  | 0, _ => rfl
  | k + 1, hk => by rw [pv, pv, pv_append ds s k (by omega), at0_append, if_pos (by omega)]
theorem vl_append (ds : List Int) (s : Int) : vl (ds ++ [s]) = vl ds + s * 10 ^ ds.length := by
  unfold vl
  rw [List.length_append, List.length_singleton, pv, pv_append ds s _ (Nat.le_refl _), at0_append, if_neg (by omega), if_pos rfl]
theorem pv_lt {a b : List Int} (ha : Dg a) (hb : Dg b) (i : Nat) (h1 : at0 a i < at0 b i) : ∀ m, i < m → (∀ j, i < j → j < m → at0 a j = at0 b j) → pv a m < pv b m
  | 0, h, _ => by omega
  | m + 1, hm, he => by
    simp only [pv]
    by_cases e : i = m
    · subst e
      have := pv_bound ha i
      have := pv_bound hb i
      have h2 : (at0 a i + 1) * 10 ^ i ≤ at0 b i * 10 ^ i := Int.mul_le_mul_of_nonneg_right (by omega) (Int.le_of_lt (p10 i))
      rw [Int.add_mul] at h2
      omega
    · have := pv_lt ha hb i h1 m (by omega) fun j h1 h2 => he j h1 (by omega)
      rw [he m (by omega) (by omega)]
      omega
theorem pv_eq {a b : List Int} : ∀ m, (∀ j, j < m → at0 a j = at0 b j) → pv a m = pv b m
  | 0, _ => rfl
  | m + 1, he => by rw [pv, pv, pv_eq m fun j hj => he j (by omega), he m (by omega)]

/-- a value that reads as a whole number's digits, at most m of them -/
def Nt (h : PH) (v : Value) (n : Int) (m : Nat) : Prop := ∃ s ds, v = .agg #[s] ∧ Ints h .i64 s ds ∧ Dg ds ∧ vl ds = n ∧ ds.length ≤ m
theorem Nt.up {h h' : PH} (le : PH.le h h') {v : Value} {n : Int} {m : Nat} (hs : Nt h v n m) : Nt h' v n m := by
  obtain ⟨s, ds, h1, h2, h3⟩ := hs
  exact ⟨s, ds, h1, h2.up le, h3⟩

/-- -1, 0, 1 -/
def cmp3 (a b : Int) : Int := if a < b then -1 else if b < a then 1 else 0
theorem at0_take (ds : List Int) (k j : Nat) : at0 (ds.take k) j = if j < k then at0 ds j else 0 := by
  simp only [at0, List.getD_eq_getElem?_getD, List.getElem?_take]
  split <;> rfl
theorem vl_take {ds : List Int} {k : Nat} (hk : k ≤ ds.length) (hz : ∀ j, k ≤ j → at0 ds j = 0) : vl (ds.take k) = vl ds := by
  rw [← pv_more (ds.take k) ds.length (by simp; omega)]
  refine pv_eq _ fun j hj => ?_
  rw [at0_take]
  split
  · rfl
  · exact (hz j (by omega)).symm
theorem pow_few {c x : Int} {n : Nat} (hc : 0 < c) (hx : c * 10 ^ n ≤ x) (h1 : x ≤ 18446744073709551615) : n ≤ 19 := by
  by_cases hn : n ≤ 19
  · exact hn
  · exfalso
    obtain ⟨m, rfl⟩ := Nat.exists_eq_add_of_le (show 20 ≤ n by omega)
    have e : (10 : Int) ^ (20 + m) = 100000000000000000000 * 10 ^ m := by rw [Int.pow_add]; rfl
    have hm := p10 m
    have h2 : 1 * (10 : Int) ^ (20 + m) ≤ c * 10 ^ (20 + m) := Int.mul_le_mul_of_nonneg_right (by omega) (Int.le_of_lt (p10 _))
    omega
theorem vl_bound {ds : List Int} (hd : Dg ds) : 0 ≤ vl ds := (pv_bound hd _).1
end Go.X
/-! Contracts of bullionref01.Mul and bullionref02's Less, Two. Conditions: digits of at most some length; arguments of 64 bits. -/
namespace Go.X
open Go.RowKit Go.Proofs Go.Bl
variable {L : Own} {h : PH} {K : PK}

theorem digit_range {ds : List Int} (hd : Dg ds) : ∀ z ∈ ds, IntKind.i64.min ≤ z ∧ z ≤ IntKind.i64.max := by
  intro z hz
  obtain ⟨j, hj, rfl⟩ := List.mem_iff_getElem.1 hz
  have := hd j
  rw [at0_lt hj]
  simp only [IntKind.min, IntKind.max, IntKind.bits, IntKind.signed]
  simp
  omega
theorem pow_lt_pow {a b : Nat} {c x : Int} (hc : 0 < c) (hx : c * 10 ^ a ≤ x) (hy : x < 10 ^ b) : a < b := by
  by_cases e : a < b
  · exact e
  · exfalso
    have h1 : (10 : Int) ^ b ≤ 10 ^ a := by
      obtain ⟨m, rfl⟩ := Nat.exists_eq_add_of_le (show b ≤ a by omega)
      have h3 : (10 : Int) ^ b * 1 ≤ 10 ^ b * 10 ^ m := Int.mul_le_mul_of_nonneg_left (by have := p10 m; omega) (Int.le_of_lt (p10 b))
      rw [Int.pow_add]; omega
    have h2 : 1 * (10 : Int) ^ a ≤ c * 10 ^ a := Int.mul_le_mul_of_nonneg_right (by omega) (Int.le_of_lt (p10 a))
    omega
theorem mul_bound {ds es : List Int} (hd : Dg ds) (he : Dg es) (i : Nat) : 0 ≤ pv ds i * vl es ∧ pv ds i * vl es < 10 ^ (i + es.length) := by
  have h1 := pv_bound hd i
  have h2 := pv_bound he es.length
  have h3 := p10 es.length
  refine ⟨Int.mul_nonneg h1.1 h2.1, ?_⟩
  have h4 : pv ds i * vl es ≤ pv ds i * 10 ^ es.length := Int.mul_le_mul_of_nonneg_left (Int.le_of_lt h2.2) h1.1
  have h5 : pv ds i * 10 ^ es.length < 10 ^ i * 10 ^ es.length := Int.mul_lt_mul_of_pos_right h1.2 h3
  rw [Int.pow_add]
  omega
theorem step_eq (D c s p x y W T : Int) (hs : s = x + y + c) (h : D + c * p = W + T) : D + (s % 10 - x) * p + s / 10 * (p * 10) = W + (T + y * p) := by
  have e : s / 10 * (p * 10) = s / 10 * 10 * p := by rw [Int.mul_comm p 10, ← Int.mul_assoc]
  have e2 : (s % 10 - x) * p + s / 10 * 10 * p = (s % 10 - x + s / 10 * 10) * p := by rw [← Int.add_mul]
  have e3 : s % 10 - x + s / 10 * 10 = y + c := by omega
  rw [e]
  rw [e3, Int.add_mul] at e2
  omega
end Go.X
