/- Contracts of bullionref06.Pack, bullionref40.with and bullionref40.Sign. Conditions: lists of at most some hundreds. -/
import Derived.Test.YtfilkbfkhdaakaaGreatWJ
import Derived.Test.YtfilkbfkhdaakaaGreatPlainA
set_option linter.unusedVariables false
set_option linter.unusedSimpArgs false
namespace Go.X
open Go.RowKit Go.Proofs Go.Bl
variable {L : Own} {h : PH} {K : PK}

def bol (bl : List Bool) (i : Nat) : Bool := bl.getD i false
def Bools (h : PH) (v : Value) (bl : List Bool) : Prop := Sl h v bl.length 1 (bl.map Value.bool)
theorem Bools.open {v : Value} {bl : List Bool} (hs : Bools h v bl) : ∃ a cap, v = .slice a bl.length cap ∧ bl.length ≤ cap ∧ (a = none → cap = 0) ∧ ∀ j, j < bl.length → elemCell h a j = some (.bool (bol bl j)) := by
  obtain ⟨_, a, cap, h2, h3, h4, h4', h5, h6⟩ := hs
  exact ⟨a, cap, h2, h3, h5, fun j hj => h6 j _ (by simp [bol, hj])⟩
/-- byte j of the bits from m on -/
def PackB (bl : List Bool) (m : Nat) (x : Int) (j : Nat) : Prop :=
  0 ≤ x ∧ x < 2 ^ (8 * j + 8 - max (8 * j) m) ∧ ∀ k, k < 8 * j + 8 - max (8 * j) m → (x / 2 ^ k % 2 = 1 ↔ bol bl (max (8 * j) m + k) = true)
theorem PackB.step {bl : List Bool} {m : Nat} {x : Int} {j : Nat} (hp : PackB bl (m + 1) x j) (hj : m / 8 = j) : 2 * x + (if bol bl m then 1 else 0) ≤ 255 ∧ PackB bl m (2 * x + if bol bl m then 1 else 0) j := by
  obtain ⟨h0, h1, h2⟩ := hp
  have e1 : max (8 * j) (m + 1) = m + 1 := by omega
  have e2 : max (8 * j) m = m := by omega
  obtain ⟨w, hw⟩ : ∃ w, 8 * j + 8 - (m + 1) = w := ⟨_, rfl⟩
  have hw2 : 8 * j + 8 - m = w + 1 := by omega
  have hw3 : w ≤ 7 := by omega
  rw [e1, hw] at h1 h2
  have hb : (0 : Int) ≤ (if bol bl m then 1 else 0) ∧ (if bol bl m then (1 : Int) else 0) ≤ 1 := by split <;> omega
  have hp : (2 : Int) ^ (w + 1) = 2 * 2 ^ w := by rw [Int.pow_succ, Int.mul_comm]
  have hp7 : (2 : Int) ^ w ≤ 128 := by
    have : ∀ w, w ≤ 7 → (2 : Int) ^ w ≤ 128 := by decide
    exact this w hw3
  have hc : (if bol bl m then (1 : Int) else 0) = 1 ↔ bol bl m = true := by split <;> rename_i hc <;> simp [hc]
  generalize (if bol bl m then (1 : Int) else 0) = c at hb hc ⊢
  refine ⟨by omega, by omega, ?_, ?_⟩
  · rw [e2, hw2, hp]; omega
  · intro k hk
    rw [e2, hw2] at hk
    rw [e2]
    cases k with
    | zero =>
      simp only [Int.pow_zero, Int.ediv_one, Nat.add_zero]
      rw [← hc]
      omega
    | succ k =>
      have e3 : (2 : Int) ^ (k + 1) = 2 * 2 ^ k := by rw [Int.pow_succ, Int.mul_comm]
      have e : (2 * x + c) / 2 ^ (k + 1) = x / 2 ^ k := by
        rw [e3, ← Int.ediv_ediv_of_nonneg (show (0 : Int) ≤ 2 by decide), show (2 * x + c) / 2 = x by omega]
      rw [e, h2 k (by omega), show m + 1 + k = m + (k + 1) by omega]
/-- bytes that no bit from m on reaches -/
theorem PackB.same {bl : List Bool} {m : Nat} {x : Int} {j : Nat} (hp : PackB bl (m + 1) x j) (hj : m / 8 ≠ j) : PackB bl m x j := by
  obtain ⟨h0, h1, h2⟩ := hp
  by_cases hlt : m < 8 * j
  · have e1 : max (8 * j) (m + 1) = 8 * j := by omega
    have e2 : max (8 * j) m = 8 * j := by omega
    rw [e1] at h1 h2
    exact ⟨h0, by rw [e2]; exact h1, by rw [e2]; exact h2⟩
  · have e1 : 8 * j + 8 - max (8 * j) (m + 1) = 0 := by omega
    have e2 : 8 * j + 8 - max (8 * j) m = 0 := by omega
    rw [e1] at h1 h2
    exact ⟨h0, by rw [e2]; exact h1, fun k hk => by rw [e2] at hk; omega⟩
theorem idxB {bl : List Bool} {a : Option Addr} (hc : ∀ j, j < bl.length → elemCell h a j = some (.bool (bol bl j))) : ∀ j, j < bl.length → elemCell h a j = some ((fun j => Value.bool (bol bl j)) j) := hc
end Go.X
/-! Contracts of bullionref40.with and bullionref40.Sign. Conditions: certificates; at most 256 places. -/
namespace Go.X
open Go.RowKit Go.Proofs Go.Bl
variable {L : Own} {h : PH} {K : PK}

theorem bol_append (bl : List Bool) (x : Bool) (i : Nat) : bol (bl ++ [x]) i = if i < bl.length then bol bl i else if i = bl.length then x else false := by
  simp only [bol, List.getD_eq_getElem?_getD]
  by_cases e : i < bl.length
  · simp [e, List.getElem?_append_left e]
  · rw [if_neg e, List.getElem?_append_right (by omega)]
    by_cases e2 : i = bl.length
    · subst e2; simp
    · rw [if_neg e2, List.getElem?_eq_none (by simp; omega)]; rfl
end Go.X
/-! Contract of bullionref40.Sign: it hands back what cert.Sign does. Conditions: the value reads as a certificate. -/
namespace Go.X
open Go.RowKit Go.Proofs Go.Bl
variable {L : Own} {h : PH} {K : PK}

theorem setB_byte {xs : List Int} (hb : ∀ i, 0 ≤ at0 xs i ∧ at0 xs i ≤ 255) (i : Int) (h1 : (i / 8).toNat < xs.length) (j : Nat) : 0 ≤ at0 (setB xs i) j ∧ at0 (setB xs i) j ≤ 255 := by
  unfold setB
  rw [at0_set _ _ _ _ h1]
  split
  · have := orB_spec (at0 xs (i / 8).toNat) (i % 8).toNat (hb _).1 (hb _).2 (by omega)
    exact ⟨this.1, this.2.1⟩
  · exact hb j
theorem getB_setB {xs : List Int} (hb : ∀ i, 0 ≤ at0 xs i ∧ at0 xs i ≤ 255) (i : Int) (h0 : 0 ≤ i) (h1 : i / 8 < (xs.length : Int)) (j : Nat) : getB (setB xs i) j = (decide ((j : Int) = i) || getB xs j) := by
  have hl : (setB xs i).length = xs.length := by simp [setB]
  by_cases hj : (j : Int) / 8 < (xs.length : Int)
  · rw [getB_in _ _ (by omega) (by omega), getB_in _ _ (by omega) (by omega)]
    unfold setB
    rw [at0_set _ _ _ _ (by omega)]
    by_cases e : ((j : Int) / 8).toNat = (i / 8).toNat
    · rw [if_pos e, e]
      have sp := (orB_spec (at0 xs (i / 8).toNat) (i % 8).toNat (hb _).1 (hb _).2 (by omega)).2.2 ((j : Int) % 8).toNat (by omega)
      rw [Bool.eq_iff_iff]
      simp only [Bool.or_eq_true, decide_eq_true_eq]
      rw [sp]
      constructor
      · intro h
        exact h.imp (fun h => by omega) id
      · intro h
        exact h.imp (fun h => by omega) id
    · rw [if_neg e]
      have : (j : Int) ≠ i := fun h => e (by rw [h])
      simp [this]
  · rw [getB_out _ _ (by omega), getB_out _ _ (by omega)]
    have : (j : Int) ≠ i := fun h => by omega
    simp [this]
theorem right_beyond {c : CertD} (hr : rightC c = true) (j : Nat) (hj : c.mem ≤ (j : Int)) : getB c.bs j = false := by
  have h1 := rightC_head hr
  simp only [headC, rightB, Bool.and_eq_true, decide_eq_true_eq, List.all_eq_true, List.mem_range, Bool.or_eq_true, Bool.not_eq_true'] at h1
  by_cases hl : j < 8 * c.bs.length
  · exact (h1.2.2 j hl).resolve_left (by omega)
  · exact getB_out _ _ (by omega)
theorem getB_nil (i : Int) : getB [] i = false := getB_out _ _ (by simp; omega)
end Go.X
