/- Plain functions and facts on bits, lists and weights; no program in sight. Conditions: as each lemma says. -/
import Derived.WalkKit
set_option linter.unusedVariables false
set_option linter.unusedSimpArgs false
namespace Go.Bl
open Go.RowKit

/-- element j, or 0 -/
def at0 (zs : List Int) (j : Nat) : Int := zs.getD j 0
theorem at0_lt {zs : List Int} {j : Nat} (h : j < zs.length) : zs[j] = at0 zs j := by simp [at0, h]
theorem at0_ge {zs : List Int} {j : Nat} (h : zs.length ≤ j) : at0 zs j = 0 := by simp [at0, List.getElem?_eq_none h]
/-- bytes of n bits -/
def sizeB (n : Int) : Int := if n < 1 then 0 else (n - 1) / 8 + 1
/-- bit i of packed bytes -/
def getB (bs : List Int) (i : Int) : Bool := decide (0 ≤ i ∧ i / 8 < bs.length) && decide (at0 bs (i / 8).toNat / 2 ^ (i % 8).toNat % 2 = 1)
/-- bits.Check -/
def chkB (bs : List Int) (n : Int) : Bool :=
  decide (0 ≤ n ∧ n ≤ 256 ∧ (bs.length : Int) = sizeB n) && !(decide (n % 8 > 0) && decide (at0 bs (bs.length - 1) / 2 ^ (n % 8).toNat ≠ 0))
/-- bullionref06.Right -/
def rightB (bs : List Int) (n : Int) : Bool :=
  decide (0 ≤ n ∧ n ≤ 256 ∧ (bs.length : Int) = (n + 7) / 8) && (List.range (8 * bs.length)).all (fun j => decide ((j : Int) < n) || !getB bs j)

theorem bits_and_pow (x : Int) (i : Nat) (h0 : 0 ≤ x) (h1 : x ≤ 255) (hi : i < 8) : (!decide (bits .and .u8 x (2 ^ i % 256) = 0)) = decide (x / 2 ^ i % 2 = 1) := by
  obtain ⟨n, rfl⟩ := Int.eq_ofNat_of_zero_le h0
  have hn : n < 256 := by omega
  have key : ∀ i, i < 8 → ∀ n, n < 256 → ((n &&& 2 ^ i) != 0) = decide (n / 2 ^ i % 2 = 1) := by decide +kernel
  have h2 : (2 : Int) ^ i % 256 = ((2 ^ i : Nat) : Int) := by
    have : ∀ i, i < 8 → (2 : Int) ^ i % 256 = ((2 ^ i : Nat) : Int) := by decide
    exact this i hi
  have h3 : (2 : Nat) ^ i < 256 := by
    have : ∀ i, i < 8 → (2 : Nat) ^ i < 256 := by decide
    exact this i hi
  rw [h2, u8_and_nat n (2 ^ i) hn h3]
  have k := key i hi n hn
  have e1 : (!decide ((((n &&& 2 ^ i : Nat)) : Int) = 0)) = ((n &&& 2 ^ i) != 0) := by
    rw [Bool.eq_iff_iff]; simp
  have e3 : ((n : Int) / 2 ^ i % 2) = ((n / 2 ^ i % 2 : Nat) : Int) := by push_cast; rfl
  have e2 : decide ((n : Int) / 2 ^ i % 2 = 1) = decide (n / 2 ^ i % 2 = 1) := by
    rw [decide_eq_decide, e3]; omega
  rw [e1, k, ← e2]

theorem getB_out (bs : List Int) (i : Int) (h : ¬ (0 ≤ i ∧ i / 8 < bs.length)) : getB bs i = false := by simp [getB, h]
theorem getB_in (bs : List Int) (i : Int) (h : 0 ≤ i) (h' : i / 8 < bs.length) : getB bs i = decide (at0 bs (i / 8).toNat / 2 ^ (i % 8).toNat % 2 = 1) := by simp [getB, h, h']

theorem sizeB_eq (n : Int) (h : 0 ≤ n) : sizeB n = (n + 7) / 8 := by unfold sizeB; split <;> omega

/-- the two ways to say 'a field of n bits' are one -/
theorem chk_right (bs : List Int) (n : Int) (hb : ∀ i, 0 ≤ at0 bs i ∧ at0 bs i ≤ 255) : chkB bs n = rightB bs n := by
  unfold chkB rightB
  by_cases h0 : 0 ≤ n
  · rw [sizeB_eq n h0]
    by_cases h1 : 0 ≤ n ∧ n ≤ 256 ∧ (bs.length : Int) = (n + 7) / 8
    · have e1 : decide (0 ≤ n ∧ n ≤ 256 ∧ (bs.length : Int) = (n + 7) / 8) = true := decide_eq_true h1
      rw [e1]
      simp only [Bool.true_and]
      obtain ⟨_, h2, h3⟩ := h1
      by_cases h8 : n % 8 > 0
      · have hl : bs.length ≥ 1 := by omega
        have hlast := hb (bs.length - 1)
        obtain ⟨x, hx⟩ : ∃ x, at0 bs (bs.length - 1) = x := ⟨_, rfl⟩
        rw [hx] at hlast ⊢
        obtain ⟨k, hk⟩ : ∃ k : Nat, (n % 8) = k := ⟨(n % 8).toNat, by omega⟩
        have hk8 : k < 8 := by omega
        have e2 : (n % 8).toNat = k := by omega
        rw [e2]
        have key : (x / 2 ^ k = 0) ↔ ∀ j, j < 8 → k ≤ j → x / 2 ^ j % 2 = 0 := by
          obtain ⟨m, rfl⟩ := Int.eq_ofNat_of_zero_le hlast.1
          have hm : m < 256 := by omega
          have : ∀ k, k < 8 → ∀ m, m < 256 → (m / 2 ^ k = 0 ↔ ∀ j, j < 8 → k ≤ j → m / 2 ^ j % 2 = 0) := by decide +kernel
          have := this k hk8 m hm
          constructor
          · intro h j hj hkj
            have h' : m / 2 ^ k = 0 := by exact_mod_cast h
            have := this.1 h' j hj hkj
            exact_mod_cast this
          · intro h
            have h' : m / 2 ^ k = 0 := this.2 (fun j hj hkj => by have := h j hj hkj; exact_mod_cast this)
            exact_mod_cast h'
        have e3 : decide (n % 8 > 0) = true := decide_eq_true h8
        rw [e3, Bool.true_and, Bool.eq_iff_iff, List.all_eq_true]
        simp only [ne_eq, decide_not, Bool.not_not, decide_eq_true_eq, List.mem_range, Bool.or_eq_true, Bool.not_eq_true']
        rw [key]
        constructor
        · intro h j hj2
          by_cases hj1 : (j : Int) < n
          · exact Or.inl hj1
          refine Or.inr ?_
          rw [getB_in bs j (by omega) (by omega)]
          have e4 : ((j : Int) / 8).toNat = bs.length - 1 := by omega
          rw [e4, hx]
          have e5 : ((j : Int) % 8).toNat < 8 := by omega
          have := h ((j : Int) % 8).toNat e5 (by omega)
          rw [this]; decide
        · intro h j hj hkj
          have := (h (8 * (bs.length - 1) + j) (by omega)).resolve_left (by omega)
          rw [getB_in bs _ (by omega) (by omega)] at this
          have e4 : (((8 * (bs.length - 1) + j : Nat) : Int) / 8).toNat = bs.length - 1 := by omega
          have e5 : (((8 * (bs.length - 1) + j : Nat) : Int) % 8).toNat = j := by omega
          rw [e4, e5, hx] at this
          have := of_decide_eq_false this
          have h7 : 0 ≤ x / 2 ^ j % 2 := Int.emod_nonneg _ (by decide)
          have h9 : x / 2 ^ j % 2 < 2 := Int.emod_lt_of_pos _ (by decide)
          omega
      · have e3 : decide (n % 8 > 0) = false := decide_eq_false h8
        rw [e3, Bool.false_and, Bool.not_false, eq_comm, List.all_eq_true]
        intro j hj2
        have := List.mem_range.1 hj2
        have : (j : Int) < n := by omega
        simp [this]
    · have e1 : decide (0 ≤ n ∧ n ≤ 256 ∧ (bs.length : Int) = (n + 7) / 8) = false := decide_eq_false h1
      rw [e1]; simp
  · simp [h0]
end Go.Bl
