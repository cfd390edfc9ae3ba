/- Plain parameters: when they are right; the leak; no program in sight. Conditions: as each lemma says. -/
import Derived.Test.YtbobjcapmfpmkaaPlainK
set_option linter.unusedVariables false
set_option linter.unusedSimpArgs false
namespace Go.Bl
open Go.RowKit

structure ParD where
  inc : Int
  maxEff : Int
  floor : Int
  cap : Int
  up : Int
  down : Int
  bias : Int
  quot : Int
  biasEm : Int
  quotEm : Int
  recover : Int
  scoreCap : Int
  rate : Int
  bond : Int
  delay : Int
  streak : Int
  boost : Int
  absent : Int
  burn : Int
  churn : Int
  wait : Int
  poll : Int
  enact : Int
  quorum : Int
  deriving DecidableEq
def zeroP : ParD := ⟨0, 0, 0, 0, 0, 0, 0, 0, 0, 0, 0, 0, 0, 0, 0, 0, 0, 0, 0, 0, 0, 0, 0, 0⟩
def wides (p : ParD) : List Int := [p.inc, p.maxEff, p.floor, p.cap, p.up, p.down, p.bias, p.quot, p.biasEm, p.quotEm, p.recover, p.scoreCap, p.rate, p.bond]
def narrows (p : ParD) : List Int := [p.delay, p.streak, p.boost, p.absent, p.burn, p.churn, p.wait, p.poll, p.enact, p.quorum]
/-- the numbers are numbers of their types -/
structure ParOk (p : ParD) : Prop where
  w : ∀ z ∈ wides p, 0 ≤ z ∧ z ≤ 18446744073709551615
  n : ∀ z ∈ narrows p, -9223372036854775808 ≤ z ∧ z ≤ 9223372036854775807
def wi (n lo hi : Int) : Bool := decide (lo ≤ n) && decide (n ≤ hi)
theorem wi_iff {n lo hi : Int} : wi n lo hi = true ↔ lo ≤ n ∧ n ≤ hi := by simp [wi]
def stakesB (p : ParD) : Bool :=
  [wi p.inc 1 2147483648, wi p.maxEff p.inc 1099511627776, decide (p.inc ≤ p.floor), decide (p.floor < p.cap), wi p.cap p.maxEff 1099511627776, wi p.up p.inc 1099511627776, decide (p.down ≤ 1099511627776)].all id && decide (p.maxEff % p.inc = 0)
def scoresB (p : ParD) : Bool :=
  [wi p.bias 1 4294967296, wi p.biasEm p.bias 4294967296, wi p.quot 1 1099511627776, wi p.quotEm 1 p.quot, decide (p.recover ≤ 4294967296), wi p.scoreCap 1 72057594037927936].all id
def othersB (p : ParD) : Bool :=
  [decide (p.rate ≤ 4294967296), decide (p.bond ≤ 1099511627776), wi p.delay 0 1000, wi p.wait 0 50, wi p.enact 0 1000, wi p.poll 1 1000, wi p.streak 0 64, wi p.boost 0 1000, wi p.absent 0 10000, wi p.burn 0 10000, wi p.quorum 0 10000, wi p.churn 1 64].all id
/-- t ticks are enough -/
def enough (p : ParD) (t : Nat) : Bool := decide (2 * p.quot * (p.cap - p.floor) ≤ p.inc * p.bias * ((t : Int) * (t + 1)))
/-- the first of the numbers from 1 to n of which something is so; n + 1: none -/
def firstN (q : Nat → Bool) : Nat → Nat → Nat
  | 0, k => k
  | m + 1, k => if q k then k else firstN q m (k + 1)
theorem firstN_spec (q : Nat → Bool) : ∀ (m k : Nat), k ≤ firstN q m k ∧ firstN q m k ≤ k + m ∧ (∀ i, k ≤ i → i < firstN q m k → q i = false) ∧ (firstN q m k < k + m → q (firstN q m k) = true)
  | 0, k => ⟨by simp [firstN], by simp [firstN], fun i h1 h2 => by simp [firstN] at h2; omega, fun h => by simp [firstN] at h⟩
  | m + 1, k => by
    simp only [firstN]
    by_cases hq : q k = true
    · rw [if_pos hq]
      exact ⟨by omega, by omega, fun i h1 h2 => by omega, fun _ => hq⟩
    · rw [if_neg hq]
      obtain ⟨h1, h2, h3, h4⟩ := firstN_spec q m (k + 1)
      refine ⟨by omega, by omega, fun i hi1 hi2 => ?_, fun h => h4 (by omega)⟩
      by_cases e : i = k
      · subst e; simpa using hq
      · exact h3 i (by omega) hi2
theorem firstN_unique {q : Nat → Bool} {m k r : Nat} (h1 : k ≤ r) (h2 : r ≤ k + m) (h3 : ∀ i, k ≤ i → i < r → q i = false) (h4 : r < k + m → q r = true) : firstN q m k = r := by
  obtain ⟨g1, g2, g3, g4⟩ := firstN_spec q m k
  rcases Nat.lt_trichotomy (firstN q m k) r with h | h | h
  · have := h3 _ g1 h
    rw [g4 (by omega)] at this
    cases this
  · exact h
  · have := g3 _ h1 h
    rw [h4 (by omega)] at this
    cases this
/-- the leak's ticks -/
def leakT (p : ParD) : Nat := firstN (enough p) 1048576 1
def parR (p : ParD) : Bool := stakesB p && scoresB p && othersB p && (decide (leakT p ≤ 1048576) && decide (p.bias * (leakT p : Int) ≤ p.scoreCap))
theorem stakesB_facts {p : ParD} (h : stakesB p = true) : 1 ≤ p.inc ∧ p.inc ≤ 2147483648 ∧ p.inc ≤ p.maxEff ∧ p.maxEff ≤ 1099511627776 ∧ p.inc ≤ p.floor ∧ p.floor < p.cap ∧ p.maxEff ≤ p.cap ∧ p.cap ≤ 1099511627776 ∧ p.inc ≤ p.up ∧ p.up ≤ 1099511627776 ∧ p.down ≤ 1099511627776 ∧ p.maxEff % p.inc = 0 := by
  simp only [stakesB, List.all_cons, List.all_nil, id, Bool.and_eq_true, wi_iff, decide_eq_true_eq, and_true] at h
  omega
theorem scoresB_facts {p : ParD} (h : scoresB p = true) : 1 ≤ p.bias ∧ p.bias ≤ 4294967296 ∧ p.bias ≤ p.biasEm ∧ p.biasEm ≤ 4294967296 ∧ 1 ≤ p.quot ∧ p.quot ≤ 1099511627776 ∧ 1 ≤ p.quotEm ∧ p.quotEm ≤ p.quot ∧ p.recover ≤ 4294967296 ∧ 1 ≤ p.scoreCap ∧ p.scoreCap ≤ 72057594037927936 := by
  simp only [scoresB, List.all_cons, List.all_nil, id, Bool.and_eq_true, wi_iff, decide_eq_true_eq, and_true] at h
  omega
theorem enough_mono {p : ParD} (h1 : 0 ≤ p.inc) (h2 : 0 ≤ p.bias) {t u : Nat} (h : t ≤ u) (he : enough p t = true) : enough p u = true := by
  simp only [enough, decide_eq_true_eq] at he ⊢
  refine Int.le_trans he (Int.mul_le_mul_of_nonneg_left ?_ (Int.mul_nonneg h1 h2))
  exact Int.mul_le_mul (by omega) (by omega) (by omega) (by omega)
end Go.Bl
