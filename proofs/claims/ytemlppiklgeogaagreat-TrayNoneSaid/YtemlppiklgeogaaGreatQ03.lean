/- Part of the proof of a statement about the given program: lemmas and contracts. Conditions: as each says. -/
import Derived.WalkKit
/- Plain functions and facts on bits, lists and weights; no program in sight. Conditions: as each lemma says. -/
set_option linter.unusedVariables false
set_option linter.unusedSimpArgs false
namespace Go.Bl
open Go.RowKit

/-- element j, or 0 -/
def at0 (zs : List Int) (j : Nat) : Int := zs.getD j 0
theorem at0_ge {zs : List Int} {j : Nat} (h : zs.length ≤ j) : at0 zs j = 0 := by simp [at0, List.getElem?_eq_none h]
end Go.Bl
/-! Plain coding of numbers: the bytes of a number, the number of bytes, and how the two belong together; no program in sight. Conditions: as each lemma says. -/
namespace Go.Bl
open Go.RowKit

/-- the number at the head of bytes: an error's number, the number, how many bytes -/
def scanL : List Int → Nat → Int → Int × Int × Nat
  | [], _, _ => (50, 0, 0)
  | b :: l, i, n => if i = 9 ∧ b > 1 ∨ b = 0 ∧ i > 0 then (51, 0, 0) else if b < 128 then (0, n + b % 128 * 128 ^ i, i + 1) else scanL l (i + 1) (n + b % 128 * 128 ^ i)
/-! ### reading: a place and an error's number -/
/-- a number at a place, not above most: the number, the place, the error -/
def rNum (xs : List Int) (s : Nat × Int) (most : Int) : Int × (Nat × Int) :=
  if s.2 ≠ 0 then (0, s) else
  let r := scanL (xs.drop s.1) 0 0
  if r.1 ≠ 0 then (0, (s.1, r.1)) else if r.2.1 > most then (0, (s.1, 51)) else (r.2.1, (s.1 + r.2.2, 0))
/-- what is there is the beginning of the rest, and less -/
def Short (xs : List Int) (s : Nat × Int) (rest : List Int) : Prop := s.2 = 50 ∨ s.2 = 0 ∧ ∃ t, t ≠ [] ∧ xs.drop s.1 ++ t = rest
theorem Short.nil {xs : List Int} {s : Nat × Int} (h : Short xs s []) : s.2 = 50 := by
  rcases h with h | ⟨_, t, ht, he⟩
  · exact h
  · simp at he; exact absurd he.2 ht
end Go.Bl
/-! Plain certificates: when one is right, what is weighed, what two have in common; no program in sight. Conditions: none. -/
namespace Go.Bl
open Go.RowKit

structure CertD where
  ep : Int
  mem : Int
  st : List Int
  bs : List Int
end Go.Bl
/-! Plain coding of certificates: their bytes, what bytes read as, and how the two belong together; no program in sight. Conditions: as each lemma says. -/
namespace Go.Bl
open Go.RowKit

end Go.Bl
/-! Plain facts on packed bits: bytes are told by their bits; setting a bit. Conditions: bytes of 0 to 255. -/
namespace Go.Bl
open Go.RowKit

end Go.Bl
/-! Plain parameters: when they are right; the leak; no program in sight. Conditions: as each lemma says. -/
namespace Go.Bl
open Go.RowKit

structure ParD where
  inc : Int
  maxEff : Int
  floor : Int
  cap : Int
  up : Int
  down : Int
  bias : Int
  quot : Int
  biasEm : Int
  quotEm : Int
  recover : Int
  scoreCap : Int
  rate : Int
  bond : Int
  delay : Int
  streak : Int
  boost : Int
  absent : Int
  burn : Int
  churn : Int
  wait : Int
  poll : Int
  enact : Int
  quorum : Int
  deriving DecidableEq
def zeroP : ParD := ⟨0, 0, 0, 0, 0, 0, 0, 0, 0, 0, 0, 0, 0, 0, 0, 0, 0, 0, 0, 0, 0, 0, 0, 0⟩
def wides (p : ParD) : List Int := [p.inc, p.maxEff, p.floor, p.cap, p.up, p.down, p.bias, p.quot, p.biasEm, p.quotEm, p.recover, p.scoreCap, p.rate, p.bond]
def narrows (p : ParD) : List Int := [p.delay, p.streak, p.boost, p.absent, p.burn, p.churn, p.wait, p.poll, p.enact, p.quorum]
/-- the numbers are numbers of their types -/
structure ParOk (p : ParD) : Prop where
  w : ∀ z ∈ wides p, 0 ≤ z ∧ z ≤ 18446744073709551615
  n : ∀ z ∈ narrows p, -9223372036854775808 ≤ z ∧ z ≤ 9223372036854775807
def wi (n lo hi : Int) : Bool := decide (lo ≤ n) && decide (n ≤ hi)
theorem wi_iff {n lo hi : Int} : wi n lo hi = true ↔ lo ≤ n ∧ n ≤ hi := by simp [wi]
def stakesB (p : ParD) : Bool :=
  [wi p.inc 1 2147483648, wi p.maxEff p.inc 1099511627776, decide (p.inc ≤ p.floor), decide (p.floor < p.cap), wi p.cap p.maxEff 1099511627776, wi p.up p.inc 1099511627776, decide (p.down ≤ 1099511627776)].all id && decide (p.maxEff % p.inc = 0)
def scoresB (p : ParD) : Bool :=
  [wi p.bias 1 4294967296, wi p.biasEm p.bias 4294967296, wi p.quot 1 1099511627776, wi p.quotEm 1 p.quot, decide (p.recover ≤ 4294967296), wi p.scoreCap 1 72057594037927936].all id
def othersB (p : ParD) : Bool :=
  [decide (p.rate ≤ 4294967296), decide (p.bond ≤ 1099511627776), wi p.delay 0 1000, wi p.wait 0 50, wi p.enact 0 1000, wi p.poll 1 1000, wi p.streak 0 64, wi p.boost 0 1000, wi p.absent 0 10000, wi p.burn 0 10000, wi p.quorum 0 10000, wi p.churn 1 64].all id
/-- t ticks are enough -/
def enough (p : ParD) (t : Nat) : Bool := decide (2 * p.quot * (p.cap - p.floor) ≤ p.inc * p.bias * ((t : Int) * (t + 1)))
/-- the first of the numbers from 1 to n of which something is so; n + 1: none -/
def firstN (q : Nat → Bool) : Nat → Nat → Nat
  | 0, k => k
  | m + 1, k => if q k then k else firstN q m (k + 1)
theorem firstN_spec (q : Nat → Bool) : ∀ (m k : Nat), k ≤ firstN q m k ∧ firstN q m k ≤ k + m ∧ (∀ i, k ≤ i → i < firstN q m k → q i = false) ∧ (firstN q m k < k + m → q (firstN q m k) = true)
  | 0, k => ⟨by simp [firstN], by simp [firstN], fun i h1 h2 => by simp [firstN] at h2; omega, fun h => by simp [firstN] at h⟩
  | m + 1, k => by
    simp only [firstN]
    by_cases hq : q k = true
    · rw [if_pos hq]
      exact ⟨by omega, by omega, fun i h1 h2 => by omega, fun _ => hq⟩
    · rw [if_neg hq]
      obtain ⟨h1, h2, h3, h4⟩ := firstN_spec q m (k + 1)
      refine ⟨by omega, by omega, fun i hi1 hi2 => ?_, fun h => h4 (by omega)⟩
      by_cases e : i = k
      · subst e; simpa using hq
      · exact h3 i (by omega) hi2
theorem firstN_unique {q : Nat → Bool} {m k r : Nat} (h1 : k ≤ r) (h2 : r ≤ k + m) (h3 : ∀ i, k ≤ i → i < r → q i = false) (h4 : r < k + m → q r = true) : firstN q m k = r := by
  obtain ⟨g1, g2, g3, g4⟩ := firstN_spec q m k
  rcases Nat.lt_trichotomy (firstN q m k) r with h | h | h
  · have := h3 _ g1 h
    rw [g4 (by omega)] at this
    cases this
  · exact h
  · have := g3 _ h1 h
    rw [h4 (by omega)] at this
    cases this
/-- the leak's ticks -/
def leakT (p : ParD) : Nat := firstN (enough p) 1048576 1
def parR (p : ParD) : Bool := stakesB p && scoresB p && othersB p && (decide (leakT p ≤ 1048576) && decide (p.bias * (leakT p : Int) ≤ p.scoreCap))
theorem stakesB_facts {p : ParD} (h : stakesB p = true) : 1 ≤ p.inc ∧ p.inc ≤ 2147483648 ∧ p.inc ≤ p.maxEff ∧ p.maxEff ≤ 1099511627776 ∧ p.inc ≤ p.floor ∧ p.floor < p.cap ∧ p.maxEff ≤ p.cap ∧ p.cap ≤ 1099511627776 ∧ p.inc ≤ p.up ∧ p.up ≤ 1099511627776 ∧ p.down ≤ 1099511627776 ∧ p.maxEff % p.inc = 0 := by
  simp only [stakesB, List.all_cons, List.all_nil, id, Bool.and_eq_true, wi_iff, decide_eq_true_eq, and_true] at h
  omega
theorem scoresB_facts {p : ParD} (h : scoresB p = true) : 1 ≤ p.bias ∧ p.bias ≤ 4294967296 ∧ p.bias ≤ p.biasEm ∧ p.biasEm ≤ 4294967296 ∧ 1 ≤ p.quot ∧ p.quot ≤ 1099511627776 ∧ 1 ≤ p.quotEm ∧ p.quotEm ≤ p.quot ∧ p.recover ≤ 4294967296 ∧ 1 ≤ p.scoreCap ∧ p.scoreCap ≤ 72057594037927936 := by
  simp only [scoresB, List.all_cons, List.all_nil, id, Bool.and_eq_true, wi_iff, decide_eq_true_eq, and_true] at h
  omega
theorem enough_mono {p : ParD} (h1 : 0 ≤ p.inc) (h2 : 0 ≤ p.bias) {t u : Nat} (h : t ≤ u) (he : enough p t = true) : enough p u = true := by
  simp only [enough, decide_eq_true_eq] at he ⊢
  refine Int.le_trans he (Int.mul_le_mul_of_nonneg_left ?_ (Int.mul_nonneg h1 h2))
  exact Int.mul_le_mul (by omega) (by omega) (by omega) (by omega)
end Go.Bl
/-! Plain deeds: which fields a kind has, when a deed is right, its bytes; no program in sight. Conditions: none. -/
namespace Go.Bl
open Go.RowKit

structure DeedD where
  kind : Int
  acct : Int
  mem : Int
  to : Int
  amt : Int
  ep : Int
  bits : List Int
  what : Int
  par : ParD
  mot : Int
  yes : Bool
def zeroD : DeedD := ⟨0, 0, 0, 0, 0, 0, [], 0, zeroP, 0, false⟩
/-- the numbers are numbers of their types -/
structure DeedOk (d : DeedD) : Prop where
  n : ∀ z ∈ [d.kind, d.acct, d.mem, d.to, d.ep, d.what, d.mot], -9223372036854775808 ≤ z ∧ z ≤ 9223372036854775807
  a : 0 ≤ d.amt ∧ d.amt ≤ 18446744073709551615
  p : ParOk d.par
/-- the fields that its kind has -/
def bareD (d : DeedD) : DeedD :=
  if d.kind = 1 then { zeroD with kind := d.kind, acct := d.acct, to := d.to, amt := d.amt }
  else if d.kind = 2 then { zeroD with kind := d.kind, acct := d.acct, amt := d.amt }
  else if d.kind = 3 then { zeroD with kind := d.kind, acct := d.acct, mem := d.mem, amt := d.amt }
  else if d.kind = 4 then { zeroD with kind := d.kind, acct := d.acct, mem := d.mem }
  else if d.kind = 5 then { zeroD with kind := d.kind, ep := d.ep, bits := d.bits }
  else if d.kind = 7 then { zeroD with kind := d.kind, acct := d.acct, mem := d.mem, mot := d.mot, yes := d.yes }
  else if d.kind = 6 then (if d.what = 1 then { zeroD with kind := d.kind, acct := d.acct, what := d.what, par := d.par } else if d.what = 2 then { zeroD with kind := d.kind, acct := d.acct, what := d.what, to := d.to, amt := d.amt } else { zeroD with kind := d.kind, acct := d.acct, what := d.what })
  else { zeroD with kind := d.kind, acct := d.acct }
def paidD (d : DeedD) : Bool := wi d.kind 1 3 || (decide (d.kind = 6) && decide (d.what = 2))
def sameD (a b : DeedD) : Bool :=
  decide (a.kind = b.kind) && (decide (a.acct = b.acct) && (decide (a.mem = b.mem) && (decide (a.to = b.to) && (decide (a.amt = b.amt) && (decide (a.ep = b.ep) && (decide (a.what = b.what) && (decide (a.par = b.par) && (decide (a.mot = b.mot) && ((a.yes == b.yes) && decide ((a.bits.length : Int) = b.bits.length))))))))))
def rightD (d : DeedD) : Bool :=
  wi d.kind 1 7 && sameD d (bareD d) && (wi d.acct 0 63 && wi d.to 0 63 && wi d.mem 0 127 && wi d.mot 0 31) &&
  ((paidD d == decide (0 < d.amt)) && decide (d.amt ≤ 4611686018427387904) && wi d.ep 0 1073741824 && decide ((d.bits.length : Int) ≤ 32)) &&
  (decide (d.kind ≠ 6) || (wi d.what 1 4 && (decide (d.what ≠ 1) || parR d.par)))
end Go.Bl
