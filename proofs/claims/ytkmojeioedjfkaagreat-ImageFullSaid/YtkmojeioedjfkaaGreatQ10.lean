/- Lemmas and contracts for a statement about the given program. Conditions: as each says. -/
import Derived.Test.YtkmojeioedjfkaaGreatQ03
import Derived.Test.YtkmojeioedjfkaaGreatQ07
import Derived.Test.YtkmojeioedjfkaaGreatQ09
set_option linter.unusedVariables false
set_option linter.unusedSimpArgs false
set_option maxHeartbeats 12800000
set_option maxRecDepth 20000
namespace Go.X
open Go.RowKit Go.Proofs Go.Bl
variable {L : Own} {h : PH} {K : PK}
theorem clone64_any {xs : List Int} (v : Value) (hx : Ints h .u64 v xs) (hl : xs.length ≤ 1000) (hk : ∀ h' r, PH.le h h' → Ints h' .u64 r xs → K r L h') : Spec Tryz.prog 28 [v] L h K := by
 have ox := hx.open
 obtain ⟨a, ca, rfl, hna, hca, h0, hcx⟩ := ox
 refine x_enter Tryz.func28 rfl (rs := [_]) rfl rfl mixed (by kernel_rfl) rfl rfl ?_
 simp -dsimp -implicitDefEqProofs (disch := first|with_reducible assumption|omega) [go_sem]
 cases ha : a.isNone with
 | true =>
  have ha' : a = none := by simpa using ha
  subst ha'
  have hl0 : xs.length = 0 := by have := h0 rfl; omega
  have hx' : xs = [] := List.eq_nil_of_length_eq_zero hl0
  subst hx'
  simp -dsimp -implicitDefEqProofs (disch := first|with_reducible assumption|omega) [go_sem]
  refine fin_here (hk h _ (PH.le_refl h) ?_)
  rw [h0 rfl] at hx
  exact hx
 | false =>
  simp -dsimp -implicitDefEqProofs (disch := first|with_reducible assumption|omega) [go_sem]
  refine xnew fun b1 n_b1 h_b1 => ?_
  try simp only [Apart] at n_b1
  simp -dsimp -implicitDefEqProofs (disch := first|with_reducible assumption|omega) [go_sem]
  refine xappend (t := 26) (e := 23) (sz := 1) (bytes := 8) (z := [.int .u64 0]) (by kernel_rfl) tI_23 rfl rfl rfl rfl (by decide) [] L (some (b1, 0)) 0 [] ⟨Nat.le_refl _, Nat.zero_le _⟩ rfl (Src.known hx.1) (by simp) (ints_one _ _) (by simp [maxLen]; omega) (by omega) ?_
  intro o' j1 j2 j3
  simp only [Nat.zero_add, List.nil_append] at j1 j2 ⊢
  simp -dsimp -implicitDefEqProofs (disch := first|with_reducible assumption|omega) [go_sem]
  exact fin_pub (n := xs.length) j1 (by simp) (by omega) j2 fun h' le sl => fin_here (hk h' _ le ⟨sl, hx.2⟩)
def bol (bl : List Bool) (i : Nat) : Bool := bl.getD i false
def Bools (h : PH) (v : Value) (bl : List Bool) : Prop := Sl h v bl.length 1 (bl.map Value.bool)
theorem Bools.open {v : Value} {bl : List Bool} (hs : Bools h v bl) : ∃ a cap, v = .slice a bl.length cap ∧ bl.length ≤ cap ∧ (a = none → cap = 0) ∧ ∀ j, j < bl.length → elemCell h a j = some (.bool (bol bl j)) := by
 obtain ⟨_, a, cap, h2, h3, h4, h4', h5, h6⟩ := hs
 exact ⟨a, cap, h2, h3, h5, fun j hj => h6 j _ (by simp [bol, hj])⟩
def PackB (bl : List Bool) (m : Nat) (x : Int) (j : Nat) : Prop :=
 0 ≤ x ∧ x < 2 ^ (8 * j + 8 - max (8 * j) m) ∧ ∀ k, k < 8 * j + 8 - max (8 * j) m → (x / 2 ^ k % 2 = 1 ↔ bol bl (max (8 * j) m + k) = true)
theorem PackB.step {bl : List Bool} {m : Nat} {x : Int} {j : Nat} (hp : PackB bl (m + 1) x j) (hj : m / 8 = j) : 2 * x + (if bol bl m then 1 else 0) ≤ 255 ∧ PackB bl m (2 * x + if bol bl m then 1 else 0) j := by
 obtain ⟨h0, h1, h2⟩ := hp
 have e1 : max (8 * j) (m + 1) = m + 1 := by omega
 have e2 : max (8 * j) m = m := by omega
 obtain ⟨w, hw⟩ : ∃ w, 8 * j + 8 - (m + 1) = w := ⟨_, rfl⟩
 have hw2 : 8 * j + 8 - m = w + 1 := by omega
 have hw3 : w ≤ 7 := by omega
 rw [e1, hw] at h1 h2
 have hb : (0 : Int) ≤ (if bol bl m then 1 else 0) ∧ (if bol bl m then (1 : Int) else 0) ≤ 1 := by split <;> omega
 have hp : (2 : Int) ^ (w + 1) = 2 * 2 ^ w := by rw [Int.pow_succ, Int.mul_comm]
 have hp7 : (2 : Int) ^ w ≤ 128 := by
  have : ∀ w, w ≤ 7 → (2 : Int) ^ w ≤ 128 := by decide
  exact this w hw3
 have hc : (if bol bl m then (1 : Int) else 0) = 1 ↔ bol bl m = true := by split <;> rename_i hc <;> simp [hc]
 generalize (if bol bl m then (1 : Int) else 0) = c at hb hc ⊢
 refine ⟨by omega, by omega, ?_, ?_⟩
 ·rw [e2, hw2, hp]; omega
 ·intro k hk
  rw [e2, hw2] at hk
  rw [e2]
  cases k with
  | zero =>
   simp only [Int.pow_zero, Int.ediv_one, Nat.add_zero]
   rw [← hc]
   omega
  | succ k =>
   have e3 : (2 : Int) ^ (k + 1) = 2 * 2 ^ k := by rw [Int.pow_succ, Int.mul_comm]
   have e : (2 * x + c) / 2 ^ (k + 1) = x / 2 ^ k := by
    rw [e3, ← Int.ediv_ediv_of_nonneg (show (0 : Int) ≤ 2 by decide), show (2 * x + c) / 2 = x by omega]
   rw [e, h2 k (by omega), show m + 1 + k = m + (k + 1) by omega]
theorem idxB {bl : List Bool} {a : Option Addr} (hc : ∀ j, j < bl.length → elemCell h a j = some (.bool (bol bl j))) : ∀ j, j < bl.length → elemCell h a j = some ((fun j => Value.bool (bol bl j)) j) := hc
end Go.X
