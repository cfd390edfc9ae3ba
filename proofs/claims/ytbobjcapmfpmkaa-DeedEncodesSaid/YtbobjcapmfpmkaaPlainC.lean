/- Plain certificates: when one is right, what is weighed, what two have in common; no program in sight. Conditions: none. -/
import Derived.Test.YtbobjcapmfpmkaaPlainA
set_option linter.unusedVariables false
set_option linter.unusedSimpArgs false
namespace Go.Bl
open Go.RowKit

structure CertD where
  ep : Int
  mem : Int
  st : List Int
  bs : List Int
/-- one place of a certificate is right -/
def placeC (c : CertD) (i : Nat) : Bool := decide (at0 c.st i ≤ 1099511627776) && !(decide (at0 c.st i = 0) && getB c.bs i)
def headC (c : CertD) : Bool := decide (0 ≤ c.ep ∧ c.ep ≤ 1073741824 ∧ 0 ≤ c.mem ∧ c.mem ≤ 128 ∧ (c.st.length : Int) = c.mem) && rightB c.bs c.mem
def rightC (c : CertD) : Bool := headC c && (List.range c.st.length).all (placeC c)
/-- the stakes of the first k places of which something is told -/
def wsum (st : List Int) (f : Nat → Bool) : Nat → Int
  | 0 => 0
  | k + 1 => wsum st f k + if f k then at0 st k else 0
theorem rightC_head {c : CertD} (h : rightC c = true) : headC c = true := by
  simp only [rightC, Bool.and_eq_true] at h; exact h.1
theorem rightC_place {c : CertD} (h : rightC c = true) (i : Nat) (hi : i < c.st.length) : placeC c i = true := by
  simp only [rightC, Bool.and_eq_true, List.all_eq_true, List.mem_range] at h; exact h.2 i hi
theorem headC_facts {c : CertD} (h : headC c = true) : 0 ≤ c.ep ∧ c.ep ≤ 1073741824 ∧ 0 ≤ c.mem ∧ c.mem ≤ 128 ∧ (c.st.length : Int) = c.mem := by
  simp only [headC, Bool.and_eq_true, decide_eq_true_eq] at h; exact h.1
theorem rightC_of {c : CertD} (h : headC c = true) (hp : ∀ i, i < c.st.length → placeC c i = true) : rightC c = true := by
  simp only [rightC, Bool.and_eq_true, List.all_eq_true, List.mem_range]; exact ⟨h, hp⟩
theorem rightC_not {c : CertD} (i : Nat) (hi : i < c.st.length) (hp : placeC c i = false) : rightC c = false := by
  cases hr : rightC c with
  | false => rfl
  | true => rw [rightC_place hr i hi] at hp; cases hp
theorem rightC_nohead {c : CertD} (h : headC c = false) : rightC c = false := by simp [rightC, h]
theorem wsum_bound {c : CertD} (h : rightC c = true) (h0 : ∀ i, 0 ≤ at0 c.st i) (f : Nat → Bool) : ∀ k, k ≤ c.st.length → 0 ≤ wsum c.st f k ∧ wsum c.st f k ≤ k * 1099511627776
  | 0, _ => by simp [wsum]
  | k + 1, hk => by
    have ih := wsum_bound h h0 f k (by omega)
    have hp := rightC_place h k (by omega)
    simp only [placeC, Bool.and_eq_true, decide_eq_true_eq] at hp
    have := h0 k
    simp only [wsum]
    split <;> omega
/-- 0: alike; else an error's number -/
def alikeC (c d : CertD) : Int := if !rightC c || !rightC d then 2 else if decide (c.ep = d.ep) && decide (c.mem = d.mem) && decide (c.st = d.st) then 0 else 200
end Go.Bl
