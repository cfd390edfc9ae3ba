/- Contracts of certificates' weights: signed, weigh, Weight, Final of package cert; Weight of bullionref40; Plain, few of bullionlaw40. Conditions: the values read as certificates; for weights: right ones. -/
import Derived.Test.YtfilkbfkhdaakaaWF
import Derived.Test.YtfilkbfkhdaakaaWA
import Derived.Test.YtfilkbfkhdaakaaWD
set_option linter.unusedVariables false
set_option linter.unusedSimpArgs false
namespace Go.X
open Go.RowKit Go.Proofs Go.Bl
variable {L : Own} {h : PH} {K : PK}

theorem IsCert.range {v : Value} {c : CertD} (hc : IsCert h v c) (i : Nat) : 0 ≤ at0 c.st i ∧ at0 c.st i ≤ 18446744073709551615 := by
  obtain ⟨_, _, _, hs, _⟩ := hc; exact hs.word i
/-- whose bit is 1 -/
def sgn (c : CertD) (i : Nat) : Bool := getB c.bs i
def pres (c : CertD) : Int := wsum c.st (sgn c) c.st.length
def actv (c : CertD) : Int := wsum c.st (fun _ => true) c.st.length
theorem wsum_le {c : CertD} {v : Value} (hc : IsCert h v c) (hr : rightC c = true) (f : Nat → Bool) : 0 ≤ wsum c.st f c.st.length ∧ wsum c.st f c.st.length ≤ 140737488355328 := by
  have h1 := wsum_bound hr (fun i => (hc.range i).1) f c.st.length (Nat.le_refl _)
  have h2 := headC_facts (rightC_head hr)
  omega
/-- enough have signed -/
def finC (c : CertD) : Bool := rightC c && (decide (0 < actv c) && decide (2 * actv c < 3 * pres c))
end Go.X
