/- Contracts of bullionlaw40.awake and of the law CertWeighs. Conditions: the values read as certificates. -/
import Derived.Test.YtfilkbfkhdaakaaWI
set_option linter.unusedVariables false
set_option linter.unusedSimpArgs false
namespace Go.X
open Go.RowKit Go.Proofs Go.Bl
variable {L : Own} {h : PH} {K : PK}

def c0 : CertD := ⟨0, 3, [10, 10, 10], [3]⟩
def c1 : CertD := ⟨0, 3, [10, 10, 10], [7]⟩
theorem sign_c0 : signC c0 2 = (c1, 0) := by kernel_rfl
theorem fin_c0 : finC c0 = false := by kernel_rfl
theorem fin_c1 : finC c1 = true := by kernel_rfl
theorem and_sgn (c : CertD) : (fun i : Nat => getB c.bs i && getB c.bs i) = sgn c := by
  funext i; simp [sgn]
end Go.X
