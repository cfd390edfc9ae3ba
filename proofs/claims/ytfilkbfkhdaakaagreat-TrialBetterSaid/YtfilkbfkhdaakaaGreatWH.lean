/- Contracts of what two certificates have in common: alike and Both of package cert and of bullionref40. Conditions: the values read as certificates. -/
import Derived.Test.YtfilkbfkhdaakaaGreatWG
import Derived.Test.YtfilkbfkhdaakaaGreatWA
set_option linter.unusedVariables false
set_option linter.unusedSimpArgs false
namespace Go.X
open Go.RowKit Go.Proofs Go.Bl
variable {L : Own} {h : PH} {K : PK}

/-- what Both hands back -/
def bothV (c d : CertD) : Value := if alikeC c d = 0 then .tuple #[.int .u64 (wsum c.st (fun i => getB c.bs i && getB d.bs i) c.st.length), .int .i64 0] else .tuple #[.int .u64 0, .int .i64 (alikeC c d)]
theorem alikeC_right {c d : CertD} (h : alikeC c d = 0) : rightC c = true := by
  unfold alikeC at h
  cases hr : rightC c with
  | true => rfl
  | false => rw [hr] at h; simp at h
end Go.X
