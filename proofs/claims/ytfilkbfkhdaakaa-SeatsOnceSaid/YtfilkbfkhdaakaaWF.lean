/- Contracts of certificates' checks: cert.Check, bullionref40.Right. Conditions: the value reads as a certificate. -/
import Derived.Test.YtfilkbfkhdaakaaWA
import Derived.Test.YtfilkbfkhdaakaaPlainA
set_option linter.unusedVariables false
set_option linter.unusedSimpArgs false
namespace Go.X
open Go.RowKit Go.Proofs Go.Bl
variable {L : Own} {h : PH} {K : PK}

def IsCert (h : PH) (v : Value) (c : CertD) : Prop :=
  ∃ sv bv, v = .agg #[.int .i64 c.ep, .int .i64 c.mem, sv, bv] ∧ Ints h .u64 sv c.st ∧ Ints h .u8 bv c.bs ∧ -9223372036854775808 ≤ c.ep ∧ c.ep ≤ 9223372036854775807 ∧ -9223372036854775808 ≤ c.mem ∧ c.mem ≤ 9223372036854775807
theorem IsCert.up {h h' : PH} (le : PH.le h h') {v : Value} {c : CertD} (hc : IsCert h v c) : IsCert h' v c := by
  obtain ⟨s, b, e, h1, h2, h3⟩ := hc
  exact ⟨s, b, e, h1.up le, h2.up le, h3⟩


end Go.X
