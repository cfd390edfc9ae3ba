/- Contracts of bullionlaw24.Plain and its parts, and of bullionref24.Same of like states. Conditions: the values read as states. -/
import Derived.Test.YtfilkbfkhdaakaaDS
import Derived.Test.YtfilkbfkhdaakaaRE0
import Derived.Test.YtfilkbfkhdaakaaWA
set_option linter.unusedVariables false
set_option linter.unusedSimpArgs false
namespace Go.X
open Go.RowKit Go.Proofs Go.Bl
variable {L : Own} {h : PH} {K : PK}
end Go.X
