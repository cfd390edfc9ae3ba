/- Strings and bytes, behind the inbox. Conditions: none. -/
import Derived.Test.YtfilkbfkhdaakaaGreatRD
import Derived.Test.YtfilkbfkhdaakaaGreatRE0
set_option linter.unusedVariables false
set_option linter.unusedSimpArgs false
