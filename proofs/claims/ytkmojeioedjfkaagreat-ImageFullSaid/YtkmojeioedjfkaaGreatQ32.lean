/- Lemmas and contracts for a statement about the given program. Conditions: as each says. -/
import Derived.Test.YtkmojeioedjfkaaGreatQ07
import Derived.Test.YtkmojeioedjfkaaGreatQ11
import Derived.Test.YtkmojeioedjfkaaGreatQ15
set_option linter.unusedVariables false
set_option linter.unusedSimpArgs false
set_option maxHeartbeats 12800000
set_option maxRecDepth 20000
namespace Go.X
open Go.RowKit Go.Proofs Go.Bl
variable {L : Own} {h : PH} {K : PK}
@[go_sem ↓] theorem eqParF (p : ParD) (x y : Operand) (K : Value → Prop) (t : Tok K) : xBin Tryz.prog .eql 57 x y (parV p) (parV p) K t = K (.bool true) := xBin_eqflat _ (by kernel_rfl) (by kernel_rfl) x y K t
@[go_sem ↓] theorem neParF (p : ParD) (x y : Operand) (K : Value → Prop) (t : Tok K) : xBin Tryz.prog .neq 57 x y (parV p) (parV p) K t = K (.bool false) := xBin_neflat _ (by kernel_rfl) (by kernel_rfl) x y K t
end Go.X
