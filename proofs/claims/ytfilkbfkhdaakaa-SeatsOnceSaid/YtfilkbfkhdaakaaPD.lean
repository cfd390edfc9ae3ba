/- Contracts of bullionref07: wide, in, Ticks, Right. Conditions: the value reads as parameters. -/
import Derived.Test.YtfilkbfkhdaakaaPB
set_option linter.unusedVariables false
set_option linter.unusedSimpArgs false
namespace Go.X
open Go.RowKit Go.Proofs Go.Bl
variable {L : Own} {h : PH} {K : PK}

theorem cmp3_ge (a b : Int) : (0 ≤ cmp3 a b) ↔ b ≤ a := by
  unfold cmp3
  split
  · constructor <;> intro h <;> omega
  · split <;> constructor <;> intro h <;> omega
end Go.X
namespace Go.X
open Go.RowKit Go.Proofs Go.Bl
variable {L : Own} {h : PH} {K : PK}
end Go.X
