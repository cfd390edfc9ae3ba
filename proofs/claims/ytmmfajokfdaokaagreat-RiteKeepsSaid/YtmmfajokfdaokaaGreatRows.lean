/-
  No cell of these rows narrows 'for every input' (looked for: loops, veiled, ifaces, maps, wideKeys, modest, calm, conditions, laid).
  DERIVED. THE GIVEN ROWS OF THIS SEAT. 6 by the template 'for every input the law returns true; each argument reads behind the call as it read before'; 0 by the template 'total and deterministic' (their statements: YtmmfajokfdaokaaGreatTotals.lean).
  GIVEN WITH THE SEED: the statements are not yours to turn. If you find one false, say at which input.
  Laid BY PROGRAM, IN A SANDBOX (cutbox-rows.mjs): the forced cells as the released guide's own fill.sh prints them over the translation a996ce28e4b9475b… (all of the seat's roots in one cut). By AI agents, Wed Nov 11 2026. No macro, syntax, notation, axiom, sorry.
-/
import Derived.Test.YtmmfajokfdaokaaGreatChecked
import GoSem.Claim
import GoSem.ClaimJoined
import GoSem.ClaimMapViews
import Derived.JoinedTies
import Derived.KernelRfl
namespace Go.Proofs.YtmmfajokfdaokaaGreat
/- THE CELL 'sum', in the pinned program and in every row, IS THE sha256 OF THE DUMP (.gsa) THAT YtmmfajokfdaokaaGreatProg.lean LOADS. Nothing in Lean hashes anything: it is a label: what it is worth is what the hold of that sum in a sandbox is worth. -/
noncomputable def Tryz.pinned : Pinned := { name := "ytmmfajokfdaokaagreat", sum := "a996ce28e4b9475b20ef4d5905e6927258746c1e696541fd69b3f843f61a81c7", checked := Tryz.checked }
namespace Rows
def none {H : Type} : Left H := { results := [], args := [] }

/-- 'bullionlaw24.StateBegins': WHATEVER THE INPUT: true; the input reads as it did. -/
def stateBeginsSpec : ChangeSpec := { name := "stateBegins", fn := fun _ => fun
  | [d] => { results := [.lit (.bool true)], args := [d] }
  | _ => none }
def stateBeginsRow : OpenClaim := { program := "ytmmfajokfdaokaagreat", sum := "a996ce28e4b9475b20ef4d5905e6927258746c1e696541fd69b3f843f61a81c7", func := "bullion/bullionlaw24.StateBegins", spec := "stateBegins", inPlace := ["math/bits.Add64", "math/bits.Sub64", "slices.overlaps[bullion/api.Due]"], unfollowed := true, recurses := true, named := ["math/bits.divideError", "math/bits.overflowError"], plainKeys := false, apart := false }
def StateBeginsSaid : Prop := stateBeginsRow.holds Tryz.pinned (OpenSpec.ofChange stateBeginsSpec)

/-- ITS FALSE NEIGHBOUR: 'it returns false'. Refute it at one input. -/
def stateBeginsWrong : ChangeSpec := { name := "stateBegins", fn := fun _ => fun
  | [d] => { results := [.lit (.bool false)], args := [d] }
  | _ => none }
def StateBeginsWrongFalsely : Prop := stateBeginsRow.holds Tryz.pinned (OpenSpec.ofChange stateBeginsWrong)

/-- 'bullionlaw24.StateTicks': WHATEVER THE INPUT: true; the input reads as it did. -/
def stateTicksSpec : ChangeSpec := { name := "stateTicks", fn := fun _ => fun
  | [d] => { results := [.lit (.bool true)], args := [d] }
  | _ => none }
def stateTicksRow : OpenClaim := { program := "ytmmfajokfdaokaagreat", sum := "a996ce28e4b9475b20ef4d5905e6927258746c1e696541fd69b3f843f61a81c7", func := "bullion/bullionlaw24.StateTicks", spec := "stateTicks", inPlace := ["math/bits.Add64", "math/bits.Sub64", "slices.overlaps[bullion/api.Due]"], unfollowed := true, recurses := true, named := ["math/bits.divideError", "math/bits.overflowError"], plainKeys := false, apart := false }
def StateTicksSaid : Prop := stateTicksRow.holds Tryz.pinned (OpenSpec.ofChange stateTicksSpec)

/-- ITS FALSE NEIGHBOUR: 'it returns false'. Refute it at one input. -/
def stateTicksWrong : ChangeSpec := { name := "stateTicks", fn := fun _ => fun
  | [d] => { results := [.lit (.bool false)], args := [d] }
  | _ => none }
def StateTicksWrongFalsely : Prop := stateTicksRow.holds Tryz.pinned (OpenSpec.ofChange stateTicksWrong)

/-- 'bullionlaw24.StateOwn': WHATEVER THE INPUT: true; the input reads as it did. -/
def stateOwnSpec : ChangeSpec := { name := "stateOwn", fn := fun _ => fun
  | [d] => { results := [.lit (.bool true)], args := [d] }
  | _ => none }
def stateOwnRow : OpenClaim := { program := "ytmmfajokfdaokaagreat", sum := "a996ce28e4b9475b20ef4d5905e6927258746c1e696541fd69b3f843f61a81c7", func := "bullion/bullionlaw24.StateOwn", spec := "stateOwn", inPlace := ["math/bits.Add64", "math/bits.Sub64", "slices.overlaps[bullion/api.Due]"], unfollowed := true, recurses := true, named := ["math/bits.divideError", "math/bits.overflowError"], plainKeys := false, apart := false }
def StateOwnSaid : Prop := stateOwnRow.holds Tryz.pinned (OpenSpec.ofChange stateOwnSpec)

/-- ITS FALSE NEIGHBOUR: 'it returns false'. Refute it at one input. -/
def stateOwnWrong : ChangeSpec := { name := "stateOwn", fn := fun _ => fun
  | [d] => { results := [.lit (.bool false)], args := [d] }
  | _ => none }
def StateOwnWrongFalsely : Prop := stateOwnRow.holds Tryz.pinned (OpenSpec.ofChange stateOwnWrong)

/-- 'bullionlaw35.ForecastRuns': WHATEVER THE INPUT: true; the input reads as it did. -/
def forecastRunsSpec : ChangeSpec := { name := "forecastRuns", fn := fun _ => fun
  | [d1, d2, d3] => { results := [.lit (.bool true)], args := [d1, d2, d3] }
  | _ => none }
def forecastRunsRow : OpenClaim := { program := "ytmmfajokfdaokaagreat", sum := "a996ce28e4b9475b20ef4d5905e6927258746c1e696541fd69b3f843f61a81c7", func := "bullion/bullionlaw35.ForecastRuns", spec := "forecastRuns", inPlace := ["math/bits.Add64", "math/bits.Sub64", "slices.overlaps[bullion/api.Due]"], unfollowed := true, recurses := true, named := ["math/bits.divideError", "math/bits.overflowError"], plainKeys := false, apart := false }
def ForecastRunsSaid : Prop := forecastRunsRow.holds Tryz.pinned (OpenSpec.ofChange forecastRunsSpec)

/-- ITS FALSE NEIGHBOUR: 'it returns false'. Refute it at one input. -/
def forecastRunsWrong : ChangeSpec := { name := "forecastRuns", fn := fun _ => fun
  | [d1, d2, d3] => { results := [.lit (.bool false)], args := [d1, d2, d3] }
  | _ => none }
def ForecastRunsWrongFalsely : Prop := forecastRunsRow.holds Tryz.pinned (OpenSpec.ofChange forecastRunsWrong)

/-- 'bullionlaw35.ForecastParts': WHATEVER THE INPUT: true; the input reads as it did. -/
def forecastPartsSpec : ChangeSpec := { name := "forecastParts", fn := fun _ => fun
  | [d1, d2, d3] => { results := [.lit (.bool true)], args := [d1, d2, d3] }
  | _ => none }
def forecastPartsRow : OpenClaim := { program := "ytmmfajokfdaokaagreat", sum := "a996ce28e4b9475b20ef4d5905e6927258746c1e696541fd69b3f843f61a81c7", func := "bullion/bullionlaw35.ForecastParts", spec := "forecastParts", inPlace := ["math/bits.Add64", "math/bits.Sub64", "slices.overlaps[bullion/api.Due]"], unfollowed := true, recurses := true, named := ["math/bits.divideError", "math/bits.overflowError"], plainKeys := false, apart := false }
def ForecastPartsSaid : Prop := forecastPartsRow.holds Tryz.pinned (OpenSpec.ofChange forecastPartsSpec)

/-- ITS FALSE NEIGHBOUR: 'it returns false'. Refute it at one input. -/
def forecastPartsWrong : ChangeSpec := { name := "forecastParts", fn := fun _ => fun
  | [d1, d2, d3] => { results := [.lit (.bool false)], args := [d1, d2, d3] }
  | _ => none }
def ForecastPartsWrongFalsely : Prop := forecastPartsRow.holds Tryz.pinned (OpenSpec.ofChange forecastPartsWrong)

/-- 'bullionlaw25.RiteKeeps': WHATEVER THE INPUT: true; the input reads as it did. -/
def riteKeepsSpec : ChangeSpec := { name := "riteKeeps", fn := fun _ => fun
  | [d1, d2] => { results := [.lit (.bool true)], args := [d1, d2] }
  | _ => none }
def riteKeepsRow : OpenClaim := { program := "ytmmfajokfdaokaagreat", sum := "a996ce28e4b9475b20ef4d5905e6927258746c1e696541fd69b3f843f61a81c7", func := "bullion/bullionlaw25.RiteKeeps", spec := "riteKeeps", inPlace := ["math/bits.Add64", "math/bits.Sub64", "slices.overlaps[bullion/api.Due]"], unfollowed := true, recurses := true, named := ["math/bits.divideError", "math/bits.overflowError"], plainKeys := false, apart := false }
def RiteKeepsSaid : Prop := riteKeepsRow.holds Tryz.pinned (OpenSpec.ofChange riteKeepsSpec)

/-- ITS FALSE NEIGHBOUR: 'it returns false'. Refute it at one input. -/
def riteKeepsWrong : ChangeSpec := { name := "riteKeeps", fn := fun _ => fun
  | [d1, d2] => { results := [.lit (.bool false)], args := [d1, d2] }
  | _ => none }
def RiteKeepsWrongFalsely : Prop := riteKeepsRow.holds Tryz.pinned (OpenSpec.ofChange riteKeepsWrong)

/- THE SECOND FORM. 'bulk': how many values and letters a reading holds, each counted each time it is reached (what is shared counts as often as it is met; a slice's spare places count too). A statement '..UptoSaid' is the law's where the arguments, and the package variables that the reading takes, are together of bulk at most 1048576: NARROWER than '..Said'. Prove '..Said' where nothing that the law and all that it calls make is longer than what came in: it says more and counts as full. Else prove '..UptoSaid'. A law counts once. -/
mutual
def uptoBulk {H : Type} : DataW H → Nat
  | .lit (.string bytes) => bytes.length + 1
  | .lit _ => 1
  | .nil => 1
  | .ptr d => uptoBulk d + 1
  | .slice elems spare => uptoBulkAll elems + uptoBulkAll spare + 1
  | .agg parts => uptoBulkAll parts + 1
  | .iface _ d => uptoBulk d + 1
  | .map entries => uptoBulkEntries entries + 1
  | .held _ => 1
def uptoBulkAll {H : Type} : List (DataW H) → Nat
  | [] => 0
  | d :: r => uptoBulk d + uptoBulkAll r
def uptoBulkEntries {H : Type} : List (Lit × DataW H) → Nat
  | [] => 0
  | x :: r => uptoBulkEntry x + uptoBulkEntries r
def uptoBulkEntry {H : Type} : Lit × DataW H → Nat
  | (.string bytes, d) => bytes.length + uptoBulk d + 1
  | (_, d) => uptoBulk d + 1
 end
def uptoSmall : (H : Type) → List (DataW H) → Bool := fun _ ds => decide (uptoBulkAll ds ≤ 1048576)
def OpenSpec.upto (s : _root_.Go.ChangeSpec) : _root_.Go.OpenSpec := { _root_.Go.OpenSpec.ofChange s with cond := some uptoSmall }

/-- 'bullionlaw24.StateBegins', WHERE WHAT IT READS IS OF BULK AT MOST 1048576: true; the input reads as it did. -/
def stateBeginsUptoRow : OpenClaim := { program := "ytmmfajokfdaokaagreat", sum := "a996ce28e4b9475b20ef4d5905e6927258746c1e696541fd69b3f843f61a81c7", func := "bullion/bullionlaw24.StateBegins", spec := "stateBegins", inPlace := ["math/bits.Add64", "math/bits.Sub64", "slices.overlaps[bullion/api.Due]"], unfollowed := true, recurses := true, named := ["math/bits.divideError", "math/bits.overflowError"], plainKeys := false, apart := false, narrowed := true }
def StateBeginsUptoSaid : Prop := stateBeginsUptoRow.holds Tryz.pinned (OpenSpec.upto stateBeginsSpec)

/-- 'bullionlaw24.StateTicks', WHERE WHAT IT READS IS OF BULK AT MOST 1048576: true; the input reads as it did. -/
def stateTicksUptoRow : OpenClaim := { program := "ytmmfajokfdaokaagreat", sum := "a996ce28e4b9475b20ef4d5905e6927258746c1e696541fd69b3f843f61a81c7", func := "bullion/bullionlaw24.StateTicks", spec := "stateTicks", inPlace := ["math/bits.Add64", "math/bits.Sub64", "slices.overlaps[bullion/api.Due]"], unfollowed := true, recurses := true, named := ["math/bits.divideError", "math/bits.overflowError"], plainKeys := false, apart := false, narrowed := true }
def StateTicksUptoSaid : Prop := stateTicksUptoRow.holds Tryz.pinned (OpenSpec.upto stateTicksSpec)

/-- 'bullionlaw24.StateOwn', WHERE WHAT IT READS IS OF BULK AT MOST 1048576: true; the input reads as it did. -/
def stateOwnUptoRow : OpenClaim := { program := "ytmmfajokfdaokaagreat", sum := "a996ce28e4b9475b20ef4d5905e6927258746c1e696541fd69b3f843f61a81c7", func := "bullion/bullionlaw24.StateOwn", spec := "stateOwn", inPlace := ["math/bits.Add64", "math/bits.Sub64", "slices.overlaps[bullion/api.Due]"], unfollowed := true, recurses := true, named := ["math/bits.divideError", "math/bits.overflowError"], plainKeys := false, apart := false, narrowed := true }
def StateOwnUptoSaid : Prop := stateOwnUptoRow.holds Tryz.pinned (OpenSpec.upto stateOwnSpec)

/-- 'bullionlaw35.ForecastRuns', WHERE WHAT IT READS IS OF BULK AT MOST 1048576: true; the input reads as it did. -/
def forecastRunsUptoRow : OpenClaim := { program := "ytmmfajokfdaokaagreat", sum := "a996ce28e4b9475b20ef4d5905e6927258746c1e696541fd69b3f843f61a81c7", func := "bullion/bullionlaw35.ForecastRuns", spec := "forecastRuns", inPlace := ["math/bits.Add64", "math/bits.Sub64", "slices.overlaps[bullion/api.Due]"], unfollowed := true, recurses := true, named := ["math/bits.divideError", "math/bits.overflowError"], plainKeys := false, apart := false, narrowed := true }
def ForecastRunsUptoSaid : Prop := forecastRunsUptoRow.holds Tryz.pinned (OpenSpec.upto forecastRunsSpec)

/-- 'bullionlaw35.ForecastParts', WHERE WHAT IT READS IS OF BULK AT MOST 1048576: true; the input reads as it did. -/
def forecastPartsUptoRow : OpenClaim := { program := "ytmmfajokfdaokaagreat", sum := "a996ce28e4b9475b20ef4d5905e6927258746c1e696541fd69b3f843f61a81c7", func := "bullion/bullionlaw35.ForecastParts", spec := "forecastParts", inPlace := ["math/bits.Add64", "math/bits.Sub64", "slices.overlaps[bullion/api.Due]"], unfollowed := true, recurses := true, named := ["math/bits.divideError", "math/bits.overflowError"], plainKeys := false, apart := false, narrowed := true }
def ForecastPartsUptoSaid : Prop := forecastPartsUptoRow.holds Tryz.pinned (OpenSpec.upto forecastPartsSpec)

/-- 'bullionlaw25.RiteKeeps', WHERE WHAT IT READS IS OF BULK AT MOST 1048576: true; the input reads as it did. -/
def riteKeepsUptoRow : OpenClaim := { program := "ytmmfajokfdaokaagreat", sum := "a996ce28e4b9475b20ef4d5905e6927258746c1e696541fd69b3f843f61a81c7", func := "bullion/bullionlaw25.RiteKeeps", spec := "riteKeeps", inPlace := ["math/bits.Add64", "math/bits.Sub64", "slices.overlaps[bullion/api.Due]"], unfollowed := true, recurses := true, named := ["math/bits.divideError", "math/bits.overflowError"], plainKeys := false, apart := false, narrowed := true }
def RiteKeepsUptoSaid : Prop := riteKeepsUptoRow.holds Tryz.pinned (OpenSpec.upto riteKeepsSpec)

end Rows
end Go.Proofs.YtmmfajokfdaokaaGreat
