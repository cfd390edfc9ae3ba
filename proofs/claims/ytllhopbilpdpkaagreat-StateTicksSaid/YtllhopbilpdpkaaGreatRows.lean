/-
  No cell of these rows narrows 'for every input' (looked for: loops, veiled, ifaces, maps, wideKeys, modest, calm, conditions, laid).
  DERIVED. THE GIVEN ROWS OF THIS SEAT. 6 by the template 'for every input the law returns true; each argument reads behind the call as it read before'; 0 by the template 'total and deterministic' (their statements: YtllhopbilpdpkaaGreatTotals.lean).
  GIVEN WITH THE SEED: the statements are not yours to turn. If you find one false, say at which input.
  Laid BY PROGRAM, IN A SANDBOX (cutbox-rows.mjs): the forced cells as the released guide's own fill.sh prints them over the translation 4ea06540609fcf6c… (all of the seat's roots in one cut). By AI agents, Wed Nov 11 2026. No macro, syntax, notation, axiom, sorry.
-/
import Derived.Test.YtllhopbilpdpkaaGreatChecked
import GoSem.Claim
import GoSem.ClaimJoined
import GoSem.ClaimMapViews
import Derived.JoinedTies
import Derived.KernelRfl
namespace Go.Proofs.YtllhopbilpdpkaaGreat
/- THE CELL 'sum', in the pinned program and in every row, IS THE sha256 OF THE DUMP (.gsa) THAT YtllhopbilpdpkaaGreatProg.lean LOADS. Nothing in Lean hashes anything: it is a label: what it is worth is what the hold of that sum in a sandbox is worth. -/
noncomputable def Tryz.pinned : Pinned := { name := "ytllhopbilpdpkaagreat", sum := "4ea06540609fcf6c3aebc243acb35bf3aad4fe3c6e4d461803be7a3ad81b7c80", checked := Tryz.checked }
namespace Rows
def none {H : Type} : Left H := { results := [], args := [] }

/-- 'bullionlaw31.AuditBlocks': WHATEVER THE INPUT: true; the input reads as it did. -/
def auditBlocksSpec : ChangeSpec := { name := "auditBlocks", fn := fun _ => fun
  | [d1, d2, d3] => { results := [.lit (.bool true)], args := [d1, d2, d3] }
  | _ => none }
def auditBlocksRow : OpenClaim := { program := "ytllhopbilpdpkaagreat", sum := "4ea06540609fcf6c3aebc243acb35bf3aad4fe3c6e4d461803be7a3ad81b7c80", func := "bullion/bullionlaw31.AuditBlocks", spec := "auditBlocks", inPlace := ["math/bits.Add64", "math/bits.Sub64", "slices.overlaps[bullion/api.Due]"], unfollowed := true, recurses := true, named := ["math/bits.divideError", "math/bits.overflowError"], plainKeys := false, apart := false }
def AuditBlocksSaid : Prop := auditBlocksRow.holds Tryz.pinned (OpenSpec.ofChange auditBlocksSpec)

/-- ITS FALSE NEIGHBOUR: 'it returns false'. Refute it at one input. -/
def auditBlocksWrong : ChangeSpec := { name := "auditBlocks", fn := fun _ => fun
  | [d1, d2, d3] => { results := [.lit (.bool false)], args := [d1, d2, d3] }
  | _ => none }
def AuditBlocksWrongFalsely : Prop := auditBlocksRow.holds Tryz.pinned (OpenSpec.ofChange auditBlocksWrong)

/-- 'bullionlaw31.AuditLimits': WHATEVER THE INPUT: true; the input reads as it did. -/
def auditLimitsSpec : ChangeSpec := { name := "auditLimits", fn := fun _ => fun
  | [d1, d2] => { results := [.lit (.bool true)], args := [d1, d2] }
  | _ => none }
def auditLimitsRow : OpenClaim := { program := "ytllhopbilpdpkaagreat", sum := "4ea06540609fcf6c3aebc243acb35bf3aad4fe3c6e4d461803be7a3ad81b7c80", func := "bullion/bullionlaw31.AuditLimits", spec := "auditLimits", inPlace := ["math/bits.Add64", "math/bits.Sub64", "slices.overlaps[bullion/api.Due]"], unfollowed := true, recurses := true, named := ["math/bits.divideError", "math/bits.overflowError"], plainKeys := false, apart := false }
def AuditLimitsSaid : Prop := auditLimitsRow.holds Tryz.pinned (OpenSpec.ofChange auditLimitsSpec)

/-- ITS FALSE NEIGHBOUR: 'it returns false'. Refute it at one input. -/
def auditLimitsWrong : ChangeSpec := { name := "auditLimits", fn := fun _ => fun
  | [d1, d2] => { results := [.lit (.bool false)], args := [d1, d2] }
  | _ => none }
def AuditLimitsWrongFalsely : Prop := auditLimitsRow.holds Tryz.pinned (OpenSpec.ofChange auditLimitsWrong)

/-- 'bullionlaw41.SlipTrue': WHATEVER THE INPUT: true; the input reads as it did. -/
def slipTrueSpec : ChangeSpec := { name := "slipTrue", fn := fun _ => fun
  | [d] => { results := [.lit (.bool true)], args := [d] }
  | _ => none }
def slipTrueRow : OpenClaim := { program := "ytllhopbilpdpkaagreat", sum := "4ea06540609fcf6c3aebc243acb35bf3aad4fe3c6e4d461803be7a3ad81b7c80", func := "bullion/bullionlaw41.SlipTrue", spec := "slipTrue", inPlace := ["math/bits.Add64", "math/bits.Sub64", "slices.overlaps[bullion/api.Due]"], unfollowed := true, recurses := true, named := ["math/bits.divideError", "math/bits.overflowError"], plainKeys := false, apart := false }
def SlipTrueSaid : Prop := slipTrueRow.holds Tryz.pinned (OpenSpec.ofChange slipTrueSpec)

/-- ITS FALSE NEIGHBOUR: 'it returns false'. Refute it at one input. -/
def slipTrueWrong : ChangeSpec := { name := "slipTrue", fn := fun _ => fun
  | [d] => { results := [.lit (.bool false)], args := [d] }
  | _ => none }
def SlipTrueWrongFalsely : Prop := slipTrueRow.holds Tryz.pinned (OpenSpec.ofChange slipTrueWrong)

/-- 'bullionlaw24.StateTicks': WHATEVER THE INPUT: true; the input reads as it did. -/
def stateTicksSpec : ChangeSpec := { name := "stateTicks", fn := fun _ => fun
  | [d] => { results := [.lit (.bool true)], args := [d] }
  | _ => none }
def stateTicksRow : OpenClaim := { program := "ytllhopbilpdpkaagreat", sum := "4ea06540609fcf6c3aebc243acb35bf3aad4fe3c6e4d461803be7a3ad81b7c80", func := "bullion/bullionlaw24.StateTicks", spec := "stateTicks", inPlace := ["math/bits.Add64", "math/bits.Sub64", "slices.overlaps[bullion/api.Due]"], unfollowed := true, recurses := true, named := ["math/bits.divideError", "math/bits.overflowError"], plainKeys := false, apart := false }
def StateTicksSaid : Prop := stateTicksRow.holds Tryz.pinned (OpenSpec.ofChange stateTicksSpec)

/-- ITS FALSE NEIGHBOUR: 'it returns false'. Refute it at one input. -/
def stateTicksWrong : ChangeSpec := { name := "stateTicks", fn := fun _ => fun
  | [d] => { results := [.lit (.bool false)], args := [d] }
  | _ => none }
def StateTicksWrongFalsely : Prop := stateTicksRow.holds Tryz.pinned (OpenSpec.ofChange stateTicksWrong)

/-- 'bullionlaw35.ForecastRuns': WHATEVER THE INPUT: true; the input reads as it did. -/
def forecastRunsSpec : ChangeSpec := { name := "forecastRuns", fn := fun _ => fun
  | [d1, d2, d3] => { results := [.lit (.bool true)], args := [d1, d2, d3] }
  | _ => none }
def forecastRunsRow : OpenClaim := { program := "ytllhopbilpdpkaagreat", sum := "4ea06540609fcf6c3aebc243acb35bf3aad4fe3c6e4d461803be7a3ad81b7c80", func := "bullion/bullionlaw35.ForecastRuns", spec := "forecastRuns", inPlace := ["math/bits.Add64", "math/bits.Sub64", "slices.overlaps[bullion/api.Due]"], unfollowed := true, recurses := true, named := ["math/bits.divideError", "math/bits.overflowError"], plainKeys := false, apart := false }
def ForecastRunsSaid : Prop := forecastRunsRow.holds Tryz.pinned (OpenSpec.ofChange forecastRunsSpec)

/-- ITS FALSE NEIGHBOUR: 'it returns false'. Refute it at one input. -/
def forecastRunsWrong : ChangeSpec := { name := "forecastRuns", fn := fun _ => fun
  | [d1, d2, d3] => { results := [.lit (.bool false)], args := [d1, d2, d3] }
  | _ => none }
def ForecastRunsWrongFalsely : Prop := forecastRunsRow.holds Tryz.pinned (OpenSpec.ofChange forecastRunsWrong)

/-- 'bullionlaw42.TrialCompares': WHATEVER THE INPUT: true; the input reads as it did. -/
def trialComparesSpec : ChangeSpec := { name := "trialCompares", fn := fun _ => fun
  | [d1, d2] => { results := [.lit (.bool true)], args := [d1, d2] }
  | _ => none }
def trialComparesRow : OpenClaim := { program := "ytllhopbilpdpkaagreat", sum := "4ea06540609fcf6c3aebc243acb35bf3aad4fe3c6e4d461803be7a3ad81b7c80", func := "bullion/bullionlaw42.TrialCompares", spec := "trialCompares", inPlace := ["math/bits.Add64", "slices.overlaps[bullion/api.Due]", "math/bits.Sub64"], unfollowed := true, recurses := true, named := ["math/bits.divideError", "math/bits.overflowError"], plainKeys := false, apart := false }
def TrialComparesSaid : Prop := trialComparesRow.holds Tryz.pinned (OpenSpec.ofChange trialComparesSpec)

/-- ITS FALSE NEIGHBOUR: 'it returns false'. Refute it at one input. -/
def trialComparesWrong : ChangeSpec := { name := "trialCompares", fn := fun _ => fun
  | [d1, d2] => { results := [.lit (.bool false)], args := [d1, d2] }
  | _ => none }
def TrialComparesWrongFalsely : Prop := trialComparesRow.holds Tryz.pinned (OpenSpec.ofChange trialComparesWrong)

/- THE SECOND FORM. 'bulk': how many values and letters a reading holds, each counted each time it is reached (what is shared counts as often as it is met; a slice's spare places count too). A statement '..UptoSaid' is the law's where the arguments, and the package variables that the reading takes, are together of bulk at most 1048576: NARROWER than '..Said'. Prove '..Said' where nothing that the law and all that it calls make is longer than what came in: it says more and counts as full. Else prove '..UptoSaid'. A law counts once. -/
mutual
def uptoBulk {H : Type} : DataW H → Nat
  | .lit (.string bytes) => bytes.length + 1
  | .lit _ => 1
  | .nil => 1
  | .ptr d => uptoBulk d + 1
  | .slice elems spare => uptoBulkAll elems + uptoBulkAll spare + 1
  | .agg parts => uptoBulkAll parts + 1
  | .iface _ d => uptoBulk d + 1
  | .map entries => uptoBulkEntries entries + 1
  | .held _ => 1
def uptoBulkAll {H : Type} : List (DataW H) → Nat
  | [] => 0
  | d :: r => uptoBulk d + uptoBulkAll r
def uptoBulkEntries {H : Type} : List (Lit × DataW H) → Nat
  | [] => 0
  | x :: r => uptoBulkEntry x + uptoBulkEntries r
def uptoBulkEntry {H : Type} : Lit × DataW H → Nat
  | (.string bytes, d) => bytes.length + uptoBulk d + 1
  | (_, d) => uptoBulk d + 1
 end
def uptoSmall : (H : Type) → List (DataW H) → Bool := fun _ ds => decide (uptoBulkAll ds ≤ 1048576)
def OpenSpec.upto (s : _root_.Go.ChangeSpec) : _root_.Go.OpenSpec := { _root_.Go.OpenSpec.ofChange s with cond := some uptoSmall }

/-- 'bullionlaw31.AuditBlocks', WHERE WHAT IT READS IS OF BULK AT MOST 1048576: true; the input reads as it did. -/
def auditBlocksUptoRow : OpenClaim := { program := "ytllhopbilpdpkaagreat", sum := "4ea06540609fcf6c3aebc243acb35bf3aad4fe3c6e4d461803be7a3ad81b7c80", func := "bullion/bullionlaw31.AuditBlocks", spec := "auditBlocks", inPlace := ["math/bits.Add64", "math/bits.Sub64", "slices.overlaps[bullion/api.Due]"], unfollowed := true, recurses := true, named := ["math/bits.divideError", "math/bits.overflowError"], plainKeys := false, apart := false, narrowed := true }
def AuditBlocksUptoSaid : Prop := auditBlocksUptoRow.holds Tryz.pinned (OpenSpec.upto auditBlocksSpec)

/-- 'bullionlaw31.AuditLimits', WHERE WHAT IT READS IS OF BULK AT MOST 1048576: true; the input reads as it did. -/
def auditLimitsUptoRow : OpenClaim := { program := "ytllhopbilpdpkaagreat", sum := "4ea06540609fcf6c3aebc243acb35bf3aad4fe3c6e4d461803be7a3ad81b7c80", func := "bullion/bullionlaw31.AuditLimits", spec := "auditLimits", inPlace := ["math/bits.Add64", "math/bits.Sub64", "slices.overlaps[bullion/api.Due]"], unfollowed := true, recurses := true, named := ["math/bits.divideError", "math/bits.overflowError"], plainKeys := false, apart := false, narrowed := true }
def AuditLimitsUptoSaid : Prop := auditLimitsUptoRow.holds Tryz.pinned (OpenSpec.upto auditLimitsSpec)

/-- 'bullionlaw41.SlipTrue', WHERE WHAT IT READS IS OF BULK AT MOST 1048576: true; the input reads as it did. -/
def slipTrueUptoRow : OpenClaim := { program := "ytllhopbilpdpkaagreat", sum := "4ea06540609fcf6c3aebc243acb35bf3aad4fe3c6e4d461803be7a3ad81b7c80", func := "bullion/bullionlaw41.SlipTrue", spec := "slipTrue", inPlace := ["math/bits.Add64", "math/bits.Sub64", "slices.overlaps[bullion/api.Due]"], unfollowed := true, recurses := true, named := ["math/bits.divideError", "math/bits.overflowError"], plainKeys := false, apart := false, narrowed := true }
def SlipTrueUptoSaid : Prop := slipTrueUptoRow.holds Tryz.pinned (OpenSpec.upto slipTrueSpec)

/-- 'bullionlaw24.StateTicks', WHERE WHAT IT READS IS OF BULK AT MOST 1048576: true; the input reads as it did. -/
def stateTicksUptoRow : OpenClaim := { program := "ytllhopbilpdpkaagreat", sum := "4ea06540609fcf6c3aebc243acb35bf3aad4fe3c6e4d461803be7a3ad81b7c80", func := "bullion/bullionlaw24.StateTicks", spec := "stateTicks", inPlace := ["math/bits.Add64", "math/bits.Sub64", "slices.overlaps[bullion/api.Due]"], unfollowed := true, recurses := true, named := ["math/bits.divideError", "math/bits.overflowError"], plainKeys := false, apart := false, narrowed := true }
def StateTicksUptoSaid : Prop := stateTicksUptoRow.holds Tryz.pinned (OpenSpec.upto stateTicksSpec)

/-- 'bullionlaw35.ForecastRuns', WHERE WHAT IT READS IS OF BULK AT MOST 1048576: true; the input reads as it did. -/
def forecastRunsUptoRow : OpenClaim := { program := "ytllhopbilpdpkaagreat", sum := "4ea06540609fcf6c3aebc243acb35bf3aad4fe3c6e4d461803be7a3ad81b7c80", func := "bullion/bullionlaw35.ForecastRuns", spec := "forecastRuns", inPlace := ["math/bits.Add64", "math/bits.Sub64", "slices.overlaps[bullion/api.Due]"], unfollowed := true, recurses := true, named := ["math/bits.divideError", "math/bits.overflowError"], plainKeys := false, apart := false, narrowed := true }
def ForecastRunsUptoSaid : Prop := forecastRunsUptoRow.holds Tryz.pinned (OpenSpec.upto forecastRunsSpec)

/-- 'bullionlaw42.TrialCompares', WHERE WHAT IT READS IS OF BULK AT MOST 1048576: true; the input reads as it did. -/
def trialComparesUptoRow : OpenClaim := { program := "ytllhopbilpdpkaagreat", sum := "4ea06540609fcf6c3aebc243acb35bf3aad4fe3c6e4d461803be7a3ad81b7c80", func := "bullion/bullionlaw42.TrialCompares", spec := "trialCompares", inPlace := ["math/bits.Add64", "slices.overlaps[bullion/api.Due]", "math/bits.Sub64"], unfollowed := true, recurses := true, named := ["math/bits.divideError", "math/bits.overflowError"], plainKeys := false, apart := false, narrowed := true }
def TrialComparesUptoSaid : Prop := trialComparesUptoRow.holds Tryz.pinned (OpenSpec.upto trialComparesSpec)

end Rows
end Go.Proofs.YtllhopbilpdpkaaGreat
