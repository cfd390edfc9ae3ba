/-
  No cell of these rows narrows 'for every input' (looked for: loops, veiled, ifaces, maps, wideKeys, modest, calm, conditions, laid).
  DERIVED. THE GIVEN ROWS OF THIS SEAT. 5 by the template 'for every input the law returns true; each argument reads behind the call as it read before'; 0 by the template 'total and deterministic' (their statements: YtpgdjcaifeapgaaGreatTotals.lean).
  GIVEN WITH THE SEED: the statements are not yours to turn. If you find one false, say at which input.
  Laid BY PROGRAM, IN A SANDBOX (cutbox-rows.mjs): the forced cells as the released guide's own fill.sh prints them over the translation cdbabcaf6ea7db2e… (all of the seat's roots in one cut). By AI agents, Wed Nov 11 2026. No macro, syntax, notation, axiom, sorry.
-/
import Derived.Test.YtpgdjcaifeapgaaGreatChecked
import GoSem.Claim
import GoSem.ClaimJoined
import GoSem.ClaimMapViews
import Derived.JoinedTies
import Derived.KernelRfl
namespace Go.Proofs.YtpgdjcaifeapgaaGreat
/- THE CELL 'sum', in the pinned program and in every row, IS THE sha256 OF THE DUMP (.gsa) THAT YtpgdjcaifeapgaaGreatProg.lean LOADS. Nothing in Lean hashes anything: it is a label: what it is worth is what the hold of that sum in a sandbox is worth. -/
noncomputable def Tryz.pinned : Pinned := { name := "ytpgdjcaifeapgaagreat", sum := "cdbabcaf6ea7db2e8c2dba5328046d5b4c3a5f79dec53a0462e20627f1a0b94d", checked := Tryz.checked }
namespace Rows
def none {H : Type} : Left H := { results := [], args := [] }

/-- 'bullionlaw24.StateBegins': WHATEVER THE INPUT: true; the input reads as it did. -/
def stateBeginsSpec : ChangeSpec := { name := "stateBegins", fn := fun _ => fun
  | [d] => { results := [.lit (.bool true)], args := [d] }
  | _ => none }
def stateBeginsRow : OpenClaim := { program := "ytpgdjcaifeapgaagreat", sum := "cdbabcaf6ea7db2e8c2dba5328046d5b4c3a5f79dec53a0462e20627f1a0b94d", func := "bullion/bullionlaw24.StateBegins", spec := "stateBegins", inPlace := ["math/bits.Add64", "math/bits.Sub64", "slices.overlaps[bullion/api.Due]"], unfollowed := true, recurses := true, named := ["math/bits.divideError", "math/bits.overflowError"], plainKeys := false, apart := false }
def StateBeginsSaid : Prop := stateBeginsRow.holds Tryz.pinned (OpenSpec.ofChange stateBeginsSpec)

/-- ITS FALSE NEIGHBOUR: 'it returns false'. Refute it at one input. -/
def stateBeginsWrong : ChangeSpec := { name := "stateBegins", fn := fun _ => fun
  | [d] => { results := [.lit (.bool false)], args := [d] }
  | _ => none }
def StateBeginsWrongFalsely : Prop := stateBeginsRow.holds Tryz.pinned (OpenSpec.ofChange stateBeginsWrong)

/-- 'bullionlaw24.StateTicks': WHATEVER THE INPUT: true; the input reads as it did. -/
def stateTicksSpec : ChangeSpec := { name := "stateTicks", fn := fun _ => fun
  | [d] => { results := [.lit (.bool true)], args := [d] }
  | _ => none }
def stateTicksRow : OpenClaim := { program := "ytpgdjcaifeapgaagreat", sum := "cdbabcaf6ea7db2e8c2dba5328046d5b4c3a5f79dec53a0462e20627f1a0b94d", func := "bullion/bullionlaw24.StateTicks", spec := "stateTicks", inPlace := ["math/bits.Add64", "math/bits.Sub64", "slices.overlaps[bullion/api.Due]"], unfollowed := true, recurses := true, named := ["math/bits.divideError", "math/bits.overflowError"], plainKeys := false, apart := false }
def StateTicksSaid : Prop := stateTicksRow.holds Tryz.pinned (OpenSpec.ofChange stateTicksSpec)

/-- ITS FALSE NEIGHBOUR: 'it returns false'. Refute it at one input. -/
def stateTicksWrong : ChangeSpec := { name := "stateTicks", fn := fun _ => fun
  | [d] => { results := [.lit (.bool false)], args := [d] }
  | _ => none }
def StateTicksWrongFalsely : Prop := stateTicksRow.holds Tryz.pinned (OpenSpec.ofChange stateTicksWrong)

/-- 'bullionlaw24.StateOwn': WHATEVER THE INPUT: true; the input reads as it did. -/
def stateOwnSpec : ChangeSpec := { name := "stateOwn", fn := fun _ => fun
  | [d] => { results := [.lit (.bool true)], args := [d] }
  | _ => none }
def stateOwnRow : OpenClaim := { program := "ytpgdjcaifeapgaagreat", sum := "cdbabcaf6ea7db2e8c2dba5328046d5b4c3a5f79dec53a0462e20627f1a0b94d", func := "bullion/bullionlaw24.StateOwn", spec := "stateOwn", inPlace := ["math/bits.Add64", "math/bits.Sub64", "slices.overlaps[bullion/api.Due]"], unfollowed := true, recurses := true, named := ["math/bits.divideError", "math/bits.overflowError"], plainKeys := false, apart := false }
def StateOwnSaid : Prop := stateOwnRow.holds Tryz.pinned (OpenSpec.ofChange stateOwnSpec)

/-- ITS FALSE NEIGHBOUR: 'it returns false'. Refute it at one input. -/
def stateOwnWrong : ChangeSpec := { name := "stateOwn", fn := fun _ => fun
  | [d] => { results := [.lit (.bool false)], args := [d] }
  | _ => none }
def StateOwnWrongFalsely : Prop := stateOwnRow.holds Tryz.pinned (OpenSpec.ofChange stateOwnWrong)

/-- 'bullionlaw24.StateKeeps': WHATEVER THE INPUT: true; the input reads as it did. -/
def stateKeepsSpec : ChangeSpec := { name := "stateKeeps", fn := fun _ => fun
  | [d1, d2] => { results := [.lit (.bool true)], args := [d1, d2] }
  | _ => none }
def stateKeepsRow : OpenClaim := { program := "ytpgdjcaifeapgaagreat", sum := "cdbabcaf6ea7db2e8c2dba5328046d5b4c3a5f79dec53a0462e20627f1a0b94d", func := "bullion/bullionlaw24.StateKeeps", spec := "stateKeeps", inPlace := ["math/bits.Add64", "math/bits.Sub64", "slices.overlaps[bullion/api.Due]"], unfollowed := true, recurses := true, named := ["math/bits.divideError", "math/bits.overflowError"], plainKeys := false, apart := false }
def StateKeepsSaid : Prop := stateKeepsRow.holds Tryz.pinned (OpenSpec.ofChange stateKeepsSpec)

/-- ITS FALSE NEIGHBOUR: 'it returns false'. Refute it at one input. -/
def stateKeepsWrong : ChangeSpec := { name := "stateKeeps", fn := fun _ => fun
  | [d1, d2] => { results := [.lit (.bool false)], args := [d1, d2] }
  | _ => none }
def StateKeepsWrongFalsely : Prop := stateKeepsRow.holds Tryz.pinned (OpenSpec.ofChange stateKeepsWrong)

/-- 'bullionlaw24.StateMints': WHATEVER THE INPUT: true; the input reads as it did. -/
def stateMintsSpec : ChangeSpec := { name := "stateMints", fn := fun _ => fun
  | [d] => { results := [.lit (.bool true)], args := [d] }
  | _ => none }
def stateMintsRow : OpenClaim := { program := "ytpgdjcaifeapgaagreat", sum := "cdbabcaf6ea7db2e8c2dba5328046d5b4c3a5f79dec53a0462e20627f1a0b94d", func := "bullion/bullionlaw24.StateMints", spec := "stateMints", inPlace := ["math/bits.Add64", "math/bits.Sub64", "slices.overlaps[bullion/api.Due]"], unfollowed := true, recurses := true, named := ["math/bits.divideError", "math/bits.overflowError"], plainKeys := false, apart := false }
def StateMintsSaid : Prop := stateMintsRow.holds Tryz.pinned (OpenSpec.ofChange stateMintsSpec)

/-- ITS FALSE NEIGHBOUR: 'it returns false'. Refute it at one input. -/
def stateMintsWrong : ChangeSpec := { name := "stateMints", fn := fun _ => fun
  | [d] => { results := [.lit (.bool false)], args := [d] }
  | _ => none }
def StateMintsWrongFalsely : Prop := stateMintsRow.holds Tryz.pinned (OpenSpec.ofChange stateMintsWrong)

/- THE SECOND FORM. 'bulk': how many values and letters a reading holds, each counted each time it is reached (what is shared counts as often as it is met; a slice's spare places count too). A statement '..UptoSaid' is the law's where the arguments, and the package variables that the reading takes, are together of bulk at most 1048576: NARROWER than '..Said'. Prove '..Said' where nothing that the law and all that it calls make is longer than what came in: it says more and counts as full. Else prove '..UptoSaid'. A law counts once. -/
mutual
def uptoBulk {H : Type} : DataW H → Nat
  | .lit (.string bytes) => bytes.length + 1
  | .lit _ => 1
  | .nil => 1
  | .ptr d => uptoBulk d + 1
  | .slice elems spare => uptoBulkAll elems + uptoBulkAll spare + 1
  | .agg parts => uptoBulkAll parts + 1
  | .iface _ d => uptoBulk d + 1
  | .map entries => uptoBulkEntries entries + 1
  | .held _ => 1
def uptoBulkAll {H : Type} : List (DataW H) → Nat
  | [] => 0
  | d :: r => uptoBulk d + uptoBulkAll r
def uptoBulkEntries {H : Type} : List (Lit × DataW H) → Nat
  | [] => 0
  | x :: r => uptoBulkEntry x + uptoBulkEntries r
def uptoBulkEntry {H : Type} : Lit × DataW H → Nat
  | (.string bytes, d) => bytes.length + uptoBulk d + 1
  | (_, d) => uptoBulk d + 1
 end
def uptoSmall : (H : Type) → List (DataW H) → Bool := fun _ ds => decide (uptoBulkAll ds ≤ 1048576)
def OpenSpec.upto (s : _root_.Go.ChangeSpec) : _root_.Go.OpenSpec := { _root_.Go.OpenSpec.ofChange s with cond := some uptoSmall }

/-- 'bullionlaw24.StateBegins', WHERE WHAT IT READS IS OF BULK AT MOST 1048576: true; the input reads as it did. -/
def stateBeginsUptoRow : OpenClaim := { program := "ytpgdjcaifeapgaagreat", sum := "cdbabcaf6ea7db2e8c2dba5328046d5b4c3a5f79dec53a0462e20627f1a0b94d", func := "bullion/bullionlaw24.StateBegins", spec := "stateBegins", inPlace := ["math/bits.Add64", "math/bits.Sub64", "slices.overlaps[bullion/api.Due]"], unfollowed := true, recurses := true, named := ["math/bits.divideError", "math/bits.overflowError"], plainKeys := false, apart := false, narrowed := true }
def StateBeginsUptoSaid : Prop := stateBeginsUptoRow.holds Tryz.pinned (OpenSpec.upto stateBeginsSpec)

/-- 'bullionlaw24.StateTicks', WHERE WHAT IT READS IS OF BULK AT MOST 1048576: true; the input reads as it did. -/
def stateTicksUptoRow : OpenClaim := { program := "ytpgdjcaifeapgaagreat", sum := "cdbabcaf6ea7db2e8c2dba5328046d5b4c3a5f79dec53a0462e20627f1a0b94d", func := "bullion/bullionlaw24.StateTicks", spec := "stateTicks", inPlace := ["math/bits.Add64", "math/bits.Sub64", "slices.overlaps[bullion/api.Due]"], unfollowed := true, recurses := true, named := ["math/bits.divideError", "math/bits.overflowError"], plainKeys := false, apart := false, narrowed := true }
def StateTicksUptoSaid : Prop := stateTicksUptoRow.holds Tryz.pinned (OpenSpec.upto stateTicksSpec)

/-- 'bullionlaw24.StateOwn', WHERE WHAT IT READS IS OF BULK AT MOST 1048576: true; the input reads as it did. -/
def stateOwnUptoRow : OpenClaim := { program := "ytpgdjcaifeapgaagreat", sum := "cdbabcaf6ea7db2e8c2dba5328046d5b4c3a5f79dec53a0462e20627f1a0b94d", func := "bullion/bullionlaw24.StateOwn", spec := "stateOwn", inPlace := ["math/bits.Add64", "math/bits.Sub64", "slices.overlaps[bullion/api.Due]"], unfollowed := true, recurses := true, named := ["math/bits.divideError", "math/bits.overflowError"], plainKeys := false, apart := false, narrowed := true }
def StateOwnUptoSaid : Prop := stateOwnUptoRow.holds Tryz.pinned (OpenSpec.upto stateOwnSpec)

/-- 'bullionlaw24.StateKeeps', WHERE WHAT IT READS IS OF BULK AT MOST 1048576: true; the input reads as it did. -/
def stateKeepsUptoRow : OpenClaim := { program := "ytpgdjcaifeapgaagreat", sum := "cdbabcaf6ea7db2e8c2dba5328046d5b4c3a5f79dec53a0462e20627f1a0b94d", func := "bullion/bullionlaw24.StateKeeps", spec := "stateKeeps", inPlace := ["math/bits.Add64", "math/bits.Sub64", "slices.overlaps[bullion/api.Due]"], unfollowed := true, recurses := true, named := ["math/bits.divideError", "math/bits.overflowError"], plainKeys := false, apart := false, narrowed := true }
def StateKeepsUptoSaid : Prop := stateKeepsUptoRow.holds Tryz.pinned (OpenSpec.upto stateKeepsSpec)

/-- 'bullionlaw24.StateMints', WHERE WHAT IT READS IS OF BULK AT MOST 1048576: true; the input reads as it did. -/
def stateMintsUptoRow : OpenClaim := { program := "ytpgdjcaifeapgaagreat", sum := "cdbabcaf6ea7db2e8c2dba5328046d5b4c3a5f79dec53a0462e20627f1a0b94d", func := "bullion/bullionlaw24.StateMints", spec := "stateMints", inPlace := ["math/bits.Add64", "math/bits.Sub64", "slices.overlaps[bullion/api.Due]"], unfollowed := true, recurses := true, named := ["math/bits.divideError", "math/bits.overflowError"], plainKeys := false, apart := false, narrowed := true }
def StateMintsUptoSaid : Prop := stateMintsUptoRow.holds Tryz.pinned (OpenSpec.upto stateMintsSpec)

end Rows
end Go.Proofs.YtpgdjcaifeapgaaGreat
