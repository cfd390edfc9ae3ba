/-
  No cell of these rows narrows 'for every input' (looked for: loops, veiled, ifaces, maps, wideKeys, modest, calm, conditions, laid).
  DERIVED. THE GIVEN ROWS OF THIS SEAT. 3 by the template 'for every input the law returns true; each argument reads behind the call as it read before'; 0 by the template 'total and deterministic' (their statements: YtkmojeioedjfkaaGreatTotals.lean).
  GIVEN WITH THE SEED: the statements are not yours to turn. If you find one false, say at which input.
  Laid BY PROGRAM, IN A SANDBOX (cutbox-rows.mjs): the forced cells as the released guide's own fill.sh prints them over the translation 76aeb0ec4a752c8d… (all of the seat's roots in one cut). By AI agents, Wed Nov 11 2026. No macro, syntax, notation, axiom, sorry.
-/
import Derived.Test.YtkmojeioedjfkaaGreatChecked
import GoSem.Claim
import GoSem.ClaimJoined
import GoSem.ClaimMapViews
import Derived.JoinedTies
import Derived.KernelRfl
namespace Go.Proofs.YtkmojeioedjfkaaGreat
/- THE CELL 'sum', in the pinned program and in every row, IS THE sha256 OF THE DUMP (.gsa) THAT YtkmojeioedjfkaaGreatProg.lean LOADS. Nothing in Lean hashes anything: it is a label: what it is worth is what the hold of that sum in a sandbox is worth. -/
noncomputable def Tryz.pinned : Pinned := { name := "ytkmojeioedjfkaagreat", sum := "76aeb0ec4a752c8d487d64bfc0b0549a272c3d3b5155e703c80682687453617f", checked := Tryz.checked }
namespace Rows
def none {H : Type} : Left H := { results := [], args := [] }

/-- 'bullionlaw26.ImageFull': WHATEVER THE INPUT: true; the input reads as it did. -/
def imageFullSpec : ChangeSpec := { name := "imageFull", fn := fun _ => fun
  | [d1, d2] => { results := [.lit (.bool true)], args := [d1, d2] }
  | _ => none }
def imageFullRow : OpenClaim := { program := "ytkmojeioedjfkaagreat", sum := "76aeb0ec4a752c8d487d64bfc0b0549a272c3d3b5155e703c80682687453617f", func := "bullion/bullionlaw26.ImageFull", spec := "imageFull", inPlace := ["math/bits.Add64"], unfollowed := true, recurses := true, plainKeys := false, apart := false }
def ImageFullSaid : Prop := imageFullRow.holds Tryz.pinned (OpenSpec.ofChange imageFullSpec)

/-- ITS FALSE NEIGHBOUR: 'it returns false'. Refute it at one input. -/
def imageFullWrong : ChangeSpec := { name := "imageFull", fn := fun _ => fun
  | [d1, d2] => { results := [.lit (.bool false)], args := [d1, d2] }
  | _ => none }
def ImageFullWrongFalsely : Prop := imageFullRow.holds Tryz.pinned (OpenSpec.ofChange imageFullWrong)

/-- 'bullionlaw25.RiteDoes': WHATEVER THE INPUT: true; the input reads as it did. -/
def riteDoesSpec : ChangeSpec := { name := "riteDoes", fn := fun _ => fun
  | [d1, d2] => { results := [.lit (.bool true)], args := [d1, d2] }
  | _ => none }
def riteDoesRow : OpenClaim := { program := "ytkmojeioedjfkaagreat", sum := "76aeb0ec4a752c8d487d64bfc0b0549a272c3d3b5155e703c80682687453617f", func := "bullion/bullionlaw25.RiteDoes", spec := "riteDoes", inPlace := ["math/bits.Add64", "math/bits.Sub64"], unfollowed := true, recurses := true, plainKeys := false, apart := false }
def RiteDoesSaid : Prop := riteDoesRow.holds Tryz.pinned (OpenSpec.ofChange riteDoesSpec)

/-- ITS FALSE NEIGHBOUR: 'it returns false'. Refute it at one input. -/
def riteDoesWrong : ChangeSpec := { name := "riteDoes", fn := fun _ => fun
  | [d1, d2] => { results := [.lit (.bool false)], args := [d1, d2] }
  | _ => none }
def RiteDoesWrongFalsely : Prop := riteDoesRow.holds Tryz.pinned (OpenSpec.ofChange riteDoesWrong)

/-- 'bullionlaw25.RiteOne': WHATEVER THE INPUT: true; the input reads as it did. -/
def riteOneSpec : ChangeSpec := { name := "riteOne", fn := fun _ => fun
  | [d1, d2] => { results := [.lit (.bool true)], args := [d1, d2] }
  | _ => none }
def riteOneRow : OpenClaim := { program := "ytkmojeioedjfkaagreat", sum := "76aeb0ec4a752c8d487d64bfc0b0549a272c3d3b5155e703c80682687453617f", func := "bullion/bullionlaw25.RiteOne", spec := "riteOne", inPlace := ["math/bits.Add64", "math/bits.Sub64"], unfollowed := true, recurses := true, plainKeys := false, apart := false }
def RiteOneSaid : Prop := riteOneRow.holds Tryz.pinned (OpenSpec.ofChange riteOneSpec)

/-- ITS FALSE NEIGHBOUR: 'it returns false'. Refute it at one input. -/
def riteOneWrong : ChangeSpec := { name := "riteOne", fn := fun _ => fun
  | [d1, d2] => { results := [.lit (.bool false)], args := [d1, d2] }
  | _ => none }
def RiteOneWrongFalsely : Prop := riteOneRow.holds Tryz.pinned (OpenSpec.ofChange riteOneWrong)

/- THE SECOND FORM. 'bulk': how many values and letters a reading holds, each counted each time it is reached (what is shared counts as often as it is met; a slice's spare places count too). A statement '..UptoSaid' is the law's where the arguments, and the package variables that the reading takes, are together of bulk at most 1048576: NARROWER than '..Said'. Prove '..Said' where nothing that the law and all that it calls make is longer than what came in: it says more and counts as full. Else prove '..UptoSaid'. A law counts once. -/
mutual
def uptoBulk {H : Type} : DataW H → Nat
  | .lit (.string bytes) => bytes.length + 1
  | .lit _ => 1
  | .nil => 1
  | .ptr d => uptoBulk d + 1
  | .slice elems spare => uptoBulkAll elems + uptoBulkAll spare + 1
  | .agg parts => uptoBulkAll parts + 1
  | .iface _ d => uptoBulk d + 1
  | .map entries => uptoBulkEntries entries + 1
  | .held _ => 1
def uptoBulkAll {H : Type} : List (DataW H) → Nat
  | [] => 0
  | d :: r => uptoBulk d + uptoBulkAll r
def uptoBulkEntries {H : Type} : List (Lit × DataW H) → Nat
  | [] => 0
  | x :: r => uptoBulkEntry x + uptoBulkEntries r
def uptoBulkEntry {H : Type} : Lit × DataW H → Nat
  | (.string bytes, d) => bytes.length + uptoBulk d + 1
  | (_, d) => uptoBulk d + 1
 end
def uptoSmall : (H : Type) → List (DataW H) → Bool := fun _ ds => decide (uptoBulkAll ds ≤ 1048576)
def OpenSpec.upto (s : _root_.Go.ChangeSpec) : _root_.Go.OpenSpec := { _root_.Go.OpenSpec.ofChange s with cond := some uptoSmall }

/-- 'bullionlaw26.ImageFull', WHERE WHAT IT READS IS OF BULK AT MOST 1048576: true; the input reads as it did. -/
def imageFullUptoRow : OpenClaim := { program := "ytkmojeioedjfkaagreat", sum := "76aeb0ec4a752c8d487d64bfc0b0549a272c3d3b5155e703c80682687453617f", func := "bullion/bullionlaw26.ImageFull", spec := "imageFull", inPlace := ["math/bits.Add64"], unfollowed := true, recurses := true, plainKeys := false, apart := false, narrowed := true }
def ImageFullUptoSaid : Prop := imageFullUptoRow.holds Tryz.pinned (OpenSpec.upto imageFullSpec)

/-- 'bullionlaw25.RiteDoes', WHERE WHAT IT READS IS OF BULK AT MOST 1048576: true; the input reads as it did. -/
def riteDoesUptoRow : OpenClaim := { program := "ytkmojeioedjfkaagreat", sum := "76aeb0ec4a752c8d487d64bfc0b0549a272c3d3b5155e703c80682687453617f", func := "bullion/bullionlaw25.RiteDoes", spec := "riteDoes", inPlace := ["math/bits.Add64", "math/bits.Sub64"], unfollowed := true, recurses := true, plainKeys := false, apart := false, narrowed := true }
def RiteDoesUptoSaid : Prop := riteDoesUptoRow.holds Tryz.pinned (OpenSpec.upto riteDoesSpec)

/-- 'bullionlaw25.RiteOne', WHERE WHAT IT READS IS OF BULK AT MOST 1048576: true; the input reads as it did. -/
def riteOneUptoRow : OpenClaim := { program := "ytkmojeioedjfkaagreat", sum := "76aeb0ec4a752c8d487d64bfc0b0549a272c3d3b5155e703c80682687453617f", func := "bullion/bullionlaw25.RiteOne", spec := "riteOne", inPlace := ["math/bits.Add64", "math/bits.Sub64"], unfollowed := true, recurses := true, plainKeys := false, apart := false, narrowed := true }
def RiteOneUptoSaid : Prop := riteOneUptoRow.holds Tryz.pinned (OpenSpec.upto riteOneSpec)

end Rows
end Go.Proofs.YtkmojeioedjfkaaGreat
