/-
  No cell of these rows narrows 'for every input' (looked for: loops, veiled, ifaces, maps, wideKeys, modest, calm, conditions, laid).
  DERIVED. THE GIVEN ROWS OF THIS SEAT. 10 by the template 'for every input the law returns true; each argument reads behind the call as it read before'; 0 by the template 'total and deterministic' (their statements: YtfilkbfkhdaakaaGreatTotals.lean).
  GIVEN WITH THE SEED: the statements are not yours to turn. If you find one false, say at which input.
  Laid BY PROGRAM, IN A SANDBOX (cutbox-rows.mjs): the forced cells as the released guide's own fill.sh prints them over the translation 771f6e4bf7a9b680… (all of the seat's roots in one cut). By AI agents, Wed Nov 11 2026. No macro, syntax, notation, axiom, sorry.
-/
import Derived.Test.YtfilkbfkhdaakaaGreatChecked
import GoSem.Claim
import GoSem.ClaimJoined
import GoSem.ClaimMapViews
import Derived.JoinedTies
import Derived.KernelRfl
namespace Go.Proofs.YtfilkbfkhdaakaaGreat
/- THE CELL 'sum', in the pinned program and in every row, IS THE sha256 OF THE DUMP (.gsa) THAT YtfilkbfkhdaakaaGreatProg.lean LOADS. Nothing in Lean hashes anything: it is a label: what it is worth is what the hold of that sum in a sandbox is worth. -/
noncomputable def Tryz.pinned : Pinned := { name := "ytfilkbfkhdaakaagreat", sum := "771f6e4bf7a9b6800287e8dc7be0025d7da5ae125259ce2671657a0efab77727", checked := Tryz.checked }
namespace Rows
def none {H : Type} : Left H := { results := [], args := [] }

/-- 'bullionlaw40.CertBytes': WHATEVER THE INPUT: true; the input reads as it did. -/
def certBytesSpec : ChangeSpec := { name := "certBytes", fn := fun _ => fun
  | [d1, d2, d3] => { results := [.lit (.bool true)], args := [d1, d2, d3] }
  | _ => none }
def certBytesRow : OpenClaim := { program := "ytfilkbfkhdaakaagreat", sum := "771f6e4bf7a9b6800287e8dc7be0025d7da5ae125259ce2671657a0efab77727", func := "bullion/bullionlaw40.CertBytes", spec := "certBytes", inPlace := ["math/bits.Add64"], unfollowed := true, recurses := true, plainKeys := false, apart := false }
def CertBytesSaid : Prop := certBytesRow.holds Tryz.pinned (OpenSpec.ofChange certBytesSpec)

/-- ITS FALSE NEIGHBOUR: 'it returns false'. Refute it at one input. -/
def certBytesWrong : ChangeSpec := { name := "certBytes", fn := fun _ => fun
  | [d1, d2, d3] => { results := [.lit (.bool false)], args := [d1, d2, d3] }
  | _ => none }
def CertBytesWrongFalsely : Prop := certBytesRow.holds Tryz.pinned (OpenSpec.ofChange certBytesWrong)

/-- 'bullionlaw36.SeatsSit': WHATEVER THE INPUT: true; the input reads as it did. -/
def seatsSitSpec : ChangeSpec := { name := "seatsSit", fn := fun _ => fun
  | [d1, d2, d3] => { results := [.lit (.bool true)], args := [d1, d2, d3] }
  | _ => none }
def seatsSitRow : OpenClaim := { program := "ytfilkbfkhdaakaagreat", sum := "771f6e4bf7a9b6800287e8dc7be0025d7da5ae125259ce2671657a0efab77727", func := "bullion/bullionlaw36.SeatsSit", spec := "seatsSit", inPlace := ["math/bits.Add64"], unfollowed := true, recurses := true, named := ["math/bits.divideError", "math/bits.overflowError"], plainKeys := false, apart := false }
def SeatsSitSaid : Prop := seatsSitRow.holds Tryz.pinned (OpenSpec.ofChange seatsSitSpec)

/-- ITS FALSE NEIGHBOUR: 'it returns false'. Refute it at one input. -/
def seatsSitWrong : ChangeSpec := { name := "seatsSit", fn := fun _ => fun
  | [d1, d2, d3] => { results := [.lit (.bool false)], args := [d1, d2, d3] }
  | _ => none }
def SeatsSitWrongFalsely : Prop := seatsSitRow.holds Tryz.pinned (OpenSpec.ofChange seatsSitWrong)

/-- 'bullionlaw42.TrialAdopts': WHATEVER THE INPUT: true; the input reads as it did. -/
def trialAdoptsSpec : ChangeSpec := { name := "trialAdopts", fn := fun _ => fun
  | [d1, d2] => { results := [.lit (.bool true)], args := [d1, d2] }
  | _ => none }
def trialAdoptsRow : OpenClaim := { program := "ytfilkbfkhdaakaagreat", sum := "771f6e4bf7a9b6800287e8dc7be0025d7da5ae125259ce2671657a0efab77727", func := "bullion/bullionlaw42.TrialAdopts", spec := "trialAdopts", inPlace := ["math/bits.Add64", "slices.overlaps[bullion/api.Due]"], unfollowed := true, recurses := true, plainKeys := false, apart := false }
def TrialAdoptsSaid : Prop := trialAdoptsRow.holds Tryz.pinned (OpenSpec.ofChange trialAdoptsSpec)

/-- ITS FALSE NEIGHBOUR: 'it returns false'. Refute it at one input. -/
def trialAdoptsWrong : ChangeSpec := { name := "trialAdopts", fn := fun _ => fun
  | [d1, d2] => { results := [.lit (.bool false)], args := [d1, d2] }
  | _ => none }
def TrialAdoptsWrongFalsely : Prop := trialAdoptsRow.holds Tryz.pinned (OpenSpec.ofChange trialAdoptsWrong)

/-- 'bullionlaw42.TrialBetter': WHATEVER THE INPUT: true; the input reads as it did. -/
def trialBetterSpec : ChangeSpec := { name := "trialBetter", fn := fun _ => fun
  | [d1, d2] => { results := [.lit (.bool true)], args := [d1, d2] }
  | _ => none }
def trialBetterRow : OpenClaim := { program := "ytfilkbfkhdaakaagreat", sum := "771f6e4bf7a9b6800287e8dc7be0025d7da5ae125259ce2671657a0efab77727", func := "bullion/bullionlaw42.TrialBetter", spec := "trialBetter", inPlace := ["math/bits.Add64", "slices.overlaps[bullion/api.Due]"], unfollowed := true, recurses := true, plainKeys := false, apart := false }
def TrialBetterSaid : Prop := trialBetterRow.holds Tryz.pinned (OpenSpec.ofChange trialBetterSpec)

/-- ITS FALSE NEIGHBOUR: 'it returns false'. Refute it at one input. -/
def trialBetterWrong : ChangeSpec := { name := "trialBetter", fn := fun _ => fun
  | [d1, d2] => { results := [.lit (.bool false)], args := [d1, d2] }
  | _ => none }
def TrialBetterWrongFalsely : Prop := trialBetterRow.holds Tryz.pinned (OpenSpec.ofChange trialBetterWrong)

/-- 'bullionlaw42.TrialKeeps': WHATEVER THE INPUT: true; the input reads as it did. -/
def trialKeepsSpec : ChangeSpec := { name := "trialKeeps", fn := fun _ => fun
  | [d1, d2] => { results := [.lit (.bool true)], args := [d1, d2] }
  | _ => none }
def trialKeepsRow : OpenClaim := { program := "ytfilkbfkhdaakaagreat", sum := "771f6e4bf7a9b6800287e8dc7be0025d7da5ae125259ce2671657a0efab77727", func := "bullion/bullionlaw42.TrialKeeps", spec := "trialKeeps", inPlace := ["math/bits.Add64", "slices.overlaps[bullion/api.Due]"], unfollowed := true, recurses := true, plainKeys := false, apart := false }
def TrialKeepsSaid : Prop := trialKeepsRow.holds Tryz.pinned (OpenSpec.ofChange trialKeepsSpec)

/-- ITS FALSE NEIGHBOUR: 'it returns false'. Refute it at one input. -/
def trialKeepsWrong : ChangeSpec := { name := "trialKeeps", fn := fun _ => fun
  | [d1, d2] => { results := [.lit (.bool false)], args := [d1, d2] }
  | _ => none }
def TrialKeepsWrongFalsely : Prop := trialKeepsRow.holds Tryz.pinned (OpenSpec.ofChange trialKeepsWrong)

/-- 'bullionlaw26.ImageEncodes': WHATEVER THE INPUT: true; the input reads as it did. -/
def imageEncodesSpec : ChangeSpec := { name := "imageEncodes", fn := fun _ => fun
  | [d] => { results := [.lit (.bool true)], args := [d] }
  | _ => none }
def imageEncodesRow : OpenClaim := { program := "ytfilkbfkhdaakaagreat", sum := "771f6e4bf7a9b6800287e8dc7be0025d7da5ae125259ce2671657a0efab77727", func := "bullion/bullionlaw26.ImageEncodes", spec := "imageEncodes", inPlace := ["math/bits.Add64"], unfollowed := true, recurses := true, plainKeys := false, apart := false }
def ImageEncodesSaid : Prop := imageEncodesRow.holds Tryz.pinned (OpenSpec.ofChange imageEncodesSpec)

/-- ITS FALSE NEIGHBOUR: 'it returns false'. Refute it at one input. -/
def imageEncodesWrong : ChangeSpec := { name := "imageEncodes", fn := fun _ => fun
  | [d] => { results := [.lit (.bool false)], args := [d] }
  | _ => none }
def ImageEncodesWrongFalsely : Prop := imageEncodesRow.holds Tryz.pinned (OpenSpec.ofChange imageEncodesWrong)

/-- 'bullionlaw26.ImageBack': WHATEVER THE INPUT: true; the input reads as it did. -/
def imageBackSpec : ChangeSpec := { name := "imageBack", fn := fun _ => fun
  | [d1, d2, d3] => { results := [.lit (.bool true)], args := [d1, d2, d3] }
  | _ => none }
def imageBackRow : OpenClaim := { program := "ytfilkbfkhdaakaagreat", sum := "771f6e4bf7a9b6800287e8dc7be0025d7da5ae125259ce2671657a0efab77727", func := "bullion/bullionlaw26.ImageBack", spec := "imageBack", inPlace := ["math/bits.Add64"], unfollowed := true, recurses := true, plainKeys := false, apart := false }
def ImageBackSaid : Prop := imageBackRow.holds Tryz.pinned (OpenSpec.ofChange imageBackSpec)

/-- ITS FALSE NEIGHBOUR: 'it returns false'. Refute it at one input. -/
def imageBackWrong : ChangeSpec := { name := "imageBack", fn := fun _ => fun
  | [d1, d2, d3] => { results := [.lit (.bool false)], args := [d1, d2, d3] }
  | _ => none }
def ImageBackWrongFalsely : Prop := imageBackRow.holds Tryz.pinned (OpenSpec.ofChange imageBackWrong)

/-- 'bullionlaw26.ImageOne': WHATEVER THE INPUT: true; the input reads as it did. -/
def imageOneSpec : ChangeSpec := { name := "imageOne", fn := fun _ => fun
  | [d] => { results := [.lit (.bool true)], args := [d] }
  | _ => none }
def imageOneRow : OpenClaim := { program := "ytfilkbfkhdaakaagreat", sum := "771f6e4bf7a9b6800287e8dc7be0025d7da5ae125259ce2671657a0efab77727", func := "bullion/bullionlaw26.ImageOne", spec := "imageOne", inPlace := ["math/bits.Add64"], unfollowed := true, recurses := true, plainKeys := false, apart := false }
def ImageOneSaid : Prop := imageOneRow.holds Tryz.pinned (OpenSpec.ofChange imageOneSpec)

/-- ITS FALSE NEIGHBOUR: 'it returns false'. Refute it at one input. -/
def imageOneWrong : ChangeSpec := { name := "imageOne", fn := fun _ => fun
  | [d] => { results := [.lit (.bool false)], args := [d] }
  | _ => none }
def ImageOneWrongFalsely : Prop := imageOneRow.holds Tryz.pinned (OpenSpec.ofChange imageOneWrong)

/-- 'bullionlaw26.ImageFull': WHATEVER THE INPUT: true; the input reads as it did. -/
def imageFullSpec : ChangeSpec := { name := "imageFull", fn := fun _ => fun
  | [d1, d2] => { results := [.lit (.bool true)], args := [d1, d2] }
  | _ => none }
def imageFullRow : OpenClaim := { program := "ytfilkbfkhdaakaagreat", sum := "771f6e4bf7a9b6800287e8dc7be0025d7da5ae125259ce2671657a0efab77727", func := "bullion/bullionlaw26.ImageFull", spec := "imageFull", inPlace := ["math/bits.Add64"], unfollowed := true, recurses := true, plainKeys := false, apart := false }
def ImageFullSaid : Prop := imageFullRow.holds Tryz.pinned (OpenSpec.ofChange imageFullSpec)

/-- ITS FALSE NEIGHBOUR: 'it returns false'. Refute it at one input. -/
def imageFullWrong : ChangeSpec := { name := "imageFull", fn := fun _ => fun
  | [d1, d2] => { results := [.lit (.bool false)], args := [d1, d2] }
  | _ => none }
def ImageFullWrongFalsely : Prop := imageFullRow.holds Tryz.pinned (OpenSpec.ofChange imageFullWrong)

/-- 'bullionlaw37.FeedNone': WHATEVER THE INPUT: true; the input reads as it did. -/
def feedNoneSpec : ChangeSpec := { name := "feedNone", fn := fun _ => fun
  | [d] => { results := [.lit (.bool true)], args := [d] }
  | _ => none }
def feedNoneRow : OpenClaim := { program := "ytfilkbfkhdaakaagreat", sum := "771f6e4bf7a9b6800287e8dc7be0025d7da5ae125259ce2671657a0efab77727", func := "bullion/bullionlaw37.FeedNone", spec := "feedNone", inPlace := ["math/bits.Add64"], unfollowed := true, recurses := true, plainKeys := false, apart := false }
def FeedNoneSaid : Prop := feedNoneRow.holds Tryz.pinned (OpenSpec.ofChange feedNoneSpec)

/-- ITS FALSE NEIGHBOUR: 'it returns false'. Refute it at one input. -/
def feedNoneWrong : ChangeSpec := { name := "feedNone", fn := fun _ => fun
  | [d] => { results := [.lit (.bool false)], args := [d] }
  | _ => none }
def FeedNoneWrongFalsely : Prop := feedNoneRow.holds Tryz.pinned (OpenSpec.ofChange feedNoneWrong)

/- THE SECOND FORM. 'bulk': how many values and letters a reading holds, each counted each time it is reached (what is shared counts as often as it is met; a slice's spare places count too). A statement '..UptoSaid' is the law's where the arguments, and the package variables that the reading takes, are together of bulk at most 1048576: NARROWER than '..Said'. Prove '..Said' where nothing that the law and all that it calls make is longer than what came in: it says more and counts as full. Else prove '..UptoSaid'. A law counts once. -/
mutual
def uptoBulk {H : Type} : DataW H → Nat
  | .lit (.string bytes) => bytes.length + 1
  | .lit _ => 1
  | .nil => 1
  | .ptr d => uptoBulk d + 1
  | .slice elems spare => uptoBulkAll elems + uptoBulkAll spare + 1
  | .agg parts => uptoBulkAll parts + 1
  | .iface _ d => uptoBulk d + 1
  | .map entries => uptoBulkEntries entries + 1
  | .held _ => 1
def uptoBulkAll {H : Type} : List (DataW H) → Nat
  | [] => 0
  | d :: r => uptoBulk d + uptoBulkAll r
def uptoBulkEntries {H : Type} : List (Lit × DataW H) → Nat
  | [] => 0
  | x :: r => uptoBulkEntry x + uptoBulkEntries r
def uptoBulkEntry {H : Type} : Lit × DataW H → Nat
  | (.string bytes, d) => bytes.length + uptoBulk d + 1
  | (_, d) => uptoBulk d + 1
 end
def uptoSmall : (H : Type) → List (DataW H) → Bool := fun _ ds => decide (uptoBulkAll ds ≤ 1048576)
def OpenSpec.upto (s : _root_.Go.ChangeSpec) : _root_.Go.OpenSpec := { _root_.Go.OpenSpec.ofChange s with cond := some uptoSmall }

/-- 'bullionlaw40.CertBytes', WHERE WHAT IT READS IS OF BULK AT MOST 1048576: true; the input reads as it did. -/
def certBytesUptoRow : OpenClaim := { program := "ytfilkbfkhdaakaagreat", sum := "771f6e4bf7a9b6800287e8dc7be0025d7da5ae125259ce2671657a0efab77727", func := "bullion/bullionlaw40.CertBytes", spec := "certBytes", inPlace := ["math/bits.Add64"], unfollowed := true, recurses := true, plainKeys := false, apart := false, narrowed := true }
def CertBytesUptoSaid : Prop := certBytesUptoRow.holds Tryz.pinned (OpenSpec.upto certBytesSpec)

/-- 'bullionlaw36.SeatsSit', WHERE WHAT IT READS IS OF BULK AT MOST 1048576: true; the input reads as it did. -/
def seatsSitUptoRow : OpenClaim := { program := "ytfilkbfkhdaakaagreat", sum := "771f6e4bf7a9b6800287e8dc7be0025d7da5ae125259ce2671657a0efab77727", func := "bullion/bullionlaw36.SeatsSit", spec := "seatsSit", inPlace := ["math/bits.Add64"], unfollowed := true, recurses := true, named := ["math/bits.divideError", "math/bits.overflowError"], plainKeys := false, apart := false, narrowed := true }
def SeatsSitUptoSaid : Prop := seatsSitUptoRow.holds Tryz.pinned (OpenSpec.upto seatsSitSpec)

/-- 'bullionlaw42.TrialAdopts', WHERE WHAT IT READS IS OF BULK AT MOST 1048576: true; the input reads as it did. -/
def trialAdoptsUptoRow : OpenClaim := { program := "ytfilkbfkhdaakaagreat", sum := "771f6e4bf7a9b6800287e8dc7be0025d7da5ae125259ce2671657a0efab77727", func := "bullion/bullionlaw42.TrialAdopts", spec := "trialAdopts", inPlace := ["math/bits.Add64", "slices.overlaps[bullion/api.Due]"], unfollowed := true, recurses := true, plainKeys := false, apart := false, narrowed := true }
def TrialAdoptsUptoSaid : Prop := trialAdoptsUptoRow.holds Tryz.pinned (OpenSpec.upto trialAdoptsSpec)

/-- 'bullionlaw42.TrialBetter', WHERE WHAT IT READS IS OF BULK AT MOST 1048576: true; the input reads as it did. -/
def trialBetterUptoRow : OpenClaim := { program := "ytfilkbfkhdaakaagreat", sum := "771f6e4bf7a9b6800287e8dc7be0025d7da5ae125259ce2671657a0efab77727", func := "bullion/bullionlaw42.TrialBetter", spec := "trialBetter", inPlace := ["math/bits.Add64", "slices.overlaps[bullion/api.Due]"], unfollowed := true, recurses := true, plainKeys := false, apart := false, narrowed := true }
def TrialBetterUptoSaid : Prop := trialBetterUptoRow.holds Tryz.pinned (OpenSpec.upto trialBetterSpec)

/-- 'bullionlaw42.TrialKeeps', WHERE WHAT IT READS IS OF BULK AT MOST 1048576: true; the input reads as it did. -/
def trialKeepsUptoRow : OpenClaim := { program := "ytfilkbfkhdaakaagreat", sum := "771f6e4bf7a9b6800287e8dc7be0025d7da5ae125259ce2671657a0efab77727", func := "bullion/bullionlaw42.TrialKeeps", spec := "trialKeeps", inPlace := ["math/bits.Add64", "slices.overlaps[bullion/api.Due]"], unfollowed := true, recurses := true, plainKeys := false, apart := false, narrowed := true }
def TrialKeepsUptoSaid : Prop := trialKeepsUptoRow.holds Tryz.pinned (OpenSpec.upto trialKeepsSpec)

/-- 'bullionlaw26.ImageEncodes', WHERE WHAT IT READS IS OF BULK AT MOST 1048576: true; the input reads as it did. -/
def imageEncodesUptoRow : OpenClaim := { program := "ytfilkbfkhdaakaagreat", sum := "771f6e4bf7a9b6800287e8dc7be0025d7da5ae125259ce2671657a0efab77727", func := "bullion/bullionlaw26.ImageEncodes", spec := "imageEncodes", inPlace := ["math/bits.Add64"], unfollowed := true, recurses := true, plainKeys := false, apart := false, narrowed := true }
def ImageEncodesUptoSaid : Prop := imageEncodesUptoRow.holds Tryz.pinned (OpenSpec.upto imageEncodesSpec)

/-- 'bullionlaw26.ImageBack', WHERE WHAT IT READS IS OF BULK AT MOST 1048576: true; the input reads as it did. -/
def imageBackUptoRow : OpenClaim := { program := "ytfilkbfkhdaakaagreat", sum := "771f6e4bf7a9b6800287e8dc7be0025d7da5ae125259ce2671657a0efab77727", func := "bullion/bullionlaw26.ImageBack", spec := "imageBack", inPlace := ["math/bits.Add64"], unfollowed := true, recurses := true, plainKeys := false, apart := false, narrowed := true }
def ImageBackUptoSaid : Prop := imageBackUptoRow.holds Tryz.pinned (OpenSpec.upto imageBackSpec)

/-- 'bullionlaw26.ImageOne', WHERE WHAT IT READS IS OF BULK AT MOST 1048576: true; the input reads as it did. -/
def imageOneUptoRow : OpenClaim := { program := "ytfilkbfkhdaakaagreat", sum := "771f6e4bf7a9b6800287e8dc7be0025d7da5ae125259ce2671657a0efab77727", func := "bullion/bullionlaw26.ImageOne", spec := "imageOne", inPlace := ["math/bits.Add64"], unfollowed := true, recurses := true, plainKeys := false, apart := false, narrowed := true }
def ImageOneUptoSaid : Prop := imageOneUptoRow.holds Tryz.pinned (OpenSpec.upto imageOneSpec)

/-- 'bullionlaw26.ImageFull', WHERE WHAT IT READS IS OF BULK AT MOST 1048576: true; the input reads as it did. -/
def imageFullUptoRow : OpenClaim := { program := "ytfilkbfkhdaakaagreat", sum := "771f6e4bf7a9b6800287e8dc7be0025d7da5ae125259ce2671657a0efab77727", func := "bullion/bullionlaw26.ImageFull", spec := "imageFull", inPlace := ["math/bits.Add64"], unfollowed := true, recurses := true, plainKeys := false, apart := false, narrowed := true }
def ImageFullUptoSaid : Prop := imageFullUptoRow.holds Tryz.pinned (OpenSpec.upto imageFullSpec)

/-- 'bullionlaw37.FeedNone', WHERE WHAT IT READS IS OF BULK AT MOST 1048576: true; the input reads as it did. -/
def feedNoneUptoRow : OpenClaim := { program := "ytfilkbfkhdaakaagreat", sum := "771f6e4bf7a9b6800287e8dc7be0025d7da5ae125259ce2671657a0efab77727", func := "bullion/bullionlaw37.FeedNone", spec := "feedNone", inPlace := ["math/bits.Add64"], unfollowed := true, recurses := true, plainKeys := false, apart := false, narrowed := true }
def FeedNoneUptoSaid : Prop := feedNoneUptoRow.holds Tryz.pinned (OpenSpec.upto feedNoneSpec)

end Rows
end Go.Proofs.YtfilkbfkhdaakaaGreat
