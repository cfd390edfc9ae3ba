/-
  No cell of these rows narrows 'for every input' (looked for: loops, veiled, ifaces, maps, wideKeys, modest, calm, conditions, laid).
  DERIVED. THE GIVEN ROWS OF THIS SEAT. 12 by the template 'for every input the law returns true; each argument reads behind the call as it read before'; 0 by the template 'total and deterministic' (their statements: YtbobjcapmfpmkaaTotals.lean).
  GIVEN WITH THE SEED: the statements are not yours to turn. If you find one false, say at which input.
  Laid BY PROGRAM, IN A SANDBOX (cutbox-rows.mjs): the forced cells as the released guide's own fill.sh prints them over the translation e2cb28a722686871… (all of the seat's roots in one cut). By AI agents, Wed Nov 11 2026. No macro, syntax, notation, axiom, sorry.
-/
import Derived.Test.YtbobjcapmfpmkaaChecked
import GoSem.Claim
import GoSem.ClaimJoined
import GoSem.ClaimMapViews
import Derived.JoinedTies
import Derived.KernelRfl
namespace Go.Proofs.Ytbobjcapmfpmkaa
/- THE CELL 'sum', in the pinned program and in every row, IS THE sha256 OF THE DUMP (.gsa) THAT YtbobjcapmfpmkaaProg.lean LOADS. Nothing in Lean hashes anything: it is a label: what it is worth is what the hold of that sum in a sandbox is worth. -/
noncomputable def Try.pinned : Pinned := { name := "ytbobjcapmfpmkaa", sum := "e2cb28a722686871910aed8f42c1b3bd6a7dd032b136fc0806c6323e8a0601ef", checked := Try.checked }
namespace Rows
def none {H : Type} : Left H := { results := [], args := [] }

/-- 'bullionlaw40.CertWeighs': WHATEVER THE INPUT: true; the input reads as it did. -/
def certWeighsSpec : ChangeSpec := { name := "certWeighs", fn := fun _ => fun
  | [d1, d2] => { results := [.lit (.bool true)], args := [d1, d2] }
  | _ => none }
def certWeighsRow : OpenClaim := { program := "ytbobjcapmfpmkaa", sum := "e2cb28a722686871910aed8f42c1b3bd6a7dd032b136fc0806c6323e8a0601ef", func := "bullion/bullionlaw40.CertWeighs", spec := "certWeighs", unfollowed := true, recurses := true, apart := false }
def CertWeighsSaid : Prop := certWeighsRow.holds Try.pinned (OpenSpec.ofChange certWeighsSpec)

/-- ITS FALSE NEIGHBOUR: 'it returns false'. Refute it at one input. -/
def certWeighsWrong : ChangeSpec := { name := "certWeighs", fn := fun _ => fun
  | [d1, d2] => { results := [.lit (.bool false)], args := [d1, d2] }
  | _ => none }
def CertWeighsWrongFalsely : Prop := certWeighsRow.holds Try.pinned (OpenSpec.ofChange certWeighsWrong)

/-- 'bullionlaw40.CertSigns': WHATEVER THE INPUT: true; the input reads as it did. -/
def certSignsSpec : ChangeSpec := { name := "certSigns", fn := fun _ => fun
  | [d1, d2, d3] => { results := [.lit (.bool true)], args := [d1, d2, d3] }
  | _ => none }
def certSignsRow : OpenClaim := { program := "ytbobjcapmfpmkaa", sum := "e2cb28a722686871910aed8f42c1b3bd6a7dd032b136fc0806c6323e8a0601ef", func := "bullion/bullionlaw40.CertSigns", spec := "certSigns", unfollowed := true, recurses := true, apart := false }
def CertSignsSaid : Prop := certSignsRow.holds Try.pinned (OpenSpec.ofChange certSignsSpec)

/-- ITS FALSE NEIGHBOUR: 'it returns false'. Refute it at one input. -/
def certSignsWrong : ChangeSpec := { name := "certSigns", fn := fun _ => fun
  | [d1, d2, d3] => { results := [.lit (.bool false)], args := [d1, d2, d3] }
  | _ => none }
def CertSignsWrongFalsely : Prop := certSignsRow.holds Try.pinned (OpenSpec.ofChange certSignsWrong)

/-- 'bullionlaw40.CertMeets': WHATEVER THE INPUT: true; the input reads as it did. -/
def certMeetsSpec : ChangeSpec := { name := "certMeets", fn := fun _ => fun
  | [d1, d2, d3] => { results := [.lit (.bool true)], args := [d1, d2, d3] }
  | _ => none }
def certMeetsRow : OpenClaim := { program := "ytbobjcapmfpmkaa", sum := "e2cb28a722686871910aed8f42c1b3bd6a7dd032b136fc0806c6323e8a0601ef", func := "bullion/bullionlaw40.CertMeets", spec := "certMeets", unfollowed := true, recurses := true, apart := false }
def CertMeetsSaid : Prop := certMeetsRow.holds Try.pinned (OpenSpec.ofChange certMeetsSpec)

/-- ITS FALSE NEIGHBOUR: 'it returns false'. Refute it at one input. -/
def certMeetsWrong : ChangeSpec := { name := "certMeets", fn := fun _ => fun
  | [d1, d2, d3] => { results := [.lit (.bool false)], args := [d1, d2, d3] }
  | _ => none }
def CertMeetsWrongFalsely : Prop := certMeetsRow.holds Try.pinned (OpenSpec.ofChange certMeetsWrong)

/-- 'bullionlaw37.FeedCuts': WHATEVER THE INPUT: true; the input reads as it did. -/
def feedCutsSpec : ChangeSpec := { name := "feedCuts", fn := fun _ => fun
  | [d1, d2, d3] => { results := [.lit (.bool true)], args := [d1, d2, d3] }
  | _ => none }
def feedCutsRow : OpenClaim := { program := "ytbobjcapmfpmkaa", sum := "e2cb28a722686871910aed8f42c1b3bd6a7dd032b136fc0806c6323e8a0601ef", func := "bullion/bullionlaw37.FeedCuts", spec := "feedCuts", recurses := true, apart := false }
def FeedCutsSaid : Prop := feedCutsRow.holds Try.pinned (OpenSpec.ofChange feedCutsSpec)

/-- ITS FALSE NEIGHBOUR: 'it returns false'. Refute it at one input. -/
def feedCutsWrong : ChangeSpec := { name := "feedCuts", fn := fun _ => fun
  | [d1, d2, d3] => { results := [.lit (.bool false)], args := [d1, d2, d3] }
  | _ => none }
def FeedCutsWrongFalsely : Prop := feedCutsRow.holds Try.pinned (OpenSpec.ofChange feedCutsWrong)

/-- 'bullionlaw37.FeedBack': WHATEVER THE INPUT: true; the input reads as it did. -/
def feedBackSpec : ChangeSpec := { name := "feedBack", fn := fun _ => fun
  | [d1, d2, d3] => { results := [.lit (.bool true)], args := [d1, d2, d3] }
  | _ => none }
def feedBackRow : OpenClaim := { program := "ytbobjcapmfpmkaa", sum := "e2cb28a722686871910aed8f42c1b3bd6a7dd032b136fc0806c6323e8a0601ef", func := "bullion/bullionlaw37.FeedBack", spec := "feedBack", apart := false }
def FeedBackSaid : Prop := feedBackRow.holds Try.pinned (OpenSpec.ofChange feedBackSpec)

/-- ITS FALSE NEIGHBOUR: 'it returns false'. Refute it at one input. -/
def feedBackWrong : ChangeSpec := { name := "feedBack", fn := fun _ => fun
  | [d1, d2, d3] => { results := [.lit (.bool false)], args := [d1, d2, d3] }
  | _ => none }
def FeedBackWrongFalsely : Prop := feedBackRow.holds Try.pinned (OpenSpec.ofChange feedBackWrong)

/-- 'bullionlaw40.CertBack': WHATEVER THE INPUT: true; the input reads as it did. -/
def certBackSpec : ChangeSpec := { name := "certBack", fn := fun _ => fun
  | [d1, d2, d3] => { results := [.lit (.bool true)], args := [d1, d2, d3] }
  | _ => none }
def certBackRow : OpenClaim := { program := "ytbobjcapmfpmkaa", sum := "e2cb28a722686871910aed8f42c1b3bd6a7dd032b136fc0806c6323e8a0601ef", func := "bullion/bullionlaw40.CertBack", spec := "certBack", unfollowed := true, recurses := true, apart := false }
def CertBackSaid : Prop := certBackRow.holds Try.pinned (OpenSpec.ofChange certBackSpec)

/-- ITS FALSE NEIGHBOUR: 'it returns false'. Refute it at one input. -/
def certBackWrong : ChangeSpec := { name := "certBack", fn := fun _ => fun
  | [d1, d2, d3] => { results := [.lit (.bool false)], args := [d1, d2, d3] }
  | _ => none }
def CertBackWrongFalsely : Prop := certBackRow.holds Try.pinned (OpenSpec.ofChange certBackWrong)

/-- 'bullionlaw08.DeedEncodes': WHATEVER THE INPUT: true; the input reads as it did. -/
def deedEncodesSpec : ChangeSpec := { name := "deedEncodes", fn := fun _ => fun
  | [d] => { results := [.lit (.bool true)], args := [d] }
  | _ => none }
def deedEncodesRow : OpenClaim := { program := "ytbobjcapmfpmkaa", sum := "e2cb28a722686871910aed8f42c1b3bd6a7dd032b136fc0806c6323e8a0601ef", func := "bullion/bullionlaw08.DeedEncodes", spec := "deedEncodes", unfollowed := true, recurses := true, apart := false }
def DeedEncodesSaid : Prop := deedEncodesRow.holds Try.pinned (OpenSpec.ofChange deedEncodesSpec)

/-- ITS FALSE NEIGHBOUR: 'it returns false'. Refute it at one input. -/
def deedEncodesWrong : ChangeSpec := { name := "deedEncodes", fn := fun _ => fun
  | [d] => { results := [.lit (.bool false)], args := [d] }
  | _ => none }
def DeedEncodesWrongFalsely : Prop := deedEncodesRow.holds Try.pinned (OpenSpec.ofChange deedEncodesWrong)

/-- 'bullionlaw08.DeedNone': WHATEVER THE INPUT: true; the input reads as it did. -/
def deedNoneSpec : ChangeSpec := { name := "deedNone", fn := fun _ => fun
  | [d] => { results := [.lit (.bool true)], args := [d] }
  | _ => none }
def deedNoneRow : OpenClaim := { program := "ytbobjcapmfpmkaa", sum := "e2cb28a722686871910aed8f42c1b3bd6a7dd032b136fc0806c6323e8a0601ef", func := "bullion/bullionlaw08.DeedNone", spec := "deedNone", unfollowed := true, recurses := true, apart := false }
def DeedNoneSaid : Prop := deedNoneRow.holds Try.pinned (OpenSpec.ofChange deedNoneSpec)

/-- ITS FALSE NEIGHBOUR: 'it returns false'. Refute it at one input. -/
def deedNoneWrong : ChangeSpec := { name := "deedNone", fn := fun _ => fun
  | [d] => { results := [.lit (.bool false)], args := [d] }
  | _ => none }
def DeedNoneWrongFalsely : Prop := deedNoneRow.holds Try.pinned (OpenSpec.ofChange deedNoneWrong)

/-- 'bullionlaw08.DeedBack': WHATEVER THE INPUT: true; the input reads as it did. -/
def deedBackSpec : ChangeSpec := { name := "deedBack", fn := fun _ => fun
  | [d1, d2] => { results := [.lit (.bool true)], args := [d1, d2] }
  | _ => none }
def deedBackRow : OpenClaim := { program := "ytbobjcapmfpmkaa", sum := "e2cb28a722686871910aed8f42c1b3bd6a7dd032b136fc0806c6323e8a0601ef", func := "bullion/bullionlaw08.DeedBack", spec := "deedBack", unfollowed := true, recurses := true, apart := false }
def DeedBackSaid : Prop := deedBackRow.holds Try.pinned (OpenSpec.ofChange deedBackSpec)

/-- ITS FALSE NEIGHBOUR: 'it returns false'. Refute it at one input. -/
def deedBackWrong : ChangeSpec := { name := "deedBack", fn := fun _ => fun
  | [d1, d2] => { results := [.lit (.bool false)], args := [d1, d2] }
  | _ => none }
def DeedBackWrongFalsely : Prop := deedBackRow.holds Try.pinned (OpenSpec.ofChange deedBackWrong)

/-- 'bullionlaw08.DeedSound': WHATEVER THE INPUT: true; the input reads as it did. -/
def deedSoundSpec : ChangeSpec := { name := "deedSound", fn := fun _ => fun
  | [d] => { results := [.lit (.bool true)], args := [d] }
  | _ => none }
def deedSoundRow : OpenClaim := { program := "ytbobjcapmfpmkaa", sum := "e2cb28a722686871910aed8f42c1b3bd6a7dd032b136fc0806c6323e8a0601ef", func := "bullion/bullionlaw08.DeedSound", spec := "deedSound", unfollowed := true, recurses := true, apart := false }
def DeedSoundSaid : Prop := deedSoundRow.holds Try.pinned (OpenSpec.ofChange deedSoundSpec)

/-- ITS FALSE NEIGHBOUR: 'it returns false'. Refute it at one input. -/
def deedSoundWrong : ChangeSpec := { name := "deedSound", fn := fun _ => fun
  | [d] => { results := [.lit (.bool false)], args := [d] }
  | _ => none }
def DeedSoundWrongFalsely : Prop := deedSoundRow.holds Try.pinned (OpenSpec.ofChange deedSoundWrong)

/-- 'bullionlaw09.BlockBack': WHATEVER THE INPUT: true; the input reads as it did. -/
def blockBackSpec : ChangeSpec := { name := "blockBack", fn := fun _ => fun
  | [d1, d2, d3] => { results := [.lit (.bool true)], args := [d1, d2, d3] }
  | _ => none }
def blockBackRow : OpenClaim := { program := "ytbobjcapmfpmkaa", sum := "e2cb28a722686871910aed8f42c1b3bd6a7dd032b136fc0806c6323e8a0601ef", func := "bullion/bullionlaw09.BlockBack", spec := "blockBack", unfollowed := true, recurses := true, apart := false }
def BlockBackSaid : Prop := blockBackRow.holds Try.pinned (OpenSpec.ofChange blockBackSpec)

/-- ITS FALSE NEIGHBOUR: 'it returns false'. Refute it at one input. -/
def blockBackWrong : ChangeSpec := { name := "blockBack", fn := fun _ => fun
  | [d1, d2, d3] => { results := [.lit (.bool false)], args := [d1, d2, d3] }
  | _ => none }
def BlockBackWrongFalsely : Prop := blockBackRow.holds Try.pinned (OpenSpec.ofChange blockBackWrong)

/-- 'bullionlaw09.BlockEncodes': WHATEVER THE INPUT: true; the input reads as it did. -/
def blockEncodesSpec : ChangeSpec := { name := "blockEncodes", fn := fun _ => fun
  | [d] => { results := [.lit (.bool true)], args := [d] }
  | _ => none }
def blockEncodesRow : OpenClaim := { program := "ytbobjcapmfpmkaa", sum := "e2cb28a722686871910aed8f42c1b3bd6a7dd032b136fc0806c6323e8a0601ef", func := "bullion/bullionlaw09.BlockEncodes", spec := "blockEncodes", unfollowed := true, recurses := true, apart := false }
def BlockEncodesSaid : Prop := blockEncodesRow.holds Try.pinned (OpenSpec.ofChange blockEncodesSpec)

/-- ITS FALSE NEIGHBOUR: 'it returns false'. Refute it at one input. -/
def blockEncodesWrong : ChangeSpec := { name := "blockEncodes", fn := fun _ => fun
  | [d] => { results := [.lit (.bool false)], args := [d] }
  | _ => none }
def BlockEncodesWrongFalsely : Prop := blockEncodesRow.holds Try.pinned (OpenSpec.ofChange blockEncodesWrong)

/- THE SECOND FORM. 'bulk': how many values and letters a reading holds, each counted each time it is reached (what is shared counts as often as it is met; a slice's spare places count too). A statement '..UptoSaid' is the law's where the arguments, and the package variables that the reading takes, are together of bulk at most 1048576: NARROWER than '..Said'. Prove '..Said' where nothing that the law and all that it calls make is longer than what came in: it says more and counts as full. Else prove '..UptoSaid'. A law counts once. -/
mutual
def uptoBulk {H : Type} : DataW H → Nat
  | .lit (.string bytes) => bytes.length + 1
  | .lit _ => 1
  | .nil => 1
  | .ptr d => uptoBulk d + 1
  | .slice elems spare => uptoBulkAll elems + uptoBulkAll spare + 1
  | .agg parts => uptoBulkAll parts + 1
  | .iface _ d => uptoBulk d + 1
  | .map entries => uptoBulkEntries entries + 1
  | .held _ => 1
def uptoBulkAll {H : Type} : List (DataW H) → Nat
  | [] => 0
  | d :: r => uptoBulk d + uptoBulkAll r
def uptoBulkEntries {H : Type} : List (Lit × DataW H) → Nat
  | [] => 0
  | x :: r => uptoBulkEntry x + uptoBulkEntries r
def uptoBulkEntry {H : Type} : Lit × DataW H → Nat
  | (.string bytes, d) => bytes.length + uptoBulk d + 1
  | (_, d) => uptoBulk d + 1
 end
def uptoSmall : (H : Type) → List (DataW H) → Bool := fun _ ds => decide (uptoBulkAll ds ≤ 1048576)
def OpenSpec.upto (s : _root_.Go.ChangeSpec) : _root_.Go.OpenSpec := { _root_.Go.OpenSpec.ofChange s with cond := some uptoSmall }

/-- 'bullionlaw40.CertWeighs', WHERE WHAT IT READS IS OF BULK AT MOST 1048576: true; the input reads as it did. -/
def certWeighsUptoRow : OpenClaim := { program := "ytbobjcapmfpmkaa", sum := "e2cb28a722686871910aed8f42c1b3bd6a7dd032b136fc0806c6323e8a0601ef", func := "bullion/bullionlaw40.CertWeighs", spec := "certWeighs", unfollowed := true, recurses := true, apart := false, narrowed := true }
def CertWeighsUptoSaid : Prop := certWeighsUptoRow.holds Try.pinned (OpenSpec.upto certWeighsSpec)

/-- 'bullionlaw40.CertSigns', WHERE WHAT IT READS IS OF BULK AT MOST 1048576: true; the input reads as it did. -/
def certSignsUptoRow : OpenClaim := { program := "ytbobjcapmfpmkaa", sum := "e2cb28a722686871910aed8f42c1b3bd6a7dd032b136fc0806c6323e8a0601ef", func := "bullion/bullionlaw40.CertSigns", spec := "certSigns", unfollowed := true, recurses := true, apart := false, narrowed := true }
def CertSignsUptoSaid : Prop := certSignsUptoRow.holds Try.pinned (OpenSpec.upto certSignsSpec)

/-- 'bullionlaw40.CertMeets', WHERE WHAT IT READS IS OF BULK AT MOST 1048576: true; the input reads as it did. -/
def certMeetsUptoRow : OpenClaim := { program := "ytbobjcapmfpmkaa", sum := "e2cb28a722686871910aed8f42c1b3bd6a7dd032b136fc0806c6323e8a0601ef", func := "bullion/bullionlaw40.CertMeets", spec := "certMeets", unfollowed := true, recurses := true, apart := false, narrowed := true }
def CertMeetsUptoSaid : Prop := certMeetsUptoRow.holds Try.pinned (OpenSpec.upto certMeetsSpec)

/-- 'bullionlaw37.FeedCuts', WHERE WHAT IT READS IS OF BULK AT MOST 1048576: true; the input reads as it did. -/
def feedCutsUptoRow : OpenClaim := { program := "ytbobjcapmfpmkaa", sum := "e2cb28a722686871910aed8f42c1b3bd6a7dd032b136fc0806c6323e8a0601ef", func := "bullion/bullionlaw37.FeedCuts", spec := "feedCuts", recurses := true, apart := false, narrowed := true }
def FeedCutsUptoSaid : Prop := feedCutsUptoRow.holds Try.pinned (OpenSpec.upto feedCutsSpec)

/-- 'bullionlaw37.FeedBack', WHERE WHAT IT READS IS OF BULK AT MOST 1048576: true; the input reads as it did. -/
def feedBackUptoRow : OpenClaim := { program := "ytbobjcapmfpmkaa", sum := "e2cb28a722686871910aed8f42c1b3bd6a7dd032b136fc0806c6323e8a0601ef", func := "bullion/bullionlaw37.FeedBack", spec := "feedBack", apart := false, narrowed := true }
def FeedBackUptoSaid : Prop := feedBackUptoRow.holds Try.pinned (OpenSpec.upto feedBackSpec)

/-- 'bullionlaw40.CertBack', WHERE WHAT IT READS IS OF BULK AT MOST 1048576: true; the input reads as it did. -/
def certBackUptoRow : OpenClaim := { program := "ytbobjcapmfpmkaa", sum := "e2cb28a722686871910aed8f42c1b3bd6a7dd032b136fc0806c6323e8a0601ef", func := "bullion/bullionlaw40.CertBack", spec := "certBack", unfollowed := true, recurses := true, apart := false, narrowed := true }
def CertBackUptoSaid : Prop := certBackUptoRow.holds Try.pinned (OpenSpec.upto certBackSpec)

/-- 'bullionlaw08.DeedEncodes', WHERE WHAT IT READS IS OF BULK AT MOST 1048576: true; the input reads as it did. -/
def deedEncodesUptoRow : OpenClaim := { program := "ytbobjcapmfpmkaa", sum := "e2cb28a722686871910aed8f42c1b3bd6a7dd032b136fc0806c6323e8a0601ef", func := "bullion/bullionlaw08.DeedEncodes", spec := "deedEncodes", unfollowed := true, recurses := true, apart := false, narrowed := true }
def DeedEncodesUptoSaid : Prop := deedEncodesUptoRow.holds Try.pinned (OpenSpec.upto deedEncodesSpec)

/-- 'bullionlaw08.DeedNone', WHERE WHAT IT READS IS OF BULK AT MOST 1048576: true; the input reads as it did. -/
def deedNoneUptoRow : OpenClaim := { program := "ytbobjcapmfpmkaa", sum := "e2cb28a722686871910aed8f42c1b3bd6a7dd032b136fc0806c6323e8a0601ef", func := "bullion/bullionlaw08.DeedNone", spec := "deedNone", unfollowed := true, recurses := true, apart := false, narrowed := true }
def DeedNoneUptoSaid : Prop := deedNoneUptoRow.holds Try.pinned (OpenSpec.upto deedNoneSpec)

/-- 'bullionlaw08.DeedBack', WHERE WHAT IT READS IS OF BULK AT MOST 1048576: true; the input reads as it did. -/
def deedBackUptoRow : OpenClaim := { program := "ytbobjcapmfpmkaa", sum := "e2cb28a722686871910aed8f42c1b3bd6a7dd032b136fc0806c6323e8a0601ef", func := "bullion/bullionlaw08.DeedBack", spec := "deedBack", unfollowed := true, recurses := true, apart := false, narrowed := true }
def DeedBackUptoSaid : Prop := deedBackUptoRow.holds Try.pinned (OpenSpec.upto deedBackSpec)

/-- 'bullionlaw08.DeedSound', WHERE WHAT IT READS IS OF BULK AT MOST 1048576: true; the input reads as it did. -/
def deedSoundUptoRow : OpenClaim := { program := "ytbobjcapmfpmkaa", sum := "e2cb28a722686871910aed8f42c1b3bd6a7dd032b136fc0806c6323e8a0601ef", func := "bullion/bullionlaw08.DeedSound", spec := "deedSound", unfollowed := true, recurses := true, apart := false, narrowed := true }
def DeedSoundUptoSaid : Prop := deedSoundUptoRow.holds Try.pinned (OpenSpec.upto deedSoundSpec)

/-- 'bullionlaw09.BlockBack', WHERE WHAT IT READS IS OF BULK AT MOST 1048576: true; the input reads as it did. -/
def blockBackUptoRow : OpenClaim := { program := "ytbobjcapmfpmkaa", sum := "e2cb28a722686871910aed8f42c1b3bd6a7dd032b136fc0806c6323e8a0601ef", func := "bullion/bullionlaw09.BlockBack", spec := "blockBack", unfollowed := true, recurses := true, apart := false, narrowed := true }
def BlockBackUptoSaid : Prop := blockBackUptoRow.holds Try.pinned (OpenSpec.upto blockBackSpec)

/-- 'bullionlaw09.BlockEncodes', WHERE WHAT IT READS IS OF BULK AT MOST 1048576: true; the input reads as it did. -/
def blockEncodesUptoRow : OpenClaim := { program := "ytbobjcapmfpmkaa", sum := "e2cb28a722686871910aed8f42c1b3bd6a7dd032b136fc0806c6323e8a0601ef", func := "bullion/bullionlaw09.BlockEncodes", spec := "blockEncodes", unfollowed := true, recurses := true, apart := false, narrowed := true }
def BlockEncodesUptoSaid : Prop := blockEncodesUptoRow.holds Try.pinned (OpenSpec.upto blockEncodesSpec)

end Rows
end Go.Proofs.Ytbobjcapmfpmkaa
