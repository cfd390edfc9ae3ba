/- Lemmas and contracts for a statement about the given program. Conditions: as each says. -/
import Derived.Test.YtmkekhodcacfbaaGreatQ09
import Derived.Test.YtmkekhodcacfbaaGreatQ17
set_option linter.unusedVariables false
set_option linter.unusedSimpArgs false
set_option maxHeartbeats 12800000
set_option maxRecDepth 20000
namespace Go.X
open Go.RowKit Go.Bl
theorem Drop.sub {L L0 : Own} {h : PH} (hs : L0.Sublist L) : Drop L h L0 h := fun W hg =>
 ⟨⟨hg.sub, fun e he => hg.own e (hs.subset he), hg.nodup.sublist (hs.map _), fun e he => hg.apart e (hs.subset he)⟩, fun e he => List.mem_map_of_mem (hs.subset he)⟩
theorem apart_sub {b : Nat} {L0 L : Own} (hs : L0.Sublist L) : Apart b L → Apart b L0 := by
 induction hs with
 | slnil => exact id
 | cons a _ ih => exact fun h => ih h.2
 | cons_cons a _ ih => exact fun h => ⟨h.1, ih h.2⟩
theorem apO_sub {o : Option (Nat × Nat)} {L0 L : Own} {h : PH} (hs : L0.Sublist L) (ha : apO o L h) : apO o L0 h := by
 cases o with
 | none => trivial
 | some p => exact ⟨apart_sub hs ha.1, ha.2⟩
end Go.X
