/- Lemmas and contracts for a statement about the given program. Conditions: as each says. -/
import Derived.Test.YtpgdjcaifeapgaaGreatQ09
import Derived.Test.YtpgdjcaifeapgaaGreatQ17
set_option linter.unusedVariables false
set_option linter.unusedSimpArgs false
set_option maxHeartbeats 12800000
set_option maxRecDepth 20000
namespace Go.X
open Go.RowKit Go.Bl
theorem Drop.sub {L L0 : Own} {h : PH} (hs : L0.Sublist L) : Drop L h L0 h := fun W hg =>
 ⟨⟨hg.sub, fun e he => hg.own e (hs.subset he), hg.nodup.sublist (hs.map _), fun e he => hg.apart e (hs.subset he)⟩, fun e he => List.mem_map_of_mem (hs.subset he)⟩
end Go.X
