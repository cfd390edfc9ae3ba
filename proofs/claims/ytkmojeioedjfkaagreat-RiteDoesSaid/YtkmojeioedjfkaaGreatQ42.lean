/- Lemmas and contracts for a statement about the given program. Conditions: as each says. -/
import Derived.Laws.Externs
import Derived.Lib.AppendZerosOnto
import Derived.Lib.Overlaps
import Derived.Test.YtkmojeioedjfkaaGreatQ01
import Derived.Test.YtkmojeioedjfkaaGreatQ04
import Derived.Test.YtkmojeioedjfkaaGreatQ26
set_option linter.unusedVariables false
set_option linter.unusedSimpArgs false
set_option maxHeartbeats 12800000
set_option maxRecDepth 20000
namespace Go.X
open Go.RowKit
section
variable {P : Program}
theorem step_weaken {L L' L2 : Own} {h2 : PH} {W W' : World} (hs : ∀ e ∈ L', e.b ∈ L.map Blk.b) (st : Step L' W L2 h2 W') : Step L W L2 h2 W' := by
 obtain ⟨g2, kp, fr⟩ := st
 have hsub : ∀ b ∈ L'.map Blk.b, b ∈ L.map Blk.b := by
  intro b hb
  obtain ⟨e, he, rfl⟩ := List.mem_map.1 hb
  exact hs e he
 exact ⟨g2, ⟨kp.os, kp.tape, kp.output, kp.size, fun i hi hM => kp.block i hi fun hm => hM (hsub i hm)⟩, fun e he => (fr e he).imp (hsub _) id⟩
theorem xact_weaken {m : Sem Value} {L L' : Own} {h h' : PH} {K : PK} (hd : Drop L h L' h') (hx : xAct P m L' h' K ⟨⟩) : xAct P m L h K ⟨⟩ := fun W hg => by
 obtain ⟨g, f⟩ := hd W hg
 obtain ⟨r, L2, h2, W', hr, hk, st⟩ := hx W g
 exact ⟨r, L2, h2, W', hr, hk, step_weaken f st⟩
end
end Go.X
