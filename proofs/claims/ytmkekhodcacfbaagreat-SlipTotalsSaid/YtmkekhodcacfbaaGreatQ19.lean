/- Lemmas and contracts for a statement about the given program. Conditions: as each says. -/
import Derived.Test.YtmkekhodcacfbaaGreatQ01
import Derived.Test.YtmkekhodcacfbaaGreatQ04
set_option linter.unusedVariables false
set_option linter.unusedSimpArgs false
set_option maxHeartbeats 12800000
set_option maxRecDepth 20000
namespace Go.X
open Go.RowKit
def NeB (a b : Nat) : Prop := a ≠ b
theorem NeB.symm {a b : Nat} (h : NeB a b) : NeB b a := Ne.symm h
section
variable {L : Own} {K : Value → Prop}
@[go_sem ↓] theorem xFind_missB (b b' ty o c : Nat) (cs : List Value) (hne : NeB b' b) : xFind (⟨b', ty, cs, c⟩ :: L) b o K = xFind L b o K := xFind_miss b b' ty o c cs hne
@[go_sem ↓] theorem xSet_missB (b b' ty o c : Nat) (cs vs : List Value) (K : Own → Prop) (hne : NeB b' b) (t : Tok K) : xSet (⟨b', ty, cs, c⟩ :: L) b o vs K t = xSet L b o vs fun L' => K (⟨b', ty, cs, c⟩ :: L') := xSet_miss b b' ty o c cs vs K hne
end
end Go.X
