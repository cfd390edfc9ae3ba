/- Part of the proof of a statement about the given program: lemmas and contracts. Conditions: as each says. -/
import Derived.Test.YtemlppiklgeogaaGreatQ01
import Derived.Test.YtemlppiklgeogaaGreatQ04
/- copy: of a list into an own block. Conditions: what is copied has room. -/
set_option linter.unusedVariables false
set_option linter.unusedSimpArgs false
namespace Go.X
open Go.RowKit
end Go.X
/-! Unlike blocks in a form that omega does not see (each disequality doubles what a failing omega does). Conditions: none. -/
namespace Go.X
open Go.RowKit
def NeB (a b : Nat) : Prop := a ≠ b
theorem NeB.symm {a b : Nat} (h : NeB a b) : NeB b a := Ne.symm h
section
variable {L : Own} {K : Value → Prop}
@[go_sem ↓] theorem xFind_missB (b b' ty o c : Nat) (cs : List Value) (hne : NeB b' b) : xFind (⟨b', ty, cs, c⟩ :: L) b o K = xFind L b o K := xFind_miss b b' ty o c cs hne
@[go_sem ↓] theorem xSet_missB (b b' ty o c : Nat) (cs vs : List Value) (K : Own → Prop) (hne : NeB b' b) (t : Tok K) : xSet (⟨b', ty, cs, c⟩ :: L) b o vs K t = xSet L b o vs fun L' => K (⟨b', ty, cs, c⟩ :: L') := xSet_miss b b' ty o c cs vs K hne
end
end Go.X
