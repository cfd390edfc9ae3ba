/- Lemmas and contracts for a statement about the given program. Conditions: as each says. -/
import Derived.Below
import Derived.Lib.SmallJoins
import Derived.OpenShut
import Derived.ProofKit
import Derived.Test.YtmkekhodcacfbaaGreatRows
import Derived.WalkKit
import Derived.Test.YtmkekhodcacfbaaGreatQ04
set_option linter.unusedVariables false
set_option linter.unusedSimpArgs false
set_option maxHeartbeats 12800000
set_option maxRecDepth 20000
namespace Go.X
open Go.RowKit Go.Bl Go.ChangeShapes Go.WideShapes Go.ChangeAt Go.Joins
variable {P : Program}
def wh (W : World) : PH := fun b o => W.cell? ⟨b, o, none⟩
theorem good_world (W : World) : Good [] (wh W) W := ⟨fun b o v h => h, fun e he => by simp at he, by simp, fun e he => by simp at he⟩
theorem Spec.calls {f : FuncId} {args : List Value} {W : World} {r : Value} (hc : Callable P f) (hs : Spec P f args [] (wh W) fun v _ _ => v = r) : Calls P f args.toArray W fun e W' => e = .returned r ∧ Below W.heap.size W W' :=
 ((hs.2 W (good_world W)).calls hc).mono fun e W' ⟨v, L', h', he, hv, st⟩ => by
  subst hv
  exact ⟨he, ⟨st.2.1.os, st.2.1.tape, st.2.1.output, st.2.1.size, fun k hk => st.2.1.block k hk (by simp)⟩⟩
theorem elem_world {W : World} {a : Addr} {j : Nat} {v : Value} (h : W.cell? (a.add j) = some v) : elemCell (wh W) (some a) j = some v := by
 have hs := World.cell?_spot h
 simp only [elemCell, hs, if_true, wh]
 rw [show (⟨(a.add j).block, (a.add j).off, none⟩ : Addr) = a.add j by rw [← hs]]
 exact h
end Go.X
