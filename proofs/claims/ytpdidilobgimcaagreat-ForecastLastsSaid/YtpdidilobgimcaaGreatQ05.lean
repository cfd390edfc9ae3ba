/- Lemmas and contracts. Conditions: as each says. -/
import Derived.Below
import Derived.Lib.SmallJoins
import Derived.OpenShut
import Derived.ProofKit
import Derived.Test.YtpdidilobgimcaaGreatRows
import Derived.Test.YtpdidilobgimcaaGreatQ04
set_option linter.unusedVariables false
set_option linter.unusedSimpArgs false
set_option maxHeartbeats 12800000
set_option maxRecDepth 20000
namespace Go.X
open Go.RowKit Go.Bl Go.ChangeShapes Go.WideShapes Go.ChangeAt Go.Joins
variable {P:Program}
def wh (W:World):PH:=fun b o=>W.cell? ⟨b,o,none⟩
theorem Zph (W:World):Zk [] (wh W) W:=⟨fun b o v h=>h,fun e he=>by simp at he,by simp,fun e he=>by simp at he⟩
theorem Zb.calls {f:FuncId}{args:List Value}{W:World}{r:Value}(hc:V4 P f)(hs:Zb P f args [] (wh W) fun v _ _=>v=r):Calls P f args.toArray W fun e W'=>e = .returned r∧Below W.heap.size W W' :=
 ((hs.2 W (Zph W)).calls hc).mono fun e W' ⟨v,L',h',he,hv,st⟩=>by
  subst hv;exact⟨he,⟨st.2.1.os,st.2.1.tape,st.2.1.output,st.2.1.size,fun k hk=>st.2.1.block k hk (by simp)⟩⟩
end Go.X
