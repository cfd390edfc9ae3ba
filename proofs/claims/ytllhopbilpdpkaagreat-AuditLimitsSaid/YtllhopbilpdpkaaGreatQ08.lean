/- Lemmas and contracts. Conditions: as each says. -/
import Derived.Test.YtllhopbilpdpkaaGreatQ05
import Derived.Test.YtllhopbilpdpkaaGreatQ07
set_option linter.unusedVariables false
set_option linter.unusedSimpArgs false
set_option maxHeartbeats 12800000
set_option maxRecDepth 20000
namespace Go.X
open Go.RowKit Go.Bl Go.ChangeShapes Go.WideShapes Go.ChangeAt Go.Joins Go.Proofs Go.Proofs.Tryz
theorem own:ownKnob prog.godebug=none:=by kernel_rfl
theorem Zbu:laidOutB prog=true:=by kernel_rfl
section
variable {H:Type} {enc:TypeId×Value→H} {W:World} {base b0:Nat} {spare:Nat→Bool} {held:Bool} {r:Reach} {v:Value} {d:DataW H} {p:List MemPlace}
set_option maxRecDepth 100000 in
theorem Zyx (hv:Value.okWide prog W r b0 3 v)(h:DataW.Trod enc prog W base spare held 3 v d p):∃n,v = .int .i64 n ∧ -9223372036854775808≤n∧n≤9223372036854775807:=by
 obtain⟨n,hn,_,_,w⟩:=open_int underlying3 hv h;have:IntKind.i64.min≤n∧n≤IntKind.i64.max:=by simpa [Lit.wf] using w
 rw[show IntKind.i64.min = -9223372036854775808 by decide,show IntKind.i64.max=9223372036854775807 by decide]at this;exact⟨n,hn,this⟩
set_option maxRecDepth 100000 in
theorem Znl (hv:Value.okWide prog W r b0 31 v)(h:DataW.Trod enc prog W base spare held 31 v d p):∃zs,Ints (wh W) .u8 v zs:=by
 obtain⟨a,l,c,rfl⟩:=okWide_slice underlying31 hv;obtain⟨f,hf⟩:=h;exact WP (k:=.u8) underlying31 underlying5 (by kernel_rfl) hf
end
end Go.X
