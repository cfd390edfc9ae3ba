/- Lemmas and contracts. Conditions: as each says. -/
import Derived.Below
import Derived.Lib.SmallJoins
import Derived.OpenShut
import Derived.ProofKit
import Derived.Test.YtllhopbilpdpkaaGreatRows
import Derived.Test.YtllhopbilpdpkaaGreatQ04
set_option linter.unusedVariables false
set_option linter.unusedSimpArgs false
set_option maxHeartbeats 12800000
set_option maxRecDepth 20000
namespace Go.X
open Go.RowKit Go.Bl Go.ChangeShapes Go.WideShapes Go.ChangeAt Go.Joins
variable {P:Program}
def wh (W:World):PH:=fun b o=>W.cell? ⟨b,o,none⟩
theorem Zsz (W:World):Zo [] (wh W) W:=⟨fun b o v h=>h,fun e he=>by simp at he,qj,fun e he=>by simp at he⟩
theorem Zb.calls {f:FuncId}{args:List Value}{W:World}{r:Value}(hc:UN P f)(hs:Zb P f args [] (wh W) fun v _ _=>v=r):Calls P f args.toArray W fun e W'=>e = .returned r/\Below W.heap.size W W' :=
 ((hs.2 W (Zsz W)).calls hc).mono fun e W' ⟨v,L',h',he,hv,st⟩=>by
  subst hv;exact⟨he,⟨st.2.1.os,st.2.1.tape,st.2.1.output,st.2.1.size,fun k hk=>st.2.1.block k hk qj⟩⟩
theorem Zgm {W:World}{a:Addr}{j:Nat}{v:Value}(h:W.cell? (a.add j)=some v):Z9 (wh W) (some a) j=some v:=by
 have hs:=World.cell?_spot h;simp only[Z9,hs,if_true,wh];rw[show (⟨(a.add j).block,(a.add j).off,none⟩:Addr)=a.add j by rw[<- hs]];exact h
theorem Vk {H:Type}{enc:TypeId×Value->H}{W:World}{base:Nat}{spare:Nat->Bool}{held:Bool}{t e:TypeId}{k:IntKind}{fuel:Nat}{v:Value}{x:DataW H×List MemPlace}(ht:P.underlying t=some (.slice e))(he:P.underlying e=some (.int k))(hc:P.cellsOf e=1)
  (h:DataW.trod enc P W base spare held fuel t [v]=some x):∃zs,Ints (wh W) k v zs:=by
 rcases open_ints ht he hc h with⟨hcs,_⟩ | ⟨a,l,c,zs,hcs,_,hl,hm,hz,_,hcell,hwz⟩
 ·injection hcs with hcs
  subst hcs;exact⟨[],⟨rfl,none,0,rfl,Nat.le_refl _,qh,qh,fun _=>rfl,fun j c hj=>by simp at hj⟩,fun z hz=>by simp at hz⟩
 ·injection hcs with hcs
  subst hcs;have hlz:l<=zs.length:=by rw[hz];split<;>omega
  have hlt:(zs.take l).length=l:=by simp [hlz]
  have hm':c<=9223372036854775807:=by simpa [maxLen] using hm
  refine⟨zs.take l,⟨qj,some a,c,by rw[hlt],qf,hm',qf,fun h=>qL,fun j u hj=>?_⟩,fun z hz=>?_⟩
  ·rw[List.map_take,List.getElem?_take]at hj;split at hj
   ·rename_i hjl;rw[List.getElem?_map]at hj;have hjz:j<zs.length:=qf;simp [hjz]at hj;subst hj;have:=hcell j hjz;rw[List.getD_eq_getElem?_getD]at this;simp [hjz]at this;exact Zgm this
   ·cases hj
  ·have:=hwz z (List.mem_of_mem_take hz)
   simpa [Lit.wf] using this
end Go.X
