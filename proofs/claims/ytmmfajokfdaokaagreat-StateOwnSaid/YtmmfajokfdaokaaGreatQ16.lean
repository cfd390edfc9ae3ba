/- Lemmas and contracts for a statement about the given program. Conditions: as each says. -/
import Derived.Test.YtmmfajokfdaokaaGreatQ04
set_option linter.unusedVariables false
set_option linter.unusedSimpArgs false
set_option maxHeartbeats 12800000
set_option maxRecDepth 20000
namespace Go.X
open Go.RowKit
section
variable {P:Program} {L:Own} {h:PH} {E:Env} {K:PK} {l:Nat} {rec:LoopState→Option Code→Obj}
@[go_sem ↓] theorem roundQ_normal:roundQ l rec K .normal E L h=finY K true l (rec .ready none) L h:=rfl
@[go_sem ↓] theorem bindE_cons (p:Tmp) (ps:List Tmp) (v:Value) (vs:List Value):bindE (p::ps) (v::vs) E=bindE ps vs ((p,v)::E):=rfl
@[go_sem ↓] theorem bindE_nil (vs:List Value):bindE [] vs E=E:=by cases vs<;>rfl
theorem finY_drop {v:Bool} {o:Obj} {L':Own} {h':PH} (hd:Drop L h L' h') (hk:K (.bool v) (rblk l o::L') h'):finY K v l o L h:=⟨L',h',hd,hk⟩
end
theorem yround {P:Program} (hm:P.follows .mixedOrders=true) {l D fn:Nat} {tmps:Array Value} {ps:List Tmp} {assign body:Code} {E:Env} {args:List Value} {L:Own} {h:PH} {K:PK}
  (he:∀ i v,E.lookup i=some v→tmps.getD i undef=v) (hp:(ps.toArray.all fun p=>decide (p<tmps.size))=true) (ha:wfC tmps.size assign=true) (hb:wfC tmps.size body=true)
  (na:noDraw assign=true) (nb:noDraw body=true) (hl:ps.length=args.length)
  (hx:xC P assign (thn (xC P body (roundQ l (lrec fn tmps ps.toArray assign body D) K)) fun _ _ _ _=>False) (bindE ps args E) L h) :
  YSpec P l args (rblk l (lrec fn tmps ps.toArray assign body D .ready none)::L) h K:=by
 refine yspec_round hm he hp ha hb na nb (by simpa using hl) ?_
 have key:∀ Q1 Q2:Post,Q1=Q2→xC P assign Q2 (bindE ps args E) L h→xC P assign Q1 (bindE ps args E) L h:=fun _ _ e hx=>e ▸ hx
 refine key _ _ ?_ hx
 funext e E1 L1 h1
 cases e<;>rfl
theorem YSpec.apn {P:Program} {l:Nat} {args:List Value} {L:Own} {h:PH} {K:PK} (hs:YSpec P l args L h fun v L' h'=>Ap L' h'→Nd L'→K v L' h'):YSpec P l args L h K :=
 ⟨trivial,fun W hg=>by
  obtain ⟨fn,tmps,assign,body,hy,hR⟩:=hs.2 W hg
  exact ⟨fn,tmps,assign,body,hy,hR.mono fun _ _ ⟨r,L',h',e,k,st⟩=>⟨r,L',h',e,k (Ap.of st.1.apart) (Nd.of st.1.nodup),st⟩⟩⟩
theorem Ap.app {h:PH}:∀ {A B:Own},Ap (A++B) h→Ap A h∧Ap B h
 | [],_,hb=>⟨trivial,hb⟩
 | _::_,_,ha=>⟨⟨ha.1,(Ap.app ha.2).1⟩,(Ap.app ha.2).2⟩
theorem perm_back {A B:Own}:(B++A).Perm (A++B):=List.perm_append_comm
@[go_sem ↓] theorem xJump_none {Q:Post} {E:Env} {L:Own} {h:PH}:xJump Q E L h none=Q .normal E L h:=rfl
theorem xrange {P:Program} {gf:Nat} {lb:Array Value} {ps:Array Tmp} {assign body:Code} {Q:Post} {E:Env} {L:Own} {h:PH} (hc:Callable P gf)
  (hs:∀ (l D fn:Nat) (tmps:Array Value),(∀ i v,E.lookup i=some v→tmps.getD i undef=v)→(ps.all fun p=>decide (p<tmps.size))=true→wfC tmps.size assign=true→wfC tmps.size body=true→Apart l L→h l=noC →
   Spec P gf (.func (.yield l) #[] #[]::lb.toList) (rblk l (lrec fn tmps ps assign body D .ready none)::L) h fun _ L' h' =>
    ∃ st jump L1,L'=rblk l (lrec fn tmps ps assign body D st jump)::L1∧st ≠ .busy∧xJump Q E L1 h' jump):xRange P (.func (.func gf) #[] lb) ps assign body Q E L h :=
 ⟨gf,lb,rfl,hc,hs⟩
theorem oent_app {e sz:Nat} (o:Option (Nat×Nat)) (xs:List Value) (A B:Own):oent e sz o xs A++B=oent e sz o xs (A++B):=by
 cases o<;>rfl
theorem apart_left {b:Nat}:∀ {A B:Own},Apart b (A++B)→Apart b A
 | [],_,_=>trivial
 | _::_,_,h=>⟨h.1,apart_left h.2⟩
theorem apO_left {o:Option (Nat×Nat)} {A B:Own} {h:PH} (ha:apO o (A++B) h):apO o A h:=by
 cases o with
 | none=>trivial
 | some p=>exact ⟨apart_left ha.1,ha.2⟩
theorem apart_oent {b e sz:Nat} {o:Option (Nat×Nat)} {xs:List Value} {L:Own} (ha:Apart b (oent e sz o xs L)):Apart b L:=by
 cases o with
 | none=>exact ha
 | some p=>exact ha.2
theorem pubO_noC {h:PH} {o:Option (Nat×Nat)} {xs:List Value} {b:Nat} (hb:apB o b) (hh:h b=noC):pubO h o xs b=noC:=by
 cases o with
 | none=>exact hh
 | some p =>
  have:p.1≠b:=hb
  funext i
  simp only [pubO,pub,if_neg (Ne.symm this),hh]
end Go.X
