/- Lemmas and contracts. Conditions: as each says. -/
import Derived.Deep.LoopGhost
import Derived.RangeFuncCalls
import Derived.RangeFuncRecord
import Derived.Scope
import Derived.TacticsIn
import Derived.Test.YtllhopbilpdpkaaGreatQ01
set_option linter.unusedVariables false
set_option linter.unusedSimpArgs false
set_option maxHeartbeats 12800000
set_option maxRecDepth 20000
namespace Go.X
open Go.RowKit
variable {P:Program}
def Up (nt:Nat)(M:List Nat)(W0:World)(Q:G5):Exit->Act->World->Prop:=fun e a W=>∃E L h,Q e E L h/\Ok nt M W0 E L h a W
theorem Zzw {o:Oper}{a:Act}{W:World}{L:Own}{h:PH}{K:PK}{next:Act->World->Prop}{Q:Exit->Act->World->Prop}{q:Bool}(hg:Zo L h W)
  (hr:ZN P q L h K W ((execOp a.eval o).run P W)) (hn:∀v L' h' W',K v L' h'->Step L W L' h' W'->next (a.put o.dst v) W'):o.wp P a W next Q:=by
 unfold Oper.wp
 generalize (execOp a.eval o).run P W=r at hr
 cases hr with
 | val v L' h' W' hk st _=>exact hn v L' h' W' hk st
 | skip L' h' W' hk st _=>exact hn undef L' h' W' hk st
 | call f args hs =>
  exact hs.mono fun e W' hh=>by
   obtain⟨r,L',h',rfl,hk,st⟩:=hh;exact hn r L' h' W' hk st
theorem Zqr:∀ (l:List Oper)(j:Nat),J5 l j=(l.toArray[j]?).bind (·.dst)
 | [],j=>by simp [J5]
 | o::l,0=>by simp [J5]
 | o::l,j+1=>by simp [J5,Zqr l j]
theorem VD {ops:List Oper}{E:Env}{a:Act}{o:Oper}{j:Nat}{want:Bool}{K:Bool->Prop}(he:∀i v,E.lookup i=some v->a.tmps.getD i undef=v)
  (hgd:o.guard=some (j,want)) (hx:xG E (J5 ops j) want K):K (Region.wanted o (yielded ops.toArray a.tmps)):=by
 obtain⟨t,ht,hl⟩:=hx;have h1:=U1 he hl;rw[Zqr]at ht;rcases h1 with⟨b,hb,hk⟩ | ⟨hb,hk⟩
 ·have hin:a.tmps[t]?=some (.bool b):=by
   rw[Array.getD_eq_getD_getElem?]at hb
   cases hq:a.tmps[t]? with
   | some v=>rw[hq]at hb;simp at hb;rw[hb]
   | none=>rw[hq]at hb;simp [undef]at hb
  have e:Region.wanted o (yielded ops.toArray a.tmps)=(b == want):=by
   simp only[Region.wanted,hgd,yielded,ht,Option.bind_some,hin]
   cases b<;>cases want<;>rfl
  rw[e];exact hk
 ·have e:Region.wanted o (yielded ops.toArray a.tmps)=false:=by
   rw[Array.getD_eq_getD_getElem?]at hb
   cases hq:a.tmps[t]? with
   | some v =>
    rw[hq]at hb;simp at hb;subst hb;simp only[Region.wanted,hgd,yielded,ht,Option.bind_some,hq,undef]
    cases want<;>rfl
   | none =>
    simp only[Region.wanted,hgd,yielded,ht,Option.bind_some,hq]
    cases want<;>rfl
  rw[e];exact hk
theorem UY {nt:Nat}{o:Oper}{l:List Oper}(hd:Jy nt (o::l)=true):(∀t,o.dst=some t->t<nt)/\Jy nt l=true:=by
 simp only[Jy,List.all_cons,Bool.and_eq_true]at hd;refine⟨fun t ht=>?_,hd.2⟩;have:=hd.1;rw[ht]at this
 simpa using this
def rF (ρ:Option Nat):Fence:={ Fence.wide with round:=ρ }
theorem Zfw {ρ:Option Nat}{n:Nat}{f:FuncId}{args:Array Value}{w:World}{R:Ending->World->Prop}(h:Calls P f args w R):CallsIn (rF ρ) n P f args w R :=
 (callsIn_wide.2 h:CallsIn Fence.wide n P f args w R)
theorem Zgw {ρ:Option Nat}{p:Prop}:(rF ρ).depth.isSome=true->p:=fun h=>by simp [rF,Fence.wide]at h
theorem GW {ρ:Option Nat}{o:Oper}{a:Act}{W:World}{L:Own}{h:PH}{K:PK}{next:Act->World->Prop}{Q:Exit->Act->World->Prop}{q:Bool}{r:Result Next}
  (hr:ZN P q L h K W r) (hn:∀v L' h' W',K v L' h'->Step L W L' h' W'->next (a.put o.dst v) W'):o.uponIn (rF ρ) 0 P a next Q r:=by
 cases hr with
 | val v L' h' W' hk st _=>exact hn v L' h' W' hk st
 | skip L' h' W' hk st _=>exact hn undef L' h' W' hk st
 | call f args hs =>
  refine⟨Zgw,Zfw (hs.mono fun e W' hh=>?_)⟩;obtain⟨r,L',h',rfl,hk,st⟩:=hh;exact hn r L' h' W' hk st
theorem Zxu {dst:Option Tmp}{f:Operand}{az:Array Operand}{ats:Array TypeId}{ty:TypeId}{pos:String}{af:Array Edge}{gd:Option (Nat×Bool)}{L:Own}{h:PH}{K:PK}{a:Act}{W:World}
  (hg:Zo L h W) (h1:Zfc P (a.eval f) (az.toList.map a.eval) L h K):ZN P true L h K W ((execOp a.eval ⟨dst,.call ⟨.value f,az,ats⟩,ty,pos,af,gd⟩).run P W):=by
 obtain⟨g,first,cap,hf,hs⟩:=h1;have e2:(first.toList++az.toList.map a.eval++cap.toList).toArray=first++az.map a.eval++cap:=by apply Array.ext';simp
 have e:(execOp a.eval ⟨dst,.call ⟨.value f,az,ats⟩,ty,pos,af,gd⟩).run P W=(callFunc g (first.toList++az.toList.map a.eval++cap.toList).toArray).run P W:=by
  rw[e2];simp only[execOp,resolve,hf,Deferred.ofValue,pure_bind,invoke]
 rw[e];rcases hs.2 W hg with⟨⟨fn,g1,g2,g3⟩,hs⟩ | ⟨v,hr,r,L',h',er,hk,st⟩
 ·rw[WG g1 g2 g3];exact .call g _ hs
 ·rw[hr]
  cases er
  exact .val v L' h' W hk st fun _=>rfl
theorem Ymr {o:Op}{ty:TypeId}{E:Env}{L:Own}{h:PH}{K:PK}(ho:∀f az ats,o ≠ .call ⟨.value f,az,ats⟩):JL P o ty E L h K=xOp P o ty E L h K:=by
 unfold JL;split
 ·exact absurd rfl (ho _ _ _)
 ·rfl
theorem Ztd {ρ:Option Nat}{dst:Option Tmp}{o:Op}{ty:TypeId}{pos:String}{af:Array Edge}{gd:Option (Nat×Bool)}{E:Env}{L:Own}{h:PH}{K:PK}{a:Act}{W:World}
  {next:Act->World->Prop} {Q:Exit->Act->World->Prop}
  (he:∀i v,E.lookup i=some v->a.tmps.getD i undef=v) (hg:Zo L h W) (hx:JL P o ty E L h K) (hn:∀v L' h' W',K v L' h'->Step L W L' h' W'->next (a.put dst v) W') :
  Oper.wpIn (rF ρ) 0 P ⟨dst,o,ty,pos,af,gd⟩ a W next Q:=by
 refine⟨fun _ _=>trivial,?_⟩;have hnd:∀c,(⟨dst,o,ty,pos,af,gd⟩:Oper).op ≠ .defer c:=by
  intro c e;simp only at e;subst e;exact hx.elim
 rw[Oper.semAt_eq _ _ _ hnd];by_cases ho:∃f az ats,o = .call ⟨.value f,az,ats⟩
 ·obtain⟨f,az,ats,rfl⟩:=ho;have h1:=YO he (xs:=az.toList) (ZW he (x:=f) hx);rcases h1 with h1 | ⟨l,hl,h1⟩
  ·exact GW (Zxu hg h1) hn
  ·obtain⟨fn,tmps,assign,body,hy,hR⟩:=h1.2 W hg;have ha:(az.toList.map a.eval).toArray=az.map a.eval:=Va _ _;rw[ha]at hy;have e:(execOp a.eval ⟨dst,.call ⟨.value f,az,ats⟩,ty,pos,af,gd⟩).run P W = .ok (.round l fn tmps assign body) W:=by
    simp only[execOp,resolve,hl,Deferred.ofValue,pure_bind,invoke]
    simpa using hy
   rw[e];refine⟨Zgw,(RoundIn.mono (R':=fun e W'=>_) (hR:RoundIn Fence.wide 0 P l fn tmps assign body W _) fun e W' hh=>?_:RoundIn Fence.wide 0 P l fn tmps assign body W _)⟩;obtain⟨r,L',h',rfl,hk,st⟩:=hh;exact hn r L' h' W' hk st
 ·rw[Ymr (fun f az ats e=>ho ⟨f,az,ats,e⟩)]at hx;exact GW (Zle he hg hx) hn
theorem Zag {ρ:Option Nat}{nt:Nat}{M:List Nat}{W0:World}{ops:List Oper}{Q:G5}:∀ {rest:List Oper} {E:Env} {L:Own} {h:PH} {a:Act} {W:World},Jy nt rest=true ->
  Zmj P ops (Q .normal) rest E L h->Ok nt M W0 E L h a W->wpListIn (rF ρ) 0 P ops.toArray (Up nt M W0 Q) rest a W
 | [],E,L,h,a,W,_,hx,ok=>⟨E,L,h,hx,ok⟩
 | o::rest,E,L,h,a,W,hd,hx,ok=>by
  obtain⟨hd1,hd2⟩:=UY hd;obtain⟨dst,op,ty,pos,af,gd⟩:=o;have go:JL P op ty E L h (fun v L h=>Zmj P ops (Q .normal) rest (cons dst v E) L h)->Oper.wpIn (rF ρ) 0 P ⟨dst,op,ty,pos,af,gd⟩ a W (wpListIn (rF ρ) 0 P ops.toArray (Up nt M W0 Q) rest) (Up nt M W0 Q):=fun hx =>
   Ztd ok.env ok.good hx fun v L' h' W' hk st=>Zag hd2 hk ((ok.step st).put dst v hd1)
  unfold wpListIn
  cases gd with
  | none =>
   rw[if_pos zS];exact go hx
  | some g =>
   obtain⟨j,want⟩:=g;obtain⟨hk1,hk2⟩:=VD (o:=⟨dst,op,ty,pos,af,some (j,want)⟩) ok.env rfl hx
   cases hb:Region.wanted ⟨dst,op,ty,pos,af,some (j,want)⟩ (yielded ops.toArray a.tmps) with
   | true=>rw[if_pos rfl];exact go (hk1 hb)
   | false=>rw[if_neg qj];exact⟨fun _ _=>trivial,Zag hd2 (hk2 hb) (ok.put dst undef hd1)⟩
theorem Zde {nt:Nat}{M:List Nat}{W0:World}{ops:List Oper}{Q:Env->Prop}{L:Own}{h:PH}{ds:List Deferred}(fr:∀e∈L,e.b∈M\/W0.heap.size<=e.b){R:Act->Prop} :
  ∀ {rest:List Oper} {E:Env} {a:Act},Jy nt rest=true->(rest.all fun o=>Jv o.op)=true->(∀i v,E.lookup i=some v->a.tmps.getD i undef=v)->a.tmps.size=nt->a.defers=ds ->
  (∀E' a',Q E'->(∀i v,E'.lookup i=some v->a'.tmps.getD i undef=v)->a'.tmps.size=nt->a'.defers=ds->R a') ->
  Gq P ops Q L h rest E->wpQuiet P ops.toArray (fun W'=>Zo L h W'/\Zv M W0 W'/\Zw W0.heap.size ds L W') R rest a
 | [],E,a,_,_,he,hs,hdf,hR,hx=>hR E a hx he hs hdf
 | o::rest,E,a,hd,hq,he,hs,hdf,hR,hx=>by
  obtain⟨hd1,hd2⟩:=UY hd;obtain⟨dst,op,ty,pos,af,gd⟩:=o;simp only[List.all_cons,Bool.and_eq_true]at hq;have put:∀v,(∀i u,(cons dst v E).lookup i=some u->(a.put dst v).tmps.getD i undef=u)/\(a.put dst v).tmps.size=nt/\(a.put dst v).defers=ds:=by
   intro v
   cases dst with
   | none=>exact⟨he,hs,hdf⟩
   | some t =>
    have ht:=hd1 t rfl;refine⟨fun i u hi=>?_,by simp [Act.put,hs],hdf⟩;simp only[cons,List.lookup]at hi;by_cases e:i=t
    ·subst e;simp at hi;subst hi;simp [Act.put,hs,ht]
    ·have hne:(i == t)=false:=by simpa using e
     rw[hne]at hi;have:=he i u hi;simp only[Act.put];rw[<- this];simp [Array.getD_eq_getD_getElem?,Ne.symm e]
  have nextq:∀v,Gq P ops Q L h rest (cons dst v E)->wpQuiet P ops.toArray (fun W'=>Zo L h W'/\Zv M W0 W'/\Zw W0.heap.size ds L W') R rest (a.put dst v):=fun v hx' =>
   Zde fr hd2 hq.2 (put v).1 (put v).2.1 (put v).2.2 hR hx'
  have go:(Zfh P op ty E L h fun v=>Gq P ops Q L h rest (cons dst v E)) ->
    Oper.quiet P ⟨dst,op,ty,pos,af,gd⟩ a (fun W'=>Zo L h W'/\Zv M W0 W'/\Zw W0.heap.size ds L W') (wpQuiet P ops.toArray (fun W'=>Zo L h W'/\Zv M W0 W'/\Zw W0.heap.size ds L W') R rest):=by
   intro hx';obtain⟨v,hk,hr⟩:=Ztl (P:=P) (dst:=dst) (pos:=pos) (af:=af) (gd:=gd) he hq.1 hx';refine⟨v,fun W hW=>?_,nextq v hk⟩;have hr:=hr W hW.1;unfold Oper.quietAt
   generalize (execOp a.eval ⟨dst,op,ty,pos,af,gd⟩).run P W=r at hr
   cases hr with
   | val u L' h' W' hk' st sm=>exact⟨sm rfl,hk'.1⟩
   | skip L' h' W' hk' st hq'=>cases hq'
   | call f args hs =>
    refine⟨rfl,hs.mono fun e W' hh=>?_⟩;obtain⟨r,L',h',rfl,⟨rfl,rfl,rfl⟩,st⟩:=hh;exact⟨rfl,st.1,Zql hW.2.1 fr st.2.1,hW.2.2.step st⟩
  unfold wpQuiet
  cases gd with
  | none =>
   rw[if_pos zS];exact go hx
  | some g =>
   obtain⟨j,want⟩:=g;obtain⟨hk1,hk2⟩:=VD (o:=⟨dst,op,ty,pos,af,some (j,want)⟩) he rfl hx
   cases hb:Region.wanted ⟨dst,op,ty,pos,af,some (j,want)⟩ (yielded ops.toArray a.tmps) with
   | true=>rw[if_pos rfl];exact go (hk1 hb)
   | false=>rw[if_neg qj];exact nextq undef (hk2 hb)
theorem Zrg {ops:List Oper}{L:Own}{h:PH}{E:Env}{K:Env->Own->PH->Prop}:∀ {l:List Oper} {i:Nat},xAt P ops L h E K l i->∃o,l[i]?=some o/\xAt P ops L h E K [o] 0
 | [],_,hx=>hx.elim
 | o::os,0,hx=>⟨o,rfl,hx⟩
 | o::os,n+1,hx=>by
  obtain⟨q,h1,h2⟩:=Zrg (l:=os) (i:=n) hx;exact⟨q,qO,h2⟩
theorem JN {nt:Nat}:∀ {l:List Oper} {i:Nat} {o:Oper},Jy nt l=true->l[i]?=some o->∀t,o.dst=some t->t<nt
 | [],_,_,_,h=>by simp at h
 | x::l,0,o,hd,h=>by simp at h;subst h;exact(UY hd).1
 | x::l,n+1,o,hd,h=>JN (UY hd).2 (by simpa using h)
theorem Zkz {nt:Nat}{M:List Nat}{W0:World}{ops:List Oper}{Q:Exit->Act->World->Prop}{K:Env->Own->PH->Prop}{R:Act->World->Prop}{i:Nat}{E:Env}{L:Own}{h:PH}{a:Act}{W:World}
  (hd:Jy nt ops=true) (hR:∀E L h a W,K E L h->Ok nt M W0 E L h a W->R a W) (hx:xAt P ops L h E K ops i) (ok:Ok nt M W0 E L h a W):wpOp P ops.toArray Q i R a W:=by
 obtain⟨o,ho,hx⟩:=Zrg hx;have hd1:=JN hd ho;unfold wpOp;rw[List.getElem?_toArray,ho];obtain⟨dst,op,ty,pos,af,gd⟩:=o;have go:xOp P op ty E L h (fun v L h=>K (cons dst v E) L h)->Oper.wp P ⟨dst,op,ty,pos,af,gd⟩ a W R Q:=fun hx =>
  Zzw ok.good (Zle ok.env ok.good hx) fun v L' h' W' hk st=>hR _ _ _ _ _ hk ((ok.step st).put dst v hd1)
 cases gd with
 | none =>
  simp only;rw[if_pos zS];exact Or.inl (go hx)
 | some g =>
  obtain⟨j,want⟩:=g;obtain⟨hk1,hk2⟩:=VD (o:=⟨dst,op,ty,pos,af,some (j,want)⟩) ok.env rfl hx;simp only
  cases hb:Region.wanted ⟨dst,op,ty,pos,af,some (j,want)⟩ (yielded ops.toArray a.tmps) with
  | true=>rw[if_pos rfl];exact Or.inl (go (hk1 hb))
  | false=>rw[if_neg qj];exact hR _ _ _ _ _ (hk2 hb) (ok.put dst undef hd1)
def UpN (nt:Nat)(M:List Nat)(W0:World)(Q:G5):Exit->Act->World->Prop:=fun e a W=>(∀c,e ≠ .panic c)/\Up nt M W0 Q e a W
theorem Zge {nt:Nat}{M:List Nat}{W0:World}{ops:List Oper}{K:Env->Own->PH->Prop}{i:Nat}{E:Env}{L:Own}{h:PH}{a:Act}{W:World}
  (hd:Jy nt ops=true) (hp:((ops[i]?).map fun o=>Zki o.op).getD false=true) (hx:xAt P ops L h E K ops i) (ok:Ok nt M W0 E L h a W) :
  ∃o v,ops[i]?=some o/\Yields P ops.toArray o v a/\K (cons o.dst v E) L h/\Ok nt M W0 (cons o.dst v E) L h (a.put o.dst v) W:=by
 obtain⟨o,ho,hx⟩:=Zrg hx;have hd1:=JN hd ho;rw[ho]at hp;simp only[Option.map_some,Option.getD_some]at hp;obtain⟨dst,op,ty,pos,af,gd⟩:=o;have go:xOp P op ty E L h (fun v L h=>K (cons dst v E) L h)->Region.wanted ⟨dst,op,ty,pos,af,gd⟩ (yielded ops.toArray a.tmps)=true ->
   ∃v,Yields P ops.toArray ⟨dst,op,ty,pos,af,gd⟩ v a/\K (cons dst v E) L h:=fun hx hw=>by
  obtain⟨v,hk,hrun⟩:=Zub (P:=P) (dst:=dst) (pos:=pos) (af:=af) (gd:=gd) ok.env hp hx;exact⟨v,Or.inl ⟨hw,hrun⟩,hk⟩
 cases gd with
 | none =>
  obtain⟨v,h1,h2⟩:=go hx zS;exact⟨_,v,ho,h1,h2,ok.put dst v hd1⟩
 | some g =>
  obtain⟨j,want⟩:=g;obtain⟨hk1,hk2⟩:=VD (o:=⟨dst,op,ty,pos,af,some (j,want)⟩) ok.env rfl hx
  cases hb:Region.wanted ⟨dst,op,ty,pos,af,some (j,want)⟩ (yielded ops.toArray a.tmps) with
  | true =>
   obtain⟨v,h1,h2⟩:=go (hk1 hb) hb;exact⟨_,v,ho,h1,h2,ok.put dst v hd1⟩
  | false=>exact⟨_,undef,ho,Or.inr ⟨hb,rfl⟩,hk2 hb,ok.put dst undef hd1⟩
theorem Yfx {nt:Nat}{ops:List Oper}{K:Env->Own->PH->Prop}{i:Nat}{E:Env}{L0:Own}{h0:PH}{a:Act}
  (he:∀i v,E.lookup i=some v->a.tmps.getD i undef=v) (hp:((ops[i]?).map fun o=>Zqy o.op).getD false=true) (hx:xAt P ops L0 h0 E K ops i) :
  ∃o v L1 h1,ops[i]?=some o/\YieldsIf P ops.toArray (Zo L0 h0) o v a/\K (cons o.dst v E) L1 h1:=by
 obtain⟨o,ho,hx⟩:=Zrg hx;rw[ho]at hp;simp only[Option.map_some,Option.getD_some]at hp;obtain⟨dst,op,ty,pos,af,gd⟩:=o
 cases op<;>simp only[Zqy,Bool.false_eq_true]at hp
 rename_i t x;have go:xOp P (.load t x) ty E L0 h0 (fun v L h=>K (cons dst v E) L h)->Region.wanted ⟨dst,.load t x,ty,pos,af,gd⟩ (yielded ops.toArray a.tmps)=true ->
   ∃v,YieldsIf P ops.toArray (Zo L0 h0) ⟨dst,.load t x,ty,pos,af,gd⟩ v a/\K (cons dst v E) L0 h0:=fun hx hw=>by
  obtain⟨p,hp',ti,ht,hx⟩:=ZW he (x:=x) hx;obtain⟨v,hk,hr⟩:=GM ht hx;refine⟨v,Or.inl ⟨hw,fun W hW=>?_⟩,hk⟩;have h1:=Vm (m:=Instr.loadAt t (.pointer (some p))) (by simpa [Instr.loadAt,Instr.sureAddr] using hr W hW);rw[<- hp']at h1;exact h1
 cases gd with
 | none =>
  obtain⟨v,h1,h2⟩:=go hx zS;exact⟨_,v,_,_,ho,h1,h2⟩
 | some g =>
  obtain⟨j,want⟩:=g;obtain⟨hk1,hk2⟩:=VD (o:=⟨dst,.load t x,ty,pos,af,some (j,want)⟩) he rfl hx
  cases hb:Region.wanted ⟨dst,.load t x,ty,pos,af,some (j,want)⟩ (yielded ops.toArray a.tmps) with
  | true =>
   obtain⟨v,h1,h2⟩:=go (hk1 hb) hb;exact⟨_,v,_,_,ho,h1,h2⟩
  | false=>exact⟨_,undef,_,_,ho,Or.inr ⟨hb,rfl⟩,hk2 hb⟩
theorem Zzy {nt:Nat}{M:List Nat}{W0:World}{Q:G5}(d:Option Tmp)(v:Value):∀c a w,UpN nt M W0 Q (.panic c) (a.put d v) w->UpN nt M W0 Q (.panic c) a w:=fun c a w hh=>absurd rfl (hh.1 c)
theorem Jo {nt:Nat}{M:List Nat}{W0:World}{ops:List Oper}{Q:G5}(hd:Jy nt ops=true)(hs:Region.noSelect ops.toArray=true) :
  ∀(T:Pl) (top:Bool) (n:Nat) (l:Array Bool) {E:Env} {L:Own} {h:PH} {a:Act} {W:World},T.ok ops.toArray top n l=true->xPl P ops (Q .normal) none T E L h->Ok nt M W0 E L h a W ->
   (top=true->wpAny P .any ops.toArray (UpN nt M W0 Q) n l a W)/\(∀i∈T.heads,wpOp P ops.toArray (UpN nt M W0 Q) i (wpAny P .any ops.toArray (UpN nt M W0 Q) (n-1) (l.setIfInBounds i true)) a W)
 | .fin,top,n,l,E,L,h,a,W,hT,hx,ok=>by
  simp only[Pl.ok,Bool.and_eq_true,List.isEmpty_iff]at hT;refine⟨fun _=>wpAny_done hT.2 ⟨fun c h=>qL,E,L,h,hx,ok⟩ n,fun i hi=>zk⟩
 | .nil,top,n,l,E,L,h,a,W,hT,hx,ok=>by
  simp only[Pl.ok,Bool.not_eq_true']at hT;subst hT;exact⟨fun h=>qL,fun i hi=>zk⟩
 | .tk i t,top,n,l,E,L,h,a,W,hT,hx,ok=>by
  simp only[Pl.ok,Bool.and_eq_true]at hT;obtain⟨ht,⟨⟨hf,hr⟩,hp⟩,hn⟩:=hT;refine⟨fun _=>?_,fun i hi=>zk⟩
  cases n with
  | zero=>cases hn
  | succ m =>
   simp only at hn;obtain⟨o,v,ho,hy,hk,ok'⟩:=Zge hd (by simpa using hp) hx ok;exact wpAny_take (i:=i) (v:=v) (by rw[List.getElem?_toArray];exact ho) hs hf hr (Zzy _ _) hy ((Jo hd hs t true m _ hn hk ok').1 rfl)
 | .tkl i t,top,n,l,E,L,h,a,W,hT,hx,ok=>by
  obtain⟨L0,h0,hh,_⟩:=hx
  cases hh
 | .or k i t r,top,n,l,E,L,h,a,W,hT,hx,ok=>by
  simp only[Pl.ok,Bool.and_eq_true]at hT;obtain⟨⟨⟨ht,hkp⟩,hn⟩,hr⟩:=hT;obtain⟨hx1,hx2⟩:=hx;have h2:=(Jo hd hs r false n l hr hx2 ok).2;have h1:wpOp P ops.toArray (UpN nt M W0 Q) i (wpAny P .any ops.toArray (UpN nt M W0 Q) (n-1) (l.setIfInBounds i true)) a W:=by
   cases n with
   | zero=>cases hn
   | succ m =>
    simp only at hn;have e:kS k (none:Option (Own×PH))=none:=by cases k<;>rfl
    exact Zkz hd (fun E L h a W hk ok=>(Jo hd hs t true m _ hn (by have:=hk.2;rw[e]at this;exact this) ok).1 rfl) hx1 ok
  have hall:∀j∈(Pl.or k i t r).heads,wpOp P ops.toArray (UpN nt M W0 Q) j (wpAny P .any ops.toArray (UpN nt M W0 Q) (n-1) (l.setIfInBounds j true)) a W:=by
   intro j hj;simp only[Pl.heads,List.mem_cons]at hj;rcases hj with rfl|hj
   ·exact h1
   ·exact h2 j hj
  refine⟨fun htop=>?_,hall⟩;subst htop;have hready:Region.ready .any ops.toArray l=i::r.heads:=by simpa using ht
  cases n with
  | zero=>cases hn
  | succ m=>exact wpAny_all hready qj fun j hj=>hall j hj
theorem Uv {nt:Nat}{M:List Nat}{W0:World}{ops:List Oper}{Q:G5}{L0:Own}{h0:PH}(hd:Jy nt ops=true)(hs:Region.noSelect ops.toArray=true) :
  ∀(T:Pl) (top:Bool) (n:Nat) (l:Array Bool) {E:Env} {L:Own} {h:PH} {a:Act} {W:World},T.ok ops.toArray top n l=true->xPl P ops (Q .normal) (some (L0,h0)) T E L h->Ok nt M W0 E L h a W->Zo L0 h0 W ->
   (top=true->Ux P ops.toArray (UpN nt M W0 Q) (Zo L0 h0) (VS ops.toArray) n l a W)/\(∀i∈T.heads,wpOp P ops.toArray (UpN nt M W0 Q) i (fun a' w'=>if VS ops.toArray i=true then Zo L0 h0 w'/\Ux P ops.toArray (UpN nt M W0 Q) (Zo L0 h0) (VS ops.toArray) (n-1) (l.setIfInBounds i true) a' w' else wpAny P .any ops.toArray (UpN nt M W0 Q) (n-1) (l.setIfInBounds i true) a' w') a W)
 | .fin,top,n,l,E,L,h,a,W,hT,hx,ok,hS=>by
  simp only[Pl.ok,Bool.and_eq_true,List.isEmpty_iff]at hT;refine⟨fun _=>Zov hT.2 ⟨fun c h=>qL,E,L,h,hx,ok⟩ n,fun i hi=>zk⟩
 | .nil,top,n,l,E,L,h,a,W,hT,hx,ok,hS=>by
  simp only[Pl.ok,Bool.not_eq_true']at hT;subst hT;exact⟨fun h=>qL,fun i hi=>zk⟩
 | .tk i t,top,n,l,E,L,h,a,W,hT,hx,ok,hS=>by
  simp only[Pl.ok,Bool.and_eq_true]at hT;obtain⟨ht,⟨⟨hf,hr⟩,hp⟩,hn⟩:=hT;refine⟨fun _=>?_,fun i hi=>zk⟩
  cases n with
  | zero=>cases hn
  | succ m =>
   simp only at hn;obtain⟨o,v,ho,hy,hk,ok'⟩:=Zge hd (by simpa using hp) hx ok;have hi:ops.toArray[i]?=some o:=by rw[List.getElem?_toArray];exact ho
   have hkp:VS ops.toArray i=true:=by
    rw[hi]at hp;simp only[Option.map_some,Option.getD_some]at hp;simp only[VS,hi]
    cases hoo:o.op<;>simp_all [Zki,Zgq]
   exact Zoh hi hkp (Region.noSelect_spec hs) (Zzy _ _) m l a W (Region.free_spec hi hf) (by simpa using hr) hy hS ((Uv hd hs t true m _ hn hk ok' hS).1 rfl)
 | .tkl i t,top,n,l,E,L,h,a,W,hT,hx,ok,hS=>by
  simp only[Pl.ok,Bool.and_eq_true]at hT;obtain⟨ht,⟨⟨⟨hf,hr⟩,hp⟩,hw⟩,hn⟩:=hT;refine⟨fun _=>?_,fun i hi=>zk⟩;obtain⟨L1,h1,hh,hx⟩:=hx;injection hh with hh
  injection hh with hh1 hh2
  subst hh1;subst hh2
  cases n with
  | zero=>cases hn
  | succ m =>
   simp only at hn;obtain⟨o,v,L2,h2,ho,hy,hk⟩:=Yfx (nt:=nt) ok.env (by simpa using hp) hx;have hi:ops.toArray[i]?=some o:=by rw[List.getElem?_toArray];exact ho
   have hkp:VS ops.toArray i=true:=by
    rw[hi]at hp;simp only[Option.map_some,Option.getD_some]at hp;simp only[VS,hi]
    cases hoo:o.op<;>simp_all [Zqy,Zgq]
   exact Zjj hi hkp (Region.noSelect_spec hs) (Zzy _ _) m l a W (fun j oj h1 h2 h3 h4=>⟨Region.free_spec hi hf j oj h1 h2 h3 h4,Zix hw j oj h1 h2 h3 h4⟩) (by simpa using hr) hy hS
    ((Uv hd hs t true m _ hn hk (ok.put o.dst v (JN hd ho)) hS).1 rfl)
 | .or k i t r,top,n,l,E,L,h,a,W,hT,hx,ok,hS=>by
  simp only[Pl.ok,Bool.and_eq_true]at hT;obtain⟨⟨⟨ht,hkp⟩,hn⟩,hr⟩:=hT;obtain⟨hx1,hx2⟩:=hx;have hkp:k=VS ops.toArray i:=by simpa using hkp
  have h2:=(Uv hd hs r false n l hr hx2 ok hS).2;have h1:wpOp P ops.toArray (UpN nt M W0 Q) i (fun a' w'=>if VS ops.toArray i=true then Zo L0 h0 w'/\Ux P ops.toArray (UpN nt M W0 Q) (Zo L0 h0) (VS ops.toArray) (n-1) (l.setIfInBounds i true) a' w' else wpAny P .any ops.toArray (UpN nt M W0 Q) (n-1) (l.setIfInBounds i true) a' w') a W:=by
   cases n with
   | zero=>cases hn
   | succ m =>
    simp only at hn;refine Zkz hd (fun E L h a W hk ok=>?_) hx1 ok;rw[<- hkp]
    cases k with
    | true =>
     rw[if_pos rfl];have hg:=hk.1 W ok.good;exact⟨hg,(Uv hd hs t true m _ hn hk.2 ok hg).1 rfl⟩
    | false =>
     rw[if_neg qh];exact(Jo hd hs t true m _ hn hk.2 ok).1 rfl
  have hall:∀j∈(Pl.or k i t r).heads,wpOp P ops.toArray (UpN nt M W0 Q) j (fun a' w'=>if VS ops.toArray j=true then Zo L0 h0 w'/\Ux P ops.toArray (UpN nt M W0 Q) (Zo L0 h0) (VS ops.toArray) (n-1) (l.setIfInBounds j true) a' w' else wpAny P .any ops.toArray (UpN nt M W0 Q) (n-1) (l.setIfInBounds j true) a' w') a W:=by
   intro j hj;simp only[Pl.heads,List.mem_cons]at hj;rcases hj with rfl|hj
   ·exact h1
   ·exact h2 j hj
  refine⟨fun htop=>?_,hall⟩;subst htop;have hready:Region.ready .any ops.toArray l=i::r.heads:=by simpa using ht
  cases n with
  | zero=>cases hn
  | succ m=>exact Zti hready qj fun j hj=>hall j hj
theorem Ent.look {E:Env}:∀ {F:Env},Ent E F->∀i v,F.lookup i=some v->E.lookup i=some v
 | [],_,i,v,h=>by simp at h
 | (j,u)::F,hE,i,v,h=>by
  simp only[List.lookup]at h;by_cases e:i=j
  ·subst e;simp at h;subst h;exact hE.1
  ·have:(i == j)=false:=by simpa using e
   rw[this]at h;exact Ent.look hE.2 i v h
theorem Ok.weaken {nt:Nat}{M:List Nat}{W0:World}{E E':Env}{L L':Own}{h h':PH}{a:Act}{W:World}(ok:Ok nt M W0 E L h a W)(hE:Ent E E')(hD:Za L h L' h'):Ok nt M W0 E' L' h' a W:=by
 obtain⟨g,f⟩:=hD W ok.good;refine⟨fun i v hi=>ok.env i v (hE.look i v hi),ok.size,ok.marks.heap rfl f,g,ok.kept,fun e he=>?_⟩;obtain⟨e',he',hb⟩:=List.mem_map.1 (f e he);rw[<- hb];exact ok.fresh e' he'
theorem Zir (hm:P.follows .mixedOrders=true){nt:Nat}{M:List Nat}{W0:World}{id:Nat}{ops:Array Oper}{Q:G5}{E:Env}{L:Own}{h:PH}{a:Act}{W:World}(hw:wfC nt (.region id ops true)=true)
  (hx:xC P (.region id ops true) Q E L h) (ok:Ok nt M W0 E L h a W):(Code.region id ops true).wp P (Up nt M W0 Q) a W:=by
 rcases hx with⟨hB,hq,hx⟩ | ⟨hs,T,hT,I,hI,s,E0,L0,h0,hE0,hD0,hK0,hx⟩
 ·refine wp_region_quiet (C:=fun W'=>Zo L h W'/\Zv M W0 W'/\Zw W0.heap.size a.defers L W') hm hB ⟨⟨ok.good.sub,ok.good.own,ok.good.nodup,ok.good.apart⟩,⟨ok.kept.os,ok.kept.tape,ok.kept.output,ok.kept.size,ok.kept.block⟩,ok.marks.heap rfl fun e he=>List.mem_map_of_mem he⟩ ?_;have:=Zde (P:=P) (M:=M) (W0:=W0) (ops:=ops.toList) ok.fresh (R:=fun a'=>∀W',(Zo L h W'/\Zv M W0 W'/\Zw W0.heap.size a.defers L W')->Up nt M W0 Q .normal a' W') hw hq ok.env ok.size rfl
   (fun E' a' hQ he hs hdf W' hW'=>⟨E',L,h,hQ,⟨he,hs,hdf ▸ hW'.2.2,hW'.1,hW'.2.1,ok.fresh⟩⟩) hx
  simpa using this
 ·have ok0:Ok nt M W0 E0 L0 h0 a { W with drawn:=W.drawn+1 }:=by
   have ok1:Ok nt M W0 E L h a { W with drawn:=W.drawn+1 }:=⟨ok.env,ok.size,ok.marks.heap rfl fun e he=>List.mem_map_of_mem he,⟨ok.good.sub,ok.good.own,ok.good.nodup,ok.good.apart⟩,⟨ok.kept.os,ok.kept.tape,ok.kept.output,ok.kept.size,ok.kept.block⟩,ok.fresh⟩
   rcases hE0 with rfl|hE0
   ·obtain⟨g,f⟩:=hD0 _ ok1.good;refine⟨ok1.env,ok1.size,ok1.marks.heap rfl (by first|exact f|exact hf),g,ok1.kept,fun e he=>?_⟩;obtain⟨e',he',hb⟩:=List.mem_map.1 (f e he);rw[<- hb];exact ok1.fresh e' he'
   ·exact ok1.weaken hE0 hD0
  have h1:wpAny P .any ops.toList.toArray (UpN nt M W0 fun e E L h=>match e with | .normal=>I E L h|_=>False) ops.size (Array.replicate ops.size false) a { W with drawn:=W.drawn+1 }:=by
   cases s with
   | none=>exact(Jo (P:=P) (Q:=fun e E L h=>match e with | .normal=>I E L h|_=>False) (ops:=ops.toList) hw (by simpa using hs) T true ops.size (Array.replicate ops.size false) wO hx ok0).1 rfl
   | some p=>exact Zfn _ _ _ _ ((Uv (P:=P) (L0:=p.1) (h0:=p.2) (Q:=fun e E L h=>match e with | .normal=>I E L h|_=>False) (ops:=ops.toList) hw (by simpa using hs) T true ops.size (Array.replicate ops.size false) wO hx ok0 (hK0 _ ok0.good)).1 rfl)
  have h2:=wp_region_any (id:=id) hm qO;intro b k cs;obtain⟨e,a',w',hq,harr⟩:=h2 b k cs;refine⟨e,a',w',?_,harr⟩;obtain⟨E1,L1,h1,hq1,ok1⟩:=hq.2
  cases e with
  | normal =>
   obtain⟨E2,L2,h2,hE,hD,hQ⟩:=hI E1 L1 h1 hq1;refine⟨E2,L2,h2,hQ,?_⟩;rcases hE with rfl|hE
   ·obtain⟨g,f⟩:=hD w' ok1.good;refine⟨ok1.env,ok1.size,ok1.marks.heap rfl (by first|exact f|exact hf),g,ok1.kept,fun e he=>?_⟩;obtain⟨e',he',hb⟩:=List.mem_map.1 (f e he);rw[<- hb];exact ok1.fresh e' he'
   ·exact ok1.weaken hE hD
  | _=>exact hq1.elim
def UH:Code->Bool
 | .region _ _ d => !d
 | .seq a b | .cond _ a b=>UH a&&UH b
 | .block _ c | .loop c=>UH c
 | .rangeFunc .. | .scope _=>false
 | _=>true
theorem Wx (hm:P.follows .mixedOrders=true){nt:Nat}{M:List Nat}{W0:World}{ρ:Option Nat}(hrange:ρ=none->∀ {g:Operand} {ps:Array Tmp} {assign body:Code} {Q:G5} {E:Env} {L:Own} {h:PH} {a:Act} {W:World},
      wfC nt (.rangeFunc g ps assign body)=true->xC P (.rangeFunc g ps assign body) Q E L h->Ok nt M W0 E L h a W->(Code.rangeFunc g ps assign body).wpIn (rF ρ) 0 P (Up nt M W0 Q) a W):∀ {c:Code} {Q:G5} {E:Env} {L:Own} {h:PH} {a:Act} {W:World},wfC nt c=true->(ρ=none\/UH c=true) ->
    xC P c Q E L h->Ok nt M W0 E L h a W->c.wpIn (rF ρ) 0 P (Up nt M W0 Q) a W
  | .skip,Q,E,L,h,a,W,_,_,hx,ok=>wpIn_skip ⟨E,L,h,hx,ok⟩
  | .label _,Q,E,L,h,a,W,_,_,hx,ok=>wpIn_label ⟨E,L,h,hx,ok⟩
  | .exit id,Q,E,L,h,a,W,_,_,hx,ok=>wpIn_exit ⟨E,L,h,hx,ok⟩
  | .ret,Q,E,L,h,a,W,_,_,hx,ok=>wpIn_ret ⟨E,L,h,hx,ok⟩
  | .seq x y,Q,E,L,h,a,W,hw,hn,hx,ok=>by
    simp only[wfC,Bool.and_eq_true]at hw;simp only[UH,Bool.and_eq_true]at hn;refine wpIn_seq (wpIn_mono (Wx hm hrange hw.1 (hn.imp id And.left) hx ok) fun e a' W' hq=>?_);obtain⟨E',L',h',hq,ok'⟩:=hq
    cases e<;>first|exact Wx hm hrange hw.2 (hn.imp id And.right) hq ok' | exact⟨E',L',h',hq,ok'⟩
  | .cond c x y,Q,E,L,h,a,W,hw,hn,hx,ok=>by
    simp only[wfC,Bool.and_eq_true]at hw;simp only[UH,Bool.and_eq_true]at hn;obtain⟨t,ht,h1,h2⟩:=ZW ok.env (x:=c) hx
    cases t with
    | true=>exact wpIn_cond_true ht (Wx hm hrange hw.1 (hn.imp id And.left) (h1 rfl) ok)
    | false=>exact wpIn_cond_false ht (Wx hm hrange hw.2 (hn.imp id And.right) (h2 rfl) ok)
  | .block id c,Q,E,L,h,a,W,hw,hn,hx,ok=>by
    refine wpIn_block (wpIn_mono (Wx hm hrange (c:=c) hw hn hx ok) fun e a' W' hq=>?_);obtain⟨E',L',h',hq,ok'⟩:=hq
    cases e with
    | exit i =>
      simp only[inB]at hq;simp only[Exit.inBlock];split
      · rename_i hi;rw[if_pos hi]at hq;exact⟨E',L',h',hq,ok'⟩
      · rename_i hi;rw[if_neg hi]at hq;exact⟨E',L',h',hq,ok'⟩
    | _=>exact⟨E',L',h',hq,ok'⟩
  | .loop c,Q,E,L,h,a,W,hw,hn,hx,ok=>by
    obtain⟨I,⟨n0,h0⟩,hround⟩:=hx;refine wpIn_loop (fun a' W'=>∃n E L h,I n E L h/\Ok nt M W0 E L h a' W') (fun a' W'=>leastOf fun n=>∃E L h,I n E L h/\Ok nt M W0 E L h a' W') ⟨n0,E,L,h,h0,ok⟩ ?_;intro a1 W1 hI;obtain⟨E1,L1,h1,hI1,ok1⟩:=(leastOf_spec (p:=fun n=>∃E L h,I n E L h/\Ok nt M W0 E L h a1 W1) hI).1;obtain⟨E2,L2,h2,hE,hD,hx⟩:=hround _ E1 L1 h1 hI1;refine wpIn_mono (Wx hm hrange (c:=c) hw hn hx (ok1.weaken hE hD)) fun e a' W' hq=>?_;obtain⟨E',L',h',hq,ok'⟩:=hq
    cases e with
    | normal =>
      obtain⟨m,hlt,hI'⟩:=hq;have hex:∃n,∃E L h,I n E L h/\Ok nt M W0 E L h a' W':=⟨m,E',L',h',hI',ok'⟩
      exact show (∃n,∃E L h,I n E L h/\Ok nt M W0 E L h a' W')/\_<_ from⟨hex,Nat.lt_of_le_of_lt ((leastOf_spec hex).2 m ⟨E',L',h',hI',ok'⟩) hlt⟩
    | exit id=>exact⟨E',L',h',hq,ok'⟩
    | goto l=>exact⟨E',L',h',hq,ok'⟩
    | ret=>exact⟨E',L',h',hq,ok'⟩
    | panic ch=>exact⟨E',L',h',hq,ok'⟩
    | outgrown=>exact⟨E',L',h',hq,ok'⟩
  | .region id ops false,Q,E,L,h,a,W,hw,_,hx,ok=>wpIn_region_list (Zag (ops:=ops.toList) hw hx ok)
  | .region id ops true,Q,E,L,h,a,W,hw,hn,hx,ok=>by
    rcases hn with rfl|hn
    · exact wpIn_wide.2 (Zir hm hw hx ok)
    · simp [UH]at hn
  | .rangeFunc g ps assign body,Q,E,L,h,a,W,hw,hn,hx,ok=>by
    rcases hn with hn|hn
    · exact hrange hn hw hx ok
    · simp [UH]at hn
  | .scope c,Q,E,L,h,a,W,hw,hn,hx,ok=>by
    rcases hn with rfl|hn
    · refine wpIn_wide.2 (wp_scope_straight (wpIn_wide.1 (wpIn_mono (Wx hm hrange (c:=c) hw (.inl rfl) hx ok) fun e a' W' hq=>?_)));obtain⟨E',L',h',hq,ok'⟩:=hq
      cases e with
      | goto l=>exact hq.elim
      | _=>exact⟨E',L',h',hq,ok'⟩
    · simp [UH]at hn
  | .goto _,_,_,_,_,_,_,_,_,hx,_=>hx.elim
  | .refuse _,_,_,_,_,_,_,_,_,hx,_=>hx.elim
theorem Zks {b:Nat}:∀ {L:Own},(∀e∈L,e.b≠b)->ZS b L
 | [],_=>trivial
 | x::L,h=>⟨h x qj,Zks fun e he=>h e (List.mem_cons_of_mem _ he)⟩
theorem XCalls.calls' {f:FuncId}{args:Array Value}{W:World}{R:Ending->World->Prop}(hs:XCalls P f args W R)(hc:UN P f):Calls P f args W R:=by
 rcases hs with⟨_,hs⟩ | ⟨v,hr,_⟩
 ·exact hs
 ·obtain⟨fn,g1,g2,g3⟩:=hc;rw[WG g1 g2 g3]at hr
  cases hr
theorem Zpe {W:World}{D:Nat}{x:Obj}(hd:W.heap[D]?=some x)(hx:∀cs t r,x ≠ .cells cs t r)(o:Nat):W.cell? ⟨D,o,none⟩=none:=by
 unfold World.cell?;simp only[hd]
 cases x<;>first|rfl|exact absurd rfl (hx _ _ _)
theorem GX {L:Own}{h:PH}{W:World}{D:Nat}{x:Obj}(y:Obj)(hg:Zo L h W)(hD:D ∉ L.map Zn.b)(hd:W.heap[D]?=some x)(hx:∀cs t r,x ≠ .cells cs t r):Zo L h (W.putObj D y):=by
 refine⟨fun b o v hv=>?_,fun e he=>?_,hg.nodup,hg.apart⟩
 ·have h1:=hg.sub b o v hv;by_cases e:b=D
  ·subst e;rw[Zpe hd hx]at h1
   cases h1
  ·exact(World.cell?_of_block (World.putObj_heap_other e)).trans h1
 ·have hne:e.b≠D:=fun e'=>hD (e' ▸ List.mem_map_of_mem he);rw[World.putObj_heap_other hne];exact hg.own e he
theorem Zbj {M:List Nat}{W0 W:World}{D:Nat}(y:Obj)(hk:Zv M W0 W)(hD:D∈M\/W0.heap.size<=D):Zv M W0 (W.putObj D y):=by
 refine⟨hk.os,hk.tape,hk.output,by rw[World.putObj_size];exact hk.size,fun k hlt hm=>?_⟩;have hne:k≠D:=fun e=>by subst e;rcases hD with h|h;exact hm h;omega
 rw[World.putObj_heap_other hne];exact hk.block k hlt hm
theorem Zkx {n0 D:Nat}{ds:List Deferred}{L:Own}{W:World}(y:Obj)(m:Zw n0 ds L W)(hD:{ target := .collected D,args:=#[] } ∉ ds):Zw n0 ds L (W.putObj D y):=by
 refine⟨fun d hd=>?_,m.nodup⟩;obtain⟨D',e,h1,h0,h2⟩:=m.at' d hd;have hne:D'≠D:=fun e'=>by subst e';subst e;exact hD hd
 exact⟨D',e,(World.putObj_heap_other hne).trans h1,h0,h2⟩
theorem Zyp {fn:Func}{tmps:Array Value}{R:Ending->World->Prop}{L:Own}{h:PH}{M:List Nat}{W0:World}(hres:∀W,Zo L h W->Zv M W0 W->∃v,(results fn tmps).run P W = .ok v W/\R (.returned v) W) :
  ∀(ds:List Deferred) (W:World),Zo L h W->Zv M W0 W->Zw W0.heap.size ds L W->LeavesInM Fence.wide 0 P fn tmps R ds .returning W
 | [],W,hg,hk,_=>hres W hg hk
 | d::ds,W,hg,hk,m=>by
  obtain⟨D,e,h1,h0,h2⟩:=m.at' d qj;have hnd:=List.nodup_cons.1 m.nodup;refine⟨qj,.inl ⟨D,_,by rw[e],run_takeDeferred h1,?_⟩⟩;refine Zyp hres ds _ (GX _ hg h2 h1 (fun _ _ _ h=>qL)) (Zbj _ hk (.inr h0)) (Zkx _ ⟨fun x hx=>m.at' x (List.mem_cons_of_mem _ hx),hnd.2⟩ (e ▸ hnd.1))
theorem Zjf (hm:P.follows .mixedOrders=true){nt:Nat}{M:List Nat}{W0:World}{g:Operand}{ps:Array Tmp}{assign body:Code}{Q:G5}{E:Env}{L:Own}{h:PH}{a:Act}{W:World}
  (hw:wfC nt (.rangeFunc g ps assign body)=true) (hx:xC P (.rangeFunc g ps assign body) Q E L h) (ok:Ok nt M W0 E L h a W):(Code.rangeFunc g ps assign body).wpIn (rF none) 0 P (Up nt M W0 Q) a W:=by
 obtain⟨gf,lb,hgv,⟨gfn,c1,c2,c3⟩,hx⟩:=ZW ok.env (x:=g) hx;refine wpIn_rangeFunc fun fn _=>?_;obtain⟨W1,hW1⟩:∃W1,(W.alloc (.deferred (some []))).alloc (.loop { state := .ready,pending:=none,fn,tmps:=a.tmps,params:=ps,assign,body,defers:=W.heap.size })=W1:=⟨_,rfl⟩
 have hL1:W1.heap[W.heap.size+1]?=some (Zbh fn a.tmps ps assign body W.heap.size .ready none):=by
  rw[<- hW1];have:=World.alloc_heap_new (W.alloc (.deferred (some []))) (Zbh fn a.tmps ps assign body W.heap.size .ready none);rwa [World.size_alloc]at this
 have hD1:W1.heap[W.heap.size]?=some (.deferred (some [])):=by
  rw[<- hW1];exact(Below.heap_alloc _ _ _ qj).trans (World.alloc_heap_new W _)
 have hold:∀k,k<W.heap.size->W1.heap[k]?=W.heap[k]?:=fun k hk=>by
  rw[<- hW1];exact(Below.heap_alloc _ _ _ qF).trans (Below.heap_alloc _ _ _ hk)
 have hsz:W1.heap.size=W.heap.size+2:=by rw[<- hW1];simp
 have hin:∀e∈L,e.b<W.heap.size:=fun e he=>by
  rcases Nat.lt_or_ge e.b W.heap.size with h1|h1
  ·exact h1
  ·exact absurd (Array.getElem?_eq_none h1) ((ok.good.own e he).some)
 have hh:∀b o v,h b o=some v->b<W.heap.size:=fun b o v hv=>by
  have:=ok.good.sub b o v hv;rcases Nat.lt_or_ge b W.heap.size with h1|h1
  ·exact h1
  ·simp [World.cell?,Array.getElem?_eq_none h1]at this
 have hap:ZS (W.heap.size+1) L:=Zks fun e he=>by have:=hin e he;omega
 have hno:∀b,W.heap.size<=b->h b=noC:=fun b hb=>by
  funext o
  cases hv:h b o with
  | none=>rfl
  | some v=>have:=hh b o v hv;omega
 have hg1:Zo (Zmi (W.heap.size+1) (Zbh fn a.tmps ps assign body W.heap.size .ready none)::L) h W1:=by
  refine⟨fun b o v hv=>?_,fun e he=>?_,?_,fun e he=>?_⟩
  ·exact(World.cell?_of_block (hold b (hh b o v hv))).trans (ok.good.sub b o v hv)
  ·rcases List.mem_cons.1 he with rfl|he
   ·exact .mkAt rfl rfl hL1
   ·rw[hold _ (hin e he)];exact ok.good.own e he
  ·refine List.nodup_cons.2 ⟨fun hmem=>?_,ok.good.nodup⟩;obtain⟨e,he,hb⟩:=List.mem_map.1 hmem;have:=hin e he;simp only at hb;omega
  ·rcases List.mem_cons.1 he with rfl|he
   ·exact hno _ qj
   ·exact ok.good.apart e he
 simp only[wfC,Bool.and_eq_true]at hw;have hs:=(hx (W.heap.size+1) W.heap.size fn a.tmps ok.env (ok.size ▸ hw.1) (ok.size ▸ hw.2.1) (ok.size ▸ hw.2.2) hap (hno _ qf)).2 W1 hg1
 refine⟨W.heap.size+1,[{ target := .collected W.heap.size,args:=#[] }],W1,{ target := .fn (.func gf) lb,args:=#[.func (.yield (W.heap.size+1)) #[] #[]] },W1,gf,
  #[.func (.yield (W.heap.size+1)) #[] #[]]++lb,W1,?_,?_,?_,?_,Zgw,?_⟩
 ·rw[<- hW1];exact run_enterLoop_outer _ _ _ _ _
 ·simp only[resolve,hgv];simp [go_sem]
 ·intro _ _;trivial
 ·simp only[invoke,WG c1 c2 c3]
 ·have e0:(.func (.yield (W.heap.size+1)) #[] #[]::lb.toList:List Value).toArray=#[.func (.yield (W.heap.size+1)) #[] #[]]++lb:=by apply Array.ext';simp
  rw[e0]at hs;refine Zfw ((hs.calls' ⟨gfn,c1,c2,c3⟩).mono fun e W2 hh2=>?_);obtain⟨r,L',h',rfl,⟨st,jump,L1,rfl,hst,hj⟩,hg2,hk2,hf2⟩:=hh2;have hlt:W.heap.size+1<W1.heap.size:=qf;have hl2:=(hg2.own _ qj).at (e:=Zmi (W.heap.size+1) (Zbh fn a.tmps ps assign body W.heap.size st jump)) rfl rfl;have hDm:W.heap.size ∉ (Zmi (W.heap.size+1) (Zbh fn a.tmps ps assign body W.heap.size .ready none)::L).map Zn.b:=by
   intro hmem;rcases List.mem_cons.1 hmem with h1|h1
   ·simp at h1
   ·obtain⟨e,he,hb⟩:=List.mem_map.1 h1;have:=hin e he;omega
  have hD2:W2.heap[W.heap.size]?=some (.deferred (some [])):=(hk2.block _ qf hDm).trans hD1;have hl1:W.heap.size+1 ∉ L1.map Zn.b:=(List.nodup_cons.1 hg2.nodup).1;have hg3:Zo L1 h' W2:=⟨hg2.sub,fun e he=>hg2.own e (List.mem_cons_of_mem _ he),(List.nodup_cons.1 hg2.nodup).2,fun e he=>hg2.apart e (List.mem_cons_of_mem _ he)⟩
  refine⟨jump,W2.putObj (W.heap.size+1) (Zbh fn a.tmps ps assign body W.heap.size .exhausted jump),run_endLoop hl2 hst,?_⟩;have fresh1:∀e∈L1,e.b∈L.map Zn.b\/W.heap.size+2<=e.b:=fun e he=>by
   rcases hf2 e (List.mem_cons_of_mem _ he) with h1|h1
   ·rcases List.mem_cons.1 h1 with h1|h1
    ·exact absurd (List.mem_map.2 ⟨e,he,h1⟩) hl1
    ·exact .inl h1
   ·exact .inr qf
  have hDL1:W.heap.size ∉ L1.map Zn.b:=fun hmem=>by
   obtain⟨e,he,hb⟩:=List.mem_map.1 hmem;rcases fresh1 e he with h1|h1
   ·obtain⟨e2,he2,hb2⟩:=List.mem_map.1 h1;have:=hin e2 he2;omega
   ·omega
  have ok':Ok nt M W0 E L1 h' { a with defers:=[{ target := .collected W.heap.size,args:=#[] }]++a.defers } (W2.putObj (W.heap.size+1) (Zbh fn a.tmps ps assign body W.heap.size .exhausted jump)):=by
   refine⟨ok.env,ok.size,⟨fun d hd=>?_,?_⟩,GX _ hg3 hl1 hl2 (fun _ _ _ h=>qL),Zbj _ ⟨hk2.os.trans ((by rw[<- hW1];rfl:W1.os=W.os).trans ok.kept.os),hk2.tape.trans ((by rw[<- hW1];rfl:W1.tape=W.tape).trans ok.kept.tape),hk2.output.trans ((by rw[<- hW1];rfl:W1.output=W.output).trans ok.kept.output),by have:=ok.kept.size;have:=hk2.size;omega,fun k hlt hM=>?_⟩ (.inr (by have:=ok.kept.size;omega)),fun e he=>?_⟩
   ·rcases List.mem_append.1 hd with h1|h1
    ·rw[List.mem_singleton.1 h1];exact⟨_,rfl,(World.putObj_heap_other qf).trans hD2,ok.kept.size,hDL1⟩
    ·obtain⟨D,e,h3,h4,h5⟩:=ok.marks.at' d h1;have hlt2:D<W.heap.size:=(Array.getElem?_eq_some_iff.1 h3).1;refine⟨D,e,(World.putObj_heap_other qf).trans ((hk2.block D qf ?_).trans ((hold D hlt2).trans h3)),h4,fun hmem=>?_⟩
     ·intro hmem;rcases List.mem_cons.1 hmem with h6|h6
      ·simp at h6;omega
      ·exact h5 h6
     ·obtain⟨x,hx,hb⟩:=List.mem_map.1 hmem;rcases fresh1 x hx with h6|h6
      ·rw[hb]at h6;exact h5 h6
      ·omega
   ·refine List.nodup_append.2 ⟨qj,ok.marks.nodup,fun x hx y hy e=>?_⟩;rw[List.mem_singleton.1 hx]at e;obtain⟨D,e2,h3,_⟩:=ok.marks.at' y hy;have hlt2:D<W.heap.size:=(Array.getElem?_eq_some_iff.1 h3).1;rw[<- e]at e2;injection e2 with e2
    injection e2 with e2
    omega
   ·have hk0:k<W.heap.size:=Nat.lt_of_lt_of_le hlt ok.kept.size;rw[hk2.block k qf ?_,hold k hk0]
    ·exact ok.kept.block k hlt hM
    ·intro hmem;rcases List.mem_cons.1 hmem with h1|h1
     ·simp at h1;omega
     ·obtain⟨e,he,hb⟩:=List.mem_map.1 h1;rcases ok.fresh e he with h2|h2
      ·rw[hb]at h2;exact hM h2
      ·omega
   ·rcases fresh1 e he with h1|h1
    ·obtain⟨e2,he2,hb2⟩:=List.mem_map.1 h1;rw[<- hb2];exact ok.fresh e2 he2
    ·exact .inr (by have:=ok.kept.size;omega)
  match jump,hj with
  | none,hj=>exact⟨E,L1,h',hj,ok'⟩
  | some .ret,hj=>exact wpIn_ret ⟨E,L1,h',hj,ok'⟩
  | some (.exit id),hj=>exact wpIn_exit ⟨E,L1,h',hj,ok'⟩
theorem Ygb (hm:P.follows .mixedOrders=true){nt:Nat}{M:List Nat}{W0:World}{c:Code}{Q:G5}{E:Env}{L:Own}{h:PH}{a:Act}{W:World}(hw:wfC nt c=true)(hx:xC P c Q E L h)(ok:Ok nt M W0 E L h a W) :
  c.wpIn Fence.wide 0 P (Up nt M W0 Q) a W:=Wx (ρ:=none) hm (fun _=>Zjf hm) hw (.inl rfl) hx ok
theorem Zcu:∀ (vs:List Value)(n i:Nat)(v:Value),(YT vs n).lookup i=some v->n<=i/\vs[i-n]?=some v
 | [],n,i,v,h=>by simp [YT]at h
 | u::vs,n,i,v,h=>by
  simp only[YT,List.lookup]at h;by_cases e:i=n
  ·subst e;simp at h;subst h;simp
  ·have:(i == n)=false:=by simpa using e
   rw[this]at h;obtain⟨h1,h2⟩:=Zcu vs (n+1) i v h;refine⟨qf,?_⟩;rw[show i-n=(i-(n+1))+1 from qf]
   simpa using h2
def Ytn (tmps:Array Value):ResultVar->Sem Value
 | .tmp t=>pure (tmps.getD t undef)
 | .cell a t=>do loadVar t (<- asAddr (tmps.getD a undef))
theorem Zaj {L:Own}{h:PH}{W:World}{E:Env}{tmps:Array Value}(he:∀i v,E.lookup i=some v->tmps.getD i undef=v)(hg:Zo L h W) :
  ∀ {rs:List ResultVar} {K:List Value->Prop},Zrp P L h E rs K->∃vs,K vs/\(rs.mapM (Ytn tmps)).run P W = .ok vs W
 | [],K,hx=>⟨[],hx,qj⟩
 | .tmp t::rs,K,hx=>by
  have h1:=U1 (a:=⟨tmps,[]⟩) he hx;obtain⟨vs,hk,hr⟩:=Zaj he hg (rs:=rs) h1;refine⟨_::vs,hk,?_⟩;have e:(Ytn tmps (.tmp t)).run P W = .ok (tmps.getD t undef) W:=rfl;simp only[List.mapM_cons,Sem.run_bind,e,Result.andThen_ok,hr,Sem.run_pure]
 | .cell b t::rs,K,hx=>by
  have h1:=U1 (a:=⟨tmps,[]⟩) he hx;obtain⟨p,hp,ti,ht,hl⟩:=h1;obtain⟨v,h2,h3'⟩:=GM (P:=P) ht hl;have h3:=h3' W hg;obtain⟨vs,hk,hr⟩:=Zaj he hg (rs:=rs) h2;refine⟨v::vs,hk,?_⟩;have e:(Ytn tmps (.cell b t)).run P W = .ok v W:=by
   simp only at hp;show (do loadVar t (<- asAddr (tmps.getD b undef)):Sem Value).run P W=_;rw[hp]
   simpa [asAddr] using h3
  simp only[List.mapM_cons,Sem.run_bind,e,Result.andThen_ok,hr,Sem.run_pure]
theorem Zhj {L:Own}{h:PH}{W:World}{E:Env}{a:Act}(he:∀i v,E.lookup i=some v->a.tmps.getD i undef=v)(hg:Zo L h W){fn:Func}
  {K:Value->Prop} (hx:Zrp P L h E fn.results.toList fun vs=>K (Yhu vs)):∃v,K v/\(results fn a.tmps).run P W = .ok v W:=by
 obtain⟨vs,hk,hr⟩:=Zaj he hg hx;refine⟨_,hk,?_⟩;have e0:results fn a.tmps=(do let vs <- fn.results.mapM (Ytn a.tmps);pure (if h:vs.size=1 then vs[0] else .tuple vs)):=by
  unfold results
  congr 1
 rw[e0,Sem.run_bind];have e:(fn.results.mapM (Ytn a.tmps)).run P W = .ok vs.toArray W:=by
  rw[Array.mapM_eq_mapM_toList];simp only[Sem.run_map,hr,Result.andThen_ok]
 rw[e];simp only[Result.andThen_ok,Sem.run_pure]
 match vs with
 | []=>rfl
 | [v]=>rfl
 | v::u::vs=>rfl
theorem UW {f:FuncId}{fn:Func}{c:Code}{rs:List ResultVar}{args:List Value}{L:Own}{h:PH}{K:PK}{nt:Nat}
  (hf : P.funcs[f]? = some fn) (hb : fn.body = some c) (hr : fn.results.toList = rs) (hnt : fn.ntmps = nt) (hm : P.follows .mixedOrders = true) (hname : (fn.name == "runtime.NumGoroutine") = false)
  (hw:wfC nt c=true) (hl:decide (args.length<=nt)=true) (hx:xC P c (Ycu P rs K) (YT args 0) L h):Zb P f args L h K:=by
 refine⟨trivial,fun W hg => .inl ⟨⟨fn,hf,hname,by rw[hb];rfl⟩,?_⟩⟩;have hle:=of_decide_eq_true hl;have ok:Ok nt (L.map Zn.b) W (YT args 0) L h { tmps:=args.toArray++Array.replicate (fn.ntmps-args.toArray.size) undef,defers:=[] } W:=by
  refine⟨fun i v hi=>?_,?_,Zw.nil _ _ _,hg,Zv.refl _ _,fun e he=>Or.inl (List.mem_map_of_mem he)⟩
  ·obtain⟨_,h2⟩:=Zcu args 0 i v hi;have h3:args[i]?=some v:=by simpa using h2
   have h4:i<args.length:=by
    rcases Nat.lt_or_ge i args.length with h5|h5
    ·exact h5
    ·rw[List.getElem?_eq_none h5]at h3;cases h3
   rw[Array.getD_eq_getD_getElem?,Array.getElem?_append,if_pos (by simpa using h4)];simp [h3]
  ·simp [hnt];omega
 refine callsIn_wide.1 (callsIn_of_wp_marks (F:=Fence.wide) (n:=0) hf hb trivial (wpIn_mono (Ygb hm hw hx ok) fun e a W' hq=>?_));obtain⟨E',L',h',hq,ok'⟩:=hq;subst hr;have fini:(Zrp P L' h' E' fn.results.toList fun vs=>fin K (Yhu vs) L' h')->LeavesInM Fence.wide 0 P fn a.tmps (fun e W'=>∃r L' h',e = .returned r/\K r L' h'/\Step L W L' h' W') a.defers .returning W':=by
  intro hq;refine Zyp (L:=L') (h:=h') (M:=L.map Zn.b) (W0:=W) (fun W2 hg2 hk2=>?_) a.defers W' ok'.good ok'.kept ok'.marks;obtain⟨v,⟨L'',h'',hd,hk⟩,hres⟩:=Zhj (P:=P) (K:=fun v=>fin K v L' h') (a:=a) ok'.env hg2 hq;refine⟨v,hres,v,L'',h'',rfl,hk,(hd W2 hg2).1,hk2,fun e he=>?_⟩;obtain⟨e',he',hb'⟩:=List.mem_map.1 ((hd W2 hg2).2 e he);rw[<- hb'];exact ok'.fresh e' he'
 cases e with
 | normal=>exact fini hq
 | ret=>exact fini hq
 | _=>exact hq.elim
theorem XCalls.calls {f:FuncId}{args:Array Value}{W:World}{R:Ending->World->Prop}(hs:XCalls P f args W R)(hc:UN P f):Calls P f args W R:=by
 rcases hs with⟨_,hs⟩ | ⟨v,hr,_⟩
 ·exact hs
 ·obtain⟨fn,g1,g2,g3⟩:=hc;rw[WG g1 g2 g3]at hr
  cases hr
theorem Zb.extern {f:FuncId}{args:List Value}{L:Own}{h:PH}{K:PK}{v:Value}(hr:∀W,(callFunc f args.toArray).run P W = .ok (.value v) W)(hk:K v L h):Zb P f args L h K :=
 ⟨trivial,fun W hg => .inr ⟨v,hr W,v,L,h,rfl,hk,Step.refl hg⟩⟩
theorem Zb.mono {f:FuncId}{args:List Value}{L:Own}{h:PH}{K K':PK}(hs:Zb P f args L h K)(hk:∀v L h,K v L h->K' v L h):Zb P f args L h K' :=
 ⟨hs.1,fun W hg=>(hs.2 W hg).mono fun _ _ ⟨r,L',h',e,k,st⟩=>⟨r,L',h',e,hk r L' h' k,st⟩⟩
theorem Zza {T e sz by':Nat}(hT:tSh P T = .sl e sz by')(a:Option Addr)(n c:Nat)(k:IntKind)(j:Int)(h0:0<=j)(h1:j<=(c:Int))(K:Value->Prop):xSl P T (.slice a n c) none (some (.int k j)) none K=K (.slice a j.toNat c):=by
 unfold tSh at hT;split at hT
 ·rename_i e' hu;split at hT
  ·rename_i i hi;refine Yw (fun W=>?_) K;simp [Instr.sliceAt,Instr.slice,Instr.sliceBounds,Instr.sliceBound,asIntOf,underlying,hu,YW hi,h0,h1]
   try (cases a<;>simp [Addr.add])
  ·cases hT
 ·split at hT<;>cases hT
 ·cases hT
theorem Ztx {T e sz by':Nat}(hT:tSh P T = .sl e sz by')(a:Option Addr)(n c:Nat)(W:World):(Op.equal T (.slice a n c) (.slice none 0 0)).run P W = .ok a.isNone W:=by
 unfold tSh at hT;split at hT
 ·rename_i e' hu;unfold Op.equal;rw[show Op.maxDepth=(Op.maxDepth-1)+1 by rfl,Op.equalIn]
  cases a<;>simp [underlying,hu]
 ·split at hT<;>cases hT
 ·cases hT
theorem W4 {T e sz by':Nat}(hT:tSh P T = .sl e sz by')(x y:Operand)(a:Option Addr)(n c:Nat)(K:Value->Prop):VO P .eql T x y (.slice a n c) (.slice none 0 0) K=K (.bool a.isNone) :=
 Yw (fun W=>by simp [eqGuard,binOp,Ztx hT]) K
theorem Zcc {T:Nat}(hT:P.underlying T=some .bool)(a b:Bool)(W:World):(Op.equal T (.bool a) (.bool b)).run P W = .ok (a == b) W:=by
 unfold Op.equal;rw[show Op.maxDepth=(Op.maxDepth-1)+1 by rfl,Op.equalIn];simp [underlying,hT]
theorem Zmm {T:Nat}(hT:P.underlying T=some .bool)(x y:Operand)(a b:Bool)(K:Value->Prop):VO P .eql T x y (.bool a) (.bool b) K=K (.bool (a == b)) :=
 Yw (fun W=>by simp [eqGuard,binOp,Zcc hT]) K
theorem Zmw {T:Nat}(hT:P.underlying T=some .bool)(x y:Operand)(a b:Bool)(K:Value->Prop):VO P .neq T x y (.bool a) (.bool b) K=K (.bool (!(a == b))) :=
 Yw (fun W=>by simp [eqGuard,binOp,Zcc hT]) K
def Zeh:List Tmp->List Value->Env->Env
 | p::ps,v::vs,E=>Zeh ps vs ((p,v)::E)
 | _,_,E=>E
theorem Zka:∀ (ps:List Tmp)(vs:List Value)(E:Env)(tmps:Array Value),(∀i v,E.lookup i=some v->tmps.getD i undef=v)->(∀p∈ps,p<tmps.size) ->
  (∀i v,(Zeh ps vs E).lookup i=some v->((ps.zip vs).foldl (fun t (q:Tmp×Value)=>t.setIfInBounds q.1 q.2) tmps).getD i undef=v)/\((ps.zip vs).foldl (fun t (q:Tmp×Value)=>t.setIfInBounds q.1 q.2) tmps).size=tmps.size
 | [],vs,E,tmps,he,_=>by cases vs<;>exact⟨he,rfl⟩
 | p::ps,[],E,tmps,he,_=>⟨he,rfl⟩
 | p::ps,v::vs,E,tmps,he,hp=>by
  have h1:=Zka ps vs ((p,v)::E) (tmps.setIfInBounds p v) (fun i u hi=>by
   simp only[List.lookup]at hi;by_cases e:i=p
   ·subst e;simp at hi;subst hi;simp [hp i qj]
   ·have hne:(i == p)=false:=by simpa using e
    rw[hne]at hi;have:=he i u hi;rw[<- this]
    simp [Array.getD_eq_getD_getElem?,Array.getElem?_setIfInBounds,Ne.symm e]) (fun q hq=>by simpa using hp q (List.mem_cons_of_mem _ hq))
  exact⟨h1.1,by simpa using h1.2⟩
def Yni (K:PK)(v:Bool)(l:Nat)(o:Obj)(L:Own)(h:PH):Prop:=∃L' h',Za L h L' h'/\K (.bool v) (Zmi l o::L') h'
def Zvv (l:Nat)(rec:LoopState->Option Code->Obj)(K:PK):G5:=fun e _ L h =>
 match e with
 | .normal=>Yni K true l (rec .ready none) L h
 | .ret=>Yni K false l (rec .done (some .ret)) L h
 | .exit id=>Yni K false l (rec .done (some (.exit id))) L h
 | _=>False
theorem Zlx (hm:P.follows .mixedOrders=true){l D fn:Nat}{tmps:Array Value}{ps:Array Tmp}{assign body:Code}{E:Env}{args:List Value}{L:Own}{h:PH}{K:PK}
  (he:∀i v,E.lookup i=some v->tmps.getD i undef=v) (hp:(ps.all fun p=>decide (p<tmps.size))=true) (ha:wfC tmps.size assign=true) (hb:wfC tmps.size body=true)
  (na:UH assign=true) (nb:UH body=true) (hl:ps.size=args.length)
  (hx:xC P assign (fun e E1 L1 h1=>match e with | .normal=>xC P body (Zvv l (Zbh fn tmps ps assign body D) K) E1 L1 h1|_=>False) (Zeh ps.toList args E) L h) :
  YSpec P l args (Zmi l (Zbh fn tmps ps assign body D .ready none)::L) h K:=by
 refine⟨trivial,fun W hg=>?_⟩;have hl0:=(hg.own _ qj).at (e:=Zmi l (Zbh fn tmps ps assign body D .ready none)) rfl rfl;have hlL:l ∉ L.map Zn.b:=(List.nodup_cons.1 hg.nodup).1;have hlt:l<W.heap.size:=(Array.getElem?_eq_some_iff.1 hl0).1;have hg0:Zo L h W:=⟨hg.sub,fun e he=>hg.own e (List.mem_cons_of_mem _ he),(List.nodup_cons.1 hg.nodup).2,fun e he=>hg.apart e (List.mem_cons_of_mem _ he)⟩
 have hy:=run_yield (P:=P) (args:=args.toArray) hl0 (by simp [hl]);refine⟨fn,_,assign,body,hy,?_⟩;have hf:(ps.zip args.toArray).foldl (fun tmps (t,a)=>tmps.setIfInBounds t a) tmps=((ps.toList.zip args).foldl (fun t (q:Tmp×Value)=>t.setIfInBounds q.1 q.2) tmps):=by
  rw[<- Array.foldl_toList,Array.toList_zip]
 have hb0:=Zka ps.toList args E tmps he (fun p hpm=>by
  have:=Array.all_eq_true'.1 hp p (by simpa using hpm)
  simpa using this)
 rw[<- hf]at hb0;have ok:Ok tmps.size (L.map Zn.b) W (Zeh ps.toList args E) L h { tmps:=(ps.zip args.toArray).foldl (fun tmps (t,a)=>tmps.setIfInBounds t a) tmps,defers:=[] } W :=
  ⟨hb0.1,hb0.2,Zw.nil _ _ _,hg0,Zv.refl _ _,fun e he=>Or.inl (List.mem_map_of_mem he)⟩
 refine roundIn_of_wpIn (F:=Fence.wide) trivial (wpIn_mono (Wx (ρ:=some l) hm (fun h=>qL) ha (.inr na) hx ok) fun e a1 W1 hq=>?_);obtain⟨E1,L1,h1,hq,ok1⟩:=hq
 cases e with
 | normal =>
  have hl1:W1.heap[l]?=some (Zbh fn tmps ps assign body D .ready none):=(ok1.kept.block l hlt hlL).trans hl0;have hlL1:l ∉ L1.map Zn.b:=fun hmem=>by
   obtain⟨e,he,hb⟩:=List.mem_map.1 hmem;rcases ok1.fresh e he with h2|h2
   ·rw[hb]at h2;exact hlL h2
   ·omega
  have hlt1:l<W1.heap.size:=(Array.getElem?_eq_some_iff.1 hl1).1;refine⟨W1.putObj l (Zbh fn tmps ps assign body D .busy none),run_beginRound hl1 rfl,?_⟩;obtain⟨W2,hW2⟩:∃W2,W1.putObj l (Zbh fn tmps ps assign body D .busy none)=W2:=⟨_,rfl⟩
  have hl2:W2.heap[l]?=some (Zbh fn tmps ps assign body D .busy none):=by rw[<- hW2];exact World.putObj_heap_same hlt1
  have hs2:W2.heap.size=W1.heap.size:=by rw[<- hW2];simp
  have hg2:Zo L1 h1 W2:=by rw[<- hW2];exact GX _ ok1.good hlL1 hl1 (fun _ _ _ h=>qL)
  have hWs:W.heap.size<=W2.heap.size:=by rw[hs2];exact ok1.kept.size
  obtain⟨V,hV⟩:∃V:World,{ W2 with heap:=W2.heap.extract 0 W.heap.size }=V:=⟨_,rfl⟩
  have hVs:V.heap.size=W.heap.size:=by rw[<- hV];simp;omega
  have hVk:∀k,k<W.heap.size->V.heap[k]?=W2.heap[k]?:=fun k hk=>by rw[<- hV];simp [Array.getElem?_extract,hk];omega
  have ok2:Ok tmps.size (L.map Zn.b) V E1 L1 h1 a1 W2:=by
   refine⟨ok1.env,ok1.size,?_,hg2,⟨by rw[<- hV],by rw[<- hV],by rw[<- hV],qf,fun k hk _=>(hVk k qf).symm⟩,fun e he=>by rw[hVs];exact ok1.fresh e he⟩;rw[hVs,<- hW2];refine Zkx _ ok1.marks fun hd=>?_;obtain⟨D',e,_,h0,_⟩:=ok1.marks.at' _ hd;injection e with e
   injection e with e
   omega
  rw[hW2];refine wpIn_mono (Wx (ρ:=some l) hm (fun h=>qL) hb (.inr nb) hq ok2) fun e a3 W3 hq3=>?_;obtain⟨E3,L3,h3,hq3,ok3⟩:=hq3;have hl3:W3.heap[l]?=some (Zbh fn tmps ps assign body D .busy none):=((ok3.kept.block l qf hlL).trans (hVk l hlt)).trans hl2;have hlt3:l<W3.heap.size:=(Array.getElem?_eq_some_iff.1 hl3).1;have fin:∀(v:Bool) (st:LoopState) (jump:Option Code),Yni K v l (Zbh fn tmps ps assign body D st jump) L3 h3 ->
    ∃r L' h',Ending.returned (.bool v) = .returned r/\K r L' h'/\Step (Zmi l (Zbh fn tmps ps assign body D .ready none)::L) W L' h' (W3.putObj l (Zbh fn tmps ps assign body D st jump)):=by
   rintro v st jump ⟨L4,h4,hd,hk⟩;obtain⟨hg4,hb4⟩:=hd W3 ok3.good;have fr4:∀e∈L4,e.b∈L.map Zn.b\/W.heap.size<=e.b:=fun e he=>by
    obtain⟨e3,he3,hb3⟩:=List.mem_map.1 (hb4 e he);have h5:=ok3.fresh e3 he3;rw[hVs,hb3]at h5;exact h5
   have hl4:l ∉ L4.map Zn.b:=fun hmem=>by
    obtain⟨e,he,hb⟩:=List.mem_map.1 hmem;rcases fr4 e he with h5|h5
    ·rw[hb]at h5;exact hlL h5
    ·omega
   refine⟨_,_,h4,rfl,hk,⟨?_,?_,?_,?_⟩,?_,?_⟩
   ·exact(GX _ hg4 hl4 hl3 (fun _ _ _ h=>qL)).sub
   ·intro e he;rcases List.mem_cons.1 he with rfl|he
    ·exact .mkAt rfl rfl (World.putObj_heap_same hlt3)
    ·exact(GX _ hg4 hl4 hl3 (fun _ _ _ h=>qL)).own e he
   ·exact List.nodup_cons.2 ⟨hl4,hg4.nodup⟩
   ·intro e he;rcases List.mem_cons.1 he with rfl|he
    ·funext o
     show h4 l o=none
     cases hv:h4 l o with
     | none=>rfl
     | some u=>have:=hg4.sub l o u hv;rw[Zpe hl3 (fun _ _ _ h=>qL)]at this;cases this
    ·exact hg4.apart e he
   ·have k1:Zv (l::L.map Zn.b) W W1:=⟨ok1.kept.os,ok1.kept.tape,ok1.kept.output,ok1.kept.size,fun k hk hM=>ok1.kept.block k hk fun hm=>hM (List.mem_cons_of_mem _ hm)⟩
    have k2:Zv (l::L.map Zn.b) W W2:=by rw[<- hW2];exact Zbj _ k1 (.inl qj)
    have k3:Zv (l::L.map Zn.b) W W3:=by
     have ko:=ok3.kept.os;have kt:=ok3.kept.tape;have kp:=ok3.kept.output;rw[<- hV]at ko kt kp;refine⟨ko.trans k2.os,kt.trans k2.tape,kp.trans k2.output,by have:=ok3.kept.size;omega,fun k hk hM=>?_⟩;rw[ok3.kept.block k qf (fun hm=>hM (List.mem_cons_of_mem _ hm)),hVk k hk];exact k2.block k hk hM
    exact Zbj _ k3 (.inl qj)
   ·intro e he;rcases List.mem_cons.1 he with rfl|he
    ·exact .inl qj
    ·rcases fr4 e he with h5|h5
     ·exact .inl (List.mem_cons_of_mem _ h5)
     ·exact .inr h5
  cases e with
  | normal=>exact⟨_,_,run_endRound none hl3,fin true _ _ hq3⟩
  | ret=>exact⟨_,_,run_endRound (some .ret) hl3,fin false _ _ hq3⟩
  | exit id=>exact⟨_,_,run_endRound (some (.exit id)) hl3,fin false _ _ hq3⟩
  | _=>exact hq3.elim
 | _=>exact hq.elim
theorem YSpec.weaken {l:Nat}{args:List Value}{L L':Own}{h h':PH}{K:PK}(hd:Za L h L' h')(hs:YSpec P l args L' h' K):YSpec P l args L h K:=by
 refine⟨trivial,fun W hg=>?_⟩;obtain⟨g1,f1⟩:=hd W hg;obtain⟨fn,tmps,assign,body,hy,hR⟩:=hs.2 W g1;refine⟨fn,tmps,assign,body,hy,hR.mono fun e W' hh=>?_⟩;obtain⟨r,L2,h2,he,hk,g2,k2,f2⟩:=hh;refine⟨r,L2,h2,he,hk,g2,⟨k2.os,k2.tape,k2.output,k2.size,fun k hk hM=>k2.block k hk fun hm=>?_⟩,fun e he=>?_⟩
 ·obtain⟨e,he,hb⟩:=List.mem_map.1 hm;exact hM (hb ▸ f1 e he)
 ·rcases f2 e he with h5|h5
  ·obtain⟨e2,he2,hb2⟩:=List.mem_map.1 h5;exact .inl (hb2 ▸ f1 e2 he2)
  ·exact .inr h5
theorem YSpec.mono {l:Nat}{args:List Value}{L:Own}{h:PH}{K K':PK}(hs:YSpec P l args L h K)(hk:∀v L h,K v L h->K' v L h):YSpec P l args L h K' :=
 ⟨trivial,fun W hg=>by
  obtain⟨fn,tmps,assign,body,hy,hR⟩:=hs.2 W hg
  exact⟨fn,tmps,assign,body,hy,hR.mono fun _ _ ⟨r,L',h',e,k,st⟩=>⟨r,L',h',e,hk r L' h' k,st⟩⟩⟩
end Go.X
