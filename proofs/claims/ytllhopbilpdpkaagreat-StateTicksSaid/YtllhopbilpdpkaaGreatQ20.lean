/- Lemmas and contracts. Conditions: as each says. -/
import Derived.Test.YtllhopbilpdpkaaGreatQ17
set_option linter.unusedVariables false
set_option linter.unusedSimpArgs false
set_option maxHeartbeats 12800000
set_option maxRecDepth 20000
namespace Go.X
open Go.RowKit Go.Proofs Go.Bl Go.Proofs.Tryz
variable {L:Own} {h:PH} {K:PK}
def Zay (ws:List Int):Int:=if ws.length<=256 then (if tot ws<=18446744073709551615 then 0 else 40) else 40
def Zpv (ws:List Int):Int:=if Zay ws=0 then tot ws else 0
theorem Zna {ws:List Int}(v:Value)(hw:Ints h .u64 v ws)(hk:K (.tuple #[.int .u64 (Zpv ws),.int .i64 (Zay ws)]) L h):Zb prog 355 [v] L h K:=by
 have hw0:=hw;obtain⟨a,c,rfl,_⟩:=hw.open;refine eF func355 ?_;refine xx ?_;by_cases c1:256<ws.length
 ·have e:Zay ws=40:=by rw[Zay,if_neg qf]
  rw[Zpv,e]at hk;refine xx ?_;exact ZP hk
 ·refine xx ?_;refine WO _ hw0 ?_;by_cases c2:tot ws<=18446744073709551615
  ·have e:Zay ws=0:=by rw[Zay,if_pos qf,if_pos c2]
   rw[Zpv,e,if_pos rfl]at hk;rw[YR c2];refine xx ?_;exact ZP hk
  ·have e:Zay ws=40:=by rw[Zay,if_pos qf,if_neg c2]
   rw[Zpv,e]at hk;rw[Wy c2];refine xx ?_;exact ZP hk
theorem Ybs {xs:List Int}(h0:∀i,0<=at0 xs i)(i:Nat):∀k,i<k->at0 xs i<=YE xs k
 | k+1,hk=>by
  rw[YE];have:=h0 k;by_cases c:k=i
  ·subst c;have:=VZ h0 k;omega
  ·have:=Ybs h0 i k qf;omega
theorem Yj {xs:List Int}(h0:∀i,0<=at0 xs i)(i:Nat):at0 xs i<=tot xs:=by
 by_cases c:i<xs.length
 ·exact Ybs h0 i _ c
 ·rw[U7 qf];exact VZ h0 _
theorem Ymi {xs:List Int}(h0:∀i,0<=at0 xs i){x:Int}(hx:x∈xs):x<=tot xs:=by
 obtain⟨i,hi,rfl⟩:=List.mem_iff_getElem.1 hx;rw[Ys hi];exact Yj h0 i
def VF (t w:Int)(x:Int):Int:=if 0<w then t*x/w else 0
theorem Zuc {ws:List Int}(t w:Int)(ht:0<=t/\t<=18446744073709551615)(hw:0<=w/\w<=18446744073709551615)(hsm:∀x∈ws,x<=w)(wv:Value)(b5 b4 b3 l:Nat)(n54:b5≠b4)(n53:b5≠b3)(n43:b4≠b3)
  (Inv:Nat->Own->PH->Prop) (hws:Ints h .u64 wv ws)
  (hY:∀j LL h1,j<ws.length->Inv j LL h1->PH.le h h1->YSpec prog l [.int .i64 j,.int .u64 (VF t w (at0 ws j))] (LL++[⟨b5,25,[wv],1⟩,⟨b4,22,[.int .u64 w],1⟩,⟨b3,22,[.int .u64 t],1⟩]) h1 fun v L' h'=>v = .bool true/\PH.le h1 h'/\∃L2,L'=L2++[⟨b5,25,[wv],1⟩,⟨b4,22,[.int .u64 w],1⟩,⟨b3,22,[.int .u64 t],1⟩]/\Inv (j+1) L2 h')
  {LL:Own} (h0:Inv 0 LL h) (hk:∀L2 h',PH.le h h'->Inv ws.length L2 h'->K (.tuple #[]) L2 h') :
  Zb prog 377 [.func (.yield l) #[] #[],.pointer (some ⟨b5,0,none⟩),.pointer (some ⟨b4,0,none⟩),.pointer (some ⟨b3,0,none⟩)] (⟨b5,25,[wv],1⟩::⟨b4,22,[.int .u64 w],1⟩::⟨b3,22,[.int .u64 t],1⟩::LL) h K:=by
 have hwd:=hws.word;have hws0:=hws;obtain⟨wa,wc,rfl,_,hwl,_,hcs0⟩:=hws.open;refine eG func377 fun ap nd=>?_;simp only[Ap]at ap;obtain⟨a5,a4,a3,_⟩:=ap;refine xx ?_;refine Yi (γ:=Nat×Own×PH) (0,LL,h) (fun q=>q.1<=ws.length/\Inv q.1 q.2.1 q.2.2/\PH.le h q.2.2/\q.2.2 b5=noC/\q.2.2 b4=noC/\q.2.2 b3=noC)
  (fun q=>[(10,.int .i64 q.1),(9,.int .i64 ws.length),(8,.slice wa ws.length wc),(0,.func (.yield l) #[] #[]),(2,.pointer (some ⟨b4,0,none⟩)),(3,.pointer (some ⟨b3,0,none⟩))])
  (fun q=>⟨b5,25,[.slice wa ws.length wc],1⟩::⟨b4,22,[.int .u64 w],1⟩::⟨b3,22,[.int .u64 t],1⟩::q.2.1) (fun q=>q.2.2) (fun q=>ws.length-q.1) ?_ ?_ ?_ ?_
 ·exact⟨Nat.zero_le _,h0,PH.le_refl h,a5,a4,a3⟩
 ·simp [Ent,List.lookup,YT]
 ·exact Za.refl _ _
 rintro⟨k,LL,h1⟩ ⟨i1,i2,i3,i4,i5,i6⟩;simp only at i1 i2 i3 i4 i5 i6 ⊢;by_cases c1:k<ws.length
 ·have hcs:∀j,j<ws.length->Z9 h1 wa j=some (Value.int IntKind.u64 (at0 ws j)):=fun j hj=>Yr i3 (hcs0 j hj);have hxw:=hwd k;have hmem:at0 ws k∈ws:=by rw[<- Ys c1];exact List.getElem_mem c1
  have go:∀(Q:PK),(∀L2 h2,PH.le h1 h2->Inv (k+1) L2 h2->(h2 b5=noC/\h2 b4=noC/\h2 b3=noC)->Q (.bool true) (L2++[⟨b5,25,[.slice wa ws.length wc],1⟩,⟨b4,22,[.int .u64 w],1⟩,⟨b3,22,[.int .u64 t],1⟩]) h2) ->
    YSpec prog l [.int .i64 k,.int .u64 (VF t w (at0 ws k))] (⟨b5,25,[.slice wa ws.length wc],1⟩::⟨b4,22,[.int .u64 w],1⟩::⟨b3,22,[.int .u64 t],1⟩::LL) h1 Q:=fun Q hQ=>by
   refine YSpec.weaken (Za.perm _ (List.perm_append_comm (l₁:=[_,_,_]) (l₂:=LL))) (YSpec.apn (YSpec.mono (hY k LL h1 c1 i2 i3) ?_));rintro v L' h2 ⟨rfl,le2,L2,rfl,i7⟩ ap nd;have ap2:=(Ap.app ap).2;simp only[Ap]at ap2;exact hQ L2 h2 le2 i7 ⟨ap2.1,ap2.2.1,ap2.2.2.1⟩
  by_cases c2:0<w
  ·have ep:VF t w (at0 ws k)=t*at0 ws k/w:=by rw[VF,if_pos c2]
   rw[ep]at go;refine xe ?_;refine Zbt t (at0 ws k) w ht hxw ⟨qf,hw.2⟩ ?_;obtain⟨z1,z2⟩:=Ymv ht.1 hxw.1 (hsm _ hmem) ht.2 c2;rw[z1,z2];refine xx ?_;refine go _ fun L2 h2 le2 i7 ⟨u5,u4,u3⟩=>?_;refine xx ?_;exact⟨k+1,L2,h2,⟨qf,i7,i3.trans le2,u5,u4,u3⟩,qf,qi,Za.perm _ Zlf⟩
  ·have ep:VF t w (at0 ws k)=0:=by rw[VF,if_neg c2]
   rw[ep]at go;refine xe ?_;refine go _ fun L2 h2 le2 i7 ⟨u5,u4,u3⟩=>?_;refine xx ?_;exact⟨k+1,L2,h2,⟨qf,i7,i3.trans le2,u5,u4,u3⟩,qf,qi,Za.perm _ Zlf⟩
 ·have hkl:k=ws.length:=qf;subst hkl;refine xx ?_;exact ZO (ZO (ZO (ZP (hk LL h1 i3 i2))))
theorem Zoc (t w:Int)(wa:Option Addr)(wn wc:Nat)(hk:∀b3 b4 b5,ZS b3 L->h b3=noC->b3≠b4->ZS b4 L->h b4=noC->b4≠b5->b3≠b5->ZS b5 L->h b5=noC ->
      K (.func (.func 377) #[] #[.pointer (some ⟨b5,0,none⟩),.pointer (some ⟨b4,0,none⟩),.pointer (some ⟨b3,0,none⟩)]) (⟨b5,25,[.slice wa wn wc],1⟩::⟨b4,22,[.int .u64 w],1⟩::⟨b3,22,[.int .u64 t],1⟩::L) h) :
    Zb prog 356 [.int .u64 t,.int .u64 w,.slice wa wn wc] L h K:=by
  refine ed func356 ?_;refine xx ?_;refine ZY fun b3 nb3 zb3=>?_;(try simp only[ZS]at nb3);refine xx ?_;refine ZY fun b4 nb4 zb4=>?_;(try simp only[ZS]at nb4);refine xx ?_;refine ZY fun b5 nb5 zb5=>?_;(try simp only[ZS]at nb5);refine xx ?_;exact ZP (hk b3 b4 b5 nb3 zb3 nb4.1 nb4.2 zb4 nb5.1 nb5.2.1 nb5.2.2 zb5)
def Yt (t w:Int)(ws:List Int):List Int:=ws.map (VF t w)
theorem Zqt {t w x:Int}(ht:0<=t)(hx:0<=x):0<=VF t w x/\VF t w x*w<=t*x\/¬ 0<=w:=by
 by_cases c:0<=w
 ·left
  unfold VF;split
  ·have h1:=Int.mul_nonneg ht hx;refine⟨Int.ediv_nonneg h1 c,?_⟩;rw[Int.mul_comm];exact Int.mul_ediv_self_le qf
  ·have h1:=Int.mul_nonneg ht hx;exact⟨Int.le_refl _,qO⟩
 ·exact .inr c
theorem Gy (f:Int->Int)(ws:List Int){i:Nat}(hi:i<ws.length):at0 (ws.map f) i=f (at0 ws i):=by
 rw[<- Ys zn,<- Ys hi];simp
theorem Zit {t w:Int}{ws:List Int}(ht:0<=t)(hw:0<=w)(h0:∀i,0<=at0 ws i):∀k,k<=ws.length->0<=YE (Yt t w ws) k/\YE (Yt t w ws) k*w<=t*YE ws k
 | 0,_=>⟨by simp [YE],by simp [YE]⟩
 | k+1,hk=>by
  obtain⟨h1,h2⟩:=Zit ht hw h0 k qf;rcases Zqt (w:=w) ht (h0 k) with⟨h3,h4⟩ | h3
  ·simp only[YE,Yt,Gy _ ws (show k<ws.length from qf)]at h1 h2 ⊢;rw[Int.add_mul,Int.mul_add];exact⟨qf,qf⟩
  ·exact absurd hw h3
theorem Zib {t:Int}{ws:List Int}(ht:0<=t)(h0:∀i,0<=at0 ws i){k:Nat}(hk:k<=ws.length):0<=YE (Yt t (tot ws) ws) k/\YE (Yt t (tot ws) ws) k<=t:=by
 have hw:=Ym h0;obtain⟨h1,h2⟩:=Zit ht hw h0 k hk;refine⟨h1,?_⟩;by_cases c:0<tot ws
 ·have h3:=Gz h0 hk;have h4:t*YE ws k<=t*tot ws:=Int.mul_le_mul_of_nonneg_left h3 ht;have h5:YE (Yt t (tot ws) ws) k*tot ws<=t*tot ws:=Int.le_trans h2 h4;exact Int.le_of_mul_le_mul_right h5 c
 ·have hz:∀k,k<=ws.length->YE (Yt t (tot ws) ws) k=0:=by
   intro k
   induction k with
   | zero=>intro _;simp [YE]
   | succ k ih =>
    intro hk;have:=ih qf;simp only[YE,Yt,Gy _ ws (show k<ws.length from qf)]at this ⊢;rw[this,VF,if_neg c];rfl
  rw[hz k hk];exact ht
def spC (t:Int)(ws:List Int)(k:Nat):List Value:=((Yt t (tot ws) ws).take k).map (.int .u64)
theorem Zof {t:Int}{ws:List Int}{k:Nat}(hk:k<=ws.length):(spC t ws k).length=k*1:=by simp [spC,Yt,hk]
theorem Zhs {t:Int}{ws:List Int}{k:Nat}(hk:k<ws.length):spC t ws (k+1)=spC t ws k++[.int .u64 (VF t (tot ws) (at0 ws k))]:=by
 have hk':k<(Yt t (tot ws) ws).length:=by simpa [Yt] using hk
 rw[spC,List.take_succ_eq_append_getElem hk',spC,List.map_append];have:(Yt t (tot ws) ws)[k]=VF t (tot ws) (at0 ws k):=by simp [Yt,Ys hk]
 rw[this];rfl
theorem Ybk {ws:List Int}(t:Int)(ht:0<=t/\t<=18446744073709551615)(wv:Value)(hws:Ints h .u64 wv ws)
  (hk1:Zay ws≠0->K (.tuple #[.slice none 0 0,.int .u64 0,.int .i64 (Zay ws)]) L h)
  (hk2:Zay ws=0->∀o,okO o ws.length->apO o L h->K (.tuple #[ovs o ws.length,.int .u64 (t-tot (Yt t (tot ws) ws)),.int .i64 0]) (oent 22 1 o ((Yt t (tot ws) ws).map (.int .u64)) L) h) :
  Zb prog 296 [.int .u64 t,wv] L h K:=by
 have hws0:=hws;have hwd:=hws.word;obtain⟨wa,wc,rfl,_,hwl,_,hcs0⟩:=hws.open;refine UW func296 rfl (rs:=[_,_,_]) rfl rfl G7 qg qg rfl ?_;refine xx ?_;refine ZY fun b1 nb1 zb1=>?_;(try simp only[ZS]at nb1);refine xx ?_;refine ZY fun b2 nb2 zb2=>?_;(try simp only[ZS]at nb2);refine xx ?_;refine Zna _ hws0 ?_;by_cases c0:Zay ws=0
 ·have h2:=hk2 c0;have hN:Zpv ws=tot ws:=by rw[Zpv,if_pos c0]
  have hlen:ws.length<=256:=by
   unfold Zay at c0;split at c0
   ·assumption
   ·cases c0
  have htot:tot ws<=18446744073709551615:=by
   unfold Zay at c0;rw[if_pos hlen]at c0;split at c0
   ·assumption
   ·cases c0
  have ht0:=Ym fun i=>(hwd i).1;rw[c0,hN];refine xx ?_;refine Zoc t (tot ws) wa ws.length wc fun b3 b4 b5 x1 x2 x3 x4 x5 x6 x7 x8 x9=>?_;refine xx ?_;refine Ytb ⟨f377,func377,qE,rfl⟩ fun l D fn tmps he hp ha hb nl hl=>?_;have hsl:∀k,k<=ws.length->0<=YE (Yt t (tot ws) ws) k/\YE (Yt t (tot ws) ws) k<=t:=fun k hk=>Zib ht.1 (fun i=>(hwd i).1) hk;simp only[ZS]at nl
  generalize hR:Zbh fn tmps _ _ _ D .ready none=R
  refine Zb.weaken (Za.perm _ (List.perm_middle (l₁:=[_,_,_]) (l₂:=_::_::L) (a:=Zmi l R)).symm) ?_;refine Zuc t (tot ws) ht ⟨ht0,htot⟩ (fun x hx=>Ymi (fun i=>(hwd i).1) hx) (.slice wa ws.length wc) b5 b4 b3 l (fun e=>x6 e.symm) (fun e=>x7 e.symm) (fun e=>x3 e.symm)
   (fun j LL h1=>h1=h/\∃o,okO o j/\apO o L h/\LL=Zmi l R::⟨b2,22,[.int .u64 (t-YE (Yt t (tot ws) ws) j)],1⟩::⟨b1,25,[ovs o j],1⟩::oent 22 1 o (spC t ws j) L) hws0 ?_ ⟨rfl,none,rfl,trivial,by rw[show YE (Yt t (tot ws) ws) 0=0 from rfl,Int.sub_zero];rfl⟩ ?_
  ·rintro j LL h1 hj ⟨rfl,o,ho,ao,rfl⟩ le1;have hs1:=hsl j qf;have hs2:=hsl (j+1) qf;have hp1:0<=VF t (tot ws) (at0 ws j):=by
    rcases Zqt (w:=tot ws) ht.1 (hwd j).1 with⟨g,_⟩ | g
    ·exact g
    ·exact absurd ht0 g
   have hss:YE (Yt t (tot ws) ws) (j+1)=YE (Yt t (tot ws) ws) j+VF t (tot ws) (at0 ws j):=by
    rw[YE,Yt,Gy _ ws hj]
   simp only[List.cons_append,Zpb];subst hR;refine Yqo G7 he hp ha hb rfl rfl rfl ?_;refine xx ?_;refine ZY fun b6 nb6 zb6=>?_;(try simp only[ZS]at nb6);refine xx ?_;refine ZZ (t:=25) (e:=22) (sz:=1) (bytes:=8) (z:=[.int .u64 0]) qg Vw rfl rfl rfl rfl qh [_,_,_] _ o j _ ho (by rw[Zof qf]) (Src.own List.mem_cons_self) (m:=1) (news:=[.int .u64 (VF t (tot ws) (at0 ws j))]) rfl (fun u hu=>qw) qm qf ?_;intro o' j1 j2 j3;rw[<- Zhs hj];refine xx ?_;refine Zyc (Za.tail _ _ _) ?_;refine⟨rfl,PH.le_refl _,_,?_,rfl,o',j1,?_,rfl⟩
   ·simp only[List.cons_append,Zpb,hss,Int.sub_sub]
   ·exact Yfj (ZV (ZV (ZV j2)))
  ·rintro L2 h' le ⟨rfl,o,ho,ao,rfl⟩;obtain⟨x,y,e,hxy⟩:=Z5 ho;have e2:spC t ws ws.length=(Yt t (tot ws) ws).map (.int .u64):=by rw[spC,List.take_of_length_le wG]
   have e3:YE (Yt t (tot ws) ws) ws.length=tot (Yt t (tot ws) ws):=by rw[show tot (Yt t (tot ws) ws)=YE (Yt t (tot ws) ws) (Yt t (tot ws) ws).length from rfl,show (Yt t (tot ws) ws).length=ws.length from wG]
   have h3:=h2 o ho ao;rw[e]at h3 ⊢;rw[e2,e3];subst hR;refine⟨.ready,none,_,rfl,qh,?_⟩;refine xx ?_;refine Z4 (.tkl 0 (.o1 1 (.o2 2 (.o2 3 (.tk 4 (.fin)) (.nil)) (.nil)) (.o2 2 (.o1 1 (.o2 3 (.tk 4 (.fin)) (.nil)) (.nil)) (.nil)))) qg qg _ (Za.refl _ _) ?_;refine xx ?_;refine Yf ?_ ?_
   ·refine xx ?_;exact ZO (ZO (ZP h3))
   ·refine xx ?_;exact ZO (ZO (ZP h3))
 ·have h1:=hk1 c0;have hN:Zpv ws=0:=by rw[Zpv,if_neg c0]
  rw[hN];refine xx ?_;exact ZO (ZO (ZP h1))
theorem Yey (xs:List Int){i:Nat}(v:Int)(hi:i<xs.length):at0 (xs.set i v) i=v:=by rw[Wz _ _ _ _ hi,if_pos rfl]
theorem Ybm (xs:List Int){i j:Nat}(v:Int)(hij:j≠i):at0 (xs.set i v) j=at0 xs j:=by
 by_cases hi:i<xs.length
 ·rw[Wz _ _ _ _ hi,if_neg (fun e=>hij e)]
 ·rw[List.set_eq_of_length_le qf]
theorem Zdm {xs:List Int}{i:Nat}{v:Int}:∀k,k<=i->YE (xs.set i v) k=YE xs k
 | 0,_=>rfl
 | k+1,hk=>by rw[YE,YE,Zdm k qf,Ybm xs v (show k≠i from qf)]
theorem Zbz {xs:List Int}{i:Nat}{v:Int}(hi:i<xs.length):∀k,i<k->YE (xs.set i v) k=YE xs k+(v-at0 xs i)
 | k+1,hk=>by
  rw[YE,YE];by_cases c:k=i
  ·subst c;rw[Zdm k (Nat.le_refl _),Yey xs v hi];omega
  ·rw[Zbz hi k qf,Ybm xs v (by omega:k≠i)];omega
theorem Gf {xs:List Int}{i:Nat}{v:Int}(hi:i<xs.length):tot (xs.set i v)=tot xs+(v-at0 xs i):=by
 rw[tot,List.length_set,Zbz hi _ hi];rfl
structure Yyz (t:Int)(ws xs:List Int)(r:Int):Prop where
 len:xs.length=ws.length
 pos:∀i,0<=at0 xs i
 sum:tot xs+r=t
 left:0<=r
theorem Yyz.at {t r:Int}{ws xs:List Int}(o:Yyz t ws xs r)(i:Nat):0<=at0 xs i/\at0 xs i+r<=t:=by
 have h1:=Yj o.pos i;have h2:=o.sum;exact⟨o.pos i,qf⟩
end Go.X
