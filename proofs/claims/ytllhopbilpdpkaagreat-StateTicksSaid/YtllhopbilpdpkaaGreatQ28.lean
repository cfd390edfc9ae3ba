/- Lemmas and contracts. Conditions: as each says. -/
import Derived.Test.YtllhopbilpdpkaaGreatQ24
import Derived.Test.YtllhopbilpdpkaaGreatQ27
set_option linter.unusedVariables false
set_option linter.unusedSimpArgs false
set_option maxHeartbeats 12800000
set_option maxRecDepth 20000
namespace Go.X
open Go.RowKit Go.Proofs Go.Bl Go.Proofs.Tryz
variable {L:Own} {h:PH} {K:PK}
theorem Zmz {s:Zg}(v:SV)(hs:Zp h v s)(few:Zy s)(hk:K (.bool (VI s)) L h):Zb prog 124 [stV s v] L h K:=by
 obtain⟨pa,pc,ma,mc,ea,ec,xa,xc,oa,oc,da,dc,ta,tc,ka,kc,ra,rc,rfl⟩:=hs.slices;have ho:Zd UK 4 h (.slice oa s.aj.length oc) s.aj:=hs.o;have hd:Zd Yh 3 h (.slice da s.ai.length dc) s.ai:=hs.d;have fm:=few.m;have fo:=few.o;have fd:=few.d;have fp:=few.p;have bad1:∀k,k<s.aj.length->Uo s (gr Yg s.aj k)=false->VI s=false:=fun k hk hq=>by
  simp only[VI,YF Yg _ _ hk hq,Bool.and_false,Bool.false_and]
 have bad2:JX s=false->VI s=false:=fun hq=>by simp only[VI,hq,Bool.and_false]
 refine ed func124 ?_;refine xx ?_;refine ZY fun b1 nb1 zb1=>?_;(try simp only[ZS]at nb1);refine xx ?_;refine Yi (0:Nat) (fun k=>k<=s.aj.length/\∀j,j<k->Uo s (gr Yg s.aj j)=true) (fun k=>[(3,.int .i64 k),(1,.pointer (some ⟨b1,0,none⟩))]) (fun _=>⟨b1,45,stC s ⟨.slice pa s.ag.length pc,.slice ma s.ae.length mc,.slice ea s.entry.length ec,.slice xa s.exit.length xc,.slice oa s.aj.length oc,.slice da s.ai.length dc,.slice ta s.ah.length tc,.slice ka s.marks.length kc,.slice ra s.ring.length rc⟩,41⟩::L) (fun _=>h) (fun k=>s.aj.length-k) ?_ ?_ ?_ ?_
 ·exact⟨Nat.zero_le _,fun j hj=>qf⟩
 ·simp [Ent,List.lookup,YT]
 ·exact Za.refl _ _
 rintro k ⟨k1,k2⟩;by_cases c1:k<s.aj.length
 ·have hxo:=hs.oo (gr Yg s.aj k) qG;refine xI ?_;refine ZY fun b2 nb2 zb2=>?_;(try simp only[ZS]at nb2);refine xq ?_;refine Zxh (gr Yg s.aj k) hxo fun a' n' c'=>?_
  cases q1:Zij (gr Yg s.aj k) with
  | false =>
   rw[bad1 k c1 (by simp only[Uo,q1,Bool.false_and])]at hk;refine xx ?_;exact ZO (ZO (ZP hk))
  | true =>
  refine xx ?_;refine V8 _ _ _ ?_
  cases q2:wi (gr Yg s.aj k).au 0 ((s.ag.length:Int)-1) with
  | false =>
   rw[bad1 k c1 (by simp only[Uo,Y8,q2,Bool.and_false,Bool.false_and])]at hk;refine xx ?_;exact ZO (ZO (ZP hk))
  | true =>
  have next:Uo s (gr Yg s.aj k)=true->∀j,j<k+1->Uo s (gr Yg s.aj j)=true:=fun hq j hj=>by
   by_cases e:j=k
   ·subst e;exact hq
   ·exact k2 j qf
  cases q3:(gr Yg s.aj k).new with
  | true =>
   refine xx ?_;exact⟨k+1,⟨qf,next (by simp only[Uo,Y8,q1,q2,q3,Bool.true_and,Bool.true_or])⟩,qf,qi,Za.tail _ _ _⟩
  | false =>
   refine xx ?_;refine V8 _ _ _ ?_
   cases q4:wi (gr Yg s.aj k).mem 0 ((s.ae.length:Int)-1) with
   | false =>
    rw[bad1 k c1 (by simp only[Uo,q3,q4,Bool.or_self,Bool.and_false])]at hk;refine xx ?_;exact ZO (ZO (ZP hk))
   | true =>
    refine xx ?_;exact⟨k+1,⟨qf,next (by simp only[Uo,Y8,q1,q2,q3,q4,Bool.true_and,Bool.false_or])⟩,qf,qi,Za.tail _ _ _⟩
 ·have hkl:k=s.aj.length:=qf;subst hkl;have pall:s.aj.all (Uo s)=true:=Ja Yg _ _ k2;refine xx ?_;refine Yi (0:Nat) (fun k=>k<=s.ai.length/\∀j,j<k->V4 s (gr ZT s.ai j)=true/\∀i,i<j->GY s.ai j i=true) (fun k=>[(7,.int .i64 k),(1,.pointer (some ⟨b1,0,none⟩))]) (fun _=>⟨b1,45,stC s ⟨.slice pa s.ag.length pc,.slice ma s.ae.length mc,.slice ea s.entry.length ec,.slice xa s.exit.length xc,.slice oa s.aj.length oc,.slice da s.ai.length dc,.slice ta s.ah.length tc,.slice ka s.marks.length kc,.slice ra s.ring.length rc⟩,41⟩::L) (fun _=>h) (fun k=>s.ai.length-k) ?_ ?_ ?_ ?_
  ·exact⟨Nat.zero_le _,fun j hj=>qf⟩
  ·simp [Ent,List.lookup,YT]
  ·exact Za.refl _ _
  rintro k ⟨m1,m2⟩;by_cases c1:k<s.ai.length
  ·have hxo:=hs.dd (gr ZT s.ai k) qG;have ua:=hxo.a;refine xu ?_;refine ZY fun b2 nb2 zb2=>?_;(try simp only[ZS]at nb2);refine xw ?_;refine V8 _ _ _ ?_
   cases q1:wi (gr ZT s.ai k).au 0 ((s.ag.length:Int)-1) with
   | false =>
    rw[bad2 (Zgu c1 (by simp only[V4,Y8,q1,Bool.false_and]))]at hk;refine xx ?_;exact ZO (ZO (ZP hk))
   | true =>
   refine xx ?_;refine V8 _ _ _ ?_
   cases q2:wi (gr ZT s.ai k).at' 0 2147483647 with
   | false =>
    rw[bad2 (Zgu c1 (by simp only[V4,q2,Bool.and_false,Bool.false_and]))]at hk;refine xx ?_;exact ZO (ZO (ZP hk))
   | true =>
   by_cases q3:(gr ZT s.ai k).amt=0
   ·rw[bad2 (Zgu c1 (by simp [V4,q3]))]at hk;refine xx ?_;exact ZO (ZO (ZP hk))
   by_cases q4:4611686018427387904<(gr ZT s.ai k).amt
   ·rw[bad2 (Zgu c1 (by rw[V4,decide_eq_false (p:=_<=(4611686018427387904:Int)) qf,Bool.and_false]))]at hk;refine xx ?_;exact ZO (ZO (ZP hk))
   have d1:V4 s (gr ZT s.ai k)=true:=by
    simp only[V4,Y8,q1,q2,Bool.true_and,Bool.and_eq_true,decide_eq_true_eq];omega
   refine xx ?_;refine Yi (0:Nat) (fun i=>i<=k/\∀j,j<i->GY s.ai k j=true) (fun i=>[(9,.int .i64 i),(7,.int .i64 k),(8,.pointer (some ⟨b2,0,none⟩)),(1,.pointer (some ⟨b1,0,none⟩))]) (fun _=>⟨b2,216,[.int .i64 (gr ZT s.ai k).au,.int .i64 (gr ZT s.ai k).at',.int .u64 (gr ZT s.ai k).amt],3⟩::⟨b1,45,stC s ⟨.slice pa s.ag.length pc,.slice ma s.ae.length mc,.slice ea s.entry.length ec,.slice xa s.exit.length xc,.slice oa s.aj.length oc,.slice da s.ai.length dc,.slice ta s.ah.length tc,.slice ka s.marks.length kc,.slice ra s.ring.length rc⟩,41⟩::L) (fun _=>h) (fun i=>k-i) ?_ ?_ ?_ ?_
   ·exact⟨Nat.zero_le _,fun j hj=>qf⟩
   ·simp [Ent,List.lookup,YT]
   ·exact Za.refl _ _
   rintro i ⟨i1,i2⟩;by_cases c2:i<k
   ·refine xx ?_;refine WX qg rfl ?_;refine fM ?_;refine(Zd.fld ZT hd (j:=i) (o:=1) qf (u:=.int .i64 (gr ZT s.ai i).at') rfl _ _ _).mpr ?_;by_cases c3:(gr ZT s.ai k).at'<(gr ZT s.ai i).at'
    ·have:GY s.ai k i=false:=by
      rw[GY,decide_eq_false qf,Bool.false_and]
     rw[bad2 (Zqs c1 c2 this)]at hk;refine xx ?_;exact ZO (ZO (ZP hk))
    ·refine fM ?_;refine(Zd.fld ZT hd (j:=i) (o:=1) qf (u:=.int .i64 (gr ZT s.ai i).at') rfl _ _ _).mpr ?_;have step:GY s.ai k i=true->∀j,j<i+1->GY s.ai k j=true:=fun hq j hj=>by
      by_cases e:j=i
      ·subst e;exact hq
      ·exact i2 j qf
     by_cases c4:(gr ZT s.ai i).at'=(gr ZT s.ai k).at'
     ·refine fM ?_;refine(Zd.fld ZT hd (j:=i) (o:=0) qf (u:=.int .i64 (gr ZT s.ai i).au) rfl _ _ _).mpr ?_;by_cases c5:(gr ZT s.ai i).au=(gr ZT s.ai k).au
      ·have:GY s.ai k i=false:=by
        rw[GY,decide_eq_true c4,decide_eq_true c5,Bool.and_self,Bool.not_true,Bool.and_false]
       rw[bad2 (Zqs c1 c2 this)]at hk;refine xx ?_;exact ZO (ZO (ZP hk))
      ·refine xx ?_;refine⟨i+1,⟨qf,step ?_⟩,qf,qi,Za.refl _ _⟩;rw[GY,decide_eq_true qf,decide_eq_false c5,Bool.and_false,Bool.not_false,Bool.and_self]
     ·refine xx ?_;refine⟨i+1,⟨qf,step ?_⟩,qf,qi,Za.refl _ _⟩;rw[GY,decide_eq_true qf,decide_eq_false c4,Bool.false_and,Bool.not_false,Bool.and_self]
   ·refine xx ?_;refine⟨k+1,⟨qf,fun j hj=>?_⟩,qf,qi,Za.tail _ _ _⟩;by_cases e:j=k
    ·subst e;exact⟨d1,fun x hx=>i2 x qf⟩
    ·exact m2 j qf
  ·have hkl:k=s.ai.length:=qf;subst hkl;have hq:JX s=true:=dues_pairs.2 m2;rw[VI,pall,hq,Bool.and_true,Bool.and_true]at hk;refine xx ?_;have e:decide ((s.aj.length:Int)<=256)=decide (s.aj.length<=256):=by apply decide_eq_decide.2;omega
   exact ZO (ZP (by first|exact hk|(rw[e];exact hk)))
theorem JJ {s:Zg}(v:SV)(hs0:Zp h v s)(few:Zy s)(fw:Yyy s)(hk:∀h',PH.le h h'->K (.bool (YY s)) L h'):Zb prog 32 [stV s v] L h K:=by
 obtain⟨pa,pc,ma,mc,ea,ec,xa,xc,oa,oc,da,dc,ta,tc,ka,kc,ra,rc,rfl⟩:=hs0.slices;have fm:=few.m;have fo:=few.o;have fd:=few.d;have fp:=few.p;have ft:=few.t;have fr:=few.r;refine ed func32 ?_;refine xx ?_;refine ZY fun b1 nb1 zb1=>?_;(try simp only[ZS]at nb1);refine xx ?_;refine Zb.ap (Zgb s.par hs0.ok.p fun h1 le1 ap=>?_);simp only[Ap]at ap;obtain⟨a1,_⟩:=ap
 cases q1:Yo s.par with
 | false =>
  have:=hk h1 le1;simp only[YY,q1,Bool.false_and]at this;refine xx ?_;exact ZO (ZP this)
 | true =>
 refine xx ?_;refine Zb.ap (Zya (s:=s) ⟨.slice pa s.ag.length pc,.slice ma s.ae.length mc,.slice ea s.entry.length ec,.slice xa s.exit.length xc,.slice oa s.aj.length oc,.slice da s.ai.length dc,.slice ta s.ah.length tc,.slice ka s.marks.length kc,.slice ra s.ring.length rc⟩ (hs0.up le1) few fun h2 r1 r2 r3 r4 le2 mon ap=>?_);simp only[Ap]at ap;obtain⟨a2,_⟩:=ap;refine xx ?_;refine Zb.ap (Zom (s:=s) r1 r2 r3 r4 mon fw fun h3 le3 ap=>?_);simp only[Ap]at ap;obtain⟨a3,_⟩:=ap;have le03:=le1.trans (le2.trans le3);have hs:=hs0.up le03;have no:∀b:Bool,(b=false->YY s=false)->b=false->K (.bool false) L h3:=fun b hb e=>by have:=hk h3 le03;rwa [hb e]at this
 cases q2:Wn s with
 | false =>
  have:=no _ (fun e=>by simp only[YY,e,Bool.and_false]) q2;refine xx ?_;exact ZO (ZP this)
 | true =>
 refine xx ?_;refine V8 _ _ _ ?_
 cases q3:wi s.ep 0 1073741824 with
 | false =>
  have:=no _ (fun e=>zo) q3;refine xx ?_;exact ZO (ZP this)
 | true =>
 refine xx ?_;refine V8 _ _ _ ?_
 cases q4:wi s.calm 0 1073741824 with
 | false =>
  have:=no _ (fun e=>zo) q4;refine xx ?_;exact ZO (ZP this)
 | true =>
 refine xx ?_;refine V8 _ _ _ ?_
 cases q5:wi s.ag.length 1 64 with
 | false =>
  have:=no _ (fun e=>by simp only[YY,VG,e,Bool.and_false,Bool.false_and]) q5;refine xx ?_;exact ZO (ZP this)
 | true =>
 by_cases q6:128<s.ae.length
 ·have:=no (decide (s.ae.length<=128)) (fun e=>qN) (decide_eq_false qf);refine xx ?_;exact ZO (ZP this)
 by_cases q7:32<s.ah.length
 ·have:=no (decide (s.ah.length<=32)) (fun e=>by simp only[YY,Ve,e,Bool.and_false,Bool.false_and]) (decide_eq_false qf);refine xx ?_;exact ZO (ZP this)
 by_cases q8:8<s.ring.length
 ·have:=no (decide (s.ring.length<=8)) (fun e=>qU) (decide_eq_false qf);refine xx ?_;exact ZO (ZP this)
 have hpr:Ints h3 .u64 (.slice pa s.ag.length pc) s.ag:=hs.p;have hpw:=hpr.word;obtain⟨_,_,hpe,_,_,_,hcp⟩:=hpr.open;injection hpe with hpe1 _ hpe3
 subst hpe1;subst hpe3;have hm:Zd YD 6 h3 (.slice ma s.ae.length mc) s.ae:=hs.m;refine xx ?_;refine Yi (0:Nat) (fun k=>k<=s.ag.length/\∀j,j<k->(fun z:Int=>decide (z<=4611686018427387904)) (at0 s.ag j)=true) (fun k=>[(3,.int .i64 k),(1,.pointer (some ⟨b1,0,none⟩))]) (fun _=>⟨b1,45,stC s ⟨.slice pa s.ag.length pc,.slice ma s.ae.length mc,.slice ea s.entry.length ec,.slice xa s.exit.length xc,.slice oa s.aj.length oc,.slice da s.ai.length dc,.slice ta s.ah.length tc,.slice ka s.marks.length kc,.slice ra s.ring.length rc⟩,41⟩::L) (fun _=>h3) (fun k=>s.ag.length-k) ?_ ?_ ?_ ?_
 ·exact⟨Nat.zero_le _,fun j hj=>qf⟩
 ·simp [Ent,List.lookup,YT]
 ·exact Za.refl _ _
 rintro k ⟨k1,k2⟩;by_cases c1:k<s.ag.length
 ·by_cases c2:4611686018427387904<at0 s.ag k
  ·have:=no (s.ag.all fun z=>decide (z<=4611686018427387904)) (fun e=>by simp only[YY,VG,e,Bool.and_false,Bool.false_and]) (Zfd _ _ c1 (decide_eq_false qf));refine fO ?_;exact ZO (ZP this)
  ·refine fO ?_;refine⟨k+1,⟨qf,fun j hj=>?_⟩,qf,qi,Za.refl _ _⟩;by_cases e:j=k
   ·subst e;first|omega|exact decide_eq_true qf
   ·first|exact k2 j qf|simpa using k2 j qf
 have hkl:k=s.ag.length:=qf;subst hkl;have pall:=Yin (fun z:Int=>decide (z<=4611686018427387904)) s.ag k2;refine xx ?_;clear k2 c1 k1;refine Yi (0:Nat) (fun k=>k<=s.ae.length/\∀j,j<k->(fun m:Zc=>Y2 s.par m&&Y8 s m.owner) (gr ZQ s.ae j)=true) (fun k=>[(4,.int .i64 k),(1,.pointer (some ⟨b1,0,none⟩))]) (fun _=>⟨b1,45,stC s ⟨.slice pa s.ag.length pc,.slice ma s.ae.length mc,.slice ea s.entry.length ec,.slice xa s.exit.length xc,.slice oa s.aj.length oc,.slice da s.ai.length dc,.slice ta s.ah.length tc,.slice ka s.marks.length kc,.slice ra s.ring.length rc⟩,41⟩::L) (fun _=>h3) (fun k=>s.ae.length-k) ?_ ?_ ?_ ?_
 ·exact⟨Nat.zero_le _,fun j hj=>qf⟩
 ·simp [Ent,List.lookup,YT]
 ·exact Za.refl _ _
 rintro k ⟨k1,k2⟩;by_cases c1:k<s.ae.length
 ·have hxo:=hs.mo (gr ZQ s.ae k) qG;have badm:(fun m:Zc=>Y2 s.par m&&Y8 s m.owner) (gr ZQ s.ae k)=false->K (.bool false) L h3:=fun e=>no (s.ae.all fun m=>Y2 s.par m&&Y8 s m.owner) (fun e=>qN) (YF ZQ _ _ c1 e);refine xx ?_;refine WX qg rfl ?_;simp -dsimp -implicitDefEqProofs (disch:=first|exact dD|fail) [go_sem,↓Us ZQ qh hm,YD];refine VK _ (Zmp s.par hs.ok.p q1 (gr ZQ s.ae k) hxo ⟨rfl,rfl,rfl⟩) ?_
  cases q9:Y2 s.par (gr ZQ s.ae k) with
  | false =>
   have:=badm (by simp only[q9,Bool.false_and]);refine xx ?_;exact ZO (ZP this)
  | true =>
  have q9':=q9;simp only[Y2,Bool.and_eq_true,decide_eq_true_eq]at q9';refine fH ?_;refine(Zd.fld ZQ hm (j:=k) (o:=4) c1 (u:=.int .i64 (gr ZQ s.ae k).owner) rfl _ _ _).mpr ?_;by_cases c2:(s.ag.length:Int)<=(gr ZQ s.ae k).owner
  ·have:=badm (by simp only[Y8,wi,decide_eq_false (p:=(gr ZQ s.ae k).owner<=(s.ag.length:Int)-1) qf,Bool.and_false]);refine xx ?_;exact ZO (ZP this)
  ·refine xx ?_;refine⟨k+1,⟨qf,fun j hj=>?_⟩,qf,qi,Za.refl _ _⟩;by_cases e:j=k
   ·subst e;have:Y8 s (gr ZQ s.ae j).owner=true:=by rw[Y8,wi_iff];omega
    first|(simp only[q9,this];rfl)|exact⟨q9,this⟩ | simp [q9,this]
   ·first|exact k2 j qf|simpa using k2 j qf
 have hkl:k=s.ae.length:=qf;subst hkl;have mall:=Ja ZQ (fun m:Zc=>Y2 s.par m&&Y8 s m.owner) s.ae k2;clear k2 c1 k1;obtain⟨q,hd,t2,t3⟩:=hs.t;have hql:q.length=s.ah.length:=zF;have hgr:∀k,k<q.length->gr Yb s.ah k=(gr Z0 q k).2.2:=fun k hk=>by
  rw[Ye hk,Ye qf];simp only[<- t2,List.getElem_map]
 simp only at hd;refine xx ?_;refine Yi (γ:=Nat×PH) (0,h3) (fun g=>g.1<=s.ah.length/\PH.le h3 g.2/\g.2 b1=noC/\∀j,j<g.1->(fun m:Zl=>WP m&&Y8 s m.au&&Y8 s m.to) (gr Yb s.ah j)=true) (fun g=>[(5,.int .i64 g.1),(1,.pointer (some ⟨b1,0,none⟩))]) (fun _=>⟨b1,45,stC s ⟨.slice pa s.ag.length pc,.slice ma s.ae.length mc,.slice ea s.entry.length ec,.slice xa s.exit.length xc,.slice oa s.aj.length oc,.slice da s.ai.length dc,.slice ta s.ah.length tc,.slice ka s.marks.length kc,.slice ra s.ring.length rc⟩,41⟩::L) (fun g=>g.2) (fun g=>s.ah.length-g.1) ?_ ?_ ?_ ?_
 ·exact⟨Nat.zero_le _,PH.le_refl _,a3,fun j hj=>wF⟩
 ·simp [Ent,List.lookup,YT]
 ·exact Za.refl _ _
 rintro⟨k,h4⟩ ⟨k1,le4,a4,k2⟩;simp only at k1 le4 a4 k2 ⊢;by_cases c1:k<s.ah.length
 ·have hx0:Zr h3 (gr Z0 q k):=by rw[Ye qf];exact t3 _ (List.getElem_mem qf)
  have hx:=hx0.up le4;have hd4:=hd.up le4;have hg:=hgr k qf;obtain⟨x1,y1,hv1,_⟩:=hx.y.open;obtain⟨x2,y2,hv2,_⟩:=hx.n.open;have m1:=hx.y;have m2:=hx.n;rw[hv1]at m1;rw[hv2]at m2;have badm:∀h5,PH.le h3 h5->(fun m:Zl=>WP m&&Y8 s m.au&&Y8 s m.to) (gr Yb s.ah k)=false->K (.bool false) L h5:=fun h5 le5 e=>by
   have:=hk h5 (le03.trans le5);have e2:YY s=false:=by simp only[YY,Ve,YF Yb (fun m:Zl=>WP m&&Y8 s m.au&&Y8 s m.to) s.ah c1 e,Bool.and_false,Bool.false_and]
   rwa [e2]at this
  simp -dsimp -implicitDefEqProofs (disch:=first|exact dD|fail) [go_sem,↓Us Z0 qh hd4,YQ];refine ZY fun b2 nb2 zb2=>?_;(try simp only[ZS]at nb2);refine xA ?_;refine Zb.ap (Zui (gr Z0 q k).2.2 _ _ m1 m2 hx.ok fun h5 le5 ap=>?_);simp only[Ap]at ap;obtain⟨p2,p1,_⟩:=ap
  cases hq:WP (gr Z0 q k).2.2 with
  | false =>
   have:=badm h5 (le4.trans le5) (by simp only[hg,hq,Bool.false_and]);refine xx ?_;exact ZO (ZO (ZP this))
  | true =>
  have hq':=hq;simp only[WP,YP,Bool.and_eq_true,wi_iff]at hq';by_cases c2:(s.ag.length:Int)<=(gr Z0 q k).2.2.au
  ·have:=badm h5 (le4.trans le5) (by simp only[hg,Y8,wi,decide_eq_false (p:=(gr Z0 q k).2.2.au<=(s.ag.length:Int)-1) qf,Bool.and_false,Bool.false_and]);refine xx ?_;exact ZO (ZO (ZP this))
  by_cases c3:(s.ag.length:Int)<=(gr Z0 q k).2.2.to
  ·have:=badm h5 (le4.trans le5) (by simp only[hg,Y8,wi,decide_eq_false (p:=(gr Z0 q k).2.2.to<=(s.ag.length:Int)-1) qf,Bool.and_false]);refine xx ?_;exact ZO (ZO (ZP this))
  refine xx ?_;refine⟨k+1,h5,⟨qf,le4.trans le5,p1,fun j hj=>?_⟩,qf,qi,Za.tail _ _ _⟩;by_cases e:j=k
  ·subst e;have e1:Y8 s (gr Z0 q j).2.2.au=true:=by rw[Y8,wi_iff];omega
   have e2:Y8 s (gr Z0 q j).2.2.to=true:=by rw[Y8,wi_iff];omega
   simp [hg,hq,e1,e2]
  ·first|exact k2 j qf|simpa using k2 j qf
 have hkl:k=s.ah.length:=qf;subst hkl;have tall:=Ja Yb (fun m:Zl=>WP m&&Y8 s m.au&&Y8 s m.to) s.ah k2;clear k2 c1 k1;have le04:=le03.trans le4;have hs4:=hs.up le4;obtain⟨qr,hdr,tr⟩:=hs4.r;have hqr:qr.length=s.ring.length:=by rw[<- tr,Wu]
 simp only at hdr;have hdr0:=hdr;obtain⟨_,_,hre,_,_,_,hcr,hdd⟩:=hdr.open;injection hre with hre1 hre2 hre3
 subst hre1;subst hre3;have hcr':∀j,j<s.ring.length->Z9 h4 ra j=some ((fun j=>(gs qr j).1) j):=fun j hj=>hcr j qf;have no4:∀b:Bool,(b=false->YY s=false)->b=false->K (.bool false) L h4:=fun b hb e=>by have:=hk h4 le04;rwa [hb e]at this
 have hgs:∀j,j<qr.length->gr [] s.ring j=(gs qr j).2:=fun j hj=>by
  rw[<- tr,Ye (by rw[Wu];exact hj),G4 hj];simp [xsL]
 refine xx ?_;refine Yi (0:Nat) (fun k=>k<=s.ring.length/\∀j,j<k->Gn (gr [] s.ring j) 128=true) (fun k=>[(7,.int .i64 k),(1,.pointer (some ⟨b1,0,none⟩))]) (fun _=>⟨b1,45,stC s ⟨.slice pa s.ag.length pc,.slice ma s.ae.length mc,.slice ea s.entry.length ec,.slice xa s.exit.length xc,.slice oa s.aj.length oc,.slice da s.ai.length dc,.slice ta s.ah.length tc,.slice ka s.marks.length kc,.slice ra s.ring.length rc⟩,41⟩::L) (fun _=>h4) (fun k=>s.ring.length-k) ?_ ?_ ?_ ?_
 ·exact⟨Nat.zero_le _,fun j hj=>qf⟩
 ·simp [Ent,List.lookup,YT]
 ·exact Za.refl _ _
 rintro k ⟨k1,k2⟩;by_cases c1:k<s.ring.length
 ·have hi:=hdd.at (i:=k) qf;have hi':=hi;obtain⟨x1,y1,hv1,_⟩:=hi.open;rw[hv1]at hi';refine xK ?_;refine U3 _ hi' ?_
  cases hc2:Gn (gs qr k).2 128 with
  | false =>
   have:=no4 (s.ring.all fun b=>Gn b 128) (fun e=>qU) (YF [] _ _ c1 (by rw[hgs k qf,hc2]));refine xx ?_;exact ZO (ZP this)
  | true =>
   refine xx ?_;refine⟨k+1,⟨qf,fun j hj=>?_⟩,qf,qi,Za.refl _ _⟩;by_cases e:j=k
   ·subst e;rw[hgs j qf];exact hc2
   ·exact k2 j qf
 have hkl:k=s.ring.length:=qf;subst hkl;have rall:s.ring.all (fun b=>Gn b 128)=true:=Ja [] _ _ k2;clear k2 c1 k1;have hkk:Ints h4 .u8 (.slice ka s.marks.length kc) s.marks:=hs4.k;refine xx ?_;refine U3 _ hkk ?_
 cases q9:Gn s.marks 128 with
 | false =>
  have:=no4 _ (fun e=>qU) q9;refine xx ?_;exact ZO (ZP this)
 | true =>
 refine xx ?_;refine Zjs (s:=s) ⟨.slice pa s.ag.length pc,.slice ma s.ae.length mc,.slice ea s.entry.length ec,.slice xa s.exit.length xc,.slice oa s.aj.length oc,.slice da s.ai.length dc,.slice ta s.ah.length tc,.slice ka s.marks.length kc,.slice ra s.ring.length rc⟩ hs4 few _ hs4.e 1 qh ?_
 cases q10:Zfz s s.entry 1 with
 | false =>
  have:=no4 _ (fun e=>qN) q10;refine xx ?_;exact ZO (ZP this)
 | true =>
 refine xx ?_;refine Zjs (s:=s) ⟨.slice pa s.ag.length pc,.slice ma s.ae.length mc,.slice ea s.entry.length ec,.slice xa s.exit.length xc,.slice oa s.aj.length oc,.slice da s.ai.length dc,.slice ta s.ah.length tc,.slice ka s.marks.length kc,.slice ra s.ring.length rc⟩ hs4 few _ hs4.x 3 qh ?_
 cases q11:Zfz s s.exit 3 with
 | false =>
  have:=no4 _ (fun e=>qN) q11;refine xx ?_;exact ZO (ZP this)
 | true =>
 refine xx ?_;refine Zmz (s:=s) ⟨.slice pa s.ag.length pc,.slice ma s.ae.length mc,.slice ea s.entry.length ec,.slice xa s.exit.length xc,.slice oa s.aj.length oc,.slice da s.ai.length dc,.slice ta s.ah.length tc,.slice ka s.marks.length kc,.slice ra s.ring.length rc⟩ hs4 few ?_
 cases q12:VI s with
 | false =>
  have:=no4 _ (fun e=>zo) q12;refine xx ?_;exact ZO (ZP this)
 | true =>
 refine xx ?_;refine Yi s.ae.length (fun k=>s.ae.length<=k/\k<=100000/\∀j,s.ae.length<=j->j<k->Wm s.marks (j:Int)=false) (fun k=>[(8,.int .i64 k),(1,.pointer (some ⟨b1,0,none⟩))]) (fun _=>⟨b1,45,stC s ⟨.slice pa s.ag.length pc,.slice ma s.ae.length mc,.slice ea s.entry.length ec,.slice xa s.exit.length xc,.slice oa s.aj.length oc,.slice da s.ai.length dc,.slice ta s.ah.length tc,.slice ka s.marks.length kc,.slice ra s.ring.length rc⟩,41⟩::L) (fun _=>h4) (fun k=>100000-k) ?_ ?_ ?_ ?_
 ·exact⟨Nat.le_refl _,fm,fun j hj=>qf⟩
 ·simp [Ent,List.lookup,YT]
 ·exact Za.refl _ _
 rintro k ⟨k0,k1,k2⟩;by_cases c1:k<128
 ·refine xx ?_;refine GT _ k hkk qf ?_
  cases h2':Wm s.marks (k:Int) with
  | true =>
   have:=no4 ((List.range 128).all fun i=>decide (i<s.ae.length) || !Wm s.marks i) (fun e=>by simp only[YY,J1,e,Bool.and_false,Bool.false_and]) (by
    rw[List.all_eq_false]
    exact⟨k,List.mem_range.2 c1,by simp [h2'];omega⟩)
   refine xx ?_;exact ZO (ZP this)
  | false =>
   refine xx ?_;refine⟨k+1,⟨qf,qf,fun j hj hj2=>?_⟩,qf,qi,Za.refl _ _⟩;by_cases e:j=k
   ·subst e;exact h2'
   ·exact k2 j hj qf
 ·have last:((List.range 128).all fun i=>decide (i<s.ae.length) || !Wm s.marks i)=true:=by
   rw[List.all_eq_true];intro i hi;have:=List.mem_range.1 hi;by_cases e:i<s.ae.length
   ·simp [e]
   ·simp [k2 i qf qf]
  have yes:YY s=true:=by
   have e1:decide (s.ae.length<=128)=true:=decide_eq_true qf;have e2:decide (s.ah.length<=32)=true:=decide_eq_true qf;have e3:decide (s.ring.length<=8)=true:=decide_eq_true qf;simp only[YY,VG,WU,Ve,J1,Ziw,q1,q2,q3,q4,q5,q9,q10,q11,q12,e1,e2,e3,pall,mall,tall,rall,last,Bool.and_self]
  have:=hk h4 le04;rw[yes]at this;refine xx ?_;exact ZO (ZP this)
def Jf (m:Zc):Bool:=decide (m.status=2\/m.status=3)
def cP (l:List Zc)(i:Nat):List Nat:=(List.range i).filter fun j=>Jf (gr ZQ l j)
theorem Zal (l:List Zc)(i:Nat):cP l (i+1)=if Jf (gr ZQ l i) then cP l i++[i] else cP l i:=by
 unfold cP;rw[List.range_succ,List.filter_append];by_cases c:Jf (gr ZQ l i)=true
 ·simp [c]
 ·simp [c]
theorem Yrt {l:List Zc}{i j:Nat}(hj:j∈cP l i):j<i:=by
 unfold cP at hj;exact List.mem_range.1 (List.mem_filter.1 hj).1
theorem Zbc (l:List Zc)(i:Nat):(cP l i).length<=i:=by
 have:=List.length_filter_le (fun j=>Jf (gr ZQ l j)) (List.range i)
 rwa [List.length_range]at this
theorem Yqh {l:List Zc}{i j:Nat}(hj:j∈cP l i):Jf (gr ZQ l j)=true:=by
 unfold cP at hj;exact(List.mem_filter.1 hj).2
def thI (l:List Zc)(ks:List Int)(i:Nat):List Nat:=(cP l i).filter fun(j:Nat)=>Wm ks j
theorem J8 (l:List Zc)(ks:List Int)(i:Nat):(thI l ks i).length<=i:=Nat.le_trans (List.length_filter_le _ _) (Zbc l i)
theorem Vc (l:List Zc)(ks:List Int)(i:Nat):thI l ks (i+1)=if Jf (gr ZQ l i)&&Wm ks i then thI l ks i++[i] else thI l ks i:=by
 unfold thI;rw[Zal];by_cases c:Jf (gr ZQ l i)=true
 ·by_cases c2:Wm ks i=true
  ·simp [c,c2]
  ·simp [c,c2]
 ·simp [c]
def Zeg (l:List Zc)(i:Nat):Int:=(gr ZQ l i).eff
def Uu (l:List Zc):Int:=tot ((cP l l.length).map (Zeg l))
def Jd (l:List Zc)(ks:List Int):Int:=tot ((thI l ks l.length).map (Zeg l))
theorem Wv (x:Int)(xs:List Int):tot (x::xs)=x+tot xs:=by
 have:∀k,YE (x::xs) (k+1)=x+YE xs k:=fun k=>by
  induction k with
  | zero=>simp [YE,at0]
  | succ k ih=>rw[YE,ih,YE];simp only[at0,List.getD_cons_succ];omega
 exact this xs.length
theorem Zfl {α:Type}(f:α->Int)(q:α->Bool):∀(xs:List α),(∀x∈xs,0<=f x)->0<=tot ((xs.filter q).map f)/\tot ((xs.filter q).map f)<=tot (xs.map f)
 | [],_=>⟨Int.le_refl _,Int.le_refl _⟩
 | x::xs,h0=>by
  have ih:=Zfl f q xs fun y hy=>h0 y (List.mem_cons_of_mem _ hy);have hx:=h0 x List.mem_cons_self;rw[List.filter_cons];split
  ·rw[List.map_cons,List.map_cons,Wv,Wv];omega
  ·rw[List.map_cons,Wv];omega
theorem Yhe {l:List Zc}(hm:∀x∈l,Zf x)(i:Nat):0<=Zeg l i/\Zeg l i<=18446744073709551615:=by
 unfold Zeg;by_cases c:i<l.length
 ·rw[Ye c];exact(hm _ (List.getElem_mem c)).u _ qj
 ·have:gr ZQ l i=ZQ:=by
   unfold gr;rw[List.getD_eq_getElem?_getD,List.getElem?_eq_none qf];rfl
  rw[this];decide
theorem Uj {l:List Zc}{ks:List Int}(hm:∀x∈l,Zf x):0<=Jd l ks/\Jd l ks<=Uu l:=Zfl _ _ _ fun x _=>(Yhe hm x).1
def Je (s:Zg):Int:=Jd s.ae s.marks
def Vi (s:Zg):Int:=Uu s.ae
def Vn (s:Zg):Int:=Zuw s.par.delay (Vo s.calm (Je s) (Vi s)).1 s.aT
def efC (l:List Zc)(ix:List Nat):List Value:=(ix.map (Zeg l)).map (.int .u64)
theorem VH (l:List Zc)(ix:List Nat):(efC l ix).length=ix.length*1:=by simp [efC]
theorem JS (l:List Zc)(ix:List Nat)(k:Nat):efC l (ix++[k])=efC l ix++[.int .u64 (Zeg l k)]:=by simp [efC]
theorem G2 {l:List Zc}(hm:∀x∈l,Zf x){ix:List Nat}{h:PH}{v:Value}(sl:Sl h v ix.length 1 (efC l ix)):Ints h .u64 v (ix.map (Zeg l)):=by
 refine⟨by rw[List.length_map];exact sl,fun z hz=>?_⟩;obtain⟨i,_,rfl⟩:=List.mem_map.1 hz;rw[show IntKind.u64.min=0 from qh,show IntKind.u64.max=18446744073709551615 from qh];exact Yhe hm i
theorem YJ {e sz:Nat}(o:Option (Nat×Nat))(xs:List Value)(L:Own):oent e sz o xs L=oent e sz o xs []++L:=by cases o<;>rfl
theorem Yvg {ks:List Int}{k:Nat}{b:Bool}(e:Wm ks k=b):Wm ks (k:Int)=b:=e
theorem Zmk {l:List Zc}{ks:List Int}(v kv:Value)(hd0:Zd YD 6 h v l)(hm:∀x∈l,Zf x)(hkv:Ints h .u8 kv ks)(hn:l.length<=1000)(hA:Uu l<=18446744073709551615)
  (hk:∀h',PH.le h h'->K (.tuple #[.int .u64 (Jd l ks),.int .u64 (Uu l),.int .i64 0]) L h'):Zb prog 137 [v,kv] L h K:=by
 have hP:=Uj (ks:=ks) hm;have hkv0:=hkv;obtain⟨a,c,rfl,hc,hl,_,hd⟩:=hd0.open;obtain⟨ka,kc,rfl,_⟩:=hkv.open;refine eu func137 ?_;refine xx ?_;refine Yi (γ:=Nat×Option (Nat×Nat)×Option (Nat×Nat)) (0,none,none) (fun s=>s.1<=l.length/\okO s.2.1 (cP l s.1).length/\okO s.2.2 (thI l ks s.1).length/\apO s.2.1 (oent 22 1 s.2.2 (efC l (thI l ks s.1)) L) h/\apO s.2.2 L h)
  (fun s=>[(13,.int .i64 s.1),(12,.int .i64 l.length),(11,.slice a l.length c),(8,ovs s.2.1 (cP l s.1).length),(7,ovs s.2.2 (thI l ks s.1).length),(1,.slice ka ks.length kc)])
  (fun s=>oent 22 1 s.2.1 (efC l (cP l s.1)) (oent 22 1 s.2.2 (efC l (thI l ks s.1)) L)) (fun _=>h) (fun s=>l.length-s.1) ?_ ?_ ?_ ?_
 ·exact⟨Nat.zero_le _,rfl,rfl,trivial,trivial⟩
 ·simp [Ent,List.lookup,YT,ovs,cP,thI]
 ·exact Za.refl _ _
 rintro⟨k,o1,o2⟩ ⟨i1,i2,i3,i4,i5⟩;simp only at i1 i2 i3 i4 i5 ⊢;by_cases c1:k<l.length
 ·have hcn:(cP l k).length<=k:=Zbc l k;have htn:(thI l ks k).length<=k:=J8 l ks k;have hs1:=Zal l k;have hs2:=Vc l ks k;refine xh ?_;refine ZY fun b7 nb7 zb7=>?_;(try simp only[ZS]at nb7);have n7:=Yx (Yx nb7);refine xm ?_;refine JF (gr ZQ l k) ?_;by_cases c2:Jf (gr ZQ l k)=true
  ·have c2':(gr ZQ l k).status=2\/(gr ZQ l k).status=3:=qV;rw[decide_eq_true c2'];rw[if_pos c2]at hs1;rw[c2,Bool.true_and]at hs2;refine xm ?_;refine ZY fun b8 nb8 zb8=>?_;(try simp only[ZS]at nb8);refine xx ?_;refine ZZ (t:=25) (e:=22) (sz:=1) (bytes:=8) qg Vw rfl rfl rfl rfl qh [_,_] _ o1 (cP l k).length (efC l (cP l k)) i2 (VH _ _) (Src.own List.mem_cons_self) (m:=1) (news:=[.int .u64 (gr ZQ l k).eff]) rfl qy qm qf ?_;intro o1' j1 j2 j3;have j4:=ZV (ZV j2);have e1:efC l (cP l k)++[.int .u64 (gr ZQ l k).eff]=efC l (cP l (k+1)):=by rw[hs1,JS];rfl
   have e2:(cP l k).length+1=(cP l (k+1)).length:=by rw[hs1];simp
   rw[e2]at j1 ⊢;rw[e1];refine xx ?_;refine Zhg (bs:=ks) _ k hkv0 qf ?_;by_cases c3:Wm ks k=true
   ·rw[if_pos c3]at hs2;rw[c3];refine xx ?_;refine ZY fun b9 nb9 zb9=>?_;(try simp only[ZS]at nb9);refine xx ?_;rw[YJ (e:=22) o1'];refine ZZ (t:=25) (e:=22) (sz:=1) (bytes:=8) qg Vw rfl rfl rfl rfl qh (_::_::_::oent 22 1 o1' _ []) _ o2 (thI l ks k).length (efC l (thI l ks k)) i3 (VH _ _) (Src.own List.mem_cons_self) (m:=1) (news:=[.int .u64 (gr ZQ l k).eff]) rfl qy qm qf ?_;intro o2' l1 l2 l3;have l4:=ZV (ZV (ZV l2));have l5:=JM (e2:=22) (sz2:=1) (cs2:=efC l (thI l ks (k+1))) (YH j4) l4;have e3:efC l (thI l ks k)++[.int .u64 (gr ZQ l k).eff]=efC l (thI l ks (k+1)):=by rw[hs2,JS];rfl
    have e4:(thI l ks k).length+1=(thI l ks (k+1)).length:=by rw[hs2];simp
    rw[e4]at l1 ⊢;rw[e3];refine xx ?_;refine⟨k+1,o1',o2',⟨qf,j1,l1,l5.1,l5.2⟩,qf,qi,?_⟩;rw[<- YJ];exact(Za.tail _ _ _).trans ((Za.tail _ _ _).trans (Za.tail _ _ _))
   ·rw[if_neg c3]at hs2;rw[show Wm ks k=false by simpa using c3];refine xx ?_;refine⟨k+1,o1',o2,⟨qf,j1,by rw[hs2];exact i3,by rw[hs2];exact j4,i5⟩,qf,by simp [Ent,List.lookup,hs2],?_⟩;rw[hs2];exact(Za.tail _ _ _).trans (Za.tail _ _ _)
  ·have c2':¬((gr ZQ l k).status=2\/(gr ZQ l k).status=3):=qV;rw[decide_eq_false c2'];rw[if_neg c2]at hs1;rw[show Jf (gr ZQ l k)=false from ww,Bool.false_and]at hs2;simp only[Bool.false_eq_true,if_false]at hs2;refine xx ?_;refine⟨k+1,o1,o2,⟨qf,wH,by rw[hs2];exact i3,by rw[hs2];exact i4,i5⟩,qf,by simp [Ent,List.lookup,hs1,hs2],?_⟩;rw[hs1,hs2];exact Za.tail _ _ _
 ·obtain rfl:k=l.length:=qf;refine xx ?_;have hcn:(cP l l.length).length<=l.length:=Zbc l l.length;have htn:(thI l ks l.length).length<=l.length:=J8 l ks l.length;rw[YJ (e:=22) o1];refine UA (n:=(thI l ks l.length).length) (oent 22 1 o1 (efC l (cP l l.length)) []) i3 (VH _ _) qf (fun h1 le1 sl1=>?_) ⟨f153,func153,qE,rfl⟩;rw[<- YJ (e:=22) o1];have it:=G2 hm sl1;refine WO _ it ?_;rw[show tot ((thI l ks l.length).map (Zeg l))=Jd l ks from rfl,YR qf];refine xx ?_;refine UA (n:=(cP l l.length).length) [] i2 (VH _ _) qf (fun h2 le2 sl2=>?_) ⟨f153,func153,qE,rfl⟩;have ia:=G2 hm sl2;refine WO _ ia ?_;rw[show tot ((cP l l.length).map (Zeg l))=Uu l from rfl,YR hA];refine xx ?_;exact ZP (hk h2 (le1.trans le2))
theorem Zkg {l:List Zc}{ks:List Int}(v kv:Value)(hd0:Zd YD 6 h v l)(hm:∀x∈l,Zf x)(hkv:Ints h .u8 kv ks)(hn:l.length<=1000)(hA:Uu l<=18446744073709551615)
  (hk:∀h',PH.le h h'->K (.tuple #[.int .u64 (Jd l ks),.int .u64 (Uu l),.int .i64 0]) L h'):Zb prog 230 [v,kv] L h K:=by
 have hP:=Uj (ks:=ks) hm;have hkv0:=hkv;obtain⟨a,c,rfl,hc,hl,_,hd⟩:=hd0.open;obtain⟨ka,kc,rfl,_⟩:=hkv.open;refine eu func230 ?_;refine xx ?_;refine Yi (γ:=Nat×Option (Nat×Nat)×Option (Nat×Nat)) (0,none,none) (fun s=>s.1<=l.length/\okO s.2.1 (cP l s.1).length/\okO s.2.2 (thI l ks s.1).length/\apO s.2.1 (oent 22 1 s.2.2 (efC l (thI l ks s.1)) L) h/\apO s.2.2 L h)
  (fun s=>[(9,.int .i64 s.1),(0,.slice a l.length c),(8,ovs s.2.1 (cP l s.1).length),(7,ovs s.2.2 (thI l ks s.1).length),(1,.slice ka ks.length kc)])
  (fun s=>oent 22 1 s.2.1 (efC l (cP l s.1)) (oent 22 1 s.2.2 (efC l (thI l ks s.1)) L)) (fun _=>h) (fun s=>l.length-s.1) ?_ ?_ ?_ ?_
 ·exact⟨Nat.zero_le _,rfl,rfl,trivial,trivial⟩
 ·simp [Ent,List.lookup,YT,ovs,cP,thI]
 ·exact Za.refl _ _
 rintro⟨k,o1,o2⟩ ⟨i1,i2,i3,i4,i5⟩;simp only at i1 i2 i3 i4 i5 ⊢;by_cases c1:k<l.length
 ·have hcn:(cP l k).length<=k:=Zbc l k;have htn:(thI l ks k).length<=k:=J8 l ks k;have hs1:=Zal l k;have hs2:=Vc l ks k;refine xh ?_;refine Y3 (gr ZQ l k) ?_;by_cases c2:Jf (gr ZQ l k)=true
  ·have c2':(gr ZQ l k).status=2\/(gr ZQ l k).status=3:=qV;rw[decide_eq_true c2'];rw[if_pos c2]at hs1;rw[c2,Bool.true_and]at hs2;have fe:∀(L:Own) (K:Value->Prop) (t:Zm K),Um L h (UI a (k*6+1)) 0 K t=K (.int .u64 (gr ZQ l k).eff):=fun L K t=>hd.fld ZQ c1 (o:=1) rfl L K t;refine fP ?_;refine ZY fun b8 nb8 zb8=>?_;(try simp only[ZS]at nb8);refine xx ?_;refine ZZ (t:=25) (e:=22) (sz:=1) (bytes:=8) qg Vw rfl rfl rfl rfl qh [_] _ o1 (cP l k).length (efC l (cP l k)) i2 (VH _ _) (Src.own List.mem_cons_self) (m:=1) (news:=[.int .u64 (gr ZQ l k).eff]) rfl qy qm qf ?_;intro o1' j1 j2 j3;have j4:=ZV j2;have e1:efC l (cP l k)++[.int .u64 (gr ZQ l k).eff]=efC l (cP l (k+1)):=by rw[hs1,JS];rfl
   have e2:(cP l k).length+1=(cP l (k+1)).length:=by rw[hs1];simp
   rw[e2]at j1 ⊢;rw[e1];refine xx ?_;refine GT (bs:=ks) _ k hkv0 qf ?_;by_cases c3:Wm ks k=true
   ·rw[if_pos c3]at hs2;rw[c3];refine fP ?_;refine ZY fun b9 nb9 zb9=>?_;(try simp only[ZS]at nb9);refine xx ?_;rw[YJ (e:=22) o1'];refine ZZ (t:=25) (e:=22) (sz:=1) (bytes:=8) qg Vw rfl rfl rfl rfl qh (_::_::oent 22 1 o1' _ []) _ o2 (thI l ks k).length (efC l (thI l ks k)) i3 (VH _ _) (Src.own List.mem_cons_self) (m:=1) (news:=[.int .u64 (gr ZQ l k).eff]) rfl qy qm qf ?_;intro o2' l1 l2 l3;have l4:=ZV (ZV l2);have l5:=JM (e2:=22) (sz2:=1) (cs2:=efC l (thI l ks (k+1))) (YH j4) l4;have e3:efC l (thI l ks k)++[.int .u64 (gr ZQ l k).eff]=efC l (thI l ks (k+1)):=by rw[hs2,JS];rfl
    have e4:(thI l ks k).length+1=(thI l ks (k+1)).length:=by rw[hs2];simp
    rw[e4]at l1 ⊢;rw[e3];refine xx ?_;refine⟨k+1,o1',o2',⟨qf,j1,l1,l5.1,l5.2⟩,qf,qi,?_⟩;rw[<- YJ];exact(Za.tail _ _ _).trans (Za.tail _ _ _)
   ·rw[if_neg c3]at hs2;rw[show Wm ks k=false by simpa using c3];refine xx ?_;refine⟨k+1,o1',o2,⟨qf,j1,by rw[hs2];exact i3,by rw[hs2];exact j4,i5⟩,qf,by simp [Ent,List.lookup,hs2],?_⟩;rw[hs2];exact Za.tail _ _ _
  ·have c2':¬((gr ZQ l k).status=2\/(gr ZQ l k).status=3):=qV;rw[decide_eq_false c2'];rw[if_neg c2]at hs1;rw[show Jf (gr ZQ l k)=false from ww,Bool.false_and]at hs2;simp only[Bool.false_eq_true,if_false]at hs2;refine xx ?_;refine⟨k+1,o1,o2,⟨qf,wH,by rw[hs2];exact i3,by rw[hs2];exact i4,i5⟩,qf,by simp [Ent,List.lookup,hs1,hs2],?_⟩;rw[hs1,hs2];exact Za.refl _ _
 ·obtain rfl:k=l.length:=qf;refine xx ?_;have hcn:(cP l l.length).length<=l.length:=Zbc l l.length;have htn:(thI l ks l.length).length<=l.length:=J8 l ks l.length;refine UA (n:=(cP l l.length).length) [] i2 (VH _ _) qf (fun h1 le1 sl1=>?_) ⟨f326,func326,qE,rfl⟩;have ia:=G2 hm sl1;refine UR _ ia qI fun h2 r2 le2 n2=>?_;obtain⟨qa,qk,qc,rfl⟩:=n2.sl;rw[show tot ((cP l l.length).map (Zeg l))=Uu l from rfl]at n2;refine xx ?_;refine Ua _ n2 fun h3 le3=>?_;rw[show Zik (Uu l)=true from decide_eq_true hA,show GZ (Uu l)=Uu l by rw[GZ,if_pos hA]];refine xx ?_;refine UA (n:=(thI l ks l.length).length) [] i3 (VH _ _) qf (fun h4 le4 sl4=>?_) ⟨f326,func326,qE,rfl⟩;have it:=G2 hm sl4;refine UR _ it qI fun h5 r5 le5 n5=>?_;obtain⟨sa,sk,sc,rfl⟩:=n5.sl;rw[show tot ((thI l ks l.length).map (Zeg l))=Jd l ks from rfl]at n5;refine xx ?_;refine Ua _ n5 fun h6 le6=>?_;rw[show Zik (Jd l ks)=true from decide_eq_true qf,show GZ (Jd l ks)=Jd l ks by rw[GZ,if_pos qf]];refine xx ?_;exact ZP (hk h6 (le1.trans (le2.trans (le3.trans (le4.trans (le5.trans le6))))))
theorem Ydf {p:Ze}(ok:Zj p)(hr:Yo p=true){m:Zc}(mo:Zf m)(there:Bool)(mode:Int):Zf (W8 p m there mode):=by
 have hs:=Yc hr;have us:=mo.u m.score qj;have un:=mo.n m.ak qj;have ur:=ok.w p.recover qB;have u1:=ok.w p.aP qB;have u2:=ok.w p.aO qB;have u3:=ok.w p.aA qB
 cases there with
 | true =>
  rw[Zmn];refine⟨fun z hz=>?_,fun z hz=>?_⟩
  ·simp only[List.mem_cons,List.not_mem_nil,or_false]at hz;rcases hz with rfl|rfl|rfl
   ·exact mo.u _ qj
   ·exact mo.u _ qj
   ·unfold Wf;split<;>omega
  ·simp only[List.mem_cons,List.not_mem_nil,or_false]at hz;rcases hz with rfl|rfl|rfl
   ·unfold Yot;split<;>omega
   ·exact mo.n _ qj
   ·exact mo.n _ qj
 | false =>
  rw[Znu];refine⟨fun z hz=>?_,fun z hz=>?_⟩
  ·simp only[List.mem_cons,List.not_mem_nil,or_false]at hz;rcases hz with rfl|rfl|rfl
   ·exact mo.u _ qj
   ·exact mo.u _ qj
   ·unfold Ypx Gs;split
    ·omega
    ·split<;>omega
  ·simp only[List.mem_cons,List.not_mem_nil,or_false]at hz;rcases hz with rfl|rfl|rfl
   ·omega
   ·exact mo.n _ qj
   ·exact mo.n _ qj
theorem Ymz {o:Option (Nat×Nat)}{n m:Nat}(ho:okO o n)(hm:m<=n):okO o m:=by
 cases o with
 | none=>have:n=0:=ho;show m=0;omega
 | some p=>exact⟨Nat.le_trans hm ho.1,ho.2⟩
open Go.RowKit Go.Bl
theorem Za.sub {L L0:Own}{h:PH}(hs:L0.Sublist L):Za L h L0 h:=fun W hg =>
 ⟨⟨hg.sub,fun e he=>hg.own e (hs.subset he),hg.nodup.sublist (hs.map _),fun e he=>hg.apart e (hs.subset he)⟩,fun e he=>List.mem_map_of_mem (hs.subset he)⟩
theorem Zsp {xs:List Int}{bl:Nat}(o:Option (Nat×Nat))(ho:okO o xs.length)(hl:xs.length<=1000)
  (hk:∀o',okO o' xs.length->apO o' L h->K (ovs o' xs.length) (oent 3 1 o' (xs.map (.int .i64)) L) h) :
  Zb prog 312 [.pointer (some ⟨bl,0,none⟩)] (lnB bl o xs.length::lnL o xs L) h K:=by
 obtain⟨a,c,ea,hac⟩:=Z5 ho;refine eH func312 fun ap nd=>?_;have hb:h bl=noC:=ap.1;clear ap nd;refine xx ?_;have hsrc:Src (lnB bl o xs.length::lnL o xs L) h (ovs o xs.length) xs.length (xs.map (.int .i64)):=by
  cases o with
  | none =>
   have h0:xs.length=0:=ho;rw[List.length_eq_zero_iff.1 h0];exact Or.inl ⟨rfl,rfl,rfl⟩
  | some p=>exact Src.own (b:=p.1) (t:=3) (cap:=p.2*1) (by simp [lnL,oent])
 refine ZZ (t:=27) (e:=3) (sz:=1) (bytes:=8) (z:=[.int .i64 0]) qg V6 rfl rfl rfl rfl qh [] _ none 0 [] rfl rfl hsrc (m:=xs.length) qj (fun u hu=>?_) qm qf ?_
 ·obtain⟨w,_,rfl⟩:=List.mem_map.1 hu
  rfl
 intro o1 j1 j2 j3;simp only[List.nil_append,Nat.zero_add]at j1 j2 ⊢;obtain⟨x1,y1,e1,_⟩:=Z5 j1;rw[e1];refine xx ?_;have k1:=hk o1 j1 (YH (ZV j2));rw[e1]at k1;refine⟨_,h,Za.sub ?_,k1⟩;rw[YJ o1 _ L,YJ o1 _ (lnB bl o xs.length::lnL o xs L)];refine List.Sublist.append (List.Sublist.refl _) (List.Sublist.cons _ ?_);rw[lnL,YJ o];exact List.sublist_append_right _ _
theorem Zel {xs:List Int}(v:Value)(hv:Ints h .i64 v xs)(hl:xs.length<=256)(h0:∀z∈xs,0<=z)(hn:xs.Nodup)(m:Int)(hm:0<=m/\m<=9223372036854775807)
  (hk:∀h' r o',PH.le h h'->Ints h' .i64 r (xs.take m.toNat)->okO o' (xs.drop m.toNat).length->apO o' L h'->K (.tuple #[r,ovs o' (xs.drop m.toNat).length]) (oent 3 1 o' ((xs.drop m.toNat).map (.int .i64)) L) h') :
  Zb prog 214 [v,.int .i64 m] L h K:=by
 have hr:=hv.2;have hv0:=hv;obtain⟨va,vc,rfl,hcap,hln,_,hcs⟩:=hv.open;refine eF func214 ?_;refine xx ?_;refine Yel _ hv0 hl h0 hn fun bl o nb hb ho=>?_;refine xx ?_;refine Ygt o ho qf m hm hr fun h1 r le1 it=>?_;have hdl:(xs.drop m.toNat).length<=xs.length:=by rw[List.length_drop];omega
 obtain⟨ys,hys⟩:∃ys,ys=xs.drop m.toNat:=⟨_,rfl⟩
 rw[<- hys]at hk hdl ⊢;refine xx ?_;refine Zsp (xs:=ys) o (Ymz ho hdl) qf fun o' k1 k2=>?_;refine xx ?_;exact ZP (hk h1 r o' le1 it k1 k2)
theorem Zyu {xs:List Int}{k:Nat}(hk:k<xs.length):xs.take (k+1)=xs.take k++[at0 xs k]:=by
 rw[List.take_succ_eq_append_getElem hk,Ys hk]
theorem GL {e1 sz1 n1 e2 sz2 n2:Nat}{o1 o2:Option (Nat×Nat)}{xs1 xs2:List Value}{L:Own}{h:PH}{K:PK}{v:Value}(ok1:okO o1 n1)(hl1:xs1.length=n1*sz1)(hn1:n1<=9223372036854775807)(ok2:okO o2 n2)(hl2:xs2.length=n2*sz2)(hn2:n2<=9223372036854775807)
  (ha1:apO o1 (oent e2 sz2 o2 xs2 L) h) (ha2:apO o2 L h)
  (hk:∀h',PH.le h h'->Sl h' (ovs o1 n1) n1 sz1 xs1->Sl h' (ovs o2 n2) n2 sz2 xs2->fin K v L h') (he1:e1≠4294967295:=by first|decide|omega) (he2:e2≠4294967295:=by first|decide|omega):fin K v (oent e1 sz1 o1 xs1 (oent e2 sz2 o2 xs2 L)) h:=by
 have a1:apO o1 [] h:=by
  cases o1 with
  | none=>trivial
  | some p=>exact⟨trivial,ha1.2⟩
 have a2:apO o2 [] (Jh h o1 xs1):=by
  cases o2 with
  | none=>trivial
  | some q =>
   cases o1 with
   | none=>exact⟨trivial,ha2.2⟩
   | some p=>exact⟨trivial,Vt (o:=some p) (Ne.symm ha1.1.1) ha2.2⟩
 have le1:=YL a1 xs1;have le2:=YL a2 xs2;obtain⟨L',h',hd,hk⟩:=hk _ (le1.trans le2) ((WE ok1 hl1 hn1).up le2) (WE ok2 hl2 hn2);exact⟨L',h',((YG o1 xs1 _ h he1).trans (YG o2 xs2 L _ he2)).trans hd,hk⟩
def tkA (xs:List Int)(m k:Nat):List Int:=(xs.take k).take m
def drA (xs:List Int)(m k:Nat):List Int:=(xs.take k).drop m
theorem Yjq (xs:List Int)(m k:Nat):(tkA xs m k).length<=k:=by unfold tkA;simp;omega
theorem Ync (xs:List Int)(m k:Nat):(drA xs m k).length<=k:=by unfold drA;simp;omega
theorem Zky {xs:List Int}(v:Value)(hv:Ints h .i64 v xs)(hl:xs.length<=1000)(m:Int)(hm:0<=m/\m<=9223372036854775807)
  (hk:∀h' r1 r2,PH.le h h'->Ints h' .i64 r1 (xs.take m.toNat)->Ints h' .i64 r2 (xs.drop m.toNat)->K (.tuple #[r1,r2]) L h') :
  Zb prog 242 [v,.int .i64 m] L h K:=by
 have hnum:=hv.num;have hr:∀z∈xs,IntKind.i64.min<=z/\z<=IntKind.i64.max:=hv.2;obtain⟨a,c,rfl,hcap,hln,_,hcs⟩:=hv.open;have ix:∀ {h:PH} {o:Option (Nat×Nat)} {ys:List Int} {n:Nat},ys.length=n->(∀z∈ys,z∈xs)->Sl h (ovs o n) n 1 (ys.map (.int .i64))->Ints h .i64 (ovs o n) ys:=fun {h o ys n} e hs sl=>⟨by rw[e];exact sl,fun z hz=>hr z (hs z hz)⟩
 refine eF func242 ?_;refine xx ?_;refine Yi (γ:=Nat×Option (Nat×Nat)×Option (Nat×Nat)) (0,none,none) (fun q=>q.1<=xs.length/\okO q.2.1 (tkA xs m.toNat q.1).length/\okO q.2.2 (drA xs m.toNat q.1).length/\apO q.2.1 (oent 3 1 q.2.2 ((drA xs m.toNat q.1).map (.int .i64)) L) h/\apO q.2.2 L h)
  (fun q=>[(8,.int .i64 q.1),(0,.slice a xs.length c),(1,.int .i64 m),(6,ovs q.2.1 (tkA xs m.toNat q.1).length),(7,ovs q.2.2 (drA xs m.toNat q.1).length)])
  (fun q=>oent 3 1 q.2.1 ((tkA xs m.toNat q.1).map (.int .i64)) (oent 3 1 q.2.2 ((drA xs m.toNat q.1).map (.int .i64)) L)) (fun _=>h) (fun q=>xs.length-q.1) ?_ ?_ ?_ ?_
 ·exact⟨Nat.zero_le _,by show (tkA xs m.toNat 0).length=0;simp [tkA],by show (drA xs m.toNat 0).length=0;simp [drA],trivial,trivial⟩
 ·simp [Ent,List.lookup,YT,ovs,tkA,drA]
 ·exact Za.refl _ _
 rintro⟨k,o1,o2⟩ ⟨i1,i2,i3,i4,i5⟩;simp only at i1 i2 i3 i4 i5 ⊢;have tl:=Yjq xs m.toNat k;have dl:=Ync xs m.toNat k;by_cases c1:k<xs.length
 ·have ht:=Zyu c1;have htl:(xs.take k).length=k:=by rw[List.length_take];omega
  by_cases c2:(k:Int)<m
  ·have e1:tkA xs m.toNat (k+1)=tkA xs m.toNat k++[at0 xs k]:=by
    unfold tkA;rw[ht,List.take_append,htl,List.take_of_length_le (l:=[at0 xs k]) qF]
   have e2:drA xs m.toNat (k+1)=drA xs m.toNat k:=by
    unfold drA;rw[List.drop_eq_nil_of_le (by rw[List.length_take];omega),List.drop_eq_nil_of_le qf]
   have e3:(tkA xs m.toNat k).length+1=(tkA xs m.toNat (k+1)).length:=by rw[e1];simp
   refine xe ?_;refine ZY fun b1 nb1 zb1=>?_;(try simp only[ZS]at nb1);refine xx ?_;refine ZZ (t:=27) (e:=3) (sz:=1) (bytes:=8) (z:=[.int .i64 0]) qg V6 rfl rfl rfl rfl qh [_] _ o1 _ ((tkA xs m.toNat k).map (.int .i64)) i2 qj (Src.own List.mem_cons_self) (m:=1) (news:=[.int .i64 (at0 xs k)]) rfl (fun u hu=>qw) qm qf ?_;intro o1' j1 j2 j3;rw[e3]at j1;rw[e3,show (tkA xs m.toNat k).map (Value.int .i64)++[.int .i64 (at0 xs k)]=(tkA xs m.toNat (k+1)).map (.int .i64) by rw[e1];simp];refine xx ?_;exact⟨k+1,o1',o2,⟨qf,j1,by rw[e2];exact i3,by rw[e2];exact ZV j2,i5⟩,qf,by simp [Ent,List.lookup,e2],by rw[e2];exact Za.tail _ _ _⟩
  ·have e1:tkA xs m.toNat (k+1)=tkA xs m.toNat k:=by
    unfold tkA;rw[ht,List.take_append,htl,show m.toNat-k=0 from qf];simp
   have e2:drA xs m.toNat (k+1)=drA xs m.toNat k++[at0 xs k]:=by
    unfold drA;rw[ht,List.drop_append,htl,show m.toNat-k=0 from qf];simp
   have e3:(drA xs m.toNat k).length+1=(drA xs m.toNat (k+1)).length:=by rw[e2];simp
   refine xe ?_;refine ZY fun b1 nb1 zb1=>?_;(try simp only[ZS]at nb1);refine xx ?_;rw[YJ (e:=3) o1];refine ZZ (t:=27) (e:=3) (sz:=1) (bytes:=8) (z:=[.int .i64 0]) qg V6 rfl rfl rfl rfl qh (_::oent 3 1 o1 _ []) _ o2 _ ((drA xs m.toNat k).map (.int .i64)) i3 qj (Src.own List.mem_cons_self) (m:=1) (news:=[.int .i64 (at0 xs k)]) rfl (fun u hu=>qw) qm qf ?_;intro o2' j1 j2 j3;rw[e3]at j1;rw[e3,show (drA xs m.toNat k).map (Value.int .i64)++[.int .i64 (at0 xs k)]=(drA xs m.toNat (k+1)).map (.int .i64) by rw[e2];simp];simp only[List.cons_append];rw[<- YJ (e:=3) o1];refine xx ?_;have l5:=JM (e2:=3) (sz2:=1) (cs2:=(drA xs m.toNat (k+1)).map (.int .i64)) (YH i4) (ZV j2);exact⟨k+1,o1,o2',⟨qf,by rw[e1];exact i2,j1,l5.1,l5.2⟩,qf,by simp [Ent,List.lookup,e1],by rw[e1];exact Za.tail _ _ _⟩
 ·obtain rfl:xs.length=k:=qf;have e1:tkA xs m.toNat xs.length=xs.take m.toNat:=by unfold tkA;rw[List.take_length]
  have e2:drA xs m.toNat xs.length=xs.drop m.toNat:=by unfold drA;rw[List.take_length]
  obtain⟨x1,y1,q1,_⟩:=Z5 i2;obtain⟨x2,y2,q2,_⟩:=Z5 i3;rw[q1,q2];refine xx ?_;refine GL (n1:=(tkA xs m.toNat xs.length).length) (n2:=(drA xs m.toNat xs.length).length) i2 qj qf i3 qj qf i4 i5 fun h1 le1 s1 s2=>ZP ?_;have ix1:=ix (h:=h1) (o:=o1) (ys:=tkA xs m.toNat xs.length) rfl (fun z hz=>by rw[e1]at hz;exact List.mem_of_mem_take hz) s1;have ix2:=ix (h:=h1) (o:=o2) (ys:=drA xs m.toNat xs.length) rfl (fun z hz=>by rw[e2]at hz;exact List.mem_of_mem_drop hz) s2;have:=hk h1 _ _ le1 (by rw[<- e1];exact ix1) (by rw[<- e2];exact ix2)
  rwa [q1,q2]at this
def Ut (e:Int)(b:Bool)(d:Zh):Bool:=decide (d.at'<=e) == b
def Vh (l:List Zh)(e:Int)(b:Bool)(k:Nat):List Zh:=(l.take k).filter (Ut e b)
theorem Zbn (l:List Zh)(e:Int)(b:Bool)(k:Nat):(Vh l e b k).length<=l.length:=by
 unfold Vh;exact Nat.le_trans (List.length_filter_le _ _) (by rw[List.length_take];omega)
theorem GR {l:List Zh}{e:Int}{b:Bool}{k:Nat}(hk:k<l.length):Vh l e b (k+1)=Vh l e b k++(if Ut e b (gr ZT l k) then [gr ZT l k] else []):=by
 unfold Vh;rw[List.take_add_one,List.getElem?_eq_getElem hk,Ye hk,List.filter_append]
 congr 1
 simp only[Option.toList,List.filter]
 cases Ut e b l[k]<;>rfl
theorem VA (l:List Zh)(e:Int)(b:Bool)(k:Nat):((Vh l e b k).flatMap Yh).length=(Vh l e b k).length*3:=Z1 Yd _
theorem Zwx {l:List Zh}(v:Value)(hv:Zd Yh 3 h v l)(hl:l.length<=34000)(e:Int)
  (hk:∀h' r1 r2,PH.le h h'->Zd Yh 3 h' r1 (l.filter (Ut e true))->Zd Yh 3 h' r2 (l.filter (Ut e false))->K (.tuple #[r1,r2]) L h'):Zb prog 216 [v,.int .i64 e] L h K:=by
 obtain⟨a,c,rfl,hcap,hln,_,hcs⟩:=hv.open;refine eF func216 ?_;refine xx ?_;refine Yi (γ:=Nat×Option (Nat×Nat)×Option (Nat×Nat)) (0,none,none) (fun q=>q.1<=l.length/\okO q.2.1 (Vh l e true q.1).length/\okO q.2.2 (Vh l e false q.1).length/\apO q.2.1 (oent 167 3 q.2.2 ((Vh l e false q.1).flatMap Yh) L) h/\apO q.2.2 L h)
  (fun q=>[(10,.int .i64 q.1),(9,.int .i64 l.length),(8,.slice a l.length c),(1,.int .i64 e),(4,ovs q.2.1 (Vh l e true q.1).length),(5,ovs q.2.2 (Vh l e false q.1).length)])
  (fun q=>oent 167 3 q.2.1 ((Vh l e true q.1).flatMap Yh) (oent 167 3 q.2.2 ((Vh l e false q.1).flatMap Yh) L)) (fun _=>h) (fun q=>l.length-q.1) ?_ ?_ ?_ ?_
 ·exact⟨Nat.zero_le _,by show (Vh l e true 0).length=0;simp [Vh],by show (Vh l e false 0).length=0;simp [Vh],trivial,trivial⟩
 ·simp [Ent,List.lookup,YT,ovs,Vh]
 ·exact Za.refl _ _
 rintro⟨k,o1,o2⟩ ⟨i1,i2,i3,i4,i5⟩;simp only at i1 i2 i3 i4 i5 ⊢;have tl:=Zbn l e true k;have dl:=Zbn l e false k;by_cases c1:k<l.length
 ·have ht:=GR (e:=e) (b:=true) c1;have hf:=GR (e:=e) (b:=false) c1;refine fQ ?_;refine ZY fun b7 nb7 zb7=>?_;(try simp only[ZS]at nb7);have n7:=Yx (Yx nb7);refine xw ?_;by_cases c2:(gr ZT l k).at'<=e
  ·rw[if_pos zD]at ht;rw[if_neg zD,List.append_nil]at hf;have e3:(Vh l e true k).length+1=(Vh l e true (k+1)).length:=by rw[ht];simp
   refine xw ?_;refine ZY fun b1 nb1 zb1=>?_;(try simp only[ZS]at nb1);refine xx ?_;refine ZZ (t:=29) (e:=167) (sz:=3) (bytes:=24) qg Jb rfl rfl rfl rfl qh [_,_] _ o1 _ _ i2 (VA l e true k) (Src.own List.mem_cons_self) (m:=1) (news:=Yh (gr ZT l k)) rfl (by intro u hu;simp only[Yh,List.mem_cons,List.not_mem_nil,or_false]at hu;rcases hu with rfl|rfl|rfl<;>rfl) qm qf ?_;intro o1' j1 j2 j3;rw[e3]at j1;rw[e3,show (Vh l e true k).flatMap Yh++Yh (gr ZT l k)=(Vh l e true (k+1)).flatMap Yh by rw[ht,List.flatMap_append];simp];refine xx ?_;exact⟨k+1,o1',o2,⟨qf,j1,by rw[hf];exact i3,by rw[hf];exact ZV (ZV j2),i5⟩,qf,by simp [Ent,List.lookup,hf],by rw[hf];exact(Za.tail _ _ _).trans (Za.tail _ _ _)⟩
  ·rw[if_neg zD,List.append_nil]at ht;rw[if_pos zD]at hf;have e3:(Vh l e false k).length+1=(Vh l e false (k+1)).length:=by rw[hf];simp
   refine xw ?_;refine ZY fun b1 nb1 zb1=>?_;(try simp only[ZS]at nb1);refine xx ?_;rw[YJ (e:=167) o1];refine ZZ (t:=29) (e:=167) (sz:=3) (bytes:=24) qg Jb rfl rfl rfl rfl qh (_::_::oent 167 3 o1 _ []) _ o2 _ _ i3 (VA l e false k) (Src.own List.mem_cons_self) (m:=1) (news:=Yh (gr ZT l k)) rfl (by intro u hu;simp only[Yh,List.mem_cons,List.not_mem_nil,or_false]at hu;rcases hu with rfl|rfl|rfl<;>rfl) qm qf ?_;intro o2' j1 j2 j3;rw[e3]at j1;rw[e3,show (Vh l e false k).flatMap Yh++Yh (gr ZT l k)=(Vh l e false (k+1)).flatMap Yh by rw[hf,List.flatMap_append];simp];simp only[List.cons_append];rw[<- YJ (e:=167) o1];refine xx ?_;have l5:=JM (e2:=167) (sz2:=3) (cs2:=(Vh l e false (k+1)).flatMap Yh) (YH i4) (ZV (ZV j2));exact⟨k+1,o1,o2',⟨qf,by rw[ht];exact i2,j1,l5.1,l5.2⟩,qf,by simp [Ent,List.lookup,ht],by rw[ht];exact(Za.tail _ _ _).trans (Za.tail _ _ _)⟩
 ·obtain rfl:l.length=k:=qf;have e1:Vh l e true l.length=l.filter (Ut e true):=by unfold Vh;rw[List.take_length]
  have e2:Vh l e false l.length=l.filter (Ut e false):=by unfold Vh;rw[List.take_length]
  have f1:=VA l e true l.length;have f2:=VA l e false l.length;rw[e1]at i2 tl f1;rw[e2]at i3 i4 dl f2;rw[e1,e2];obtain⟨x1,y1,q1,_⟩:=Z5 i2;obtain⟨x2,y2,q2,_⟩:=Z5 i3;rw[q1,q2];refine xx ?_;refine GL (n1:=(l.filter (Ut e true)).length) (n2:=(l.filter (Ut e false)).length) i2 f1 qf i3 f2 qf i4 i5 fun h1 le1 s1 s2=>ZP ?_;have:=hk h1 _ _ le1 (Zd.pub Yd s1) (Zd.pub Yd s2)
  rwa [q1,q2]at this
theorem Zkt {xs:List Int}(v:Value)(hx:Ints h .u8 v xs)(hl:xs.length<=1000)(hk:∀h' r,PH.le h h'->Ints h' .u8 r xs->K r L h'):Zb prog 325 [v] L h K:=by
 have hx0:=hx;obtain⟨a,c,rfl,_⟩:=hx.open;refine ed func325 ?_;refine xx ?_;refine ZZ (t:=31) (e:=5) (sz:=1) (bytes:=1) (z:=[.int .u8 0]) qg Ypn rfl rfl rfl rfl qh [] _ none 0 [] rfl rfl (Src.known hx0.1) qj (Vr _ _) qm qf ?_;intro o k1 k2 k3;simp only[Nat.zero_add,List.nil_append]at k1 k2 ⊢;refine xx ?_;refine Yv (n:=xs.length) k1 qj qf k2 fun h1 le1 sl=>ZP (hk h1 _ le1 ⟨sl,hx0.2⟩)
def GE (ring:List (List Int))(marks:List Int):List (List Int):=marks::ring.take 7
def QsOk (h:PH)(q:List QS):Prop:=∀p∈q,Ints h .u8 p.1 p.2
theorem Yew {l:List QS}{marks:List Int}(v u:Value)(hv:Zx h v l)(hu:Ints h .u8 u marks)(hl:l.length<=1000)(hb:∀b∈xsL l,b.length<=1000)(hm:marks.length<=1000)
  (hk:∀h' r q,PH.le h h'->Zx h' r q->xsL q=GE (xsL l) marks->K r L h'):Zb prog 229 [v,u] L h K:=by
 have hu0:=hu;obtain⟨a,c,rfl,hcap,hln,_,hcs,hd⟩:=hv.open;obtain⟨ua,uc,rfl,_⟩:=hu.open;refine ed func229 ?_;refine xx ?_;refine Zb.ap (Zkt _ hu0 hm fun h1 r1 le1 i1 ap=>?_);obtain⟨xa,xc,rfl,_⟩:=i1.open;refine xx ?_;refine ZY fun b5 nb5 zb5=>?_;(try simp only[ZS]at nb5);refine xx ?_;refine Yi (γ:=Nat×PH×Option (Nat×Nat)×List QS) (0,h1,some (b5,1),[(.slice xa marks.length xc,marks)])
  (fun q=>q.1<=l.length/\PH.le h1 q.2.1/\okO q.2.2.1 q.2.2.2.length/\apO q.2.2.1 L q.2.1/\xsL q.2.2.2=marks::(xsL l).take (min q.1 7)/\QsOk q.2.1 q.2.2.2)
  (fun q=>[(13,.int .i64 q.1),(12,.int .i64 l.length),(11,.slice a l.length c),(5,ovs q.2.2.1 q.2.2.2.length)])
  (fun q=>oent 31 1 q.2.2.1 (vsL q.2.2.2) L) (fun q=>q.2.1) (fun q=>l.length-q.1) ?_ ?_ ?_ ?_
 ·refine⟨Nat.zero_le _,PH.le_refl _,(show 1<=1/\1<=maxLen from qh),⟨nb5,zb5⟩,by simp [xsL],fun p hp=>?_⟩;rw[List.mem_singleton]at hp;subst hp;exact i1
 ·simp [Ent,List.lookup,YT,ovs]
 ·exact Za.refl _ _
 rintro⟨k,h2,o,q⟩ ⟨k1,k2,k3,k4,k5,k6⟩;simp only at k1 k2 k3 k4 k5 k6 ⊢;have hxl:(xsL l).length=l.length:=Wu l;have hql:q.length=1+min k 7:=by
  rw[<- Wu q,k5,List.length_cons,List.length_take];omega
 by_cases c1:k<l.length
 ·have hg:=(hd.at c1).up (le1.trans k2);have hcs2:∀j,j<l.length->Z9 h2 a j=some (gs l j).1:=(hd.up (le1.trans k2)).open.elim fun a' ⟨cap',e,_,_,_,hc2,_⟩=>by
   cases e
   exact hc2
  have hmem:(gs l k).2∈xsL l:=by rw[G4 c1];exact List.mem_map.2 ⟨_,List.getElem_mem c1,rfl⟩
  have hbl:=hb _ hmem;have htk:(xsL l)[k]?=some (gs l k).2:=Zpt c1;obtain⟨x1,y1,e1,_⟩:=Z5 k3;have hlen:∀(K:Value->Prop) (t:Zm K),Zbk prog 3 #[32] (ovs o q.length) K t=K (.int .i64 q.length):=fun K t=>by rw[e1];exact Yy (e:=31) qg _ _ _
  refine fU ?_;by_cases c2:k<7
  ·have hm1:min k 7=k:=qf;have hm2:min (k+1) 7=k+1:=qf;rw[hm1]at k5 hql;refine fU ?_;refine Zb.ap (Zkt _ hg hbl fun h3 r3 le3 i3 ap=>?_);obtain⟨ya,yc,rfl,_⟩:=i3.open;have k4':=Gp k4 ap;refine xx ?_;refine ZY fun b6 nb6 zb6=>?_;(try simp only[ZS]at nb6);refine xx ?_;refine ZZ (t:=32) (e:=31) (sz:=1) (bytes:=24) qg Zvo rfl rfl rfl rfl qh [_] L o q.length (vsL q) k3 (by simp [vsL]) (Src.own List.mem_cons_self) (m:=1) (news:=[.slice ya (gs l k).2.length yc]) rfl (fun u hu=>qw) qm qf ?_;intro o' j1 j2 j3;refine xx ?_;refine⟨k+1,h3,o',q++[(.slice ya (gs l k).2.length yc,(gs l k).2)],⟨qf,k2.trans le3,zf,ZV j2,?_,fun p hp=>?_⟩,qf,qi,?_⟩
   ·rw[hm2,List.take_add_one,htk];simp only[xsL,List.map_append,List.map_cons,List.map_nil]at k5 ⊢;rw[k5]
    rfl
   ·rcases List.mem_append.1 hp with hp|hp
    ·exact(k6 p hp).up le3
    ·rw[List.mem_singleton]at hp;subst hp;exact i3
   ·simp only[vsL,List.map_append,List.map_cons,List.map_nil];exact Za.tail _ _ _
  ·have hm1:min k 7=7:=qf;have hm2:min (k+1) 7=7:=qf;rw[hm1]at k5 hql;refine xx ?_;exact⟨k+1,h2,o,q,⟨qf,k2,k3,k4,by rw[hm2];exact k5,k6⟩,qf,qi,Za.refl _ _⟩
 ·obtain rfl:l.length=k:=qf;refine xx ?_;obtain⟨x1,y1,e1,_⟩:=Z5 k3;rw[e1]
  try simp -dsimp -implicitDefEqProofs (disch:=first|exact dD|fail) [go_sem]
  refine Yv (n:=q.length) k3 (by simp [vsL]) qf k4 fun h3 le3 sl=>ZP ?_;rw[e1]at sl;refine hk h3 _ q (le1.trans (k2.trans le3)) ⟨sl,fun p hp=>(k6 p hp).up le3⟩ ?_;rw[k5,GE]
  congr 1
  by_cases c2:l.length<=7
  ·rw[Nat.min_eq_left c2,List.take_of_length_le qf,List.take_of_length_le qf]
  ·rw[Nat.min_eq_right qf]
theorem Zqv {ql:List QM}{ms:List Zl}(v:Value)(hv:Zd YQ 33 h v ql)(hq:ql.map (fun x=>x.2.2)=ms)(hm:YU h ql)(hl:ql.length<=1000)(hb:∀m∈ms,m.yes.length<=1000/\m.no.length<=1000)
    (hk:∀h' o ql',PH.le h h'->okO o ms.length->apO o L h'->ql'.map (fun x=>x.2.2)=ms->YU h' ql'->K (ovs o ms.length) (oent 120 33 o (ql'.flatMap YQ) L) h') :
    Zb prog 316 [v] L h K:=by
  have hql:ql.length=ms.length:=qW;have hv0:=hv;obtain⟨va,vc,rfl,_⟩:=hv.open;refine ed func316 ?_;refine xx ?_;refine Zab _ hv0 hm hl fun ot ok2 at1=>?_;rw[hql]at ok2 ⊢;obtain⟨mta,mtc,emt,_⟩:=Z5 ok2;rw[emt];refine xx ?_;refine Yi (γ:=Nat×List QM×PH) (0,ql,h)
    (fun q=>q.1<=ms.length/\q.2.1.map (fun x=>x.2.2)=ms/\YU q.2.2 q.2.1/\PH.le h q.2.2/\apO ot L q.2.2)
    (fun q=>[(9,.int .i64 q.1),(8,.int .i64 ms.length),(3,.slice mta ms.length mtc)])
    (fun q=>oent 120 33 ot (q.2.1.flatMap YQ) L) (fun q=>q.2.2) (fun q=>ms.length-q.1) ?_ ?_ ?_ ?_
  · exact⟨Nat.zero_le _,hq,hm,PH.le_refl _,at1⟩
  · simp [Ent,List.lookup,YT]
  · exact Za.refl _ _
  rintro⟨k,ql',h6⟩ ⟨k1,k2,k3,k4,k8⟩;simp only at k1 k2 k3 k4 k8 ⊢;have hql':ql'.length=ms.length:=by rw[<- k2,List.length_map]
  by_cases c1:k<ms.length
  · obtain ⟨bt,cap,rfl⟩ : ∃ bt cap,ot = some (bt,cap) := by
      cases ot with
      | none=>have:ms.length=0:=ok2;omega
      | some p=>exact⟨_,_,rfl⟩
    simp only[ovs,Value.slice.injEq]at emt;obtain⟨rfl,_,rfl⟩:=emt;have hbt:h6 bt=noC:=k8.2;obtain⟨qk,hqk⟩:∃qk,qk=gr Z0 ql' k:=⟨_,rfl⟩
    have hmem:qk∈ql':=by rw[hqk,Ye qf];exact List.getElem_mem _
    have hmk:Zr h6 qk:=k3 qk hmem;have hmdm:qk.2.2∈ms:=by rw[<- k2];exact List.mem_map.2 ⟨qk,hmem,rfl⟩
    obtain⟨vy,vn,md⟩:=qk;have hy:=hmk.y;have hn:=hmk.n;simp only at hy hn;obtain⟨ya,yc,rfl,_⟩:=hy.open;obtain⟨na,nc,rfl,_⟩:=hn.open;simp only at hmdm;have fv:=hb md hmdm;have g31:∀(K:Value->Prop) (t:Zm K),VE (ql'.flatMap YQ) (k*33+31) K t=K (.slice ya md.yes.length yc):=fun K t=>Yu Ya Z0 ql' qf qh qM K t;have g32:∀(K:Value->Prop) (t:Zm K),VE (ql'.flatMap YQ) (k*33+32) K t=K (.slice na md.no.length nc):=fun K t=>Yu Ya Z0 ql' qf qh qM K t;have hfl:(ql'.flatMap YQ).length=ms.length*33:=zq;rw[Z7];refine xx ?_;refine Z4 (.tk 0 (.tk 1 (.tk 2 (.tk 3 (.tk 4 (.tk 5 (.tk 6 (.tk 7 (.tk 10 (.tk 11 (.tk 12 (.tk 13 (.tkl 8 (.tkl 14 (.o1 9 (.o1 15 (.tk 16 (.tk 17 (.o2 18 (.tk 19 (.tk 20 (.o2 21 (.fin) (.nil)))) (.nil)))) (.nil)) (.nil)))))))))))))))) qg qg _ (Za.refl _ _) ?_;simp -dsimp -implicitDefEqProofs (disch:=first|exact dD|fail) [go_sem,g31,g32];have hset:∀a ac b bc,((ql'.flatMap YQ).set (k*33+31) (.slice a md.yes.length ac)).set (k*33+32) (.slice b md.no.length bc)=(ql'.set k (.slice a md.yes.length ac,.slice b md.no.length bc,md)).flatMap YQ:=fun a ac b bc=>by
      rw[Wj Ya Z0 ql' (i:=k) (m:=31) (a':=(.slice a md.yes.length ac,.slice na md.no.length nc,md)) qf qh qM];rw[Wj Ya Z0 _ (i:=k) (m:=32) (a':=(.slice a md.yes.length ac,.slice b md.no.length bc,md)) zg qh wT,List.set_set]
    have hmd:ms[k]?=some md:=by
      rw[<- k2,List.getElem?_map,List.getElem?_eq_getElem qf,<- Ye (z:=Z0) qf,<- hqk]
      rfl
    have hmap:∀(a b:Value),(ql'.set k (a,b,md)).map (fun x=>x.2.2)=ms:=fun a b=>by
      rw[List.map_set,k2];apply List.ext_getElem?;intro n;rw[List.getElem?_set];split
      · rename_i e;subst e
        first
        | exact hmd.symm
        | (split
           · exact hmd.symm
           · rw[List.getElem?_eq_none qf])
      · rfl
    repeat' first
      | refine Yf ?_ ?_
      | simp -dsimp -implicitDefEqProofs (disch:=first|exact dD|fail) [go_sem,g31,g32]
    all_goals
      refine Zb.ap (Ww _ hy qf fun h7 v7 le7 i7 ap=>?_);obtain⟨y1,y2⟩:=ap;obtain⟨wa,wc,rfl,_⟩:=i7.open
      first
      | refine xkp (Za.forget le7) ?_
      | skip
    repeat' first
      | refine Yf ?_ ?_
      | simp -dsimp -implicitDefEqProofs (disch:=first|exact dD|fail) [go_sem,g31,g32]
      | refine xkp (Za.forget le7) ?_
    all_goals
      refine Zb.ap (Ww _ (hn.up le7) qf fun h8 v8 le8 i8 ap=>?_);obtain⟨z1,z2⟩:=ap;obtain⟨ua,uc,rfl,_⟩:=i8.open
      first
      | refine xkp (Za.forget (le7.trans le8)) ?_
      | skip
    repeat' first
      | refine Yf ?_ ?_
      | simp -dsimp -implicitDefEqProofs (disch:=first|exact dD|fail) [go_sem,g31,g32]
      | refine xkp (Za.forget (le7.trans le8)) ?_
    all_goals
      have hsum:(ql'.map fun a=>(YQ a).length).sum=ms.length*33:=zI;have hk33:=YC (n:=ms.length) (w:=33) c1 (m:=32) qh;refine⟨qf,qf,k+1,ql'.set k (.slice wa md.yes.length wc,.slice ua md.no.length uc,md),h8,⟨qf,hmap _ _,fun x hx=>?_,k4.trans (le7.trans le8),⟨k8.1,z1⟩⟩,qf,qi,?_⟩
      · rcases List.mem_or_eq_of_mem_set hx with hx|rfl
        · exact(k3 x hx).up (le7.trans le8)
        · exact⟨i7.up le8,i8,hmk.ok⟩
      · rw[hset];exact Za.refl _ _
  have hkl:k=ms.length:=qf;subst hkl;rw[<- emt];refine xx ?_;exact ZP (hk h6 ot ql' k4 ok2 k8 k2 k3)
end Go.X
