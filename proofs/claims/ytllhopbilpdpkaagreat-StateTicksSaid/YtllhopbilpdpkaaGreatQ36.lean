/- Lemmas and contracts. Conditions: as each says. -/
import Derived.Test.YtllhopbilpdpkaaGreatQ35
set_option linter.unusedVariables false
set_option linter.unusedSimpArgs false
set_option maxHeartbeats 12800000
set_option maxRecDepth 20000
namespace Go.X
open Go.RowKit Go.Proofs Go.Bl Go.Proofs.Tryz
variable {L:Own} {h:PH} {K:PK}
@[go_sem ↓] theorem eqParF (p:Ze)(x y:Operand)(K:Value->Prop)(t:Zm K):VO prog .eql 39 x y (WS p) (WS p) K t=K (.bool true):=Zlv _ qg qg x y K t
@[go_sem ↓] theorem neParF (p:Ze)(x y:Operand)(K:Value->Prop)(t:Zm K):VO prog .neq 39 x y (WS p) (WS p) K t=K (.bool false):=UT _ qg qg x y K t
theorem Yro (m:Zc)(x y:Operand)(K:Value->Prop)(t:Zm K):VO prog .neq 124 x y (.agg #[.int .u64 m.bal,.int .u64 m.eff,.int .u64 m.score,.int .i64 m.ak,.int .i64 m.owner,.int .i64 m.status]) (.agg #[.int .u64 m.bal,.int .u64 m.eff,.int .u64 m.score,.int .i64 m.ak,.int .i64 m.owner,.int .i64 m.status]) K t=K (.bool false):=UT _ qg qg x y K t
theorem Yti (d:Zk)(x y:Operand)(K:Value->Prop)(t:Zm K):VO prog .neq 233 x y (.agg #[.int .i64 d.au,.int .i64 d.mem,.int .u64 d.amt,.bool d.new]) (.agg #[.int .i64 d.au,.int .i64 d.mem,.int .u64 d.amt,.bool d.new]) K t=K (.bool false):=UT _ qg qg x y K t
theorem Ytu (d:Zh)(x y:Operand)(K:Value->Prop)(t:Zm K):VO prog .neq 216 x y (.agg #[.int .i64 d.au,.int .i64 d.at',.int .u64 d.amt]) (.agg #[.int .i64 d.au,.int .i64 d.at',.int .u64 d.amt]) K t=K (.bool false):=UT _ qg qg x y K t
theorem Zxc (m:Zl)(v1 v2 u1 u2:Value)(hy1:Ints h .u8 v1 m.yes)(hn1:Ints h .u8 v2 m.no)(hy2:Ints h .u8 u1 m.yes)(hn2:Ints h .u8 u2 m.no)(hk:K (.bool true) L h) :
  Zb prog 259 [.agg (YQ (v1,v2,m)).toArray,.agg (YQ (u1,u2,m)).toArray] L h K:=by
 have a1:=hy1;have a2:=hn1;have a3:=hy2;have a4:=hn2;obtain⟨x1,y1,rfl,_⟩:=a1.open;obtain⟨x2,y2,rfl,_⟩:=a2.open;obtain⟨x3,y3,rfl,_⟩:=a3.open;obtain⟨x4,y4,rfl,_⟩:=a4.open;refine ed func259 ?_;refine l7 ?_;refine ZY fun b1 nb1 zb1=>?_;(try simp only[ZS]at nb1);refine l7 ?_;refine ZY fun b2 nb2 zb2=>?_;(try simp only[ZS]at nb2);refine l7 ?_;refine Yqz _ _ hy1 hy2 ?_;rw[decide_eq_true rfl];refine xx ?_;refine Yqz _ _ hn1 hn2 ?_;rw[decide_eq_true rfl];refine xx ?_;exact ZO (ZO (ZP hk))
theorem Zxo (q1 q2:QM)(i1:Zr h q1)(i2:Zr h q2)(he:q2.2.2=q1.2.2)(hk:K (.bool true) L h):Zb prog 259 [.agg (YQ q1).toArray,.agg (YQ q2).toArray] L h K:=by
 obtain⟨v1,v2,m⟩:=q1;obtain⟨u1,u2,m'⟩:=q2;simp only at he;subst he;exact Zxc m' v1 v2 u1 u2 i1.y i1.n i2.y i2.n hk
theorem Zrx {xs:List Int}(v u:Value)(hx:Ints h .u64 v xs)(hy:Ints h .u64 u xs)(hk:K (.bool true) L h):Zb prog 125 [v,u] L h K:=by
 obtain⟨a,ca,rfl,hna,hca,_,hcx⟩:=hx.open;obtain⟨b,cb,rfl,hnb,hcb,_,hcy⟩:=hy.open;refine ed func125 ?_;refine xx ?_;refine Y1 (0:Nat) (fun k=>k<=xs.length) (fun k=>[(5,.int .i64 k),(0,.slice a xs.length ca),(1,.slice b xs.length cb)]) (fun k=>xs.length-k) ?_ ?_ ?_
 ·exact Nat.zero_le _
 ·simp [Ent,List.lookup,YT]
 rintro k k1;by_cases c1:k<xs.length
 ·refine xx ?_;refine WX qg rfl ?_;refine xg ?_;exact⟨k+1,qf,qf,qi,Za.refl _ _⟩
 ·refine xx ?_;exact ZP hk
theorem Vq {xs:List Int}(v u:Value)(hx:Ints h .i64 v xs)(hy:Ints h .i64 u xs)(hk:K (.bool true) L h):Zb prog 126 [v,u] L h K:=by
 obtain⟨a,ca,rfl,hna,hca,_,hcx⟩:=hx.open;obtain⟨b,cb,rfl,hnb,hcb,_,hcy⟩:=hy.open;refine ed func126 ?_;refine xx ?_;refine Y1 (0:Nat) (fun k=>k<=xs.length) (fun k=>[(5,.int .i64 k),(0,.slice a xs.length ca),(1,.slice b xs.length cb)]) (fun k=>xs.length-k) ?_ ?_ ?_
 ·exact Nat.zero_le _
 ·simp [Ent,List.lookup,YT]
 rintro k k1;by_cases c1:k<xs.length
 ·refine xx ?_;refine WX qg rfl ?_;refine xg ?_;exact⟨k+1,qf,qf,qi,Za.refl _ _⟩
 ·refine xx ?_;exact ZP hk
theorem Zzv {l:List Zk}(v u:Value)(hx:Zd UK 4 h v l)(hy:Zd UK 4 h u l)(hk:K (.bool true) L h):Zb prog 127 [v,u] L h K:=by
 obtain⟨a,ca,rfl,hna,hca,_,hd⟩:=hx.open;obtain⟨b,cb,rfl,hnb,hcb,_,hd'⟩:=hy.open;refine ed func127 ?_;refine xx ?_;refine Y1 (0:Nat) (fun k=>k<=l.length) (fun k=>[(5,.int .i64 k),(0,.slice a l.length ca),(1,.slice b l.length cb)]) (fun k=>l.length-k) ?_ ?_ ?_
 ·exact Nat.zero_le _
 ·simp [Ent,List.lookup,YT]
 rintro k k1;by_cases c1:k<l.length
 ·refine xx ?_;refine WX qg rfl ?_;simp -dsimp -implicitDefEqProofs (disch:=first|exact dD|fail) [go_sem,↓Us Yg qh hd,↓Us Yg qh hd',UK,Yti];exact⟨k+1,qf,qf,qi,Za.refl _ _⟩
 ·refine xx ?_;exact ZP hk
theorem Zwj {l:List Zh}(v u:Value)(hx:Zd Yh 3 h v l)(hy:Zd Yh 3 h u l)(hk:K (.bool true) L h):Zb prog 128 [v,u] L h K:=by
 obtain⟨a,ca,rfl,hna,hca,_,hd⟩:=hx.open;obtain⟨b,cb,rfl,hnb,hcb,_,hd'⟩:=hy.open;refine ed func128 ?_;refine xx ?_;refine Y1 (0:Nat) (fun k=>k<=l.length) (fun k=>[(5,.int .i64 k),(0,.slice a l.length ca),(1,.slice b l.length cb)]) (fun k=>l.length-k) ?_ ?_ ?_
 ·exact Nat.zero_le _
 ·simp [Ent,List.lookup,YT]
 rintro k k1;by_cases c1:k<l.length
 ·refine xx ?_;refine WX qg rfl ?_;simp -dsimp -implicitDefEqProofs (disch:=first|exact dD|fail) [go_sem,↓Us ZT qh hd,↓Us ZT qh hd',Yh,Ytu];exact⟨k+1,qf,qf,qi,Za.refl _ _⟩
 ·refine xx ?_;exact ZP hk
theorem Ybq {l1 l2:List QM}(v u:Value)(hx:Zd YQ 33 h v l1)(hy:Zd YQ 33 h u l2)(hm1:∀x∈l1,Zr h x)(hm2:∀x∈l2,Zr h x)(he:l1.map (fun x=>x.2.2)=l2.map (fun x=>x.2.2))(hk:K (.bool true) L h):Zb prog 129 [v,u] L h K:=by
 obtain⟨a,ca,rfl,hna,hca,_,hd⟩:=hx.open;obtain⟨b,cb,rfl,hnb,hcb,_,hd'⟩:=hy.open;have hlen:l1.length=l2.length:=by simpa using congrArg List.length he
 refine ed func129 ?_;refine xx ?_;refine Y1 (0:Nat) (fun k=>k<=l1.length) (fun k=>[(5,.int .i64 k),(0,.slice a l1.length ca),(1,.slice b l2.length cb)]) (fun k=>l1.length-k) ?_ ?_ ?_
 ·exact Nat.zero_le _
 ·simp [Ent,List.lookup,YT]
 rintro k k1;by_cases c1:k<l1.length
 ·have hg:(gr Z0 l2 k).2.2=(gr Z0 l1 k).2.2:=by
   have e1:(l1.map (fun x=>x.2.2))[k]?=(l2.map (fun x=>x.2.2))[k]?:=by rw[he]
   simp only[List.getElem?_map,List.getElem?_eq_getElem c1,List.getElem?_eq_getElem (show k<l2.length from qf)]at e1;rw[Ye c1,Ye (show k<l2.length from qf)];exact(Option.some.inj e1).symm
  have i1:Zr h (gr Z0 l1 k):=by rw[Ye c1];exact hm1 _ (List.getElem_mem c1)
  have i2:Zr h (gr Z0 l2 k):=by rw[Ye (show k<l2.length from qf)];exact hm2 _ (List.getElem_mem qf)
  refine xx ?_;refine WX qg rfl ?_;simp -dsimp -implicitDefEqProofs (disch:=first|exact dD|fail) [go_sem,↓Us Z0 qh hd,↓Us Z0 qh hd'];refine VK _ (Zxo _ _ i1 i2 hg ⟨rfl,rfl,rfl⟩) ?_;refine xx ?_;exact⟨k+1,qf,qf,qi,Za.refl _ _⟩
 ·refine xx ?_;exact ZP hk
theorem Zyq {l1 l2:List QS}(v u:Value)(h1:Zx h v l1)(h2:Zx h u l2)(he:xsL l1=xsL l2)(hk:K (.bool true) L h):Zb prog 130 [v,u] L h K:=by
 obtain⟨a,ca,rfl,hc,hl,_,hcx,hd⟩:=h1.open;obtain⟨b,cb,rfl,hc',hl',_,hcy,hd'⟩:=h2.open;have hlen:l1.length=l2.length:=by rw[<- Wu l1,<- Wu l2,he]
 refine ed func130 ?_;refine xx ?_;refine Y1 (0:Nat) (fun k=>k<=l1.length) (fun k=>[(5,.int .i64 k),(0,.slice a l1.length ca),(1,.slice b l2.length cb)]) (fun k=>l1.length-k) ?_ ?_ ?_
 ·exact Nat.zero_le _
 ·simp [Ent,List.lookup,YT]
 rintro k k1;by_cases c1:k<l1.length
 ·have hi:=hd.at c1;have hi':=hd'.at (i:=k) qf;have hg:(gs l2 k).2=(gs l1 k).2:=by
   have e1:=Zpt c1;rw[he,Zpt qf]at e1;exact Option.some.inj e1
  rw[hg]at hi';refine xx ?_;refine WX qg rfl ?_;refine xg ?_;refine GN (e:=5) qg qg qg hi ?_;refine xg ?_;refine GN (e:=5) qg qg qg hi' ?_;simp -dsimp -implicitDefEqProofs (disch:=first|exact dD|fail) [go_sem,Ztm,beq_self_eq_true];exact⟨k+1,qf,qf,qi,Za.refl _ _⟩
 ·refine xx ?_;exact ZP hk
theorem Zda {s:Zg}{v u:SV}(h1:Zp h v s)(h2:Zp h u s)(hk:K (.bool true) L h):Zb prog 33 [stV s v,stV s u] L h K:=by
 obtain⟨vp,vm,ve,vx,vo,vd,vt,vk,vr⟩:=v;obtain⟨up,um,ue,ux,uo,ud,ut,uk,ur⟩:=u;obtain⟨_,p1,m1,_,e1,x1,o1,_,d1,_,⟨q1,t1,t1e,t1m⟩,k1,⟨r1,r1s,r1e⟩⟩:=h1;obtain⟨_,p2,m2,_,e2,x2,o2,_,d2,_,⟨q2,t2,t2e,t2m⟩,k2,⟨r2,r2s,r2e⟩⟩:=h2;simp only at p1 m1 e1 x1 o1 d1 t1 k1 r1s p2 m2 e2 x2 o2 d2 t2 k2 r2s;have cp1:=p1.open;obtain⟨ap1,zp1,rfl,_⟩:=cp1;have cp2:=p2.open;obtain⟨ap2,zp2,rfl,_⟩:=cp2;have cm1:=m1.open;obtain⟨am1,zm1,rfl,_⟩:=cm1;have cm2:=m2.open;obtain⟨am2,zm2,rfl,_⟩:=cm2;have ce1:=e1.open;obtain⟨ae1,ze1,rfl,_⟩:=ce1;have ce2:=e2.open;obtain⟨ae2,ze2,rfl,_⟩:=ce2;have cx1:=x1.open;obtain⟨ax1,zx1,rfl,_⟩:=cx1;have cx2:=x2.open;obtain⟨ax2,zx2,rfl,_⟩:=cx2;have co1:=o1.open;obtain⟨ao1,zo1,rfl,_⟩:=co1;have co2:=o2.open;obtain⟨ao2,zo2,rfl,_⟩:=co2;have cd1:=d1.open;obtain⟨ad1,zd1,rfl,_⟩:=cd1;have cd2:=d2.open;obtain⟨ad2,zd2,rfl,_⟩:=cd2;have ct1:=t1.open;obtain⟨at1,zt1,rfl,_⟩:=ct1;have ct2:=t2.open;obtain⟨at2,zt2,rfl,_⟩:=ct2;have ck1:=k1.open;obtain⟨ak1,zk1,rfl,_⟩:=ck1;have ck2:=k2.open;obtain⟨ak2,zk2,rfl,_⟩:=ck2;obtain⟨ar1,zr1,rfl,_,_,_,_,r1t⟩:=r1s.open;obtain⟨ar2,zr2,rfl,_,_,_,_,r2t⟩:=r2s.open;refine ed func33 ?_;refine xx ?_;refine ZY fun b1 nb1 zb1=>?_;(try simp only[ZS]at nb1);refine xx ?_;refine ZY fun b2 nb2 zb2=>?_;(try simp only[ZS]at nb2);refine xx ?_;refine Y1 (0:Nat) (fun k=>k<=s.ae.length) (fun k=>[(5,.int .i64 k),(2,.pointer (some ⟨b1,0,none⟩)),(3,.pointer (some ⟨b2,0,none⟩))]) (fun k=>s.ae.length-k) ?_ ?_ ?_
 ·exact Nat.zero_le _
 ·simp [Ent,List.lookup,YT]
 rintro k hk1;by_cases c1:k<s.ae.length
 ·refine xx ?_;refine WX qg rfl ?_;simp -dsimp -implicitDefEqProofs (disch:=first|exact dD|fail) [go_sem,↓Us ZQ qh m1,↓Us ZQ qh m2,YD,Yro];exact⟨k+1,qf,qf,qi,Za.refl _ _⟩
 refine xx ?_;refine Zrx _ _ p1 p2 ?_;refine xx ?_;refine Vq _ _ e1 e2 ?_;refine xx ?_;refine Vq _ _ x1 x2 ?_;refine xx ?_;refine Zzv _ _ o1 o2 ?_;refine xx ?_;refine Zwj _ _ d1 d2 ?_;refine xx ?_;refine Ybq _ _ t1 t2 t1m t2m (by rw[t1e,t2e]) ?_;refine xx ?_;refine GN (e:=5) qg qg qg k1 ?_;refine xx ?_;refine GN (e:=5) qg qg qg k2 ?_;simp -dsimp -implicitDefEqProofs (disch:=first|exact dD|fail) [go_sem,Ztr,beq_self_eq_true];refine Zyq _ _ r1t r2t (by rw[r1e,r2e]) ?_;refine xx ?_;exact ZO (ZO (ZP hk))
theorem VY {s:Zg}{v:SV}(hs:Zp h v s)(hn1:s.ae.length<=100000)(hn2:s.aj.length<=100000)(hn3:s.ai.length<=100000)(hn4:s.ah.length<=100000)(hk:∀h' u,PH.le h h'->Zp h' u s->K (stV s u) L h'):Zb prog 13 [stV s v] L h K:=by
 obtain⟨vp,vm,ve,vx,vo,vd,vt,vk,vr⟩:=v;obtain⟨ok1,p1,m1,mo1,e1,x1,o1,oo1,d1,dd1,⟨q1,t1,t1e,t1m⟩,k1,⟨r1,r1s,r1e⟩⟩:=hs;simp only at p1 m1 e1 x1 o1 d1 t1 k1 r1s;have cp1:=p1.open;obtain⟨ap1,zp1,rfl,_⟩:=cp1;have cm1:=m1.open;obtain⟨am1,zm1,rfl,_⟩:=cm1;have ce1:=e1.open;obtain⟨ae1,ze1,rfl,_⟩:=ce1;have cx1:=x1.open;obtain⟨ax1,zx1,rfl,_⟩:=cx1;have co1:=o1.open;obtain⟨ao1,zo1,rfl,_⟩:=co1;have cd1:=d1.open;obtain⟨ad1,zd1,rfl,_⟩:=cd1;have ct1:=t1.open;obtain⟨at1,zt1,rfl,_⟩:=ct1;have ck1:=k1.open;obtain⟨ak1,zk1,rfl,_⟩:=ck1;obtain⟨ar1,zr1,rfl,_,_,_,_,r1t⟩:=r1s.open;have hql:q1.length<=100000:=by have:=congrArg List.length t1e;simp at this;omega
 refine ed func13 ?_;refine xx ?_;refine ZY fun b1 nb1 zb1=>?_;(try simp only[ZS]at nb1);refine xx ?_;refine ZY fun b2 nb2 zb2=>?_;(try simp only[ZS]at nb2);refine xx ?_;refine Z4 (.tk 0 (.tk 2 (.tk 4 (.tk 6 (.tk 8 (.tk 10 (.tk 12 (.tk 14 (.tk 16 (.tk 18 (.tk 20 (.tk 23 (.tk 25 (.tk 27 (.tk 30 (.tk 33 (.tk 36 (.tk 38 (.tkl 1 (.tkl 3 (.tkl 5 (.tkl 7 (.tkl 9 (.tkl 11 (.tkl 13 (.tkl 15 (.tkl 17 (.tkl 19 (.tkl 21 (.tkl 24 (.tkl 26 (.tkl 28 (.tkl 31 (.tkl 34 (.tkl 37 (.tkl 39 (.o1 22 (.o1 29 (.o1 32 (.o1 35 (.tk 40 (.o2 41 (.fin) (.nil))) (.nil)) (.nil)) (.nil)) (.nil)))))))))))))))))))))))))))))))))))))) qg qg _ (Za.refl _ _) ?_;refine xx ?_;refine Zb.apn (Zsf _ m1 hn1 fun h2 r2 le2 hr2 ap nd=>?_);simp only[Ap]at ap;obtain⟨u1,u2,_⟩:=ap;have hr2':=hr2;obtain⟨am2,zm2,rfl,_⟩:=hr2'.open;refine xx ?_;refine xkp (Za.forget le2) ?_;refine xx ?_;refine Zb.apn (Zin _ (o1.up le2) hn2 fun h5 r5 le5 hr5 ap nd=>?_);simp only[Ap]at ap;obtain⟨v5,w5,_⟩:=ap;have hr5':=hr5;obtain⟨as5,zs5,rfl,_⟩:=hr5'.open;refine xx ?_;refine xkp (Za.forget (le2.trans le5)) ?_;refine xx ?_;refine Zb.apn (Zld _ (d1.up (le2.trans le5)) hn3 fun h6 r6 le6 hr6 ap nd=>?_);simp only[Ap]at ap;obtain⟨v6,w6,_⟩:=ap;have hr6':=hr6;obtain⟨as6,zs6,rfl,_⟩:=hr6'.open;refine xx ?_;refine xkp (Za.forget ((le2.trans le5).trans le6)) ?_;refine xx ?_;refine Zb.apn (Zkp _ (t1.up (le2.trans (le5.trans le6))) (fun x hx=>(t1m x hx).up (le2.trans (le5.trans le6))) hql fun h7 r7 le7 hr7 ap nd=>?_);simp only[Ap]at ap;obtain⟨v7,w7,_⟩:=ap;have hr7':=hr7;obtain⟨as7,zs7,rfl,_⟩:=hr7'.open;refine xx ?_;refine xkp (Za.forget ((le2.trans (le5.trans le6)).trans le7)) ?_;refine xx ?_;have LE:=le2.trans (le5.trans (le6.trans le7))
 have hu:Zp h7 ⟨.slice ap1 s.ag.length zp1,.slice am2 s.ae.length zm2,.slice ae1 s.entry.length ze1,.slice ax1 s.exit.length zx1,.slice as5 s.aj.length zs5,.slice as6 s.ai.length zs6,.slice as7 q1.length zs7,.slice ak1 s.marks.length zk1,.slice ar1 r1.length zr1⟩ s :=
  ⟨ok1,p1.up LE,hr2.up (le5.trans (le6.trans le7)),mo1,e1.up LE,x1.up LE,hr5.up (le6.trans le7),oo1,hr6.up le7,dd1,⟨q1,hr7,t1e,fun x hx=>(t1m x hx).up LE⟩,k1.up LE,⟨r1,r1t.up LE,r1e⟩⟩
 exact ZO (ZO (ZP (hk h7 _ LE hu)))
theorem Zt.sl {q:RV}{r:Zi}(hq:Zt h q r):∃oa oc la lc sa sc da dc,q=⟨.slice oa r.out.length oc,.slice la r.left.length lc,.slice sa r.started.length sc,.slice da r.done.length dc⟩:=by
 obtain⟨qo,ql,qs,qd⟩:=q;obtain⟨h1,h2,h3,h4⟩:=hq;simp only at h1 h2 h3 h4;obtain⟨oa,oc,rfl,_⟩:=h1.open;obtain⟨la,lc,rfl,_⟩:=h2.open;obtain⟨sa,sc,rfl,_⟩:=h3.open;obtain⟨da,dc,rfl,_⟩:=h4.open;exact⟨oa,oc,la,lc,sa,sc,da,dc,rfl⟩
theorem Zkd {r:Zi}{q:RV}(hq:Zt h q r)(hk:K (rpV r q) L h):Zb prog 35 [rpV r q] L h K:=by
 obtain⟨oa,oc,la,lc,sa,sc,da,dc,rfl⟩:=hq.sl;refine ed func35 ?_;refine xx ?_;refine ZY fun b1 nb1 zb1=>?_;(try simp only[ZS]at nb1);refine xx ?_;refine ZY fun b2 nb2 zb2=>?_;(try simp only[ZS]at nb2);refine xx ?_;exact ZO (ZO (ZP hk))
theorem Zlj {r:Zi}{q u:RV}(hq:Zt h q r)(hu:Zt h u r)(hk:K (.bool true) L h):Zb prog 34 [rpV r q,rpV r u] L h K:=by
 have q1:=hq;have u1:=hu;obtain⟨oa,oc,la,lc,sa,sc,da,dc,rfl⟩:=hq.sl;obtain⟨oa2,oc2,la2,lc2,sa2,sc2,da2,dc2,rfl⟩:=hu.sl;refine ed func34 ?_;refine xx ?_;refine ZY fun b2 nb2 zb2=>?_;(try simp only[ZS]at nb2);refine xx ?_;refine ZY fun b3 nb3 zb3=>?_;(try simp only[ZS]at nb3);refine xx ?_;refine Vq _ _ q1.o u1.o ?_;refine xx ?_;refine Vq _ _ q1.l u1.l ?_;refine xx ?_;refine Vq _ _ q1.s u1.s ?_;refine xx ?_;refine Vq _ _ q1.d u1.d ?_;refine xx ?_;exact ZO (ZO (ZP hk))
abbrev dB (bb:Nat)(s:Zg)(v:SV):Zn:=⟨bb,45,stC s v,41⟩
abbrev dM (bm cm:Nat)(ms:List Zc):Zn:=⟨bm,124,ms.flatMap YD,cm*6⟩
abbrev dR (br:Nat)(r:Zi)(q:RV):Zn:=⟨br,77,rpC r q,14⟩
theorem Ztg (m:Zc)(st:Int)(hk:K (.tuple #[Zeu (V5 m st),.int .u64 m.bal]) L h):Zb prog 142 [Zeu m,.int .i64 st] L h K:=by
 refine eF func142 ?_;refine xx ?_;refine ZY fun b2 nb2 zb2=>?_;(try simp only[ZS]at nb2);refine xx ?_;refine ZY fun b4 nb4 zb4=>?_;(try simp only[ZS]at nb4);refine xx ?_;refine Z4 (.tk 0 (.tk 1 (.tk 4 (.tk 6 (.tk 8 (.tk 9 (.tkl 2 (.tk 3 (.tkl 5 (.tk 7 (.o1 10 (.o2 11 (.tk 12 (.fin)) (.nil)) (.o2 11 (.o1 10 (.tk 12 (.fin)) (.nil)) (.nil))))))))))))) qg qg _ (Za.refl _ _) ?_
 repeat' first
  | with_reducible refine Yf ?_ ?_
  | with_reducible refine xkp (Za.refl _ _) ?_
  | simp -dsimp -implicitDefEqProofs (disch:=first|exact dD|fail) [go_sem]
 all_goals exact ZO (ZO (ZP hk))
theorem Zew {bb bm cm:Nat}{s:Zg}{v:SV}(hm:v.m = .slice (some ⟨bm,0,none⟩) s.ae.length cm)(hml:s.ae.length<=1000)(hkm:Ints h .u8 v.k s.marks)(i:Nat)(hi:i<s.ae.length)
  (hk:K (.bool (decide (Uf (gr ZQ s.ae i))&&Wm s.marks i)) (dB bb s v::dM bm cm s.ae::L) h) :
  Zb prog 234 [.pointer (some ⟨bb,0,none⟩),.int .i64 i] (dB bb s v::dM bm cm s.ae::L) h K:=by
 obtain⟨vp,vm,ve,vx,vo,vd,vt,vk,vr⟩:=v;simp only at hm hkm;subst hm;have hk0:=hkm;obtain⟨ka,kc,rfl,_⟩:=hkm.open;refine eH func234 fun ap nd=>?_;have hbb:h bb=noC:=ap.1;have hbm:h bm=noC:=ap.2.1;have nmb:bm≠bb:=nd.1.1;clear ap nd;obtain⟨g0,g1,g2,g3,g4,g5⟩:=Zah hi;have hi6:=YC (w:=6) hi (show 5<6 from qh);refine l9 ?_;refine Y3 (gr ZQ s.ae i) ?_;by_cases c:(gr ZQ s.ae i).status=2\/(gr ZQ s.ae i).status=3
 ·have c':Uf (gr ZQ s.ae i):=c;rw[decide_eq_true c',Bool.true_and]at hk;rw[decide_eq_true c];refine xx ?_;refine GT (bs:=s.marks) _ (i:Int) hk0 qf ?_;refine xx ?_;exact ZP hk
 ·have c':¬Uf (gr ZQ s.ae i):=c;rw[decide_eq_false c',Bool.false_and]at hk;rw[decide_eq_false c];refine xx ?_;exact ZP hk
theorem Ycx {bb:Nat}{s:Zg}{v:SV}(hd:Zd Yh 3 h v.d s.ai)(hdo:∀x∈s.ai,Zs x)(hl:s.ai.length<=32000)(au:Int)(hac:0<=au/\au<=63)(a:Int)(ha:0<=a)(t:Int)(ht:0<=t/\t<=9223372036854775807)(hs:Y9 s.ai+a<=4611686018427387904)
  (hk:∀h' r',PH.le h h'->Zd Yh 3 h' r' (V3 s.ai ⟨au,min t 2147483647,a⟩)->K (.tuple #[]) (dB bb { s with ai:=V3 s.ai ⟨au,min t 2147483647,a⟩ } { v with d:=r' }::L) h') :
  Zb prog 333 [.pointer (some ⟨bb,0,none⟩),.int .i64 au,.int .u64 a,.int .i64 t] (dB bb s v::L) h K:=by
 refine eG func333 fun ap nd=>?_;have hbb:h bb=noC:=ap.1;clear ap nd;refine xx ?_;refine Zb.ap (Zxz (d:=⟨au,min t 2147483647,a⟩) _ hd hdo hl hac ⟨by show 0<=min t 2147483647;omega,by show min t 2147483647<=_;omega⟩ ha hs fun h1 r1 le1 i1 ap=>?_);have hbb1:h1 bb=noC:=ap.1;clear ap;obtain⟨ra,rc,rfl,_⟩:=i1.open;refine xx ?_;exact ZP (hk h1 _ le1 i1)
theorem Zpi {bb bm cm:Nat}{s:Zg}{v:SV}(hm:v.m = .slice (some ⟨bm,0,none⟩) s.ae.length cm)(hml:s.ae.length<=1000)(mo:∀x∈s.ae,Zf x)(hd:Zd Yh 3 h v.d s.ai)(hdo:∀x∈s.ai,Zs x)(hl:s.ai.length<=32000)(i:Nat)(hi:i<s.ae.length)
  (how:0<=(gr ZQ s.ae i).owner/\(gr ZQ s.ae i).owner<=63) (st t:Int) (ht:0<=t/\t<=9223372036854775807) (hs:Y9 s.ai+(gr ZQ s.ae i).bal<=4611686018427387904)
  (hk:∀h' r',PH.le h h'->Zd Yh 3 h' r' (V3 s.ai (VB (min t 2147483647) (gr ZQ s.ae i)))->K (.tuple #[]) (dB bb { s with ae:=s.ae.set i (V5 (gr ZQ s.ae i) st),ai:=V3 s.ai (VB (min t 2147483647) (gr ZQ s.ae i)) } { v with d:=r' }::dM bm cm (s.ae.set i (V5 (gr ZQ s.ae i) st))::L) h') :
  Zb prog 243 [.pointer (some ⟨bb,0,none⟩),.int .i64 i,.int .i64 st,.int .i64 t] (dB bb s v::dM bm cm s.ae::L) h K:=by
 have ub:=(mo _ (Yp (z:=ZQ) hi)).u (gr ZQ s.ae i).bal qj;refine eG func243 fun ap nd=>?_;have hbb:h bb=noC:=ap.1;have hbm:h bm=noC:=ap.2.1;have nmb:bm≠bb:=nd.1.1;clear ap nd;obtain⟨g0,g1,g2,g3,g4,g5⟩:=Zah hi;have hi6:=YC (w:=6) hi (show 5<6 from qh);have hsum:=Zbl (ms:=s.ae) rfl;refine lG ?_;refine Ztg (gr ZQ s.ae i) st ?_;refine xx ?_;refine ZY fun b6 nb6 zb6=>?_;(try simp only[ZS]at nb6);have n6b:=nb6.1;have n6m:=nb6.2.1;clear nb6;refine xx ?_;refine Z4 (.tk 0 (.tk 1 (.tk 2 (.tk 4 (.tkl 3 (.tkl 5 (.tk 6 (.o2 7 (.fin) (.nil))))))))) qg qg _ (Za.refl _ _) ?_
 repeat' first
  | with_reducible refine Yf ?_ ?_
  | with_reducible refine xkp (Za.refl _ _) ?_
  | simp -dsimp -implicitDefEqProofs (disch:=first|exact dD|fail) [go_sem,hm]
  | fail
 refine⟨qf,?_⟩;have hset:((((((s.ae.flatMap YD).set (i*6) (Value.int .u64 (V5 (gr ZQ s.ae i) st).bal)).set (i*6+1) (.int .u64 (V5 (gr ZQ s.ae i) st).eff)).set (i*6+1+1) (.int .u64 (V5 (gr ZQ s.ae i) st).score)).set (i*6+1+1+1) (.int .i64 (V5 (gr ZQ s.ae i) st).ak)).set (i*6+1+1+1+1) (.int .i64 (V5 (gr ZQ s.ae i) st).owner)).set (i*6+1+1+1+1+1) (.int .i64 (V5 (gr ZQ s.ae i) st).status)=(s.ae.set i (V5 (gr ZQ s.ae i) st)).flatMap YD:=U0 Z8 s.ae hi (V5 (gr ZQ s.ae i) st);rw[hset]
 try simp -dsimp -implicitDefEqProofs (disch:=first|exact dD|fail) [go_sem]
 refine Zcz (Ycx (s:={ s with ae:=s.ae.set i (V5 (gr ZQ s.ae i) st) }) hd hdo hl _ how _ ub.1 t ht hs fun h1 r1 le1 i1=>?_)
 try simp -dsimp -implicitDefEqProofs (disch:=first|exact dD|fail) [go_sem]
 exact⟨_,_,(Za.perm _ (List.Perm.swap _ _ _)).trans (Za.tail _ _ _),hk h1 r1 le1 i1⟩
abbrev Yct (s:Zg)(t:Int)(i:Nat):Zg:={ s with exit:=flt s.exit i,ae:=s.ae.set i (V5 (gr ZQ s.ae i) 4),ai:=V3 s.ai (VB (min t 2147483647) (gr ZQ s.ae i)) }
theorem Zqn {bb br bm cm:Nat}{oo:Option (Nat×Nat)}{s:Zg}{v:SV}{r:Zi}{q:RV}(hm:v.m = .slice (some ⟨bm,0,none⟩) s.ae.length cm)(hml:s.ae.length<=900)(mo:∀x∈s.ae,Zf x)(hd:Zd Yh 3 h v.d s.ai)(hdo:∀x∈s.ai,Zs x)(hl:s.ai.length<=32000)(i:Nat)(hi:i<s.ae.length)
  (how:0<=(gr ZQ s.ae i).owner/\(gr ZQ s.ae i).owner<=63) (t:Int) (ht:0<=t/\t<=9223372036854775807) (hs:Y9 s.ai+(gr ZQ s.ae i).bal<=4611686018427387904)
  (hx:Ints h .i64 v.x s.exit) (hxl:s.exit.length<=900) (ho:q.o=ovs oo r.out.length) (oko:okO oo r.out.length) (hol:r.out.length<=900)
  (hk:∀h' r' x' oo',PH.le h h'->Zd Yh 3 h' r' (Yct s t i).ai->Ints h' .i64 x' (Yct s t i).exit->okO oo' (r.out.length+1)->K (.tuple #[]) (dB bb (Yct s t i) { v with d:=r',x:=x' }::dM bm cm (Yct s t i).ae::dR br { r with out:=r.out++[(i:Int)] } { q with o:=ovs oo' (r.out.length+1) }::oent 3 1 oo' ((r.out++[(i:Int)]).map (.int .i64)) L) h') :
  Zb prog 241 [.pointer (some ⟨bb,0,none⟩),.pointer (some ⟨br,0,none⟩),.int .i64 i,.int .i64 t] (dB bb s v::dM bm cm s.ae::dR br r q::oent 3 1 oo (r.out.map (.int .i64)) L) h K:=by
 have hx0:=hx;obtain⟨vp,vm,ve,vx,vo,vd,vt,vk,vr⟩:=v;simp only at hm hd hx hx0 hk;obtain⟨qo,ql,qs,qd⟩:=q;simp only at ho hk;subst ho;obtain⟨xa,xc,rfl,_⟩:=hx.open;refine eG func241 fun ap nd=>?_;have hbb:h bb=noC:=ap.1;have hbm:h bm=noC:=ap.2.1;have hbr:h br=noC:=ap.2.2.1;have nmb:bm≠bb:=nd.1.1;have nrb:br≠bb:=nd.1.2.1;have nrm:br≠bm:=nd.2.1.1;clear ap nd;refine xx ?_;refine Zb.ap (Ztp _ hx0 (i:Int) qf fun h1 x1 le1 ix ap=>?_);have hbb1:h1 bb=noC:=ap.1;clear ap;have ix0:=ix;obtain⟨xa1,xc1,rfl,_⟩:=ix.open;refine xx ?_;refine Zb.ap (Zpi (s:={ s with exit:=flt s.exit i }) (v:=⟨vp,vm,ve,.slice xa1 (flt s.exit i).length xc1,vo,vd,vt,vk,vr⟩) hm (by show s.ae.length<=_;omega) mo (hd.up le1) hdo hl i hi how 4 t ht hs fun h2 r2 le2 i2 ap=>?_);have hbr2:h2 br=noC:=ap.2.2.1;clear ap;refine xx ?_;refine ZY fun b7 nb7 zb7=>?_;(try simp only[ZS]at nb7);have n7r:=nb7.2.2.1;have n7b:=nb7.1;have n7m:=nb7.2.1;clear nb7;refine xx ?_;refine ZZ (t:=27) (e:=3) (sz:=1) (bytes:=8) (z:=[.int .i64 0]) qg V6 rfl rfl rfl rfl qh [_,_,_,_] _ oo r.out.length (r.out.map (.int .i64)) oko qj (Src.own (b:=b7) (t:=3) (cap:=1) List.mem_cons_self) (m:=1) (news:=[.int .i64 i]) rfl (fun u hu=>qw) qm qf ?_;intro o' j1 j2 j3
 try simp only[List.cons_append,List.nil_append]
 refine xx ?_;have:=hk h2 r2 _ o' (le1.trans le2) i2 (ix0.up le2) j1;simp only[List.map_append,List.map_cons,List.map_nil]at this;exact ZO (ZP this)
abbrev dMo (om:Option (Nat×Nat))(ms:List Zc)(L:Own):Own:=oent 124 6 om (ms.flatMap YD) L
structure DjG where
 k:Nat
 h:PH
 d:Value
 x:Value
 o:Option (Nat×Nat)
theorem Zey {bb br D:Nat}{om oo:Option (Nat×Nat)}{s:Zg}{v:SV}{r:Zi}{q:RV}(ti:Zq s D)(hD:D<=30000)(hd:Zd Yh 3 h v.d s.ai)(hm:v.m=ovs om s.ae.length)(okm:okO om s.ae.length)(t0:Int)(ht0:0<=t0/\t0<=9223372036854775807)
  (hx:Ints h .i64 v.x s.exit) (ho:q.o=ovs oo r.out.length) (oko:okO oo r.out.length) (hol:r.out.length<=700)
  (hk:∀h' d' x' oo',PH.le h h'->Zd Yh 3 h' d' (ejS s (min t0 2147483647) s.ae.length).ai->Ints h' .i64 x' (ejS s (min t0 2147483647) s.ae.length).exit->okO oo' (ejR s r s.ae.length).out.length->K (.tuple #[]) (dB bb (ejS s (min t0 2147483647) s.ae.length) { v with d:=d',x:=x' }::dMo om (ejS s (min t0 2147483647) s.ae.length).ae (dR br (ejR s r s.ae.length) { q with o:=ovs oo' (ejR s r s.ae.length).out.length }::oent 3 1 oo' ((ejR s r s.ae.length).out.map (.int .i64)) L)) h') :
  Zb prog 110 [.pointer (some ⟨bb,0,none⟩),.pointer (some ⟨br,0,none⟩),.int .i64 t0] (dB bb s v::dMo om s.ae (dR br r q::oent 3 1 oo (r.out.map (.int .i64)) L)) h K:=by
 have ht:0<=min t0 2147483647/\min t0 2147483647<=2147483647:=qf;have hml:=ti.ml;have hxl:=WR ti.ex;have hdn:=ti.dn;obtain⟨b1,b2,b3,b4,b5,b6⟩:=ti.parts;have hsum:=ti.sum;have hpl:=ti.pl;obtain⟨t,hte⟩:∃t,t=min t0 2147483647:=⟨_,rfl⟩
 rw[<- hte]at hk ht;obtain⟨n,hn⟩:∃n,n=s.ae.length:=⟨_,rfl⟩
 rw[<- hn]at hk;have hej:=fun k (hk:k<=s.ae.length)=>Ydo (q:=s.par) (t:=t) ti.be ti.ex ti.dd ht qf k hk;have hll:=fun k=>Wp (ejF s.par) s.ae k;have eR:ejR s r 0=r:=by simp [ejR,ouN]
 obtain⟨vp,vm,ve,vx,vo,vd,vt,vk,vr⟩:=v;simp only at hm hd hx hk;obtain⟨qo,ql,qs,qd⟩:=q;simp only at ho hk;subst ho
 cases om with
 | none =>
  have hn0:n=0:=by rw[hn];exact okm
  have hl0:s.ae.length=0:=qf;obtain rfl:vm = .slice none 0 0:=hm;refine eG func110 fun ap nd=>?_;have hbb:h bb=noC:=ap.1;clear ap nd;refine xx ?_;refine Y1 (γ:=Unit) () (fun _=>True) (fun _=>[(0,.pointer (some ⟨bb,0,none⟩)),(1,.pointer (some ⟨br,0,none⟩)),(2,.int .i64 t0),(6,.int .i64 0)]) (fun _=>0) trivial qx ?_;rintro⟨⟩ -;refine xx ?_;subst hn0;have:=hk h vd vx oo (PH.le_refl _) hd hx (by rw[eR];exact oko);rw[eR]at this;exact ZP this
 | some p =>
  obtain⟨bm,cm⟩:=p;obtain rfl:vm = .slice (some ⟨bm,0,none⟩) s.ae.length cm:=hm;refine eG func110 fun ap nd=>?_;have hbb:h bb=noC:=ap.1;have hbm:h bm=noC:=ap.2.1;have hbr:h br=noC:=ap.2.2.1;have nmb:bm≠bb:=nd.1.1;have nrb:br≠bb:=nd.1.2.1;have nrm:br≠bm:=nd.2.1.1;clear ap nd;refine xx ?_;refine Yi (γ:=DjG) ⟨0,h,vd,vx,oo⟩ (fun y=>y.k<=n/\PH.le h y.h/\Zd Yh 3 y.h y.d (ejS s t y.k).ai/\Ints y.h .i64 y.x (ejS s t y.k).exit/\okO y.o (ejR s r y.k).out.length/\y.h bb=noC/\y.h bm=noC/\y.h br=noC)
   (fun y=>[(0,.pointer (some ⟨bb,0,none⟩)),(1,.pointer (some ⟨br,0,none⟩)),(2,.int .i64 t0),(6,.int .i64 y.k)])
   (fun y=>dB bb (ejS s t y.k) ⟨vp,.slice (some ⟨bm,0,none⟩) (ejS s t y.k).ae.length cm,ve,y.x,vo,y.d,vt,vk,vr⟩::dM bm cm (ejS s t y.k).ae::dR br (ejR s r y.k) ⟨ovs y.o (ejR s r y.k).out.length,ql,qs,qd⟩::oent 3 1 y.o ((ejR s r y.k).out.map (.int .i64)) L) (fun y=>y.h) (fun y=>n-y.k)
   ⟨Nat.zero_le _,PH.le_refl _,hd,hx,by rw[eR];exact oko,hbb,hbm,hbr⟩ qx (by simp only[eR];exact Za.refl _ _) ?_
  rintro⟨k,h1,d1,x1,o1⟩ ⟨e2,e3,e4,e5,e6,abb,abm,abr⟩;simp only at e2 e3 e4 e5 e6 abb abm abr ⊢;have hlk:=hll k;have hlk2:(ejS s t k).ae.length=n:=by rw[hn];exact hlk
  simp -dsimp -implicitDefEqProofs (disch:=first|exact dD|fail) [go_sem,hlk2];by_cases c1:k<n
  ·have eo:=hej k qf;have hat:=JZ (ejF s.par) s.ae (k:=k) qf;have hbe:Zz (upN (ejF s.par) s.ae k) s.ag:=ti.be.upN (fun m hm=>⟨Zpf hm,Ydu _ m⟩) qf;have hbl:=hbe.bl (i:=k) qf;have how:=(hbe.at (i:=k) qf).2;have how2:0<=(gr ZQ (upN (ejF s.par) s.ae k) k).owner/\(gr ZQ (upN (ejF s.par) s.ae k) k).owner<=63:=qf;have eot:=eo.t;have eon:=eo.n;have hexl:=Zdd s.par s.ae s.exit k;have houl:=Gg s.par s.ae k;have hrl:(ejR s r k).out.length=r.out.length+(ouN s.par s.ae k).length:=List.length_append;have hki:k<(ejS s t k).ae.length:=qf;obtain⟨g0,g1,g2,g3,g4,g5⟩:=Zah hki;have hi6:=YC (w:=6) hki (show 5<6 from qh);refine l9 ?_;by_cases c:(gr ZQ (ejS s t k).ae k).status=2\/(gr ZQ (ejS s t k).ae k).status=3
   ·refine Z4 (.tk 0 (.tk 1 (.tk 2 (.tk 4 (.tkl 3 (.tk 5 (.tkl 6 (.o1 7 (.tk 8 (.tk 9 (.tk 10 (.tk 11 (.tk 13 (.tk 18 (.tk 19 (.tk 20 (.tk 21 (.tkl 12 (.tk 14 (.tk 15 (.tk 16 (.tkl 17 (.tkl 22 (.tk 23 (.tk 24 (.fin)))))))))))))))))) (.nil))))))))) qg qg _ (Za.refl _ _) ?_
    repeat' first
     | with_reducible refine Yf ?_ ?_
     | with_reducible refine xkp (Za.refl _ _) ?_
     | simp -dsimp -implicitDefEqProofs (disch:=first|exact dD|fail) [go_sem,g0,g1,g2,g3,g4,g5]
     | fail
    ·refine Y3 (gr ZQ (ejS s t k).ae k) ?_;rw[decide_eq_true c]
     repeat' first
      | with_reducible refine Yf ?_ ?_
      | with_reducible refine xkp (Za.refl _ _) ?_
      | simp -dsimp -implicitDefEqProofs (disch:=first|exact dD|fail) [go_sem,g0,g1,g2,g3,g4,g5]
      | fail
     by_cases c3:(gr ZQ (ejS s t k).ae k).bal<=(ejS s t k).par.floor
     ·have c4:ejP s.par (gr ZQ s.ae k):=⟨by rw[<- hat];exact c,by rw[<- hat];exact c3⟩
      have s1:ejS s t (k+1)=Yct (ejS s t k) t0 k:=by
       have u1:upN (ejF s.par) s.ae (k+1)=(upN (ejF s.par) s.ae k).set k (V5 (gr ZQ (upN (ejF s.par) s.ae k) k) 4):=by
        rw[upN,hat,ejF,if_pos c4];rfl
       have u2:duN s.par s.ae t s.ai (k+1)=V3 (duN s.par s.ae t s.ai k) (VB t (gr ZQ (upN (ejF s.par) s.ae k) k)):=by rw[duN,if_pos c4,hat]
       have u3:exN s.par s.ae s.exit (k+1)=flt (exN s.par s.ae s.exit k) k:=by rw[Zmo,if_pos c4]
       show ({ s with ae:=upN (ejF s.par) s.ae (k+1),ai:=duN s.par s.ae t s.ai (k+1),exit:=exN s.par s.ae s.exit (k+1) }:Zg)={ s with ae:=(upN (ejF s.par) s.ae k).set k (V5 (gr ZQ (upN (ejF s.par) s.ae k) k) 4),ai:=V3 (duN s.par s.ae t s.ai k) (VB (min t0 2147483647) (gr ZQ (upN (ejF s.par) s.ae k) k)),exit:=flt (exN s.par s.ae s.exit k) k };rw[u1,u2,u3,<- hte]
      have s2:(ejR s r (k+1)).out=(ejR s r k).out++[(k:Int)]:=by
       show r.out++ouN s.par s.ae (k+1)=r.out++ouN s.par s.ae k++[(k:Int)];rw[ouN,if_pos c4,List.append_assoc]
      have s3:(ejR s r (k+1)).out.length=(ejR s r k).out.length+1:=by rw[s2,List.length_append];rfl
      have s4:ejR s r (k+1)={ ejR s r k with out:=(ejR s r k).out++[(k:Int)] }:=by rw[<- s2];rfl
      rw[decide_eq_true c3];refine xx ?_;refine Zb.ap (Zqn (s:=ejS s t k) (v:=⟨vp,.slice (some ⟨bm,0,none⟩) (ejS s t k).ae.length cm,ve,x1,vo,d1,vt,vk,vr⟩) (r:=ejR s r k) (q:=⟨ovs o1 (ejR s r k).out.length,ql,qs,qd⟩) (oo:=o1) rfl qf hbe.m e4 (fun x hx=>(eo.d x hx).1) (by show (duN s.par s.ae t s.ai k).length<=32000;omega) k hki how2 t0 ht0 (by show Y9 (duN s.par s.ae t s.ai k)+(gr ZQ (upN (ejF s.par) s.ae k) k).bal<=_;omega) e5 (by show (exN s.par s.ae s.exit k).length<=900;omega) rfl e6 (by rw[hrl];omega) fun h2 d2 x2 o2 le2 i2 j2 ok2 ap=>?_);have a2b:h2 bb=noC:=ap.1;have a2m:h2 bm=noC:=ap.2.1;have a2r:h2 br=noC:=ap.2.2.1;clear ap
      try simp -dsimp -implicitDefEqProofs (disch:=first|exact dD|fail) [go_sem]
      refine⟨⟨k+1,h2,d2,x2,o2⟩,⟨by show k+1<=n;omega,e3.trans le2,by rw[s1];exact i2,by rw[s1];exact j2,by rw[s3];exact ok2,a2b,a2m,a2r⟩,wz,qx,?_⟩;simp only;have s5:(Yct (ejS s t k) t0 k).ae.length=(ejS s t k).ae.length:=List.length_set;rw[s3,s4,s1,s5];simp only[List.map_append,List.map_cons,List.map_nil];exact Za.refl _ _
     ·have c4:¬ejP s.par (gr ZQ s.ae k):=fun c=>c3 (by show (gr ZQ (upN (ejF s.par) s.ae k) k).bal<=_;rw[hat];exact c.2);have s1:ejS s t (k+1)=ejS s t k:=Zpu qf c4;have s4:ejR s r (k+1)=ejR s r k:=Zqu c4;rw[decide_eq_false c3];refine xx ?_;refine⟨⟨k+1,h1,d1,x1,o1⟩,⟨by show k+1<=n;omega,e3,wo,by rw[s1];exact e5,by rw[s4];exact e6,abb,abm,abr⟩,wz,qx,?_⟩;simp only;rw[s1,s4];exact Za.refl _ _
   ·refine Z4 (.tk 0 (.tk 1 (.tk 2 (.tk 4 (.tkl 3 (.tk 5 (.tkl 6 (.o1 7 (.tk 8 (.tk 9 (.tk 10 (.tk 11 (.tk 13 (.tk 18 (.tk 19 (.tk 20 (.tk 21 (.tkl 12 (.tk 14 (.tk 15 (.tk 16 (.tkl 17 (.tkl 22 (.tk 23 (.tk 24 (.fin)))))))))))))))))) (.nil))))))))) qg qg _ (Za.refl _ _) ?_
    repeat' first
     | with_reducible refine Yf ?_ ?_
     | with_reducible refine xkp (Za.refl _ _) ?_
     | simp -dsimp -implicitDefEqProofs (disch:=first|exact dD|fail) [go_sem,g0,g1,g2,g3,g4,g5]
     | fail
    ·have c4:¬ejP s.par (gr ZQ s.ae k):=fun x=>c (by show Uf (gr ZQ (upN (ejF s.par) s.ae k) k);rw[hat];exact x.1);refine Y3 (gr ZQ (ejS s t k).ae k) ?_;rw[decide_eq_false c]
     repeat' first
      | with_reducible refine Yf ?_ ?_
      | with_reducible refine xkp (Za.refl _ _) ?_
      | simp -dsimp -implicitDefEqProofs (disch:=first|exact dD|fail) [go_sem,g0,g1,g2,g3,g4,g5]
      | fail
     have s1:ejS s t (k+1)=ejS s t k:=Zpu qf c4;have s4:ejR s r (k+1)=ejR s r k:=Zqu c4;refine⟨⟨k+1,h1,d1,x1,o1⟩,⟨by show k+1<=n;omega,e3,wo,by rw[s1];exact e5,by rw[s4];exact e6,abb,abm,abr⟩,wz,qx,?_⟩;simp only;rw[s1,s4];exact Za.refl _ _
  ·have ek:k=n:=qf;subst ek;refine xx ?_;have:=hk h1 d1 x1 o1 e3 e4 e5 e6;rw[<- hn]at this;exact ZP (by rw[hlk2];exact this)
theorem Yoh (ms:List Zc)(i:Nat)(hi:i<ms.length)(x:Zc):((((((ms.flatMap YD).set (i*6) (.int .u64 x.bal)).set (i*6+1) (.int .u64 x.eff)).set (i*6+1+1) (.int .u64 x.score)).set (i*6+1+1+1) (.int .i64 x.ak)).set (i*6+1+1+1+1) (.int .i64 x.owner)).set (i*6+1+1+1+1+1) (.int .i64 x.status)=(ms.set i x).flatMap YD:=U0 Z8 ms hi x
theorem Zdq {bb D:Nat}{om:Option (Nat×Nat)}{s:Zg}{v:SV}(ti:Zq s D)(hk0:Ints h .u8 v.k s.marks)(hr0:∃ql,Zx h v.r ql/\xsL ql=s.ring)(hrl:s.ring.length<=1000)(hm:v.m=ovs om s.ae.length)(okm:okO om s.ae.length)
  (hk:∀h' kv rv,PH.le h h'->Ints h' .u8 kv (List.replicate 16 0)->(∃ql,Zx h' rv ql/\xsL ql=GE s.ring s.marks)->K (.tuple #[]) (dB bb (seS s) { v with k:=kv,r:=rv }::dMo om (seS s).ae L) h') :
  Zb prog 115 [.pointer (some ⟨bb,0,none⟩)] (dB bb s v::dMo om s.ae L) h K:=by
 obtain⟨vp,vm,ve,vx,vo,vd,vt,vk,vr⟩:=v;simp only at hm hk0 hr0 hk;have hml:=ti.ml;have hep:=ti.ep;have hinc:=Ul ti.r;obtain⟨n,hn⟩:∃n,n=s.ae.length:=⟨_,rfl⟩
 obtain⟨ql,q1,q2⟩:=hr0;have hql:ql.length=s.ring.length:=by rw[<- q2,Wu]
 cases om with
 | none =>
  have hn0:s.ae.length=0:=okm;obtain rfl:vm = .slice none 0 0:=hm;have eS:seS s={ s with ring:=GE s.ring s.marks,marks:=List.replicate 16 0,ep:=s.ep+1 }:=by unfold seS WN;rw[hn0];rfl
  rw[eS]at hk;simp only at hk;refine eG func115 fun ap nd=>?_;have hbb:h bb=noC:=ap.1;clear ap nd;refine xx ?_;refine Y1 (γ:=Unit) () (fun _=>True) (fun _=>[(0,.pointer (some ⟨bb,0,none⟩)),(2,.int .i64 0)]) (fun _=>0) trivial qx ?_;rintro⟨⟩ -;refine xx ?_;refine Z4 (.tk 0 (.tk 1 (.tk 2 (.tk 3 (.tk 5 (.tk 6 (.tk 7 (.tkl 4 (.tkl 8 (.o1 9 (.tk 10 (.tk 11 (.o2 12 (.fin) (.nil)))) (.nil))))))))))) qg qg _ (Za.refl _ _) ?_;refine xx ?_;refine Zb.ap (Zfm (l:=ql) (marks:=s.marks) _ _ q1 hk0 qf fun h1 rv q3 le1 i1 j1 ap=>?_);have hbb1:h1 bb=noC:=ap.1;clear ap;have i10:=i1;obtain⟨ra,rc,rfl,_⟩:=i1.open
  first
  | refine xkp (Za.forget le1) ?_
  | skip
  refine xx ?_;refine JH (e:=5) (z:=.int .u8 0) qg Ypn rfl rfl .i64 .i64 16 qh qh qh ?_;refine ZY fun b4 nb4 zb4=>?_;(try simp only[ZS]at nb4);have n4b:=nb4.1;refine xx ?_;rw[q2]at j1;exact⟨_,_,WJ b4 _ _ _ [] _ h1 qh,hk _ _ _ (le1.trans (GO zb4 _)) (G9 (n:=16) (WE (o:=some (b4,16)) ⟨Nat.le_refl _,zX⟩ rfl qh)) ⟨q3,i10.up (GO zb4 _),j1⟩⟩
 | some p =>
  obtain⟨bm,cm⟩:=p;obtain rfl:vm = .slice (some ⟨bm,0,none⟩) s.ae.length cm:=hm;refine eG func115 fun ap nd=>?_;have hbb:h bb=noC:=ap.1;have hbm:h bm=noC:=ap.2.1;have nmb:bm≠bb:=nd.1.1;clear ap nd;refine xx ?_;refine Yi (γ:=Nat) 0 (fun k=>k<=n)
   (fun k=>[(0,.pointer (some ⟨bb,0,none⟩)),(2,.int .i64 k)])
   (fun k=>dB bb (WN s k) ⟨vp,.slice (some ⟨bm,0,none⟩) (WN s k).ae.length cm,ve,vx,vo,vd,vt,vk,vr⟩::dM bm cm (WN s k).ae::L) (fun _=>h) (fun k=>n-k)
   (Nat.zero_le _) qx (Za.refl _ _) ?_
  intro k hkn;have hl:(WN s k).ae.length=s.ae.length:=Wp _ _ _;refine cu ?_;by_cases c1:k<s.ae.length
  ·have hki:k<(WN s k).ae.length:=qf;have mo:Zf (gr ZQ (WN s k).ae k):=Zaw Zf (fun m hm=>Zaa (q:=s.par) ti.ok.p ti.r hm) ti.be.m k qf _ (Yp (z:=ZQ) hki);have ub:=mo.u (gr ZQ (WN s k).ae k).bal qj;have ue:=mo.u (gr ZQ (WN s k).ae k).eff qj;have hat:=JZ (Gm s.par) s.ae (k:=k) qf;obtain⟨g0,g1,g2,g3,g4,g5⟩:=Zah hki;have hi6:=YC (w:=6) hki (show 5<6 from qh);have hsum:=Zbl (ms:=(WN s k).ae) rfl;refine l9 ?_;refine ZY fun b3 nb3 zb3=>?_;(try simp only[ZS]at nb3);have n3b:=nb3.1;have n3m:=nb3.2.1;refine l9 ?_;refine Y3 (gr ZQ (WN s k).ae k) ?_;by_cases c:(gr ZQ (WN s k).ae k).status=2\/(gr ZQ (WN s k).ae k).status=3
   ·rw[decide_eq_true c];have c4:Uf (gr ZQ s.ae k):=by rw[<- hat];exact c
    refine xx ?_;refine Z4 (.tk 0 (.tk 1 (.tk 2 (.tk 4 (.tk 5 (.tk 7 (.tk 8 (.tkl 3 (.tkl 6 (.tkl 9 (.o1 10 (.tk 11 (.tk 12 (.o2 13 (.fin) (.nil)))) (.nil)))))))))))) qg qg _ (Za.refl _ _) ?_
    repeat' first
     | with_reducible refine Yf ?_ ?_
     | with_reducible refine xkp (Za.refl _ _) ?_
     | simp -dsimp -implicitDefEqProofs (disch:=first|exact dD|fail) [go_sem]
     | fail
    refine Zez s.par ti.ok.p hinc _ _ ue ub ?_
    repeat' first
     | with_reducible refine Yf ?_ ?_
     | with_reducible refine xkp (Za.refl _ _) ?_
     | simp -dsimp -implicitDefEqProofs (disch:=first|exact dD|fail) [go_sem]
     | fail
    have un:0<=UL s.par (gr ZQ (WN s k).ae k).eff (gr ZQ (WN s k).ae k).bal/\UL s.par (gr ZQ (WN s k).ae k).eff (gr ZQ (WN s k).ae k).bal<=18446744073709551615:=by
     unfold UL;split
     ·exact Ji hinc ti.ok.p ub
     ·exact ue
    refine Z4 (.tk 0 (.tk 1 (.tk 2 (.tk 4 (.tk 5 (.tk 7 (.tk 8 (.tkl 3 (.tkl 6 (.tkl 9 (.o1 10 (.tk 11 (.fin)) (.nil)))))))))))) qg qg _ (Za.refl _ _) ?_
    repeat' first
     | with_reducible refine Yf ?_ ?_
     | with_reducible refine xkp (Za.refl _ _) ?_
     | simp -dsimp -implicitDefEqProofs (disch:=first|exact dD|fail) [go_sem]
     | fail
    refine Zgl s.par ti.ok.p hinc _ _ un ub ?_
    repeat' first
     | with_reducible refine Yf ?_ ?_
     | with_reducible refine xkp (Za.refl _ _) ?_
     | simp -dsimp -implicitDefEqProofs (disch:=first|exact dD|fail) [go_sem]
     | fail
    cases c5:VJ s.par (UL s.par (gr ZQ (WN s k).ae k).eff (gr ZQ (WN s k).ae k).bal) (gr ZQ (WN s k).ae k).bal with
    | true =>
     refine xx ?_;refine Z4 (.tk 0 (.tk 1 (.tk 2 (.tk 4 (.tkl 3 (.tkl 5 (.tk 6 (.o2 7 (.fin) (.nil))))))))) qg qg _ (Za.refl _ _) ?_
     repeat' first
      | with_reducible refine Yf ?_ ?_
      | with_reducible refine xkp (Za.refl _ _) ?_
      | simp -dsimp -implicitDefEqProofs (disch:=first|exact dD|fail) [go_sem]
      | fail
     refine⟨qf,?_⟩;have s1:WN s (k+1)={ WN s k with ae:=(WN s k).ae.set k (Y5 s.par (gr ZQ (WN s k).ae k)) }:=Zms qf c4;have s2:Y5 s.par (gr ZQ (WN s k).ae k)={ gr ZQ (WN s k).ae k with eff:=UL s.par (gr ZQ (WN s k).ae k).eff (gr ZQ (WN s k).ae k).bal }:=by unfold Y5;rw[c5];rfl
     refine⟨k+1,qf,qf,qx,?_⟩;have hset:=Yoh (WN s k).ae k hki ⟨(gr ZQ (WN s k).ae k).bal,UL s.par (gr ZQ (WN s k).ae k).eff (gr ZQ (WN s k).ae k).bal,(gr ZQ (WN s k).ae k).score,(gr ZQ (WN s k).ae k).ak,(gr ZQ (WN s k).ae k).owner,(gr ZQ (WN s k).ae k).status⟩;simp only at hset;rw[hset,s1,s2];simp only[List.length_set];exact Za.tail _ _ _
    | false =>
     refine xx ?_;refine Z4 (.tk 0 (.tk 1 (.tk 2 (.tk 4 (.tk 5 (.tkl 3 (.tkl 6 (.o1 7 (.tk 8 (.tk 9 (.o2 10 (.fin) (.nil)))) (.nil))))))))) qg qg _ (Za.refl _ _) ?_
     repeat' first
      | with_reducible refine Yf ?_ ?_
      | with_reducible refine xkp (Za.refl _ _) ?_
      | simp -dsimp -implicitDefEqProofs (disch:=first|exact dD|fail) [go_sem]
      | fail
     refine U2 s.par _ hinc ub ?_
     repeat' first
      | with_reducible refine Yf ?_ ?_
      | with_reducible refine xkp (Za.refl _ _) ?_
      | simp -dsimp -implicitDefEqProofs (disch:=first|exact dD|fail) [go_sem]
      | fail
     refine Z4 (.tk 0 (.tk 1 (.tk 2 (.tk 4 (.tkl 3 (.tkl 5 (.tk 6 (.o2 7 (.fin) (.nil))))))))) qg qg _ (Za.refl _ _) ?_
     repeat' first
      | with_reducible refine Yf ?_ ?_
      | with_reducible refine xkp (Za.refl _ _) ?_
      | simp -dsimp -implicitDefEqProofs (disch:=first|exact dD|fail) [go_sem]
      | fail
     refine⟨qf,?_⟩;have s1:WN s (k+1)={ WN s k with ae:=(WN s k).ae.set k (Y5 s.par (gr ZQ (WN s k).ae k)) }:=Zms qf c4;have s2:Y5 s.par (gr ZQ (WN s k).ae k)={ gr ZQ (WN s k).ae k with eff:=Wi s.par (gr ZQ (WN s k).ae k).bal }:=by unfold Y5;rw[c5];rfl
     refine⟨k+1,qf,qf,qx,?_⟩;have hset:=Yoh (WN s k).ae k hki ⟨(gr ZQ (WN s k).ae k).bal,Wi s.par (gr ZQ (WN s k).ae k).bal,(gr ZQ (WN s k).ae k).score,(gr ZQ (WN s k).ae k).ak,(gr ZQ (WN s k).ae k).owner,(gr ZQ (WN s k).ae k).status⟩;simp only at hset;rw[hset,s1,s2];simp only[List.length_set];exact Za.tail _ _ _
   ·rw[decide_eq_false c];have c4:¬Uf (gr ZQ s.ae k):=fun x=>c (by show Uf (gr ZQ (upN (Gm s.par) s.ae k) k);rw[hat];exact x);have s1:WN s (k+1)=WN s k:=Yig qf c4;refine xx ?_;refine⟨k+1,by show k+1<=n;omega,wz,qx,?_⟩;rw[s1];exact Za.tail _ _ _
  ·have ek:k=s.ae.length:=qf;have eS:seS s={ WN s k with ring:=GE s.ring s.marks,marks:=List.replicate 16 0,ep:=s.ep+1 }:=by rw[ek];rfl
   rw[eS]at hk;obtain⟨S1,hS1⟩:∃S1,S1=(WN s k).ae:=⟨_,rfl⟩
   have eK:WN s k={ s with ae:=S1 }:=by rw[hS1];rfl
   rw[eK]at hk hl ⊢;simp only at hk hl ⊢;rw[<- hl]at hk;clear eS eK;refine xx ?_;refine Z4 (.tk 0 (.tk 1 (.tk 2 (.tk 3 (.tk 5 (.tk 6 (.tk 7 (.tkl 4 (.tkl 8 (.o1 9 (.tk 10 (.tk 11 (.o2 12 (.fin) (.nil)))) (.nil))))))))))) qg qg _ (Za.refl _ _) ?_;refine xx ?_;refine Zb.ap (Zfm (l:=ql) (marks:=s.marks) _ _ q1 hk0 qf fun h1 rv q3 le1 i1 j1 ap=>?_);have hbb1:h1 bb=noC:=ap.1;clear ap;have i10:=i1;obtain⟨ra,rc,rfl,_⟩:=i1.open
   first
   | refine xkp (Za.forget le1) ?_
   | skip
   refine xx ?_;refine JH (e:=5) (z:=.int .u8 0) qg Ypn rfl rfl .i64 .i64 16 qh qh qh ?_;refine ZY fun b4 nb4 zb4=>?_;(try simp only[ZS]at nb4);have n4b:=nb4.1;refine xx ?_;rw[q2]at j1;exact⟨_,_,WJ b4 _ _ _ [] _ h1 qh,hk _ _ _ (le1.trans (GO zb4 _)) (G9 (n:=16) (WE (o:=some (b4,16)) ⟨Nat.le_refl _,zX⟩ rfl qh)) ⟨q3,i10.up (GO zb4 _),j1⟩⟩
def fmS (s:Zg)(r:Zi)(k:Nat):Zg:={ s with ae:=upI (fnF s.par s.marks r.mode) s.ae k }
theorem Zud {bb br D:Nat}{om:Option (Nat×Nat)}{s:Zg}{v:SV}{r:Zi}{q:RV}(ti:Zq s D)(hb0:r.aC=0)(hf0:r.aV=0)(hk0:Ints h .u8 v.k s.marks)(hm:v.m=ovs om s.ae.length)(okm:okO om s.ae.length)
  (hk:∀h',PH.le h h'->K (.tuple #[]) (dB bb (fnS s r) v::dMo om (fnS s r).ae (dR br (fnR s r s.ae.length) q::L)) h') :
  Zb prog 109 [.pointer (some ⟨bb,0,none⟩),.pointer (some ⟨br,0,none⟩)] (dB bb s v::dMo om s.ae (dR br r q::L)) h K:=by
 obtain⟨vp,vm,ve,vx,vo,vd,vt,vk,vr⟩:=v;simp only at hm hk0 hk;have hml:=ti.ml;obtain⟨n,hn⟩:∃n,n=s.ae.length:=⟨_,rfl⟩
 cases om with
 | none =>
  have hn0:s.ae.length=0:=okm;obtain rfl:vm = .slice none 0 0:=hm;obtain⟨t1,t2,t3,t4,t5,t6⟩:=ti.parts;have ts:=ti.sum;have eS:fnS s r=s:=by
   unfold fnS UJ Zmv fnR;rw[hn0];simp [fnT,fnU,upI,hb0]
  have eR:fnR s r s.ae.length=r:=by
   rw[hn0];unfold fnR;simp [fnT,fnU]
  rw[eS,eR]at hk;have hk:=hk h (PH.le_refl _);show Zb prog 109 [.pointer (some ⟨bb,0,none⟩),.pointer (some ⟨br,0,none⟩)] (dB bb s ⟨vp,.slice none 0 0,ve,vx,vo,vd,vt,vk,vr⟩::dR br r q::L) h K;refine eG func109 fun ap nd=>?_;have hbb:h bb=noC:=ap.1;have hbr:h br=noC:=ap.2.1;have nrb:br≠bb:=nd.1.1;clear ap nd;refine xx ?_;refine Y1 (γ:=Unit) () (fun _=>True) (fun _=>[(0,.pointer (some ⟨bb,0,none⟩)),(1,.pointer (some ⟨br,0,none⟩)),(4,.int .i64 0)]) (fun _=>0) trivial qx ?_;rintro⟨⟩ -;refine xx ?_;refine Z4 (.tk 0 (.tk 1 (.tk 2 (.tk 4 (.tk 5 (.tk 6 (.tkl 3 (.tkl 7 (.tk 8 (.tk 9 (.tk 10 (.o2 11 (.fin) (.nil))))))))))))) qg qg _ (Za.refl _ _) ?_
  repeat' first
   | with_reducible refine Yf ?_ ?_
   | with_reducible refine xkp (Za.refl _ _) ?_
   | simp -dsimp -implicitDefEqProofs (disch:=first|exact dD|fail) [go_sem,hb0,hf0]
   | fail
  refine Z4 (.tk 0 (.tk 1 (.tk 2 (.tk 4 (.tk 5 (.tk 6 (.tkl 3 (.tkl 7 (.tk 8 (.tk 9 (.tk 10 (.o2 11 (.fin) (.nil))))))))))))) qg qg _ (Za.refl _ _) ?_
  repeat' first
   | with_reducible refine Yf ?_ ?_
   | with_reducible refine xkp (Za.refl _ _) ?_
   | simp -dsimp -implicitDefEqProofs (disch:=first|exact dD|fail) [go_sem,hb0,hf0]
   | fail
  exact ZP hk
 | some p =>
  obtain⟨bm,cm⟩:=p;obtain rfl:vm = .slice (some ⟨bm,0,none⟩) s.ae.length cm:=hm;refine eG func109 fun ap nd=>?_;have hbb:h bb=noC:=ap.1;have hbm:h bm=noC:=ap.2.1;have hbr:h br=noC:=ap.2.2.1;have nmb:bm≠bb:=nd.1.1;have nrb:br≠bb:=nd.1.2.1;have nrm:br≠bm:=nd.2.1.1;clear ap nd;refine xx ?_;refine Yi (γ:=Nat×PH) (0,h) (fun y=>y.1<=n/\PH.le h y.2/\y.2 bb=noC/\y.2 bm=noC/\y.2 br=noC)
   (fun y=>[(0,.pointer (some ⟨bb,0,none⟩)),(1,.pointer (some ⟨br,0,none⟩)),(4,.int .i64 y.1)])
   (fun y=>dB bb (fmS s r y.1) ⟨vp,.slice (some ⟨bm,0,none⟩) (fmS s r y.1).ae.length cm,ve,vx,vo,vd,vt,vk,vr⟩::dM bm cm (fmS s r y.1).ae::dR br (fnR s r y.1) q::L) (fun y=>y.2) (fun y=>n-y.1)
   ⟨Nat.zero_le _,PH.le_refl _,hbb,hbm,hbr⟩ qx (by rw[show fnR s r 0=r by unfold fnR;simp [fnT,fnU]];exact Za.refl _ _) ?_
  rintro⟨k,h1⟩ ⟨hkn,le1,abb,abm,abr⟩;simp only at hkn le1 abb abm abr ⊢;have hl:(fmS s r k).ae.length=s.ae.length:=WY _ _ _;refine cu ?_;by_cases c1:k<s.ae.length
  ·have hki:k<(fmS s r k).ae.length:=qf;have tk:=Zes ti r (k:=k) qf;have mo:Zf (gr ZQ (fmS s r k).ae k):=tk.be.m _ (Yp (z:=ZQ) hki);have hat:gr ZQ (fmS s r k).ae k=gr ZQ s.ae k:=Jn (fnF s.par s.marks r.mode) s.ae (k:=k) qf;obtain⟨g0,g1,g2,g3,g4,g5⟩:=Zah hki;have hi6:=YC (w:=6) hki (show 5<6 from qh);have hsum:=Zbl (ms:=(fmS s r k).ae) rfl;refine l9 ?_;refine Y3 (gr ZQ (fmS s r k).ae k) ?_;by_cases c:(gr ZQ (fmS s r k).ae k).status=2\/(gr ZQ (fmS s r k).ae k).status=3
   ·rw[decide_eq_true c];have c4:Uf (gr ZQ s.ae k):=by rw[<- hat];exact c
    refine xx ?_;refine Zew (s:=fmS s r k) (v:=⟨vp,.slice (some ⟨bm,0,none⟩) (fmS s r k).ae.length cm,ve,vx,vo,vd,vt,vk,vr⟩) rfl qf (hk0.up le1) k hki ?_;rw[decide_eq_true (show Uf (gr ZQ (fmS s r k).ae k) from c),Bool.true_and]
    cases c5:Wm s.marks k with
    | true =>
     have c5':Wm (fmS s r k).marks k=true:=c5;rw[c5'];have cc:¬fnC s.marks k (gr ZQ s.ae k):=fun x=>by
      have e:Wm s.marks k=false:=x.2;rw[c5]at e;cases e
     refine xx ?_;have s1:fmS s r (k+1)=fmS s r k:=by unfold fmS;rw[Gx _ _ c1 (if_neg cc)]
     have s2:fnR s r (k+1)=fnR s r k:=(Zrc (r:=r) c1 cc).2;refine⟨k+1,h1,⟨qf,le1,abb,abm,abr⟩,qf,qx,?_⟩;rw[s1,s2];exact Za.refl _ _
    | false =>
     have c5':Wm (fmS s r k).marks k=false:=c5;rw[c5'];have cc:fnC s.marks k (gr ZQ s.ae k):=⟨c4,c5⟩
     refine xx ?_;refine Z4 (.tk 0 (.tk 1 (.tk 2 (.tk 4 (.tk 5 (.tk 6 (.tk 8 (.tk 12 (.tk 13 (.tk 14 (.tkl 3 (.tkl 7 (.tk 9 (.tk 10 (.tkl 11 (.tkl 15 (.o1 16 (.tk 17 (.fin)) (.nil)))))))))))))))))) qg qg _ (Za.refl _ _) ?_
     repeat' first
      | with_reducible refine Yf ?_ ?_
      | with_reducible refine xkp (Za.refl _ _) ?_
      | simp -dsimp -implicitDefEqProofs (disch:=first|exact dD|fail) [go_sem,g0,g1,g2,g3,g4,g5]
      | fail
     refine Zb.ap (Zse s.par ti.ok.p ti.r (gr ZQ (fmS s r k).ae k) mo r.mode fun h2 le2 ap=>?_);have bbb:h2 bb=noC:=ap.1;have bbm:h2 bm=noC:=ap.2.1;have bbr:h2 br=noC:=ap.2.2.1;clear ap;obtain⟨hf,b1,b2,b3,b4⟩:=GV ti.ok.p ti.r mo r.mode
     repeat' first
      | with_reducible refine Yf ?_ ?_
      | with_reducible refine xkp (Za.forget le2) ?_
      | with_reducible refine xkp (Za.refl _ _) ?_
      | simp -dsimp -implicitDefEqProofs (disch:=first|exact dD|fail) [go_sem,g0,g1,g2,g3,g4,g5]
      | fail
     have ub:=mo.u (gr ZQ (fmS s r k).ae k).bal qj;refine Zb.ap (Zup s.par ti.ok.p ti.r _ qf fun h3 le3 ap=>?_);have dbb:h3 bb=noC:=ap.1;have dbm:h3 bm=noC:=ap.2.1;have dbr:h3 br=noC:=ap.2.2.1;clear ap;obtain⟨u1,u2,u3⟩:=Yjj ti r (k:=k) qf;obtain⟨t1,t2,t3,t4,t5,t6⟩:=ti.parts;have ts:=ti.sum;have hbl:(gr ZQ (fmS s r k).ae k).bal<=tot ((fmS s r k).ae.map Zc.bal):=(tk.be.bl (i:=k) hki).2;have u4:Zbb s r k+tot ((fmS s r k).ae.map Zc.bal)=tot (s.ae.map Zc.bal):=u3;have w2:0<=(fnR s r k).aC/\(fnR s r k).aC+YV s.par (gr ZQ (fmS s r k).ae k) r.mode<=18446744073709551615:=by
      show 0<=r.aC+Gl s r k/\r.aC+Gl s r k+_<=_;omega
     have w3:0<=(fnR s r k).aV/\(fnR s r k).aV+YV s.par (gr ZQ (fmS s r k).ae k) r.mode<=18446744073709551615:=by
      show 0<=r.aV+(Zbb s r k-Gl s r k)/\r.aV+(Zbb s r k-Gl s r k)+_<=_;omega
     refine l9 ?_;refine⟨qf,k+1,h3,⟨qf,le1.trans (le2.trans le3),dbb,dbm,dbr⟩,qf,qx,?_⟩;have hset:((fmS s r k).ae.flatMap YD).set (k*6) (.int .u64 ((gr ZQ (fmS s r k).ae k).bal-YV s.par (gr ZQ (fmS s r k).ae k) r.mode))=((fmS s r k).ae.set k (U4 s.par (gr ZQ (fmS s r k).ae k) r.mode)).flatMap YD:=Wj Z8 ZQ (fmS s r k).ae (m:=0) hki qh rfl;have s1:fmS s r (k+1)={ fmS s r k with ae:=(fmS s r k).ae.set k (U4 s.par (gr ZQ (fmS s r k).ae k) r.mode) }:=by
      show ({ s with ae:=upI (fnF s.par s.marks r.mode) s.ae (k+1) }:Zg)={ s with ae:=(upI (fnF s.par s.marks r.mode) s.ae k).set k (U4 s.par (gr ZQ (fmS s r k).ae k) r.mode) };rw[upI,fnF,if_pos cc,hat]
     have s2:=(Zxi (r:=r) c1 cc).2;rw[hset,s1,s2,<- hat];simp only[List.length_set];exact Za.refl _ _
   ·rw[decide_eq_false c];have cc:¬fnC s.marks k (gr ZQ s.ae k):=fun x=>c (by rw[hat];exact x.1);refine xx ?_;have s1:fmS s r (k+1)=fmS s r k:=by unfold fmS;rw[Gx _ _ c1 (if_neg cc)]
    have s2:fnR s r (k+1)=fnR s r k:=(Zrc (r:=r) c1 cc).2;refine⟨k+1,h1,⟨qf,le1,abb,abm,abr⟩,qf,qx,?_⟩;rw[s1,s2];exact Za.refl _ _
  ·have ek:k=s.ae.length:=qf;have eS:fnS s r={ fmS s r k with aG:=s.aG+(fnR s r k).aC,an:=s.an+(fnR s r k).aV }:=by
    subst ek;unfold fnS UJ Zmv fmS fnR;simp only[hb0,hf0]
    congr 1
    omega
   rw[eS]at hk;obtain⟨u1,u2,u3⟩:=Yjj ti r (k:=k) qf;obtain⟨t1,t2,t3,t4,t5,t6⟩:=ti.parts;have ts:=ti.sum;have tk:=Zes ti r (k:=k) qf;have tp:=tk.parts.2.1;have u4:Zbb s r k+tot ((UJ s r k).ae.map Zc.bal)=tot (s.ae.map Zc.bal):=u3;have w2:0<=(fnR s r k).aC/\s.aG+(fnR s r k).aC<=18446744073709551615:=by
    show 0<=r.aC+Gl s r k/\s.aG+(r.aC+Gl s r k)<=_;omega
   have w3:0<=(fnR s r k).aV/\s.an+(fnR s r k).aV<=18446744073709551615:=by
    show 0<=r.aV+(Zbb s r k-Gl s r k)/\s.an+(r.aV+(Zbb s r k-Gl s r k))<=_;omega
   have e1:(fmS s r k).aG=s.aG:=rfl;have e2:(fmS s r k).an=s.an:=rfl;have:=hk h1 le1;refine xx ?_;refine Z4 (.tk 0 (.tk 1 (.tk 2 (.tk 4 (.tk 5 (.tk 6 (.tkl 3 (.tkl 7 (.tk 8 (.tk 9 (.tk 10 (.o2 11 (.fin) (.nil))))))))))))) qg qg _ (Za.refl _ _) ?_
   repeat' first
    | with_reducible refine Yf ?_ ?_
    | with_reducible refine xkp (Za.refl _ _) ?_
    | simp -dsimp -implicitDefEqProofs (disch:=first|exact dD|fail) [go_sem,e1,e2]
    | fail
   refine Z4 (.tk 0 (.tk 1 (.tk 2 (.tk 4 (.tk 5 (.tk 6 (.tkl 3 (.tkl 7 (.tk 8 (.tk 9 (.tk 10 (.o2 11 (.fin) (.nil))))))))))))) qg qg _ (Za.refl _ _) ?_
   repeat' first
    | with_reducible refine Yf ?_ ?_
    | with_reducible refine xkp (Za.refl _ _) ?_
    | simp -dsimp -implicitDefEqProofs (disch:=first|exact dD|fail) [go_sem,e1,e2]
    | fail
   rw[<- ek]at this;exact ZP (by rw[hl,<- ek];exact this)
abbrev dP (bp cp:Nat)(ps:List Int):Zn:=⟨bp,22,ps.map (.int .u64),cp⟩
theorem Zhi (l:List Zc)(ks:List Int)(j:Nat):∀d,∃t,thI l ks (j+d)=thI l ks j++t
 | 0=>⟨[],qj⟩
 | d+1=>by
  obtain⟨t,ht⟩:=Zhi l ks j d;rw[show j+(d+1)=(j+d)+1 from qf,Vc];split
  ·exact⟨t++[j+d],by rw[ht,List.append_assoc]⟩
  ·exact⟨t,ht⟩
theorem Ygh {l:List Zc}{ks:List Int}{n i:Nat}(hin:i<n)(hc:Jf (gr ZQ l i)=true)(hg:Wm ks i=true):(thI l ks i).length<(thI l ks n).length/\(thI l ks n).getD (thI l ks i).length 0=i:=by
 obtain⟨t,ht⟩:=Zhi l ks (i+1) (n-(i+1));rw[show i+1+(n-(i+1))=n from qf]at ht;have e:thI l ks (i+1)=thI l ks i++[i]:=by rw[Vc,hc,hg];rfl
 rw[ht,e]
 constructor
 ·rw[List.length_append,List.length_append,List.length_singleton];omega
 ·rw[List.getD_eq_getElem?_getD,List.append_assoc,List.getElem?_append_right (Nat.le_refl _),Nat.sub_self];rfl
def dmS (s:Zg)(r:Zi)(k:Nat):Zg:={ s with aB:=s.aB+mtN s r,ae:=(mtX s r k).1,ag:=(mtX s r k).2 }
abbrev cnK (s:Zg)(i:Nat):Nat:=(thI s.ae s.marks i).length
theorem Ykq {s:Zg}{i:Nat}(hc:Jf (gr ZQ s.ae i)=true)(hg:Wm s.marks i=true):cnK s (i+1)=cnK s i+1:=by
 show (thI _ _ _).length=_;rw[Vc,hc,hg];simp
theorem Yhr {s:Zg}{i:Nat}(hc:(Jf (gr ZQ s.ae i)&&Wm s.marks i)=false):cnK s (i+1)=cnK s i:=by
 show (thI _ _ _).length=_;rw[Vc,hc];simp
theorem Yrq {s:Zg}{i:Nat}(hi:i<=s.ae.length):cnK s i<=(mtW s).length:=by
 obtain⟨t,ht⟩:=Zhi s.ae s.marks i (s.ae.length-i);rw[show i+(s.ae.length-i)=s.ae.length from qf]at ht;show (thI _ _ _).length<=(thI _ _ _).length;rw[ht,List.length_append];omega
section
variable {e0 s0 e1 s1:Nat} {o0 o1:Option (Nat×Nat)} {X0 X1:List Value} {a b c d x y z:Zn}
theorem permD1:(a::b::c::oent e0 s0 o0 X0 L).Perm (a::oent e0 s0 o0 X0 (b::c::L)):=List.Perm.cons _ (Z6 [b,c])
theorem permD2:(a::x::y::d::L).Perm (a::d::x::y::L):=List.Perm.cons _ (List.perm_middle (l₁:=[x,y]))
theorem Zqh:(a::b::c::oent e0 s0 o0 X0 (oent e1 s1 o1 X1 L)).Perm (oent e1 s1 o1 X1 (a::b::c::oent e0 s0 o0 X0 L)):=by
 have h1:(oent e0 s0 o0 X0 (oent e1 s1 o1 X1 L)).Perm (oent e1 s1 o1 X1 (oent e0 s0 o0 X0 L)):=Yq o0 o1 X0 X1 L;exact(((h1.cons c).cons b).cons a).trans (Z6 [a,b,c])
end
theorem Gi {bb bm cm:Nat}{x y:Zn}{s:Zg}{v:SV}(hm:v.m = .slice (some ⟨bm,0,none⟩) s.ae.length cm)(hml:s.ae.length<=1000)(hkm:Ints h .u8 v.k s.marks)(i:Nat)(hi:i<s.ae.length)
  (hk:K (.bool (decide (Uf (gr ZQ s.ae i))&&Wm s.marks i)) (dB bb s v::x::y::dM bm cm s.ae::L) h) :
  Zb prog 234 [.pointer (some ⟨bb,0,none⟩),.int .i64 i] (dB bb s v::x::y::dM bm cm s.ae::L) h K :=
 Zb.fin (Zb.weaken (Za.perm _ permD2) (Zew hm hml hkm i hi ⟨_,_,Za.perm _ permD2.symm,hk⟩))
structure DmG where
 i:Nat
 o:Option (Nat×Nat)
theorem Ybo {bb br bp cp D:Nat}{om:Option (Nat×Nat)}{s:Zg}{v:SV}{r:Zi}{q:RV}(ti:Zq s D)(ha:0<=r.act/\r.act<=18446744073709551615)(hp0:r.aU=0)(hpv:v.p = .slice (some ⟨bp,0,none⟩) s.ag.length cp)(hk0:Ints h .u8 v.k s.marks)(hm:v.m=ovs om s.ae.length)(okm:okO om s.ae.length)
    (hk:∀h',PH.le h h'->K (.tuple #[]) (dB bb (mtS s r) v::dR br (mtR s r) q::dP bp cp (mtS s r).ag::dMo om (mtS s r).ae L) h') :
    Zb prog 108 [.pointer (some ⟨bb,0,none⟩),.pointer (some ⟨br,0,none⟩)] (dB bb s v::dR br r q::dP bp cp s.ag::dMo om s.ae L) h K:=by
  obtain⟨vp,vm,ve,vx,vo,vd,vt,vk,vr⟩:=v;simp only at hpv hm hk0 hk ⊢;subst hpv hm;have hml:=ti.ml;have hpl:=ti.pl;have ht:=ti.top;have u1:=ti.ok.u s.gen qj;have u2:=ti.ok.u s.aB qj;have u3:=ti.ok.u s.most qj;have u4:=ti.ok.u s.an qj;have hn:=Yrn ti ha;have hsum:=ti.sum;obtain⟨p1,p2,p3,p4,p5,p6⟩:=ti.parts;obtain⟨n,en⟩:∃n,n=mtN s r:=⟨_,rfl⟩
  obtain⟨N,hN⟩:∃N,N=s.ae.length:=⟨_,rfl⟩
  refine eG func108 fun ap nd=>?_;have hbb:h bb=noC:=ap.1;have hbr:h br=noC:=ap.2.1;have hbp:h bp=noC:=ap.2.2.1;have hbm:apO om [] h:=Yk ap.2.2.2;have nrb:NeB bb br:=Ne.symm nd.1.1;have npb:NeB bb bp:=Ne.symm nd.1.2.1;have nmb:apB om bb:=Z3 nd.1.2.2;have npr:NeB br bp:=Ne.symm nd.2.1.1;have nmr:apB om br:=Z3 nd.2.1.2;have nmp:apB om bp:=Z3 nd.2.2.1;clear ap nd;refine xx ?_;refine Z4 (.tk 0 (.tk 1 (.tk 2 (.tk 3 (.tk 5 (.tk 6 (.tk 7 (.tk 9 (.tk 10 (.tk 11 (.tk 13 (.tk 14 (.tk 15 (.tk 18 (.tk 19 (.tk 20 (.tk 22 (.tk 23 (.tk 24 (.tkl 4 (.tkl 8 (.tkl 12 (.tkl 16 (.tk 17 (.tkl 21 (.tkl 25 (.o1 26 (.o1 27 (.tk 28 (.tk 29 (.o2 30 (.fin) (.nil)))) (.nil)) (.nil)))))))))))))))))))))))))))) qg qg _ (Za.refl _ _) ?_;refine xx ?_;refine Znr r.mode ?_
  repeat' first
    | with_reducible refine xkp (Za.refl _ _) ?_
    | simp -dsimp -implicitDefEqProofs (disch:=first|exact dD|fail) [go_sem]
    | fail
  rw[show (decide (r.mode=3)||decide (r.mode=4))=decide (r.mode=3\/r.mode=4) from qj];refine Zb.ap (Zsy s.par ti.ok.p r.act (s.gen+s.aB) s.most r.mode ha qf qf fun h1 le1 ap=>?_);have hbb1:h1 bb=noC:=ap.1;have hbr1:h1 br=noC:=ap.2.1;have hbp1:h1 bp=noC:=ap.2.2.1;have hbm1:apO om [] h1:=Yk ap.2.2.2;clear ap;rw[show Zbg s.par r.act (s.gen+s.aB) s.most r.mode=n from en.symm];rw[<- en]at hn
  repeat' first
    | with_reducible refine xkp (Za.forget le1) ?_
    | simp -dsimp -implicitDefEqProofs (disch:=first|exact dD|fail) [go_sem]
    | fail
  refine Z4 (.tk 0 (.tk 1 (.tk 2 (.tk 4 (.tk 5 (.tk 6 (.tkl 3 (.tkl 7 (.tk 8 (.tk 9 (.tk 10 (.o2 11 (.fin) (.nil))))))))))))) qg qg _ (Za.refl _ _) ?_;refine xx ?_;obtain⟨ea,ec,em,_⟩:=Z5 okm;rw[<- hN]at em;refine Yi (γ:=DmG) ⟨0,none⟩ (fun y=>y.i<=N/\okO y.o (mtL s y.i).length)
    (fun y=>[(0,.pointer (some ⟨bb,0,none⟩)),(1,.pointer (some ⟨br,0,none⟩)),(4,ovs y.o (mtL s y.i).length),(5,.int .i64 y.i)])
    (fun y=>dB bb { s with aB:=s.aB+n } ⟨.slice (some ⟨bp,0,none⟩) s.ag.length cp,ovs om s.ae.length,ve,vx,vo,vd,vt,vk,vr⟩::dR br { r with aB:=n } q::dP bp cp s.ag::dMo om s.ae (oent 122 4 y.o ((mtL s y.i).flatMap sdC) L)) (fun _=>h1) (fun y=>N-y.i) ?_ ?_ ?_ ?_
  · exact⟨Nat.zero_le _,rfl⟩
  · simp [Ent,List.lookup,YT,mtL,thI,cP,ovs]
  · exact Za.refl _ _
  · rintro⟨i,o⟩ ⟨i1,i2⟩;simp only at i1 i2 ⊢;rw[<- hN,em];by_cases c1:i<N
    · obtain ⟨bm,cm,rfl⟩ : ∃ bm cm,om = some (bm,cm) := by
        cases om with
        | none=>have:s.ae.length=0:=okm;omega
        | some p=>exact⟨_,_,rfl⟩
      simp only[Yl,Value.slice.injEq]at em;obtain⟨rfl,_,rfl⟩:=em;have hbm':h1 bm=noC:=hbm1.2;have e1:NeB bb bm:=Ne.symm nmb;have e2:NeB br bm:=Ne.symm nmr;have e3:NeB bp bm:=Ne.symm nmp;have hib:i<s.ae.length:=qf;obtain⟨g0,g1,g2,g3,g4,g5⟩:=Zah hib;have hi6:=YC (w:=6) hib (show 5<6 from qh);have hsm:=Zbl (ms:=s.ae) rfl;obtain⟨l1,l2,l3⟩:=UM s i;simp only[dMo,Z7];refine xx ?_;refine Gi (s:={ s with aB:=s.aB+n }) (v:=⟨.slice (some ⟨bp,0,none⟩) s.ag.length cp,.slice (some ⟨bm,0,none⟩) N cm,ve,vx,vo,vd,vt,vk,vr⟩) (by rw[hN]) (by show s.ae.length<=1000;omega) (hk0.up le1) i hib ?_;have s1:=Zbr (s:=s) (k:=i)
      cases hcg:(Jf (gr ZQ s.ae i)&&Wm s.marks i) with
      | true =>
        have hcg':(decide (Uf (gr ZQ ({ s with aB:=s.aB+n }:Zg).ae i))&&Wm ({ s with aB:=s.aB+n }:Zg).marks i)=true:=hcg;rw[hcg,if_pos rfl]at s1;rw[hcg'];have s3:(mtL s (i+1)).length=(mtL s i).length+1:=by rw[s1,List.length_append];rfl
        refine lI ?_;refine ZY fun b74 nb74 zb74=>?_;(try simp only[ZS]at nb74);refine xx ?_;refine ZZ (t:=311) (e:=122) (sz:=4) (bytes:=32) qg Yiq rfl rfl rfl rfl qh [_,_,_,_,_] _ o (mtL s i).length ((mtL s i).flatMap sdC) i2 (Z1 G3 _) (Src.own (b:=b74) (t:=122) (cap:=4) List.mem_cons_self) (m:=1) (news:=sdC (gr ZQ s.ae i)) rfl (Zmt _) qm qf ?_;intro o' j1 j2 j3;simp only[List.cons_append,List.nil_append];refine xx ?_;refine⟨⟨i+1,o'⟩,⟨qp,by simp only;rw[s3];exact j1⟩,qp,by simp [Ent,List.lookup,s3],?_⟩;simp only;rw[s1,List.flatMap_append];simp only[List.flatMap_cons,List.flatMap_nil,List.append_nil];exact Za.tail _ _ _
      | false =>
        have hcg':(decide (Uf (gr ZQ ({ s with aB:=s.aB+n }:Zg).ae i))&&Wm ({ s with aB:=s.aB+n }:Zg).marks i)=false:=hcg;rw[hcg,if_neg qh]at s1;rw[hcg'];refine xx ?_;refine⟨⟨i+1,o⟩,⟨qp,by simp only;rw[s1];exact i2⟩,qp,by simp [Ent,List.lookup,s1],?_⟩;simp only;rw[s1];exact Za.refl _ _
    obtain rfl:i=N:=qf;refine xx ?_;refine Z4 (.tk 0 (.tk 1 (.tk 2 (.tk 4 (.tk 5 (.tk 6 (.tk 8 (.tkl 3 (.tkl 7 (.o1 9 (.tk 10 (.tk 11 (.tk 12 (.tk 13 (.tk 14 (.fin)))))) (.nil))))))))))) qg qg [_,_,_] (drop_left [_,_,_] _ _) ?_;refine xx ?_;refine Zb.entr fun ap nd=>?_;have aol:=Yk (Ap.perm Zqh ap);clear ap nd;have lx:=YL aol ((mtL s i).flatMap sdC);have sx:=WE (h:=h1) (sz:=4) (n:=(mtL s i).length) (o:=o) (xs:=(mtL s i).flatMap sdC) i2 (Z1 G3 _) (by have:=(UM s i).2.1;omega);refine Zb.weaken ((Za.perm h1 Zqh).trans (YG o _ _ h1 qh)) ?_
    generalize Jh h1 o ((mtL s i).flatMap sdC)=h2 at lx sx ⊢
    have rl:Zd sdC 4 h2 (ovs o (mtL s i).length) (mtL s i):=Zd.pub G3 sx;have hL:mtL s i=mtL s s.ae.length:=by rw[hN]
    have hNl:=UM s s.ae.length;rw[hL]at rl ⊢;refine Zb.ap (Zke s.par ti.ok.p ti.r _ rl (Zwl ti _ (Nat.le_refl _)) qf n qf fun h3 rv le3 iv ap=>?_);have hbb3:h3 bb=noC:=ap.1;have hbr3:h3 br=noC:=ap.2.1;have hbp3:h3 bp=noC:=ap.2.2.1;have hbm3:apO om [] h3:=Yk ap.2.2.2;clear ap;have le13:=lx.trans le3;refine xkp ((drop_left [_,_,_] _ _).trans (Za.forget le13)) ?_;have eP:Ui s.par n (mtL s s.ae.length)=mtP s r:=by rw[en];rfl
    rw[eP]at iv ⊢;have hPl:(mtP s r).length=(mtW s).length:=(Yjm ti ha).2.1;obtain⟨ra,rc,rfl,_,_,_,hrs⟩:=iv.open;obtain⟨M,hM⟩:∃M,M=(mtP s r).length:=⟨_,rfl⟩
    rw[<- hM]at hrs ⊢;have e0:mtX s r 0=(s.ae,s.ag):=rfl;have er0:Zlp s r 0={ r with aB:=n }:=by
      rw[en];show ({ r with aB:=mtN s r,aU:=r.aU+YE (mtP s r) 0 }:Zi)=_;rw[show YE (mtP s r) 0=0 from rfl,Int.add_zero]
    have cnl:=fun j (hj:j<=s.ae.length)=>Yrq (s:=s) hj;refine xx ?_;refine Yi (γ:=Nat) 0 (fun j=>j<=i)
      (fun j=>[(0,.pointer (some ⟨bb,0,none⟩)),(1,.pointer (some ⟨br,0,none⟩)),(6,.slice ra M rc),(7,.int .u64 (n-tot (mtP s r))),(8,.int .i64 (cnK s j)),(9,.int .i64 j)])
      (fun j=>dB bb (dmS s r (cnK s j)) ⟨.slice (some ⟨bp,0,none⟩) s.ag.length cp,ovs om i,ve,vx,vo,vd,vt,vk,vr⟩::dR br (Zlp s r (cnK s j)) q::dP bp cp (mtX s r (cnK s j)).2::dMo om (mtX s r (cnK s j)).1 L) (fun _=>h3) (fun j=>i-j) ?_ ?_ ?_ ?_
    · exact Nat.zero_le _
    · simp [Ent,List.lookup]
      rfl
    · rw[show cnK s 0=0 from rfl,er0,e0];rw[em];unfold dmS;rw[e0,<- en];exact Za.refl _ _
    clear er0 e0;have le03:=le1.trans le13;intro j j1;have hjc:=cnl j qf;have h0:=Ymd ti ha (k:=cnK s j) hjc;have hXl:(mtX s r (cnK s j)).1.length=s.ae.length:=h0.l1;have hX2:(mtX s r (cnK s j)).2.length=s.ag.length:=h0.l2;have hst:=h0.s j;have h0p:=h0.b.p;by_cases c2:j<i
    · obtain ⟨bm,cm,rfl⟩ : ∃ bm cm,om = some (bm,cm) := by
        cases om with
        | none=>have:s.ae.length=0:=okm;omega
        | some p=>exact⟨_,_,rfl⟩
      simp only[Yl,Value.slice.injEq]at em;obtain⟨rfl,_,rfl⟩:=em;have hbm':h3 bm=noC:=hbm3.2;have e1:NeB bb bm:=Ne.symm nmb;have e2:NeB br bm:=Ne.symm nmr;have e3:NeB bp bm:=Ne.symm nmp;obtain⟨m,hmm⟩:∃m,m=gr ZQ (mtX s r (cnK s j)).1 j:=⟨_,rfl⟩
      have hsc:(decide (Uf m)&&Wm s.marks j)=(Jf (gr ZQ s.ae j)&&Wm s.marks j):=by
        rw[hmm];unfold Uf Jf;rw[hst.1]
      obtain⟨MS,hMS⟩:∃MS,MS=(mtX s r (cnK s j)).1:=⟨_,rfl⟩
      have hjl:j<MS.length:=by rw[hMS];omega
      have hg:=Zah hjl;rw[hMS,<- hmm,<- hMS]at hg;obtain⟨g0,g1,g2,g3,g4,g5⟩:=hg;have hi6:=YC (w:=6) hjl (show 5<6 from qh);have hsm:=Zbl (ms:=MS) rfl;simp only[dMo,Z7,Yl];refine xx ?_;refine Gi (s:=dmS s r (cnK s j)) (v:=⟨.slice (some ⟨bp,0,none⟩) s.ag.length cp,.slice (some ⟨bm,0,none⟩) i cm,ve,vx,vo,vd,vt,vk,vr⟩) (by show _=Value.slice _ (mtX s r (cnK s j)).1.length _;rw[hXl,hN]) (by show (mtX s r (cnK s j)).1.length<=1000;omega) (hk0.up le03) j (by show j<(mtX s r (cnK s j)).1.length;omega) ?_;have hsc':(decide (Uf (gr ZQ (dmS s r (cnK s j)).ae j))&&Wm (dmS s r (cnK s j)).marks j)=(Jf (gr ZQ s.ae j)&&Wm s.marks j):=by rw[<- hsc,hmm];rfl
      rw[hsc']
      cases hcg:(Jf (gr ZQ s.ae j)&&Wm s.marks j) with
      | false =>
        refine xx ?_;refine⟨j+1,qf,qf,by simp [Ent,List.lookup,Yhr hcg],?_⟩;rw[Yhr hcg];exact Za.refl _ _
      | true =>
        rw[Bool.and_eq_true]at hcg;have hc1:=Ykq hcg.1 hcg.2;obtain⟨x1,x2⟩:=Ygh (n:=s.ae.length) qf hcg.1 hcg.2;have hck:cnK s j<(mtW s).length:=x1;obtain⟨a,haa⟩:∃a,a=at0 (mtP s r) (cnK s j):=⟨_,rfl⟩
        obtain⟨z1,z2,z3,z4,z5,z6,z7,z8,z9,z10,z11,z12,z13,z14⟩:=Zvx ti ha hck x2.symm hmm haa;refine xx ?_;obtain⟨C,hC⟩:∃C,C=cnK s j:=⟨_,rfl⟩
        rw[<- hC]at z2 z5 z7 z9 z10 z11 z12 z13 hX2 hXl haa hc1 hMS hck ⊢;obtain⟨PS,hPS⟩:∃PS,PS=(mtX s r C).2:=⟨_,rfl⟩
        rw[<- hMS]at z11 hXl;rw[<- hPS]at z5 z7 z12 ⊢;obtain⟨S,hS⟩:∃S,S=dmS s r C:=⟨_,rfl⟩
        have t2:S.par=s.par:=by rw[hS];rfl
        have t3:S.ae=MS:=by rw[hS,hMS];rfl
        have t4:S.ag=PS:=by rw[hS,hPS];rfl
        have f1:dmS s r (C+1)={ S with ae:=MS.set j (Uq s.par m a).1,ag:=PS.set m.owner.toNat (at0 PS m.owner.toNat+(Uq s.par m a).2) }:=by
          unfold dmS;rw[z11,z12,hS]
          rfl
        have f2:Zlp s r (C+1)={ Zlp s r C with aU:=(Zlp s r C).aU+a }:=by
          show ({ r with aB:=mtN s r,aU:=r.aU+YE (mtP s r) (C+1) }:Zi)={ r with aB:=mtN s r,aU:=r.aU+YE (mtP s r) C+a };rw[z13,Int.add_assoc]
        obtain⟨R,hR⟩:∃R,R=Zlp s r C:=⟨_,rfl⟩
        have t5:R.aU=YE (mtP s r) C:=by
          rw[hR];show r.aU+YE (mtP s r) C=_;omega
        rw[<- t5]at z10;rw[<- hR]at f2;rw[<- hS,<- hR,t3];obtain⟨J,hJ⟩:=Int.eq_ofNat_of_zero_le z4.1;have hJt:m.owner.toNat=J:=qf;have hJl:J<PS.length:=qf;rw[hJt]at z7 f1;have hpos:0<=at0 PS J:=by rw[hPS,hC];exact h0p J
        have gp:∀(K:Value->Prop) (t:Zm K),VE (PS.map (.int .u64)) J K t=K (.int .u64 (at0 PS J)):=fun K t=>Vd .u64 _ J K t hJl;obtain⟨Q,hQ⟩:∃Q,Q=Uq s.par m a:=⟨_,rfl⟩
        have okS:Zj S.par:=by rw[t2];exact ti.ok.p
        have hMS2:S.ae.length=s.ae.length:=by rw[t3];exact hXl
        rw[<- t2]at hQ;have hst4:=Zev hjl Q.1 (by rw[hQ,t2,z14,hmm,hMS,hC]) (by rw[hQ,t2];show m.status=_;rw[hmm,hMS,hC]);have hX3:j<(MS.set j Q.1).length:=by rw[List.length_set];exact hjl
        have q4:∀(K:Value->Prop) (t:Zm K),VE ((MS.set j Q.1).flatMap YD) (j*6+4) K t=K (.int .i64 J):=fun K t=>Yu Z8 ZQ _ (m:=4) hX3 qh (by rw[Ye hX3,List.getElem_set_self,<- hJ,hQ,t2,<- z14];rfl) K t;rw[<- t2,<- hQ]at z7 z8 f1;have hsm2:=Zbl (ms:=MS.set j Q.1) (n:=MS.length) (by rw[List.length_set]);refine YN (.tk 0 (.tk 1 (.tk 2 (.tk 4 (.tk 5 (.tk 6 (.tk 8 (.tk 12 (.tk 13 (.tk 14 (.tkl 3 (.tkl 7 (.tk 9 (.tk 10 (.tkl 11 (.tkl 15 (.o1 16 (.tk 17 (.tk 18 (.tk 19 (.o1 20 (.o2 21 (.tk 22 (.fin)) (.nil)) (.nil))))) (.o1 20 (.o1 16 (.tk 17 (.tk 18 (.tk 19 (.o2 21 (.tk 22 (.fin)) (.nil))))) (.nil)) (.nil))))))))))))))))))) qg qg [(0,.pointer (some ⟨bb,0,none⟩)),(1,.pointer (some ⟨br,0,none⟩)),(6,.slice ra M rc),(7,.int .u64 (n-tot (mtP s r))),(8,.int .i64 C),(9,.int .i64 j)] _ (γ:=Nat) (fun b10=>h3 b10=noC/\bb≠b10/\br≠b10/\bp≠b10/\bm≠b10)
          (fun b10=>[(0,.pointer (some ⟨bb,0,none⟩)),(1,.pointer (some ⟨br,0,none⟩)),(6,.slice ra M rc),(7,.int .u64 (n-tot (mtP s r))),(8,.int .i64 C),(9,.int .i64 j),(10,.pointer (some ⟨b10,0,none⟩)),(11,.int .u64 Q.2)])
          (fun b10=>⟨b10,122,sdC Q.1,4⟩::dB bb S ⟨.slice (some ⟨bp,0,none⟩) s.ag.length cp,.slice (some ⟨bm,0,none⟩) i cm,ve,vx,vo,vd,vt,vk,vr⟩::dR br R q::dP bp cp PS::dM bm cm MS::L) (fun _=>h3) qi (Za.refl _ _) ?_ ?_
        · repeat' first
            | with_reducible refine Yf ?_ ?_
            | simp -dsimp -implicitDefEqProofs (disch:=first|exact dD|fail) [go_sem,g0,g1,g2,g3,idx hrs,<- haa]
            | (with_reducible refine ZY fun b10 nb10 zb10 => ?_
               simp only[ZS]at nb10)
            | (with_reducible show WW prog 238 _ _ _ _
               refine Zvn S.par okS m z3 a qf ?_
               rw[<- hQ])
            | with_reducible refine xkp (Za.refl _ _) ?_
            | with_reducible refine xkp (Za.tail _ _ _) ?_
            | fail
          all_goals exact⟨b10,⟨zb10,nb10.1,nb10.2.1,nb10.2.2.1,nb10.2.2.2.1⟩,qi,Za.refl _ _⟩
        rintro b10 ⟨h10,n0b,n0r,n0p,n0m⟩;have f3:NeB b10 bb:=Ne.symm n0b;have f4:NeB b10 br:=Ne.symm n0r;have f5:NeB b10 bp:=Ne.symm n0p;have f6:NeB b10 bm:=Ne.symm n0m;clear n0b n0r n0p n0m;simp only[sdC];refine xx ?_;refine Z4 (.tk 0 (.tk 1 (.tk 2 (.tk 4 (.tkl 3 (.tkl 5 (.tk 6 (.tk 7 (.o2 8 (.fin) (.nil)))))))))) qg qg _ (Za.refl _ _) ?_;refine xx ?_;refine⟨qf,?_⟩;rw[hst4];refine Z4 (.tk 0 (.tk 1 (.tk 2 (.tk 4 (.tk 5 (.tk 6 (.tk 8 (.tk 12 (.tk 13 (.tk 14 (.tk 16 (.tk 17 (.tk 18 (.tk 20 (.tk 26 (.tkl 3 (.tkl 7 (.tk 9 (.tk 10 (.tkl 11 (.tkl 15 (.tkl 19 (.tk 21 (.tk 22 (.tkl 23 (.tk 24 (.tkl 25 (.tk 27 (.tk 28 (.o2 29 (.fin) (.nil))))))))))))))))))))))))))))))) qg qg _ (Za.refl _ _) ?_;simp -dsimp -implicitDefEqProofs (disch:=first|exact dD|fail) [go_sem,q4,gp];refine⟨qf,?_⟩;refine Z4 (.tk 0 (.tk 1 (.tk 2 (.tk 4 (.tk 5 (.tk 6 (.tkl 3 (.tkl 7 (.tk 8 (.tk 9 (.tk 10 (.o2 11 (.fin) (.nil))))))))))))) qg qg _ (Za.refl _ _) ?_;simp -dsimp -implicitDefEqProofs (disch:=first|exact dD|fail) [go_sem,idx hrs,<- haa];refine⟨j+1,qf,qf,by simp [Ent,List.lookup,hc1],?_⟩;have hps:(PS.map (Value.int .u64)).set J (.int .u64 (at0 PS J+Q.2))=(PS.set J (at0 PS J+Q.2)).map (Value.int .u64):=zU;rw[hc1,f1,f2,z11,z12,hJt,<- t2,<- hQ,hps];exact Za.tail _ _ _
    obtain rfl:j=i:=qf;have eC:cnK s j=(mtW s).length:=by rw[hN];rfl
    have hk:=hk h3 le03;have eR:mtR s r={ Zlp s r (cnK s j) with kept:=n-tot (mtP s r) }:=by rw[eC,en];rfl
    have eS:mtS s r={ dmS s r (cnK s j) with an:=s.an+(n-tot (mtP s r)) }:=by
      have hs1:YE (mtP s r) (mtW s).length=tot (mtP s r):=by rw[<- hPl];rfl
      rw[eC];show ({ s with aB:=s.aB+mtN s r,an:=s.an+mtN s r-YE (mtP s r) (mtW s).length,ae:=(mtX s r (mtW s).length).1,ag:=(mtX s r (mtW s).length).2 }:Zg)={ s with aB:=s.aB+mtN s r,an:=s.an+(n-tot (mtP s r)),ae:=(mtX s r (mtW s).length).1,ag:=(mtX s r (mtW s).length).2 };rw[hs1,<- en,Int.add_sub_assoc]
    obtain⟨C,hC⟩:∃C,C=cnK s j:=⟨_,rfl⟩
    rw[<- hC]at eR eS ⊢;have eM:(mtS s r).ae=(mtX s r C).1:=by rw[eS];rfl
    have ePu:(mtS s r).ag=(mtX s r C).2:=by rw[eS];rfl
    rw[eM,ePu,eR,eS]at hk;have eT:(dmS s r C).an=s.an:=rfl;have ht3:=(Yjm ti ha).2.2 (mtP s r).length (Nat.le_refl _);have ht4:YE (mtP s r) (mtP s r).length=tot (mtP s r):=rfl;rw[<- hN]at hk;rw[em]at hk ⊢;obtain⟨R,hR⟩:∃R,R=Zlp s r C:=⟨_,rfl⟩
    obtain⟨S,hS⟩:∃S,S=dmS s r C:=⟨_,rfl⟩
    rw[<- hR,<- hS]at hk ⊢;rw[<- hS]at eT;simp -dsimp -implicitDefEqProofs (disch:=first|exact dD|fail) [go_sem,eT];exact ZP hk
open Go.RowKit Go.Proofs Go.Bl Go.Proofs.Tryz
variable {L:Own} {h:PH} {K:PK}
theorem Ylm {l:List Int}{j:Nat}(hj:j<l.length){x:Int}(hx:x=at0 l j):l.set j x=l:=by
 rw[hx,<- Ys hj,List.set_getElem_self]
section
variable {e0 s0 e1 s1:Nat} {o0 o1:Option (Nat×Nat)} {X0 X1:List Value} {a b c d x y z:Zn}
theorem permD4:(a::b::c::oent e0 s0 o0 X0 (oent e1 s1 o1 X1 L)).Perm (a::oent e0 s0 o0 X0 (b::oent e1 s1 o1 X1 (c::L))) :=
 permD1.trans (List.Perm.cons _ (Z2 o0 X0 (List.Perm.cons _ oent_perm)))
end
theorem Znt {bb br bp cp D:Nat}{om oo:Option (Nat×Nat)}{s:Zg}{v:SV}{r:Zi}{q:RV}(ti:Zq s D)(hD:D<=30000)(hpv:v.p = .slice (some ⟨bp,0,none⟩) s.ag.length cp)(hd:Zd Yh 3 h v.d s.ai)(hm:v.m=ovs om s.ae.length)(okm:okO om s.ae.length)(t0:Int)(ht0:0<=t0/\t0<=9223372036854775807)
  (hx:Ints h .i64 v.x s.exit) (ho:q.o=ovs oo r.out.length) (oko:okO oo r.out.length) (hol:r.out.length<=700)
  (hk:∀h' d' x' oo',PH.le h h'->Zd Yh 3 h' d' (ejS (ajS s) (min t0 2147483647) (ajS s).ae.length).ai->Ints h' .i64 x' (ejS (ajS s) (min t0 2147483647) (ajS s).ae.length).exit->okO oo' (ejR (ajS s) r (ajS s).ae.length).out.length->K (.tuple #[]) (dB bb (ejS (ajS s) (min t0 2147483647) (ajS s).ae.length) { v with d:=d',x:=x' }::dR br (ejR (ajS s) r (ajS s).ae.length) { q with o:=ovs oo' (ejR (ajS s) r (ajS s).ae.length).out.length }::dP bp cp (ajS s).ag::dMo om (ejS (ajS s) (min t0 2147483647) (ajS s).ae.length).ae (oent 3 1 oo' ((ejR (ajS s) r (ajS s).ae.length).out.map (.int .i64)) L)) h') :
  Zb prog 114 [.pointer (some ⟨bb,0,none⟩),.pointer (some ⟨br,0,none⟩),.int .i64 t0] (dB bb s v::dR br r q::dP bp cp s.ag::dMo om s.ae (oent 3 1 oo (r.out.map (.int .i64)) L)) h K:=by
 obtain⟨vp,vm,ve,vx,vo,vd,vt,vk,vr⟩:=v;simp only at hpv hm hd hx hk ⊢;subst hpv hm;have hep:=ti.ep;have hml:=ti.ml;have hpl:=ti.pl;have hcap:=ti.ok.p.w s.par.cap qB;obtain⟨b1,b2,b3,b4,b5,b6⟩:=ti.parts;have hsum:=ti.sum;obtain⟨N,hN⟩:∃N,N=s.ae.length:=⟨_,rfl⟩
 have hbe:ZD s.ae s.ag:=ti.be.ok qf;refine eG func114 fun ap nd=>?_;have hbb:h bb=noC:=ap.1;have hbr:h br=noC:=ap.2.1;have hbp:h bp=noC:=ap.2.2.1;have hbm:apO om [] h:=Yk ap.2.2.2;have nrb:NeB bb br:=Ne.symm nd.1.1;have npb:NeB bb bp:=Ne.symm nd.1.2.1;have nmb:apB om bb:=Z3 nd.1.2.2;have npr:NeB br bp:=Ne.symm nd.2.1.1;have nmr:apB om br:=Z3 nd.2.1.2;have nmp:apB om bp:=Z3 nd.2.2.1;clear ap nd;obtain⟨ea,ec,em,_⟩:=Z5 okm;rw[<- hN]at em okm hk;rw[<- hN,em];refine xx ?_;rw[<- em];refine Yi (γ:=Nat) 0 (fun k=>k<=N)
  (fun k=>[(6,.int .i64 k),(0,.pointer (some ⟨bb,0,none⟩)),(1,.pointer (some ⟨br,0,none⟩)),(2,.int .i64 t0)])
  (fun k=>dB bb { s with ae:=(clN s.par (s.ae,s.ag) k).1,ag:=(clN s.par (s.ae,s.ag) k).2 } ⟨.slice (some ⟨bp,0,none⟩) s.ag.length cp,ovs om N,ve,vx,vo,vd,vt,vk,vr⟩::dR br r q::dP bp cp (clN s.par (s.ae,s.ag) k).2::dMo om (clN s.par (s.ae,s.ag) k).1 (oent 3 1 oo (r.out.map (.int .i64)) L)) (fun _=>h) (fun k=>N-k) ?_ ?_ ?_ ?_
 ·exact Nat.zero_le _
 ·simp [Ent,List.lookup,YT]
 ·exact Za.refl _ _
 intro k k1;have hx1:=Zkb (q:=s.par) ti.ok.p (x:=(s.ae,s.ag)) hbe k (by show k<=s.ae.length;omega);obtain⟨hl1,hl2⟩:=Vl s.par (s.ae,s.ag) k;simp only at hl1 hl2;by_cases c1:k<N
 ·have eK:clN s.par (s.ae,s.ag) (k+1)=Uc s.par (clN s.par (s.ae,s.ag) k) k:=rfl;have tk:=Zfb ti (k:=k) qf;have hPle:∀j,at0 (clN s.par (s.ae,s.ag) k).2 j<=tot (clN s.par (s.ae,s.ag) k).2:=fun j=>(tk.be.le j).2;have hMle:∀i,i<(clN s.par (s.ae,s.ag) k).1.length->(gr ZQ (clN s.par (s.ae,s.ag) k).1 i).bal<=tot ((clN s.par (s.ae,s.ag) k).1.map Zc.bal):=fun i hi=>(tk.be.bl (i:=i) hi).2;have hTo:tot (clN s.par (s.ae,s.ag) k).2+tot ((clN s.par (s.ae,s.ag) k).1.map Zc.bal)<=4611686018427387904:=by
   have h1:tot (clN s.par (s.ae,s.ag) k).2+tot ((clN s.par (s.ae,s.ag) k).1.map Zc.bal)+Y9 s.ai+tot (s.aj.map Zk.amt)+s.an+s.aG<=4611686018427387904:=tk.sum;omega
  clear tk;obtain⟨X,hX⟩:∃X,X=clN s.par (s.ae,s.ag) k:=⟨_,rfl⟩
  rw[<- hX]at hx1 hl1 hl2 eK hPle hMle hTo ⊢;obtain⟨MS,PS⟩:=X;simp only at hx1 hl1 hl2 hPle hMle hTo ⊢;obtain⟨bm,cm,rfl⟩:∃bm cm,om=some (bm,cm):=by
   cases om with
   | none=>have:N=0:=okm;omega
   | some p=>exact⟨_,_,rfl⟩
  have hbm':h bm=noC:=hbm.2;have e1:NeB bb bm:=Ne.symm nmb;have e2:NeB br bm:=Ne.symm nmr;have e3:NeB bp bm:=Ne.symm nmp;have hkl:k<MS.length:=qf;obtain⟨m,hmk⟩:∃m,m=gr ZQ MS k:=⟨_,rfl⟩
  have hmo:Zf m:=by rw[hmk];exact hx1.m _ (Yp hkl)
  have how:0<=m.owner/\m.owner<(PS.length:Int):=by rw[hmk];exact hx1.o _ (Yp hkl)
  have ub:=hmo.u m.bal qj;have hroom:=Zxs ti.ok.p (x:=(MS,PS)) hx1 hkl;simp only at hroom;rw[<- hmk]at hroom;have eK2:clN s.par (s.ae,s.ag) (k+1)=(MS.set k (W7 s.par m),PS.set m.owner.toNat (at0 PS m.owner.toNat+(m.bal-min m.bal s.par.cap))):=by rw[eK,Uc,<- hmk]
  have hg:=Zah hkl;rw[<- hmk]at hg;obtain⟨g0,g1,g2,g3,g4,g5⟩:=hg;have hi6:=YC (w:=6) hkl (show 5<6 from qh);have hsm:=Zbl (ms:=MS) rfl;obtain⟨j,hj⟩:=Int.eq_ofNat_of_zero_le how.1;have hjt:m.owner.toNat=j:=qf;have hjl:j<PS.length:=qf;have hpos:0<=at0 PS j:=hx1.p j;rw[hjt]at eK2 hroom;have hPj:=hPle j;have hMk:=hMle k hkl;rw[<- hmk]at hMk;have gp:∀(K:Value->Prop) (t:Zm K),VE (PS.map (.int .u64)) j K t=K (.int .u64 (at0 PS j)):=fun K t=>Vd .u64 _ j K t hjl;obtain⟨C,hCl⟩:∃C,C=W7 s.par m:=⟨_,rfl⟩
  have hC1:C.owner=m.owner:=by rw[hCl];rfl
  have hC2:C.status=m.status:=by rw[hCl];rfl
  have hset:=Yoh MS k hkl C;rw[hC1,hC2,hj]at hset;rw[<- hCl]at eK2;simp only[dMo,Z7,Yl];refine cO ?_;refine ZY fun b7 nb7 zb7=>?_;(try simp only[ZS]at nb7);have n7b:NeB b7 bb:=Ne.symm nb7.1;have n7r:NeB b7 br:=Ne.symm nb7.2.1;have n7p:NeB b7 bp:=Ne.symm nb7.2.2.1;have n7m:NeB b7 bm:=Ne.symm nb7.2.2.2.1;clear nb7;refine cO ?_;refine Z4 (.tk 0 (.tk 1 (.tk 3 (.tk 4 (.tk 5 (.tk 6 (.tkl 2 (.tkl 7 (.tk 8 (.fin)))))))))) qg qg _ (Za.refl _ _) ?_;refine xx ?_;by_cases c3:s.par.cap<m.bal
  ·have hmn:min m.bal s.par.cap=s.par.cap:=qf;rw[hmn]at eK2 hroom;refine xx ?_;refine Z4 (.tk 0 (.tk 1 (.tk 2 (.tk 4 (.tk 6 (.tk 7 (.tk 8 (.tk 10 (.tk 14 (.tk 15 (.tk 18 (.tk 19 (.tk 20 (.tk 21 (.tkl 3 (.tkl 5 (.tkl 9 (.tkl 11 (.tk 12 (.tkl 13 (.tkl 16 (.tk 17 (.tkl 22 (.tk 23 (.tk 24 (.o2 25 (.fin) (.nil))))))))))))))))))))))))))) qg qg _ (Za.refl _ _) ?_;simp -dsimp -implicitDefEqProofs (disch:=first|exact dD|fail) [go_sem,hj,gp];refine⟨qf,?_⟩;refine Z4 (.tk 0 (.tk 1 (.tk 2 (.tk 4 (.tkl 3 (.tkl 5 (.o1 6 (.tk 7 (.o2 8 (.fin) (.nil))) (.nil)))))))) qg qg _ (Za.refl _ _) ?_;refine xx ?_;refine Zaq s.par { m with bal:=s.par.cap } ?_;have eC:JV s.par { m with bal:=s.par.cap }=W7 s.par m:=by unfold W7;rw[hmn]
   rw[eC,<- hCl]
   repeat' first
    | with_reducible refine xkp (Za.refl _ _) ?_
    | simp -dsimp -implicitDefEqProofs (disch:=first|exact dD|fail) [go_sem]
    | fail
   refine Z4 (.tk 0 (.tk 1 (.tk 2 (.tk 4 (.tkl 3 (.tkl 5 (.tk 6 (.o2 7 (.fin) (.nil))))))))) qg qg _ (Za.refl _ _) ?_;refine xx ?_;refine⟨qf,?_⟩;have hps:(PS.map (Value.int .u64)).set j (.int .u64 (at0 PS j+m.bal-s.par.cap))=(PS.set j (at0 PS j+(m.bal-s.par.cap))).map (Value.int .u64):=by rw[List.map_set,Int.add_sub_assoc]
   refine⟨k+1,qf,qf,qi,?_⟩;rw[hset,eK2,hps];exact Za.tail _ _ _
  ·have hmn:min m.bal s.par.cap=m.bal:=qf;rw[hmn,Int.sub_self,Int.add_zero,Ylm hjl rfl]at eK2;refine xx ?_;refine Z4 (.tk 0 (.tk 1 (.tk 2 (.tk 4 (.tkl 3 (.tkl 5 (.o1 6 (.tk 7 (.o2 8 (.fin) (.nil))) (.nil)))))))) qg qg _ (Za.refl _ _) ?_;refine xx ?_;refine Zaq s.par m ?_;have eC:JV s.par m=W7 s.par m:=by unfold W7;rw[hmn]
   rw[eC,<- hCl]
   repeat' first
    | with_reducible refine xkp (Za.refl _ _) ?_
    | simp -dsimp -implicitDefEqProofs (disch:=first|exact dD|fail) [go_sem]
    | fail
   refine Z4 (.tk 0 (.tk 1 (.tk 2 (.tk 4 (.tkl 3 (.tkl 5 (.tk 6 (.o2 7 (.fin) (.nil))))))))) qg qg _ (Za.refl _ _) ?_;refine xx ?_;refine⟨qf,?_⟩;refine⟨k+1,qf,qf,qi,?_⟩;rw[hset,eK2];exact Za.tail _ _ _
 obtain rfl:N=k:=qf;have eA:ajS s={ s with ae:=(clN s.par (s.ae,s.ag) N).1,ag:=(clN s.par (s.ae,s.ag) N).2 }:=by rw[hN];rfl
 have ti2:=Zfb ti (Nat.le_refl s.ae.length);have eA2:Zyd s s.ae.length=ajS s:=rfl;rw[eA2]at ti2;have eL1:(ajS s).ae.length=N:=by rw[eA];show (clN s.par (s.ae,s.ag) N).1.length=N;omega
 have eX:(ajS s).exit=s.exit:=rfl;have ePl:(ajS s).ag.length=s.ag.length:=by rw[eA];exact hl2
 obtain⟨A,hA⟩:∃A,A=ajS s:=⟨_,rfl⟩
 rw[<- hA]at eA ti2 eL1 eX hk ePl;have eP:(clN s.par (s.ae,s.ag) N).2=A.ag:=by rw[eA]
 have eM:(clN s.par (s.ae,s.ag) N).1=A.ae:=by rw[eA]
 rw[<- eA,eM,eP];obtain⟨xa,xc,rfl,_⟩:=hx.open;obtain⟨da,dc,rfl,_⟩:=hd.open;rw[em];refine xx ?_;rw[<- em];refine Zb.fin (Zb.weaken (Za.perm _ permD4) (Zey (s:=A) (v:=⟨.slice (some ⟨bp,0,none⟩) s.ag.length cp,ovs om N,ve,.slice xa s.exit.length xc,vo,.slice da s.ai.length dc,vt,vk,vr⟩) (om:=om) (oo:=oo) ti2 hD (by rw[eA];exact hd) (by rw[eL1]) (by rw[eL1];exact okm) t0 ht0 (by rw[eX];exact hx) ho oko hol fun h2 d2 x2 o2 le2 i2 j2 ok2=>⟨_,_,Za.perm _ permD4.symm,?_⟩));have hk:=hk h2 d2 x2 o2 le2 i2 j2 ok2;refine xx ?_;exact ZP hk
open Go.RowKit Go.Proofs Go.Bl Go.Proofs.Tryz
variable {L:Own} {h:PH} {K:PK}
def Yjs (l:List Zc)(k:Nat):Int:=tot ((cP l k).map (Zeg l))
def Yih (l:List Zc)(ks:List Int)(k:Nat):Int:=tot ((thI l ks k).map (Zeg l))
theorem Yfa {l:List Zc}{k:Nat}(c:Jf (gr ZQ l k)=true):Yjs l (k+1)=Yjs l k+(gr ZQ l k).eff:=by
 unfold Yjs;rw[Zal,if_pos c,List.map_append,UF];simp only[List.map_cons,List.map_nil,Wv,Zaf,Zeg];omega
theorem Ymb {l:List Zc}{k:Nat}(c:Jf (gr ZQ l k)=false):Yjs l (k+1)=Yjs l k:=by
 unfold Yjs;rw[Zal,if_neg (by rw[c];decide)]
theorem Yfd {l:List Zc}{ks:List Int}{k:Nat}(c:(Jf (gr ZQ l k)&&Wm ks k)=true):Yih l ks (k+1)=Yih l ks k+(gr ZQ l k).eff:=by
 unfold Yih;rw[Vc,if_pos c,List.map_append,UF];simp only[List.map_cons,List.map_nil,Wv,Zaf,Zeg];omega
theorem Zok {l:List Zc}{ks:List Int}{k:Nat}(c:(Jf (gr ZQ l k)&&Wm ks k)=false):Yih l ks (k+1)=Yih l ks k:=by
 unfold Yih;rw[Vc,if_neg (by rw[c];decide)]
theorem Zic {l:List Zc}(om:Option (Nat×Nat))(okm:okO om l.length)(hml:l.length<=1000)(mo:∀x∈l,Zf x)(hk:∀h' r,PH.le h h'->Nt h' r (Uu l) 2000->K r (dMo om l L) h'):Zb prog 336 [ovs om l.length] (dMo om l L) h K:=by
 cases om with
 | none =>
  have hn0:l.length=0:=okm;have hl:l=[]:=by simpa using hn0
  subst hl;have hk:=hk h (.agg #[.slice none 0 0]) (PH.le_refl _) (Zak h _);show Zb prog 336 [.slice none 0 0] L h K;refine ed func336 ?_;refine xx ?_;refine ZY fun b2 nb2 zb2=>?_;(try simp only[ZS]at nb2);refine xx ?_;refine ZY fun b3 nb3 zb3=>?_;(try simp only[ZS]at nb3);refine xx ?_;refine Y1 (γ:=Unit) () (fun _=>True) (fun _=>[(0,.slice none 0 0),(3,.pointer (some ⟨b3,0,none⟩)),(2,.pointer (some ⟨b2,0,none⟩)),(4,.int .i64 0)]) (fun _=>0) trivial qx ?_;rintro⟨⟩ -;refine xx ?_;exact ZO (ZO (ZP hk))
 | some p =>
  obtain⟨bm,cm⟩:=p;show Zb prog 336 [.slice (some ⟨bm,0,none⟩) l.length cm] (dM bm cm l::L) h K;refine eH func336 fun ap nd=>?_;have hbm:h bm=noC:=ap.1;clear ap nd;refine xx ?_;refine ZY fun b2 nb2 zb2=>?_;(try simp only[ZS]at nb2);have n2m:=nb2.1;refine xx ?_;refine ZY fun b3 nb3 zb3=>?_;(try simp only[ZS]at nb3);have n32:=nb3.1;have n3m:=nb3.2.1;clear nb2 nb3;refine xx ?_;refine Yi (γ:=Nat×Value×PH) (0,.slice none 0 0,h)
   (fun s=>s.1<=l.length/\PH.le h s.2.2/\s.2.2 b3=noC/\s.2.2 b2=noC/\s.2.2 bm=noC/\Nt s.2.2 (.agg #[s.2.1]) (Yjs l s.1) (s.1+20))
   (fun s=>[(4,.int .i64 s.1),(3,.pointer (some ⟨b3,0,none⟩)),(2,.pointer (some ⟨b2,0,none⟩)),(0,.slice (some ⟨bm,0,none⟩) l.length cm)])
   (fun s=>⟨b3,144,[s.2.1],1⟩::⟨b2,144,[.slice none 0 0],1⟩::dM bm cm l::L)
   (fun s=>s.2.2) (fun s=>l.length-s.1) ?_ ?_ ?_ ?_
  ·exact⟨Nat.zero_le _,PH.le_refl _,zb3,zb2,hbm,Zak h _⟩
  ·simp [Ent,List.lookup,YT]
  ·exact Za.refl _ _
  rintro⟨k,sv,hh⟩ ⟨k1,le0,a3,a2,am,nt⟩;simp only at k1 le0 a3 a2 am nt ⊢;obtain⟨sa,sk,sc,es⟩:=nt.sl;obtain rfl:sv = .slice sa sk sc:=wP;by_cases c1:k<l.length
  ·obtain⟨g0,g1,g2,g3,g4,g5⟩:=Zah c1;have hi6:=YC (w:=6) c1 (show 5<6 from qh);have hsum:=Zbl (ms:=l) rfl;have ue:=(mo _ (Yp (z:=ZQ) c1)).u (gr ZQ l k).eff qj;refine l9 ?_;refine Y3 (gr ZQ l k) ?_
   cases cb:Jf (gr ZQ l k) with
   | true =>
    have cb':decide ((gr ZQ l k).status=2\/(gr ZQ l k).status=3)=true:=cb;rw[cb'];refine l9 ?_;refine Z4 (.tk 1 (.tk 2 (.tk 3 (.tk 4 (.tk 5 (.tkl 0 (.tkl 6 (.o1 7 (.o1 8 (.o2 9 (.fin) (.nil)) (.nil)) (.nil))))))))) qg qg _ (Za.refl _ _) ?_;refine l9 ?_;refine Zb.apn (YZ (gr ZQ l k).eff ue.1 ue.2 fun h4 r4 le4 n4 ap nd=>?_);obtain⟨p3,p2,pm,_⟩:=ap;refine xkp (Za.forget le4) ?_;obtain⟨ra,rk,rc,rfl⟩:=n4.sl;refine xx ?_;refine Zb.apn (UZ _ _ (nt.up le4) n4 ⟨qf,qf⟩ fun h5 r5 le5 n5 ap nd=>?_);obtain⟨p3,p2,pm,_⟩:=ap;refine xkp (Za.forget (le4.trans le5)) ?_;obtain⟨ta,tk,tc,rfl⟩:=n5.sl;refine xx ?_;rw[<- Yfa cb]at n5;exact⟨k+1,_,h5,⟨qf,le0.trans (le4.trans le5),p3,p2,pm,n5.more qf⟩,qf,qi,Za.refl _ _⟩
   | false =>
    have cb':decide ((gr ZQ l k).status=2\/(gr ZQ l k).status=3)=false:=cb;rw[cb'];refine xx ?_;rw[<- Ymb cb]at nt;exact⟨k+1,_,hh,⟨qf,le0,a3,a2,am,nt.more qf⟩,qf,qi,Za.refl _ _⟩
  ·have hkl:k=l.length:=qf;subst hkl;refine xx ?_;exact ZO (ZO (ZP (hk _ _ le0 (nt.more qf))))
theorem Zfe {l:List Zc}{ks:List Int}(om:Option (Nat×Nat))(okm:okO om l.length)(hml:l.length<=1000)(mo:∀x∈l,Zf x)(kv:Value)(hkv:Ints h .u8 kv ks)(hk:∀h' r,PH.le h h'->Nt h' r (Jd l ks) 2000->K r (dMo om l L) h'):Zb prog 337 [ovs om l.length,kv] (dMo om l L) h K:=by
 have hkv0:=hkv;obtain⟨ka,kc,rfl,_⟩:=hkv.open
 cases om with
 | none =>
  have hn0:l.length=0:=okm;have hl:l=[]:=by simpa using hn0
  subst hl;have hk:=hk h (.agg #[.slice none 0 0]) (PH.le_refl _) (Zak h _);show Zb prog 337 [.slice none 0 0,.slice ka ks.length kc] L h K;refine ed func337 ?_;refine xx ?_;refine ZY fun b2 nb2 zb2=>?_;(try simp only[ZS]at nb2);refine xx ?_;refine ZY fun b3 nb3 zb3=>?_;(try simp only[ZS]at nb3);refine xx ?_;refine Y1 (γ:=Unit) () (fun _=>True) (fun _=>[(0,.slice none 0 0),(5,.pointer (some ⟨b3,0,none⟩)),(4,.pointer (some ⟨b2,0,none⟩)),(6,.int .i64 0)]) (fun _=>0) trivial qx ?_;rintro⟨⟩ -;refine xx ?_;exact ZO (ZO (ZP hk))
 | some p =>
  obtain⟨bm,cm⟩:=p;show Zb prog 337 [.slice (some ⟨bm,0,none⟩) l.length cm,.slice ka ks.length kc] (dM bm cm l::L) h K;refine eH func337 fun ap nd=>?_;have hbm:h bm=noC:=ap.1;clear ap nd;refine xx ?_;refine ZY fun b2 nb2 zb2=>?_;(try simp only[ZS]at nb2);have n2m:=nb2.1;refine xx ?_;refine ZY fun b3 nb3 zb3=>?_;(try simp only[ZS]at nb3);have n32:=nb3.1;have n3m:=nb3.2.1;clear nb2 nb3;refine xx ?_;refine Yi (γ:=Nat×Value×PH) (0,.slice none 0 0,h)
   (fun s=>s.1<=l.length/\PH.le h s.2.2/\s.2.2 b3=noC/\s.2.2 b2=noC/\s.2.2 bm=noC/\Nt s.2.2 (.agg #[s.2.1]) (Yih l ks s.1) (s.1+20))
   (fun s=>[(6,.int .i64 s.1),(5,.pointer (some ⟨b3,0,none⟩)),(4,.pointer (some ⟨b2,0,none⟩)),(0,.slice (some ⟨bm,0,none⟩) l.length cm),(1,.slice ka ks.length kc)])
   (fun s=>⟨b3,144,[s.2.1],1⟩::⟨b2,144,[.slice none 0 0],1⟩::dM bm cm l::L)
   (fun s=>s.2.2) (fun s=>l.length-s.1) ?_ ?_ ?_ ?_
  ·exact⟨Nat.zero_le _,PH.le_refl _,zb3,zb2,hbm,Zak h _⟩
  ·simp [Ent,List.lookup,YT]
  ·exact Za.refl _ _
  rintro⟨k,sv,hh⟩ ⟨k1,le0,a3,a2,am,nt⟩;simp only at k1 le0 a3 a2 am nt ⊢;obtain⟨sa,sk,sc,es⟩:=nt.sl;obtain rfl:sv = .slice sa sk sc:=wP;by_cases c1:k<l.length
  ·obtain⟨g0,g1,g2,g3,g4,g5⟩:=Zah c1;have hi6:=YC (w:=6) c1 (show 5<6 from qh);have hsum:=Zbl (ms:=l) rfl;have ue:=(mo _ (Yp (z:=ZQ) c1)).u (gr ZQ l k).eff qj;have no:(Jf (gr ZQ l k)&&Wm ks k)=false->∃g:Nat×Value×PH,(g.1=k+1/\g.2.1 = .slice sa sk sc/\g.2.2=hh)/\Nt hh (.agg #[.slice sa sk sc]) (Yih l ks (k+1)) (k+1+20):=fun c=>⟨(k+1,_,hh),⟨rfl,rfl,rfl⟩,by rw[Zok c];exact nt.more qf⟩
   refine l9 ?_;refine Y3 (gr ZQ l k) ?_
   cases cb:Jf (gr ZQ l k) with
   | true =>
    have cb':decide ((gr ZQ l k).status=2\/(gr ZQ l k).status=3)=true:=cb;rw[cb'];refine l9 ?_;refine GT (bs:=ks) _ (k:Int) (hkv0.up le0) qf ?_
    cases cg:Wm ks k with
    | true =>
     refine l9 ?_;refine Z4 (.tk 1 (.tk 2 (.tk 3 (.tk 4 (.tk 5 (.tkl 0 (.tkl 6 (.o1 7 (.o1 8 (.o2 9 (.fin) (.nil)) (.nil)) (.nil))))))))) qg qg _ (Za.refl _ _) ?_;refine l9 ?_;refine Zb.apn (YZ (gr ZQ l k).eff ue.1 ue.2 fun h4 r4 le4 n4 ap nd=>?_);obtain⟨p3,p2,pm,_⟩:=ap;refine xkp (Za.forget le4) ?_;obtain⟨ra,rk,rc,rfl⟩:=n4.sl;refine xx ?_;refine Zb.apn (UZ _ _ (nt.up le4) n4 ⟨qf,qf⟩ fun h5 r5 le5 n5 ap nd=>?_);obtain⟨p3,p2,pm,_⟩:=ap;refine xkp (Za.forget (le4.trans le5)) ?_;obtain⟨ta,tk,tc,rfl⟩:=n5.sl;refine xx ?_;rw[<- Yfd (ks:=ks) (by rw[cb,cg];rfl)]at n5;exact⟨k+1,_,h5,⟨qf,le0.trans (le4.trans le5),p3,p2,pm,n5.more qf⟩,qf,qi,Za.refl _ _⟩
    | false =>
     refine xx ?_;rw[<- Zok (ks:=ks) (by rw[cb,cg];rfl)]at nt;exact⟨k+1,_,hh,⟨qf,le0,a3,a2,am,nt.more qf⟩,qf,qi,Za.refl _ _⟩
   | false =>
    have cb':decide ((gr ZQ l k).status=2\/(gr ZQ l k).status=3)=false:=cb;rw[cb'];refine xx ?_;rw[<- Zok (ks:=ks) (by rw[cb];rfl)]at nt;exact⟨k+1,_,hh,⟨qf,le0,a3,a2,am,nt.more qf⟩,qf,qi,Za.refl _ _⟩
  ·have hkl:k=l.length:=qf;subst hkl;refine xx ?_;exact ZO (ZO (ZP (hk _ _ le0 (nt.more qf))))
theorem Zrs (q y n a:Int)(hq : -9223372036854775808<=q/\q<=9223372036854775807)(hy:0<=y/\y<=18446744073709551615)(hn:0<=n/\n<=18446744073709551615)(ha:0<=a/\a<=18446744073709551615)
    (hk:∀h',PH.le h h'->K (.bool (Znj q y n a)) L h'):Zb prog 338 [.int .i64 q,.int .u64 y,.int .u64 n,.int .u64 a] L h K:=by
  refine ed func338 ?_;refine xx ?_;refine YZ y hy.1 hy.2 fun h1 r1 le1 n1=>?_;refine xx ?_;refine YZ n hn.1 hn.2 fun h2 r2 le2 n2=>?_;refine xx ?_;refine UZ _ _ (n1.up le2) n2 ⟨qf,qf⟩ fun h3 r3 le3 n3=>?_;have n3':=n3;obtain⟨s3,ds3,rfl,hs3,_⟩:=n3';obtain⟨sa,sc,rfl,_⟩:=hs3.open;refine xx ?_;refine ZY fun b9 nb9 zb9=>?_;(try simp only[ZS]at nb9);refine xx ?_;refine Zb.ap (Ua _ n3 fun h4 le4 ap=>?_);simp only[Ap]at ap;obtain⟨a9,_⟩:=ap;have le04:=le1.trans (le2.trans (le3.trans le4));unfold Znj at hk;by_cases c1:y+n<=18446744073709551615
  · rw[show Zik (y+n)=true from decide_eq_true c1,show GZ (y+n)=y+n from if_pos c1];simp only[decide_eq_true c1,Bool.true_and]at hk;refine xx ?_;by_cases c2:a=0
    · simp only[decide_eq_false (fun e:a≠0=>e c2),Bool.false_and]at hk;refine xx ?_;exact ZO (ZP (hk h4 le04))
    · simp only[decide_eq_true c2,Bool.true_and]at hk;refine xx ?_;by_cases c3:y<=n
      · simp only[decide_eq_false (show ¬n<y from qf),Bool.false_and]at hk;refine xx ?_;exact ZO (ZP (hk h4 le04))
      · simp only[decide_eq_true (show n<y from qf),Bool.true_and]at hk;refine xx ?_;by_cases c4:q<0
        · simp only[decide_eq_false (show ¬ 0<=q from qf),Bool.false_and]at hk;refine xx ?_;exact ZO (ZP (hk h4 le04))
        · simp only[decide_eq_true (show 0<=q from qf),Bool.true_and]at hk;refine xx ?_;refine YN (.tkl 0 (.o1 1 (.o1 2 (.o1 3 (.o2 4 (.fin) (.nil)) (.nil)) (.o1 3 (.o1 2 (.o2 4 (.fin) (.nil)) (.nil)) (.nil))) (.o1 3 (.o1 1 (.o1 2 (.o2 4 (.fin) (.nil)) (.nil)) (.nil)) (.nil)))) qg qg [(0,.int .i64 q),(3,.int .u64 a),(8,.bool false),(9,.pointer (some ⟨b9,0,none⟩))] [_] (γ:=Value×Nat×PH)
            (fun z=>PH.le h4 z.2.2/\Nt z.2.2 (.agg #[z.1]) ((y+n)*10000) 60/\z.2.2 z.2.1=noC)
            (fun z=>[(0,.int .i64 q),(3,.int .u64 a),(12,.pointer (some ⟨z.2.1,0,none⟩))])
            (fun z=>⟨z.2.1,144,[z.1],1⟩::L) (fun z=>z.2.2) qx (drop_left [_] _ _) ?_ ?_
          · repeat' first
              | with_reducible refine Yf ?_ ?_
              | simp -dsimp -implicitDefEqProofs (disch:=first|exact dD|fail) [go_sem]
              | (with_reducible refine ZY fun b12 nb12 zb12 => ?_
                 simp only[ZS]at nb12)
              | (with_reducible show WW prog 77 _ _ _ _
                 refine Zb.ap (YZ 10000 qf qf fun h5 r5 le5 n5 ap5=>?_)
                 simp only[Ap]at ap5)
              | (with_reducible show WW prog 76 _ _ _ _
                 refine Zb.ap (U6 _ _ ((n3.up le4).up le5) n5 qf fun h6 r6 le6 n6 ap6=>?_);simp only[Ap]at ap6
                 obtain⟨ma,mk,mc,rfl⟩:=n6.sl)
              | with_reducible refine xkp (drop_left [_] _ _) ?_
              | with_reducible refine xkp ((drop_left [_] _ _).trans (Za.forget le5)) ?_
              | with_reducible refine xkp ((drop_left [_] _ _).trans (Za.forget (le5.trans le6))) ?_
              | with_reducible refine xkp ((Za.tail _ _ _).trans (drop_left [_] _ _)) ?_
              | with_reducible refine xkp ((Za.tail _ _ _).trans ((drop_left [_] _ _).trans (Za.forget le5))) ?_
              | with_reducible refine xkp ((Za.tail _ _ _).trans ((drop_left [_] _ _).trans (Za.forget (le5.trans le6)))) ?_
              | fail
            all_goals exact⟨.slice ma mk mc,b12,h6,⟨le5.trans le6,n6.more qf,by first|exact zb12|exact ap6.1⟩,qi,Za.perm _ (List.Perm.refl _) |>.trans ((Za.perm _ (List.Perm.swap _ _ _)).trans (Za.tail _ _ _))⟩
          rintro⟨sv,b12,h6⟩ ⟨le6,n6,a12⟩;simp only at le6 n6 a12 ⊢;obtain⟨ma,mk,mc,es⟩:=n6.sl;obtain rfl:sv = .slice ma mk mc:=wP;refine xx ?_;refine Zb.ap (YZ q qf qf fun h7 r7 le7 n7 ap=>?_);have a127:h7 b12=noC:=ap.1;clear ap;refine xx ?_;refine Zb.ap (YZ a ha.1 ha.2 fun h8 r8 le8 n8 ap=>?_);have a128:h8 b12=noC:=ap.1;clear ap;refine xx ?_;refine Zb.ap (U6 _ _ (n7.up le8) n8 qf fun h9 r9 le9 n9 ap=>?_);have a129:h9 b12=noC:=ap.1;clear ap;obtain⟨ma9,mk9,mc9,rfl⟩:=n9.sl;refine xx ?_;refine ZY fun b13 nb13 zb13=>?_;(try simp only[ZS]at nb13);have n1312:=nb13.1;refine xx ?_;refine UV _ _ (n6.up (le7.trans (le8.trans le9))) n9 ?_;have e:(decide (0<=J2 ((y+n)*10000) (q*a))) = !decide ((y+n)*10000<q*a):=by
            unfold J2;by_cases c:(y+n)*10000<q*a
            · rw[if_pos c,decide_eq_true c];rfl
            · rw[if_neg c,decide_eq_false c];split<;>rfl
          have hk:=hk h9 (le04.trans (le6.trans (le7.trans (le8.trans le9))));rw[<- e]at hk;refine xx ?_;exact ZO (ZO (ZP hk))
  · rw[show Zik (y+n)=false from decide_eq_false c1];simp only[decide_eq_false c1,Bool.false_and]at hk;refine xx ?_;exact ZO (ZP (hk h4 le04))
theorem Yrf {b t c:Nat}{cs cs':List Value}{v:Value}(e:cs=cs')(hk:fin K v (⟨b,t,cs',c⟩::L) h):fin K v (⟨b,t,cs,c⟩::L) h:=e ▸ hk
theorem Gw {α:Type}{f:α->List Value}{w:Nat}(hf:∀a,(f a).length=w)(l:List α){i:Nat}(hi:i<l.length)(a':α):wr (l.flatMap f) (i*w) (f a')=(l.set i a').flatMap f:=by
 have h1:l.flatMap f=(l.take i).flatMap f++(f l[i]++(l.drop (i+1)).flatMap f):=by
  conv=>lhs;rw[<- List.take_append_drop i l,List.drop_eq_getElem_cons hi]
  rw[List.flatMap_append,List.flatMap_cons]
 have h2:((l.take i).flatMap f).length=i*w:=by rw[Z1 hf,List.length_take,Nat.min_eq_left qf]
 rw[J7 _ _ _ (by rw[h1];simp only[List.length_append,h2,hf];omega),hf];rw[List.set_eq_take_append_cons_drop,if_pos hi,List.flatMap_append,List.flatMap_cons];rw[h1,<- h2,List.take_left,List.append_assoc]
 congr 2
 rw[<- List.drop_drop,List.drop_left];rw[<- hf l[i],List.drop_left]
theorem Zgc {l:List QM}(v:Value)(hv:Zd YQ 33 h v l)(hm:YU h l)(hl:l.length<=1000)(hk:∀o,okO o l.length->apO o L h->K (ovs o l.length) (oent 184 33 o (l.flatMap YQ) L) h):Zb prog 335 [v] L h K:=by
 have hx:=hv;obtain⟨a,ca,rfl,hna,hca,h0,_⟩:=hx.open;refine ed func335 ?_;refine xx ?_;refine ZZ (t:=43) (e:=184) (sz:=33) (bytes:=296) qg Yce rfl rfl rfl rfl qh [] L none 0 [] rfl rfl (Src.known hx.s) (news:=l.flatMap YQ) (Z1 Ya l) (fun u hu=>by obtain⟨a,hq,hb⟩:=List.mem_flatMap.1 hu;exact Zpp (hm a hq) u hb) qm qf ?_;intro o' j1 j2 j3;simp only[Nat.zero_add,List.nil_append]at j1 j2 ⊢;refine xx ?_;exact ZP (hk o' j1 j2)
end Go.X
