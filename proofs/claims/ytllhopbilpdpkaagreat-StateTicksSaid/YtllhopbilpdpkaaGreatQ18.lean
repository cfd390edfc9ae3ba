/- Lemmas and contracts. Conditions: as each says. -/
import Derived.Test.YtllhopbilpdpkaaGreatQ16
set_option linter.unusedVariables false
set_option linter.unusedSimpArgs false
set_option maxHeartbeats 12800000
set_option maxRecDepth 20000
namespace Go.X
open Go.RowKit Go.Proofs Go.Bl Go.Proofs.Tryz
variable {L:Own} {h:PH} {K:PK}
theorem UZ {n m:Int}{k l:Nat}(v u:Value)(ha:Nt h v n k)(hb:Nt h u m l)(hkl:k<=200000/\l<=200000)(hk:∀h' r,PH.le h h'->Nt h' r (n+m) (max k l+1)->K r L h'):Zb prog 189 [v,u] L h K:=by
 obtain⟨s,ds,rfl,hs,hd,rfl,hdl⟩:=ha;obtain⟨r,es,rfl,hr,he,rfl,hel⟩:=hb;have hs0:=hs;have hr0:=hr;obtain⟨a,ca,rfl,hna,hca,_,hcx⟩:=hs.open;obtain⟨b,cb,rfl,hnb,hcb,_,hcy⟩:=hr.open;obtain⟨N,hN⟩:∃N,N=max ds.length es.length:=⟨_,rfl⟩
 have eN:max (ds.length:Int) (es.length:Int)=(N:Int):=qf;refine ed func189 ?_;refine xx ?_;refine ZY fun b1 nb1 zb1=>?_;(try simp only[ZS]at nb1);refine xx ?_;refine ZY fun b2 nb2 zb2=>?_;(try simp only[ZS]at nb2);refine xx ?_;refine ZY fun b3 nb3 zb3=>?_;(try simp only[ZS]at nb3);refine xx ?_;refine Yi (γ:=Nat×Int×Option (Nat×Nat)×List Int) (0,0,none,[])
  (fun s=>s.1<=N+1/\(s.1=N+1->s.2.1=0)/\0<=s.2.1/\s.2.1<=1/\s.2.2.2.length=s.1/\okO s.2.2.1 s.2.2.2.length/\apO s.2.2.1 (⟨b3,144,[.slice none 0 0],1⟩::⟨b2,144,[.slice b es.length cb],1⟩::⟨b1,144,[.slice a ds.length ca],1⟩::L) h/\Dg s.2.2.2/\vl s.2.2.2+s.2.1*10 ^ s.1=pv ds s.1+pv es s.1)
  (fun s=>[(7,.int .i64 s.1),(6,.int .i64 s.2.1),(5,ovs s.2.2.1 s.2.2.2.length),(4,.pointer (some ⟨b3,0,none⟩)),(3,.pointer (some ⟨b2,0,none⟩)),(2,.pointer (some ⟨b1,0,none⟩))])
  (fun s=>oent 3 1 s.2.2.1 (s.2.2.2.map (Value.int .i64)) (⟨b3,144,[.slice none 0 0],1⟩::⟨b2,144,[.slice b es.length cb],1⟩::⟨b1,144,[.slice a ds.length ca],1⟩::L))
  (fun _=>h) (fun s=>N+1-s.1) ?_ ?_ ?_ ?_
 ·exact⟨Nat.zero_le _,fun _=>rfl,Int.le_refl _,qj,rfl,rfl,trivial,fun j=>by simp [at0],by simp [vl,pv]⟩
 ·simp [Ent,List.lookup,ovs]
 ·exact Za.refl _ _
 rintro⟨i,c,o,fs⟩ ⟨i1,i2,i3,i4,i5,i6,i7,i8,i9⟩;simp only at i1 i2 i3 i4 i5 i6 i7 i8 i9 ⊢;have m3:apB o b3:=i7.head;have m2:apB o b2:=(ZV i7).head;have m1:apB o b1:=(ZV (ZV i7)).head;have q1:=hd i;have q2:=he i;have hpd:pv ds (i+1)=pv ds i+at0 ds i*10 ^ i:=rfl;have hpe:pv es (i+1)=pv es i+at0 es i*10 ^ i:=rfl;by_cases c1:(i:Int)<(N:Int)\/0<c
 ·have hi:i<N+1:=by
   by_cases e:i=N+1
   ·have:=i2 e;omega
   ·omega
  obtain⟨t,ht⟩:∃t,t=at0 ds i+at0 es i+c:=⟨_,rfl⟩
  have hz:i=N->at0 ds i=0/\at0 es i=0:=fun e=>⟨U7 qf,U7 qf⟩
  have f1:vl (fs++[t%10])+t/10*10 ^ (i+1)=pv ds (i+1)+pv es (i+1):=by
   rw[Zbx,i5,hpd,hpe,Int.pow_succ];have e:t=t/10*10+t%10:=qf;have e2:t*10 ^ i=t/10*(10 ^ i*10)+t%10*10 ^ i:=by
    conv=>lhs;rw[e]
    rw[Int.add_mul,Int.mul_assoc,Int.mul_comm 10]
   have e3:t*10 ^ i=at0 ds i*10 ^ i+at0 es i*10 ^ i+c*10 ^ i:=by rw[ht,Int.add_mul,Int.add_mul]
   omega
  by_cases c2:(i:Int)<(N:Int)
  all_goals
   refine xR ?_;refine WX qg rfl ?_;refine xU ?_;refine VK _ (Zas _ i hs0 qf qf ⟨rfl,rfl,rfl⟩) ?_;simp only[Int.toNat_natCast];refine xU ?_;refine VK _ (Zas _ i hr0 qf qf ⟨rfl,rfl,rfl⟩) ?_;simp only[Int.toNat_natCast];refine xW ?_;refine ZY fun b4 nb4 zb4=>?_;(try simp only[ZS]at nb4);refine xW ?_;refine ZZ (t:=27) (e:=3) (sz:=1) (bytes:=8) (z:=[.int .i64 0]) qg V6 rfl rfl rfl rfl qh [_] _ o fs.length (fs.map (Value.int .i64)) i6 qj (Src.own List.mem_cons_self) (m:=1) (news:=[.int .i64 (t%10)]) rfl (fun u hu=>qw) qm qf ?_;intro o' j1 j2 j3;refine xW ?_;refine⟨i+1,t/10,o',fs++[t%10],⟨qf,fun e=>?_,qf,qf,by simp [i5],zf,ZV j2,i8.append qf qf,f1⟩,qf,qi,zN⟩;have:=hz qf;omega
 ·have hc0:c=0:=qf;subst hc0;have hv:vl fs=vl ds+vl es:=by
   rw[<- U5 ds i qf,<- U5 es i qf];omega
  refine xR ?_;refine WT (n:=fs.length) i6 qj qf i7 fun h' le sl=>?_;refine Zb.ap (Zbm (ds:=fs) (m:=max k l+1) _ ⟨sl,VV i8⟩ i8 qf fun r hr ap=>?_);simp only[Ap]at ap;obtain⟨a3,a2,a1,_⟩:=ap;obtain⟨s',fs',rfl,g1,g2,g3,g4⟩:=hr;refine xx ?_;refine⟨wC,ZO (ZO (ZO (ZP (hk h' _ le ⟨s',fs',rfl,g1,g2,by rw[g3,hv],g4⟩))))⟩
theorem Zak (h:PH)(m:Nat):Nt h (.agg #[.slice none 0 0]) 0 m:=⟨_,[],rfl,Y7 h .i64,fun j=>by simp [at0],rfl,Nat.zero_le _⟩
theorem Nt.sl {v:Value}{n:Int}{m:Nat}(hs:Nt h v n m):∃a k c,v = .agg #[.slice a k c]:=by
 obtain⟨s,ds,rfl,b,_⟩:=hs;obtain⟨a,c,rfl,_⟩:=b.open;exact⟨a,_,c,rfl⟩
theorem UR {zs:List Int}(v:Value)(hz:Ints h .u64 v zs)(hn:zs.length<=100000)(hk:∀h' r,PH.le h h'->Nt h' r (tot zs) (zs.length+20)->K r L h'):Zb prog 326 [v] L h K:=by
 have hw:=hz.word;obtain⟨a,c,rfl,hcap,hlen,_,hcs⟩:=hz.open;refine ed func326 ?_;refine xx ?_;refine ZY fun b2 nb2 zb2=>?_;(try simp only[ZS]at nb2);refine xx ?_;refine ZY fun b3 nb3 zb3=>?_;(try simp only[ZS]at nb3);refine xx ?_;refine Yi (γ:=Nat×Value×PH) (0,.slice none 0 0,h)
  (fun s=>s.1<=zs.length/\PH.le h s.2.2/\s.2.2 b3=noC/\s.2.2 b2=noC/\Nt s.2.2 (.agg #[s.2.1]) (YE zs s.1) (s.1+20))
  (fun s=>[(4,.int .i64 s.1),(3,.pointer (some ⟨b3,0,none⟩)),(2,.pointer (some ⟨b2,0,none⟩)),(0,.slice a zs.length c)])
  (fun s=>⟨b3,144,[s.2.1],1⟩::⟨b2,144,[.slice none 0 0],1⟩::L)
  (fun s=>s.2.2) (fun s=>zs.length-s.1) ?_ ?_ ?_ ?_
 ·exact⟨Nat.zero_le _,PH.le_refl _,zb3,zb2,Zak h _⟩
 ·simp [Ent,List.lookup,YT]
 ·exact Za.refl _ _
 rintro⟨k,sv,hh⟩ ⟨k1,le0,a3,a2,nt⟩;simp only at k1 le0 a3 a2 nt ⊢;obtain⟨sa,sk,sc,es⟩:=nt.sl;obtain rfl:sv = .slice sa sk sc:=wP;have hcs':∀j,j<zs.length->Z9 hh a j=some (.int .u64 (at0 zs j)):=fun j hj=>Yr le0 (hcs j hj);by_cases c1:k<zs.length
 ·refine xx ?_;refine Z4 (.tk 1 (.tk 2 (.tk 3 (.tkl 0 (.tkl 4 (.o1 5 (.o1 6 (.o2 7 (.fin) (.nil)) (.nil)) (.nil))))))) qg qg _ (Za.refl _ _) ?_;simp -dsimp -implicitDefEqProofs (disch:=first|exact dD|fail) [go_sem,idx hcs'];refine Zb.apn (YZ (at0 zs k) (hw k).1 (hw k).2 fun h4 r4 le4 n4 ap nd=>?_);obtain⟨p3,p2,_⟩:=ap;refine xkp (Za.forget le4) ?_;obtain⟨ra,rk,rc,rfl⟩:=n4.sl;refine xx ?_;refine Zb.apn (UZ _ _ (nt.up le4) n4 ⟨qf,qf⟩ fun h5 r5 le5 n5 ap nd=>?_);obtain⟨p3,p2,_⟩:=ap;refine xkp (Za.forget (le4.trans le5)) ?_;obtain⟨ta,tk,tc,rfl⟩:=n5.sl;refine xx ?_;exact⟨k+1,_,h5,⟨qf,le0.trans (le4.trans le5),p3,p2,n5.more qf⟩,qf,qi,Za.refl _ _⟩
 ·have hkl:k=zs.length:=qf;subst hkl;refine xx ?_;exact ZO (ZO (ZP (hk _ _ le0 nt)))
theorem UB {n m:Int}{k l:Nat}(v u:Value)(ha:Nt h v n k)(hb:Nt h u m l)(hkl:k<=200000/\l<=200000)(hk:∀h' r,PH.le h h'->Nt h' r (n+m) (max k l+1)->K r L h'):Zb prog 254 [v,u] L h K:=by
 obtain⟨va,vk,vc,rfl⟩:=ha.sl;obtain⟨ua,uk,uc,rfl⟩:=hb.sl;refine ed func254 ?_;refine xx ?_;refine ZY fun b1 nb1 zb1=>?_;(try simp only[ZS]at nb1);refine xx ?_;refine ZY fun b2 nb2 zb2=>?_;(try simp only[ZS]at nb2);refine xx ?_;refine ZY fun b3 nb3 zb3=>?_;(try simp only[ZS]at nb3);refine xx ?_;refine Zb.apn (UZ _ _ ha hb hkl fun h5 r5 le5 n5 ap nd=>?_);obtain⟨p3,p2,p1,_⟩:=ap;obtain⟨ta,tk,tc,rfl⟩:=n5.sl;refine xx ?_;exact ZO (ZO (ZO (ZP (hk _ _ le5 n5))))
abbrev Yxh (s:Zg)(r1 r2 r3 r4:Value):Value := .agg #[.int .u64 s.most,.int .u64 s.gen,.int .u64 s.aB,.int .u64 s.aG,.int .u64 s.an,r1,r2,r3,r4]
structure ZJ (h:PH)(s:Zg)(r1 r2 r3 r4:Value):Prop where
 ok:ZB s
 a:Ints h .u64 r1 (s.ae.map Zc.bal)
 b:Ints h .u64 r2 s.ag
 c:Ints h .u64 r3 (s.aj.map Zk.amt)
 d:Ints h .u64 r4 (s.ai.map Zh.amt)
theorem Zfg {s:Zg}(r1 r2 r3 r4:Value)(hm:ZJ h s r1 r2 r3 r4)(hk:∀h' r,PH.le h h'->Nt h' r (s.gen+s.aB) 21->K r L h'):Zb prog 253 [Yxh s r1 r2 r3 r4] L h K:=by
 have ug:0<=s.gen/\s.gen<=18446744073709551615:=hm.ok.u _ qj;have ui:0<=s.aB/\s.aB<=18446744073709551615:=hm.ok.u _ qj;obtain⟨a1,c1,rfl,_⟩:=hm.a.open;obtain⟨a2,c2,rfl,_⟩:=hm.b.open;obtain⟨a3,c3,rfl,_⟩:=hm.c.open;obtain⟨a4,c4,rfl,_⟩:=hm.d.open;refine ed func253 ?_;refine xx ?_;refine ZY fun b1 nb1 zb1=>?_;(try simp only[ZS]at nb1);refine xx ?_;refine ZY fun b2 nb2 zb2=>?_;(try simp only[ZS]at nb2);refine xx ?_;refine Z4 (.tk 0 (.tk 3 (.tkl 1 (.tkl 4 (.o1 2 (.o1 5 (.o1 6 (.o2 7 (.fin) (.nil)) (.nil)) (.nil)) (.nil)))))) qg qg _ (Za.refl _ _) ?_;refine xx ?_;refine Zb.apn (YZ s.gen ug.1 ug.2 fun h4 r4 le4 n4 ap nd=>?_);obtain⟨p2,p1,_⟩:=ap;refine xkp (Za.forget le4) ?_;obtain⟨ra,rk,rc,rfl⟩:=n4.sl;refine xx ?_;refine Zb.apn (YZ s.aB ui.1 ui.2 fun h5 r5 le5 n5 ap nd=>?_);obtain⟨p2,p1,_⟩:=ap;refine xkp (Za.forget (le4.trans le5)) ?_;obtain⟨ta,tk,tc,rfl⟩:=n5.sl;refine xx ?_;refine Zb.apn (UB _ _ (n4.up le5) n5 ⟨qf,qf⟩ fun h6 r6 le6 n6 ap nd=>?_);obtain⟨p2,p1,_⟩:=ap;refine xkp (Za.forget ((le4.trans le5).trans le6)) ?_;obtain⟨ua,uk,uc,rfl⟩:=n6.sl;refine xx ?_;exact ZO (ZO (ZP (hk _ _ ((le4.trans le5).trans le6) n6)))
structure Yyy (s:Zg):Prop where
 p:s.ag.length<=20000
 m:s.ae.length<=20000
 o:s.aj.length<=20000
 d:s.ai.length<=20000
theorem Zmy {s:Zg}(r1 r2 r3 r4:Value)(hm:ZJ h s r1 r2 r3 r4)(few:Yyy s)(hk:∀h' r,PH.le h h'->Nt h' r (Zlo s) 100000->K r L h'):Zb prog 255 [Yxh s r1 r2 r3 r4] L h K:=by
  have ut:0<=s.an/\s.an<=18446744073709551615:=hm.ok.u _ qj;obtain⟨f1,f2,f3,f4⟩:=few;have ha:=hm.a;have hb:=hm.b;have hc:=hm.c;have hd:=hm.d;have l1:(s.ae.map Zc.bal).length=s.ae.length:=qj;have l3:(s.aj.map Zk.amt).length=s.aj.length:=qj;have l4:(s.ai.map Zh.amt).length=s.ai.length:=qj;obtain⟨a1,c1,rfl,_⟩:=ha.open;obtain⟨a2,c2,rfl,_⟩:=hb.open;obtain⟨a3,c3,rfl,_⟩:=hc.open;obtain⟨a4,c4,rfl,_⟩:=hd.open;refine ed func255 ?_;refine xx ?_;refine ZY fun b1 nb1 zb1=>?_;(try simp only[ZS]at nb1);refine xx ?_;refine ZY fun b2 nb2 zb2=>?_;(try simp only[ZS]at nb2);refine xx ?_;simp only[l1,l3,l4]at ha hc hd;refine YN (.tk 0 (.tk 3 (.tkl 1 (.tkl 4 (.o1 2 (.o1 5 (.o1 6 (.o1 7 (.o2 8 (.fin) (.nil)) (.nil)) (.o1 7 (.o1 6 (.o2 8 (.fin) (.nil)) (.nil)) (.nil))) (.o1 7 (.o1 5 (.o1 6 (.o2 8 (.fin) (.nil)) (.nil)) (.nil)) (.nil))) (.o1 7 (.o1 2 (.o1 5 (.o1 6 (.o2 8 (.fin) (.nil)) (.nil)) (.nil)) (.nil)) (.nil))))))) qg qg [(1,.pointer (some ⟨b1,0,none⟩)),(2,.pointer (some ⟨b2,0,none⟩))] [⟨b1,180,[.int .u64 s.most,.int .u64 s.gen,.int .u64 s.aB,.int .u64 s.aG,.int .u64 s.an,.slice a1 s.ae.length c1,.slice a2 s.ag.length c2,.slice a3 s.aj.length c3,.slice a4 s.ai.length c4],9⟩] (γ:=Value×Nat×PH)
    (fun q=>PH.le h q.2.2/\Nt q.2.2 (.agg #[q.1]) (Zra s+Zoy s) 40000/\q.2.2 b1=noC/\q.2.2 b2=noC/\q.2.2 q.2.1=noC/\b1≠q.2.1/\b2≠q.2.1)
    (fun q=>[(1,.pointer (some ⟨b1,0,none⟩)),(2,.pointer (some ⟨b2,0,none⟩)),(3,.pointer (some ⟨q.2.1,0,none⟩))])
    (fun q=>⟨q.2.1,144,[q.1],1⟩::⟨b2,144,[.slice none 0 0],1⟩::⟨b1,180,[.int .u64 s.most,.int .u64 s.gen,.int .u64 s.aB,.int .u64 s.aG,.int .u64 s.an,.slice a1 s.ae.length c1,.slice a2 s.ag.length c2,.slice a3 s.aj.length c3,.slice a4 s.ai.length c4],9⟩::L) (fun q=>q.2.2) qi (Za.mem qj) ?_ ?_
  · repeat' first
      | with_reducible refine Yf ?_ ?_
      | with_reducible refine xkp (Za.mem qj) ?_
      | with_reducible refine xkp ((Za.forget le6').trans (Za.mem qj)) ?_
      | with_reducible refine xkp ((Za.forget le5').trans (Za.mem qj)) ?_
      | with_reducible refine xkp ((Za.forget le4).trans (Za.mem qj)) ?_
      | (with_reducible refine ZY fun b3 nb3 zb3 => ?_
         simp only[ZS]at nb3)
      | simp -dsimp -implicitDefEqProofs (disch:=first|exact dD|fail) [go_sem]
      | (with_reducible show WW prog 326 [.slice a1 s.ae.length c1] _ _ _
         refine Zb.ap (UR _ ha qf fun h4 r4 le4 n4 ap4=>?_)
         obtain⟨ra,rk,rc,rfl⟩:=n4.sl)
      | (with_reducible show WW prog 326 [.slice a2 s.ag.length c2] _ _ _
         refine Zb.ap (UR _ (hb.up le4) qf fun h5 r5 le5 n5 ap5=>?_);have le5':=PH.le.trans le4 le5
         obtain⟨ta,tk,tc,rfl⟩:=n5.sl)
      | (with_reducible show WW prog 254 _ _ _ _
         refine Zb.ap (UB _ _ (n4.up le5) n5 ⟨qf,qf⟩ fun h6 r6 le6 n6 ap6=>?_);have le6':=PH.le.trans le5' le6;simp only[Ap]at ap6
         obtain⟨ua,uk,uc,rfl⟩:=n6.sl)
    all_goals
      refine⟨_,b3,h6,⟨le6',n6.more qf,?_,?_,?_,nb3.2.1,nb3.1⟩,qi,Za.refl _ _⟩
      · simp only[ap6]
      · simp only[ap6]
      · simp only[ap6,zb3]
  rintro⟨sA,b3,h6⟩ ⟨le,n6',p1,p2,p3,n13,n23⟩;simp only at le n6' p1 p2 p3 n13 n23 ⊢;obtain⟨ua,uk,uc,es⟩:=n6'.sl;obtain rfl:sA = .slice ua uk uc:=wP;have nb3:b2≠b3/\b1≠b3:=⟨n23,n13⟩
  refine xx ?_;refine Z4 (.tk 1 (.tk 4 (.tkl 0 (.tkl 2 (.tkl 5 (.o1 3 (.o1 6 (.o1 7 (.o1 8 (.o2 9 (.fin) (.nil)) (.nil)) (.nil)) (.nil)) (.nil))))))) qg qg _ (Za.refl _ _) ?_;refine xx ?_;refine Zb.apn (UR _ (hc.up le) qf fun g4 r4 me4 n4 ap nd=>?_);obtain⟨p3,p2,p1,_⟩:=ap;refine xkp (Za.forget me4) ?_;obtain⟨ra,rk,rc,rfl⟩:=n4.sl;refine xx ?_;refine Zb.apn (UR _ (hd.up (le.trans me4)) qf fun g5 r5 me5 n5 ap nd=>?_);obtain⟨p3,p2,p1,_⟩:=ap;refine xkp (Za.forget (me4.trans me5)) ?_;obtain⟨ta,tk,tc,rfl⟩:=n5.sl;refine xx ?_;refine Zb.apn (UB _ _ (n4.up me5) n5 ⟨qf,qf⟩ fun g6 r6 me6 m6 ap nd=>?_);obtain⟨p3,p2,p1,_⟩:=ap;refine xkp (Za.forget ((me4.trans me5).trans me6)) ?_;obtain⟨va,vk,vc,rfl⟩:=m6.sl;refine xx ?_;have m6':Nt g6 (.agg #[.slice va vk vc]) (GB s+Zqk s) 40000:=m6.more qf;refine Zb.apn (UB _ _ (n6'.up ((me4.trans me5).trans me6)) m6' ⟨qf,qf⟩ fun g7 r7 me7 m7 ap nd=>?_);obtain⟨p3,p2,p1,_⟩:=ap;have me:=((me4.trans me5).trans me6).trans me7;refine xkp (Za.forget me) ?_;obtain⟨wa,wk,wc,rfl⟩:=m7.sl;refine xx ?_;refine Z4 (.tk 1 (.tkl 0 (.tkl 2 (.o1 3 (.o1 4 (.o2 5 (.fin) (.nil)) (.nil)) (.nil))))) qg qg _ (Za.refl _ _) ?_;refine xx ?_;refine Zb.apn (YZ s.an ut.1 ut.2 fun g8 r8 me8 n8 ap nd=>?_);obtain⟨p3,p2,p1,_⟩:=ap;refine xkp (Za.forget me8) ?_;obtain⟨xa,xk,xc,rfl⟩:=n8.sl;refine xx ?_;refine Zb.apn (UB _ _ (m7.up me8) n8 ⟨qf,qf⟩ fun g9 r9 me9 n9 ap nd=>?_);obtain⟨p3,p2,p1,_⟩:=ap;refine xkp (Za.forget (me8.trans me9)) ?_;obtain⟨ya,yk,yc,rfl⟩:=n9.sl;refine xx ?_;refine ZO (ZO (ZO (ZP (hk _ _ (le.trans (me.trans (me8.trans me9))) ?_))));rw[show Zlo s=Zra s+Zoy s+(GB s+Zqk s)+s.an by simp only[Zlo];omega];exact n9.more qf
theorem Zom {s:Zg}(r1 r2 r3 r4:Value)(hm:ZJ h s r1 r2 r3 r4)(few:Yyy s)(hk:∀h',PH.le h h'->K (.bool (Wn s)) L h'):Zb prog 117 [Yxh s r1 r2 r3 r4] L h K:=by
 have um:0<=s.most/\s.most<=18446744073709551615:=hm.ok.u _ qj;have ub:0<=s.aG/\s.aG<=18446744073709551615:=hm.ok.u _ qj;have hm0:=hm;obtain⟨a1,c1,rfl,_⟩:=hm.a.open;obtain⟨a2,c2,rfl,_⟩:=hm.b.open;obtain⟨a3,c3,rfl,_⟩:=hm.c.open;obtain⟨a4,c4,rfl,_⟩:=hm.d.open;simp only[List.length_map]at hm0;have up:∀h',PH.le h h'->ZJ h' s (.slice a1 s.ae.length c1) (.slice a2 s.ag.length c2) (.slice a3 s.aj.length c3) (.slice a4 s.ai.length c4):=fun h' le=>⟨hm0.ok,hm0.a.up le,hm0.b.up le,hm0.c.up le,hm0.d.up le⟩
 refine ed func117 ?_;refine xx ?_;refine ZY fun b1 nb1 zb1=>?_;(try simp only[ZS]at nb1);refine xx ?_;refine Z4 (.tk 2 (.tkl 0 (.tkl 3 (.o1 1 (.o1 4 (.o1 5 (.tk 6 (.tk 7 (.tk 8 (.tkl 9 (.tk 10 (.tk 11 (.tk 12 (.tk 15 (.tkl 13 (.tkl 16 (.tkl 19 (.o1 14 (.o1 17 (.o1 18 (.o1 20 (.o1 21 (.tk 22 (.tk 23 (.tk 24 (.fin)))) (.nil)) (.nil)) (.nil)) (.nil)) (.nil))))))))))))) (.nil)) (.nil)) (.nil))))) qg qg _ (Za.refl _ _) ?_;refine xx ?_;refine Zb.apn (Zfg (s:=s) _ _ _ _ hm0 fun h4 r4 le4 n4 ap nd=>?_);obtain⟨p1,_⟩:=ap;refine xkp (Za.forget le4) ?_;obtain⟨ra,rk,rc,rfl⟩:=n4.sl;refine xx ?_;refine Zb.apn (YZ s.most um.1 um.2 fun h5 r5 le5 n5 ap nd=>?_);obtain⟨p1,_⟩:=ap;refine xkp (Za.forget (le4.trans le5)) ?_;obtain⟨ta,tk,tc,rfl⟩:=n5.sl;refine xx ?_;refine UV _ _ (n4.up le5) n5 ?_;refine xkp (Za.forget (le4.trans le5)) ?_;by_cases q1:s.gen+s.aB<=s.most
 ·have e1:J2 (s.gen+s.aB) s.most<=0:=by unfold J2;split<;>(try split)<;>omega
  refine xx ?_;by_cases q2:s.most<=4611686018427387904
  ·refine xx ?_;refine Zb.apn (Zmy (s:=s) _ _ _ _ (up _ (le4.trans le5)) few fun g4 r4 me4 m4 ap nd=>?_);obtain⟨p1,_⟩:=ap;refine xkp (Za.forget ((le4.trans le5).trans me4)) ?_;obtain⟨ua,uk,uc,rfl⟩:=m4.sl;refine xx ?_;refine Zb.apn (YZ s.aG ub.1 ub.2 fun g5 r5 me5 m5 ap nd=>?_);obtain⟨p1,_⟩:=ap;refine xkp (Za.forget ((le4.trans le5).trans (me4.trans me5))) ?_;obtain⟨va,vk,vc,rfl⟩:=m5.sl;refine xx ?_;refine Zb.apn (UB _ _ (m4.up me5) m5 ⟨qf,qf⟩ fun g6 r6 me6 m6 ap nd=>?_);obtain⟨p1,_⟩:=ap;refine xkp (Za.forget ((le4.trans le5).trans ((me4.trans me5).trans me6))) ?_;obtain⟨wa,wk,wc,rfl⟩:=m6.sl;refine xx ?_;refine Zb.apn (Zfg (s:=s) _ _ _ _ (up _ ((le4.trans le5).trans ((me4.trans me5).trans me6))) fun g7 r7 me7 m7 ap nd=>?_);obtain⟨p1,_⟩:=ap;have le:=(le4.trans le5).trans (((me4.trans me5).trans me6).trans me7);refine xkp (Za.forget le) ?_;obtain⟨xa,xk,xc,rfl⟩:=m7.sl;refine xx ?_;refine UV _ _ (m6.up me7) m7 ?_;refine xkp (Za.forget le) ?_;have e3:decide (J2 (Zlo s+s.aG) (s.gen+s.aB)=0)=Wn s:=by
    simp only[Wn,decide_eq_true q1,decide_eq_true q2,Bool.true_and];apply decide_eq_decide.2;unfold J2;split<;>(try split)<;>omega
   have hk':=hk _ le;rw[<- e3]at hk';refine xx ?_;exact ZO (ZP hk')
  ·rw[show Wn s=false by simp [Wn,q2]]at hk
   repeat' first
    | with_reducible refine xkp (Za.forget (le4.trans le5)) ?_
    | simp -dsimp -implicitDefEqProofs (disch:=first|exact dD|fail) [go_sem]
   exact ZO (ZP (hk _ (le4.trans le5)))
 ·have e1:¬J2 (s.gen+s.aB) s.most<=0:=by unfold J2;split<;>(try split)<;>omega
  rw[show Wn s=false by simp [Wn,q1]]at hk
  repeat' first
   | with_reducible refine xkp (Za.forget (le4.trans le5)) ?_
   | simp -dsimp -implicitDefEqProofs (disch:=first|exact dD|fail) [go_sem]
  exact ZO (ZP (hk _ (le4.trans le5)))
theorem Zjo {α:Type}{f:α->Int}{l:List α}{h:PH}{o:Option (Nat×Nat)}(ho:okO o l.length)(hn:l.length<=100000)(hm:∀x∈l,0<=f x/\f x<=18446744073709551615):Ints (Jh h o (Jg f l l.length)) .u64 (ovs o l.length) (l.map f) :=
 Jr (WE ho (Wq (Nat.le_refl _)) qf) hm
theorem Zya {s:Zg}(v:SV)(hs:Zp h v s)(few:Zy s)(hk:∀h' r1 r2 r3 r4,PH.le h h'->ZJ h' s r1 r2 r3 r4->K (Yxh s r1 r2 r3 r4) L h'):Zb prog 118 [stV s v] L h K:=by
 obtain⟨pa,pc,ma,mc,ea,ec,xa,xc,oa,oc,da,dc,ta,tc,ka,kc,ra,rc,rfl⟩:=hs.slices;have hp:Ints h .u64 (.slice pa s.ag.length pc) s.ag:=hs.p;have hm:Zd YD 6 h (.slice ma s.ae.length mc) s.ae:=hs.m;have ho0:Zd UK 4 h (.slice oa s.aj.length oc) s.aj:=hs.o;have hd0:Zd Yh 3 h (.slice da s.ai.length dc) s.ai:=hs.d;have fm:=few.m;have fo:=few.o;have fd:=few.d;refine ed func118 ?_;refine xx ?_;refine ZY fun b1 nb1 zb1=>?_;(try simp only[ZS]at nb1);refine xx ?_;refine ZY fun b2 nb2 zb2=>?_;(try simp only[ZS]at nb2);refine xx ?_;refine ZY fun b3 nb3 zb3=>?_;(try simp only[ZS]at nb3);refine xx ?_;refine Yi (γ:=Nat×Option (Nat×Nat)) (0,none) (fun q=>q.1<=s.ae.length/\okO q.2 q.1/\apO q.2 (⟨b3,180,[.int .u64 s.most,.int .u64 s.gen,.int .u64 s.aB,.int .u64 s.aG,.int .u64 s.an,(ovs q.2 q.1),.slice pa s.ag.length pc,.slice none 0 0,.slice none 0 0],9⟩::⟨b2,180,[.int .u64 0,.int .u64 0,.int .u64 0,.int .u64 0,.int .u64 0,.slice none 0 0,.slice none 0 0,.slice none 0 0,.slice none 0 0],9⟩::⟨b1,45,stC s ⟨.slice pa s.ag.length pc,.slice ma s.ae.length mc,.slice ea s.entry.length ec,.slice xa s.exit.length xc,.slice oa s.aj.length oc,.slice da s.ai.length dc,.slice ta s.ah.length tc,.slice ka s.marks.length kc,.slice ra s.ring.length rc⟩,41⟩::L) h)
  (fun q=>[(4,.int .i64 q.1),(1,.pointer (some ⟨b1,0,none⟩)),(2,.pointer (some ⟨b2,0,none⟩)),(3,.pointer (some ⟨b3,0,none⟩))])
  (fun q=>oent 22 1 q.2 (Jg Zc.bal s.ae q.1) (⟨b3,180,[.int .u64 s.most,.int .u64 s.gen,.int .u64 s.aB,.int .u64 s.aG,.int .u64 s.an,(ovs q.2 q.1),.slice pa s.ag.length pc,.slice none 0 0,.slice none 0 0],9⟩::⟨b2,180,[.int .u64 0,.int .u64 0,.int .u64 0,.int .u64 0,.int .u64 0,.slice none 0 0,.slice none 0 0,.slice none 0 0,.slice none 0 0],9⟩::⟨b1,45,stC s ⟨.slice pa s.ag.length pc,.slice ma s.ae.length mc,.slice ea s.entry.length ec,.slice xa s.exit.length xc,.slice oa s.aj.length oc,.slice da s.ai.length dc,.slice ta s.ah.length tc,.slice ka s.marks.length kc,.slice ra s.ring.length rc⟩,41⟩::L)) (fun _=>h) (fun q=>s.ae.length-q.1) ?_ ?_ ?_ ?_
 ·exact⟨Nat.zero_le _,rfl,trivial⟩
 ·simp [Ent,List.lookup,ovs]
 ·exact Za.refl _ _
 rintro⟨k,o⟩ ⟨k1,k2,k3⟩;simp only at k1 k2 k3 ⊢;have m3:apB o b3:=k3.head;have m2:apB o b2:=(ZV k3).head;have m1:apB o b1:=(ZV (ZV k3)).head;by_cases c1:k<s.ae.length
 ·refine xX ?_;refine Z4 (.tk 0 (.tk 2 (.tk 4 (.tkl 1 (.tkl 3 (.tk 5 (.tk 6 (.tk 7 (.tkl 8 (.o1 9 (.o1 10 (.tk 11 (.o2 12 (.fin) (.nil))) (.nil)) (.nil))))))))))) qg qg _ (Za.oent _ _ _ _ _ _) ?_;simp -dsimp -implicitDefEqProofs (disch:=first|exact dD|fail) [go_sem,ZR m3,ZR m2,ZR m1,↓Us ZQ qh hm];refine(Zd.fld ZQ hm (j:=k) (o:=0) c1 (u:=.int .u64 (gr ZQ s.ae k).bal) rfl _ _ _).mpr ?_;refine xX ?_;refine ZY fun b4 nb4 zb4=>?_;(try simp only[ZS]at nb4);have n4:=Yx nb4;simp only[ZS]at n4;obtain⟨n43,n42,n41,_⟩:=n4;refine xkp (Za.trans (Za.tail _ _ _) (Za.oent _ _ _ _ _ _)) ?_;refine xx ?_;refine ZZ (t:=25) (e:=22) (sz:=1) (bytes:=8) qg Vw rfl rfl rfl rfl qh [_] _ o k (Jg Zc.bal s.ae k) k2 (Wq k1) (Src.own (b:=b4) List.mem_cons_self) (m:=1) (news:=[.int .u64 (gr ZQ s.ae k).bal]) rfl qy qm qf ?_;intro o' j1 j2 j3;have j4:=ZV j2;have m3':apB o' b3:=j4.head;refine xx ?_;refine xkp (Za.trans (Za.tail _ _ _) (Za.oent _ _ _ _ _ _)) ?_;refine xY ?_;refine⟨k+1,o',⟨qf,j1,?_⟩,qf,qi,?_⟩
  ·cases o' with
   | none=>trivial
   | some p=>exact⟨⟨j4.1.1,j4.1.2⟩,j4.2⟩
  ·rw[Vu ZQ c1];exact Za.tail _ _ _
 ·have hkl:k=s.ae.length:=qf;subst hkl;obtain⟨h1,eh1⟩:∃h1,h1=Jh h o (Jg Zc.bal s.ae s.ae.length):=⟨_,rfl⟩
  have g1:Ints h1 .u64 (ovs o s.ae.length) (s.ae.map Zc.bal):=by rw[eh1];exact Zjo k2 fm fun x hx=>(hs.mo x hx).u _ qj
  have le1:PH.le h h1:=by rw[eh1];exact YL k3 _
  have w3:h1 b3=noC:=by rw[eh1];exact Vt m3 zb3
  have w2:h1 b2=noC:=by rw[eh1];exact Vt m2 zb2
  have w1:h1 b1=noC:=by rw[eh1];exact Vt m1 zb1
  have ho:Zd UK 4 h1 (.slice oa s.aj.length oc) s.aj:=ho0.up le1;obtain⟨ta1,tc1,er1,_⟩:=g1.open;rw[List.length_map]at er1;refine xX ?_;refine Yi (γ:=Nat×Option (Nat×Nat)) (0,none) (fun q=>q.1<=s.aj.length/\okO q.2 q.1/\apO q.2 (⟨b3,180,[.int .u64 s.most,.int .u64 s.gen,.int .u64 s.aB,.int .u64 s.aG,.int .u64 s.an,.slice ta1 s.ae.length tc1,.slice pa s.ag.length pc,(ovs q.2 q.1),.slice none 0 0],9⟩::⟨b2,180,[.int .u64 0,.int .u64 0,.int .u64 0,.int .u64 0,.int .u64 0,.slice none 0 0,.slice none 0 0,.slice none 0 0,.slice none 0 0],9⟩::⟨b1,45,stC s ⟨.slice pa s.ag.length pc,.slice ma s.ae.length mc,.slice ea s.entry.length ec,.slice xa s.exit.length xc,.slice oa s.aj.length oc,.slice da s.ai.length dc,.slice ta s.ah.length tc,.slice ka s.marks.length kc,.slice ra s.ring.length rc⟩,41⟩::L) h1)
   (fun q=>[(5,.int .i64 q.1),(1,.pointer (some ⟨b1,0,none⟩)),(2,.pointer (some ⟨b2,0,none⟩)),(3,.pointer (some ⟨b3,0,none⟩))])
   (fun q=>oent 22 1 q.2 (Jg Zk.amt s.aj q.1) (⟨b3,180,[.int .u64 s.most,.int .u64 s.gen,.int .u64 s.aB,.int .u64 s.aG,.int .u64 s.an,.slice ta1 s.ae.length tc1,.slice pa s.ag.length pc,(ovs q.2 q.1),.slice none 0 0],9⟩::⟨b2,180,[.int .u64 0,.int .u64 0,.int .u64 0,.int .u64 0,.int .u64 0,.slice none 0 0,.slice none 0 0,.slice none 0 0,.slice none 0 0],9⟩::⟨b1,45,stC s ⟨.slice pa s.ag.length pc,.slice ma s.ae.length mc,.slice ea s.entry.length ec,.slice xa s.exit.length xc,.slice oa s.aj.length oc,.slice da s.ai.length dc,.slice ta s.ah.length tc,.slice ka s.marks.length kc,.slice ra s.ring.length rc⟩,41⟩::L)) (fun _=>h1) (fun q=>s.aj.length-q.1) ?_ ?_ ?_ ?_
  ·exact⟨Nat.zero_le _,rfl,trivial⟩
  ·simp [Ent,List.lookup,ovs]
  ·rw[er1,eh1];exact YG _ _ _ _ qh
  rintro⟨k,o⟩ ⟨k1,k2,k3⟩;simp only at k1 k2 k3 ⊢;have m3:apB o b3:=k3.head;have m2:apB o b2:=(ZV k3).head;have m1:apB o b1:=(ZV (ZV k3)).head;by_cases c1:k<s.aj.length
  ·refine xX ?_;refine Z4 (.tk 0 (.tk 2 (.tk 4 (.tkl 1 (.tkl 3 (.tk 5 (.tk 6 (.tkl 7 (.o1 8 (.o1 9 (.tk 10 (.o2 11 (.fin) (.nil))) (.nil)) (.nil)))))))))) qg qg _ (Za.oent _ _ _ _ _ _) ?_;simp -dsimp -implicitDefEqProofs (disch:=first|exact dD|fail) [go_sem,ZR m3,ZR m2,ZR m1,↓Us Yg qh ho];refine(Zd.fld Yg ho (j:=k) (o:=2) c1 (u:=.int .u64 (gr Yg s.aj k).amt) rfl _ _ _).mpr ?_;refine xX ?_;refine ZY fun b4 nb4 zb4=>?_;(try simp only[ZS]at nb4);have n4:=Yx nb4;simp only[ZS]at n4;obtain⟨n43,n42,n41,_⟩:=n4;refine xkp (Za.trans (Za.tail _ _ _) (Za.oent _ _ _ _ _ _)) ?_;refine xx ?_;refine ZZ (t:=25) (e:=22) (sz:=1) (bytes:=8) qg Vw rfl rfl rfl rfl qh [_] _ o k (Jg Zk.amt s.aj k) k2 (Wq k1) (Src.own (b:=b4) List.mem_cons_self) (m:=1) (news:=[.int .u64 (gr Yg s.aj k).amt]) rfl qy qm qf ?_;intro o' j1 j2 j3;have j4:=ZV j2;have m3':apB o' b3:=j4.head;refine xx ?_;refine xkp (Za.trans (Za.tail _ _ _) (Za.oent _ _ _ _ _ _)) ?_;refine xY ?_;refine⟨k+1,o',⟨qf,j1,?_⟩,qf,qi,?_⟩
   ·cases o' with
    | none=>trivial
    | some p=>exact⟨⟨j4.1.1,j4.1.2⟩,j4.2⟩
   ·rw[Vu Yg c1];exact Za.tail _ _ _
  ·have hkl:k=s.aj.length:=qf;subst hkl;obtain⟨h3,eh3⟩:∃h3,h3=Jh h1 o (Jg Zk.amt s.aj s.aj.length):=⟨_,rfl⟩
   have g3:Ints h3 .u64 (ovs o s.aj.length) (s.aj.map Zk.amt):=by rw[eh3];exact Zjo k2 fo fun x hx=>(hs.oo x hx).a
   have le3:PH.le h1 h3:=by rw[eh3];exact YL k3 _
   have y3:h3 b3=noC:=by rw[eh3];exact Vt m3 w3
   have y2:h3 b2=noC:=by rw[eh3];exact Vt m2 w2
   have y1:h3 b1=noC:=by rw[eh3];exact Vt m1 w1
   have hd:Zd Yh 3 h3 (.slice da s.ai.length dc) s.ai:=hd0.up (le1.trans le3);obtain⟨ta3,tc3,er3,_⟩:=g3.open;rw[List.length_map]at er3;refine xX ?_;refine Yi (γ:=Nat×Option (Nat×Nat)) (0,none) (fun q=>q.1<=s.ai.length/\okO q.2 q.1/\apO q.2 (⟨b3,180,[.int .u64 s.most,.int .u64 s.gen,.int .u64 s.aB,.int .u64 s.aG,.int .u64 s.an,.slice ta1 s.ae.length tc1,.slice pa s.ag.length pc,.slice ta3 s.aj.length tc3,(ovs q.2 q.1)],9⟩::⟨b2,180,[.int .u64 0,.int .u64 0,.int .u64 0,.int .u64 0,.int .u64 0,.slice none 0 0,.slice none 0 0,.slice none 0 0,.slice none 0 0],9⟩::⟨b1,45,stC s ⟨.slice pa s.ag.length pc,.slice ma s.ae.length mc,.slice ea s.entry.length ec,.slice xa s.exit.length xc,.slice oa s.aj.length oc,.slice da s.ai.length dc,.slice ta s.ah.length tc,.slice ka s.marks.length kc,.slice ra s.ring.length rc⟩,41⟩::L) h3)
    (fun q=>[(6,.int .i64 q.1),(1,.pointer (some ⟨b1,0,none⟩)),(2,.pointer (some ⟨b2,0,none⟩)),(3,.pointer (some ⟨b3,0,none⟩))])
    (fun q=>oent 22 1 q.2 (Jg Zh.amt s.ai q.1) (⟨b3,180,[.int .u64 s.most,.int .u64 s.gen,.int .u64 s.aB,.int .u64 s.aG,.int .u64 s.an,.slice ta1 s.ae.length tc1,.slice pa s.ag.length pc,.slice ta3 s.aj.length tc3,(ovs q.2 q.1)],9⟩::⟨b2,180,[.int .u64 0,.int .u64 0,.int .u64 0,.int .u64 0,.int .u64 0,.slice none 0 0,.slice none 0 0,.slice none 0 0,.slice none 0 0],9⟩::⟨b1,45,stC s ⟨.slice pa s.ag.length pc,.slice ma s.ae.length mc,.slice ea s.entry.length ec,.slice xa s.exit.length xc,.slice oa s.aj.length oc,.slice da s.ai.length dc,.slice ta s.ah.length tc,.slice ka s.marks.length kc,.slice ra s.ring.length rc⟩,41⟩::L)) (fun _=>h3) (fun q=>s.ai.length-q.1) ?_ ?_ ?_ ?_
   ·exact⟨Nat.zero_le _,rfl,trivial⟩
   ·simp [Ent,List.lookup,ovs]
   ·rw[er3,eh3];exact YG _ _ _ _ qh
   rintro⟨k,o⟩ ⟨k1,k2,k3⟩;simp only at k1 k2 k3 ⊢;have m3:apB o b3:=k3.head;have m2:apB o b2:=(ZV k3).head;have m1:apB o b1:=(ZV (ZV k3)).head;by_cases c1:k<s.ai.length
   ·refine xX ?_;refine Z4 (.tk 0 (.tk 2 (.tk 4 (.tkl 1 (.tkl 3 (.tk 5 (.tk 6 (.tkl 7 (.o1 8 (.o1 9 (.tk 10 (.o2 11 (.fin) (.nil))) (.nil)) (.nil)))))))))) qg qg _ (Za.oent _ _ _ _ _ _) ?_;simp -dsimp -implicitDefEqProofs (disch:=first|exact dD|fail) [go_sem,ZR m3,ZR m2,ZR m1,↓Us ZT qh hd];refine(Zd.fld ZT hd (j:=k) (o:=2) c1 (u:=.int .u64 (gr ZT s.ai k).amt) rfl _ _ _).mpr ?_;refine xX ?_;refine ZY fun b4 nb4 zb4=>?_;(try simp only[ZS]at nb4);have n4:=Yx nb4;simp only[ZS]at n4;obtain⟨n43,n42,n41,_⟩:=n4;refine xkp (Za.trans (Za.tail _ _ _) (Za.oent _ _ _ _ _ _)) ?_;refine xx ?_;refine ZZ (t:=25) (e:=22) (sz:=1) (bytes:=8) qg Vw rfl rfl rfl rfl qh [_] _ o k (Jg Zh.amt s.ai k) k2 (Wq k1) (Src.own (b:=b4) List.mem_cons_self) (m:=1) (news:=[.int .u64 (gr ZT s.ai k).amt]) rfl qy qm qf ?_;intro o' j1 j2 j3;have j4:=ZV j2;have m3':apB o' b3:=j4.head;refine xx ?_;refine xkp (Za.trans (Za.tail _ _ _) (Za.oent _ _ _ _ _ _)) ?_;refine xY ?_;refine⟨k+1,o',⟨qf,j1,?_⟩,qf,qi,?_⟩
    ·cases o' with
     | none=>trivial
     | some p=>exact⟨⟨j4.1.1,j4.1.2⟩,j4.2⟩
    ·rw[Vu ZT c1];exact Za.tail _ _ _
   ·have hkl:k=s.ai.length:=qf;subst hkl;simp -dsimp -implicitDefEqProofs (disch:=first|exact dD|fail) [go_sem,ZR m3,ZR m2,ZR m1,ZX m2];rw[er1]at g1;rw[er3]at g3;exact Yv (n:=s.ai.length) k2 (Wq (Nat.le_refl _)) qf k3 fun h' le sl=>ZO (ZO (ZO (ZP (hk h' _ _ _ _ ((le1.trans le3).trans le) ⟨hs.ok,g1.up (le3.trans le),hp.up ((le1.trans le3).trans le),g3.up le,Jr sl fun x hx=>(hs.dd x hx).a⟩))))
theorem Zjg (a b c:Int)(ha:0<=a/\a<=18446744073709551615)(hb:0<=b)(hc:0<=c/\c<=18446744073709551615)(hk:K (.bool (decide (a+b<c))) L h):Zb prog 267 [.int .u64 a,.int .u64 b,.int .u64 c] L h K:=by
 refine ed func267 ?_;refine xx ?_;by_cases c1:a<c
 ·have e:decide (a+b<c)=decide (b<c-a):=by apply decide_eq_decide.2;omega
  rw[e]at hk;refine xx ?_;exact ZP hk
 ·rw[decide_eq_false (show ¬a+b<c from qf)]at hk;refine xx ?_;exact ZP hk
theorem U2 (p:Ze)(b:Int)(h1:1<=p.inc)(hb:0<=b/\b<=18446744073709551615)(hk:K (.int .u64 (Wi p b)) L h):Zb prog 141 [WS p,.int .u64 b] L h K:=by
 have e1:=Int.emod_nonneg b (show p.inc≠0 from qf);have e3:b/p.inc*p.inc=b-b%p.inc:=by rw[Int.emod_def,Int.mul_comm];omega
 have e2:0<=b/p.inc*p.inc:=Int.mul_nonneg (Int.ediv_nonneg hb.1 qf) qf;have e4:=Int.ediv_nonneg hb.1 (show 0<=p.inc from qf);have e5:b/p.inc<=18446744073709551615:=Int.le_trans (Int.ediv_le_self _ hb.1) hb.2;have e6:b/p.inc*p.inc<=18446744073709551615:=by rw[e3];omega
 unfold Wi at hk;rw[<- e3]at hk;refine ed func141 ?_;refine xx ?_;refine ZY fun b1 nb1 zb1=>?_;(try simp only[ZS]at nb1);refine xx ?_;refine Z4 (.tk 0 (.tk 1 (.tk 4 (.tkl 2 (.tk 3 (.tkl 5 (.tk 6 (.tk 7 (.fin))))))))) qg qg _ (Za.refl _ _) ?_;refine xx ?_;by_cases c:p.aF<b/p.inc*p.inc
 ·rw[Int.min_eq_right qf]at hk;refine xx ?_;exact ZO (ZP hk)
 ·rw[Int.min_eq_left qf]at hk;refine xx ?_;exact ZO (ZP hk)
theorem Zez (p:Ze)(ok:Zj p)(h1:1<=p.inc)(e b:Int)(he:0<=e/\e<=18446744073709551615)(hb:0<=b/\b<=18446744073709551615)(hk:K (.int .u64 (UL p e b)) L h):Zb prog 139 [WS p,.int .u64 e,.int .u64 b] L h K:=by
 have u1:=ok.w p.down qB;have u2:=ok.w p.up qB;unfold UL Ycs at hk;refine ed func139 ?_;refine xx ?_;refine ZY fun b1 nb1 zb1=>?_;(try simp only[ZS]at nb1);refine xx ?_;refine Zjg _ _ _ hb u1.1 he ?_
 cases c1:decide (b+p.down<e) with
 | true =>
  rw[c1]at hk;refine xx ?_;refine U2 p b h1 hb ?_;refine xx ?_;exact ZO (ZP qA)
 | false =>
  rw[c1]at hk;refine xx ?_;refine Zjg _ _ _ he u2.1 hb ?_
  cases c2:decide (e+p.up<b) with
  | true =>
   rw[c2]at hk;refine xx ?_;refine U2 p b h1 hb ?_;refine xx ?_;exact ZO (ZP qA)
  | false =>
   rw[c2]at hk;refine xx ?_;exact ZO (ZP qA)
theorem Zgl (p:Ze)(ok:Zj p)(h1:1<=p.inc)(e b:Int)(he:0<=e/\e<=18446744073709551615)(hb:0<=b/\b<=18446744073709551615)(hk:K (.bool (VJ p e b)) L h):Zb prog 140 [WS p,.int .u64 e,.int .u64 b] L h K:=by
 refine ed func140 ?_;refine xx ?_;refine ZY fun b1 nb1 zb1=>?_;(try simp only[ZS]at nb1);refine xx ?_;by_cases c1:p.inc<=e
 ·by_cases c2:e<=p.aF
  ·by_cases c3:e%p.inc=0
   ·refine xx ?_;refine Zez p ok h1 e b he hb ?_;refine xx ?_;exact ZO (ZP zA)
   ·refine xx ?_;exact ZO (ZP zA)
  ·refine xx ?_;exact ZO (ZP (by simpa [VJ,c1,c2] using hk))
 ·refine xx ?_;exact ZO (ZP (by simpa [VJ,c1] using hk))
theorem Zaq (p:Ze)(m:Zc)(hk:K (Zdk (JV p m)) L h):Zb prog 138 [WS p,Zdk m] L h K:=by
 unfold JV at hk;refine ed func138 ?_;refine xx ?_;refine ZY fun b1 nb1 zb1=>?_;(try simp only[ZS]at nb1);refine xx ?_;refine ZY fun b2 nb2 zb2=>?_;(try simp only[ZS]at nb2);refine xx ?_;refine ZY fun b3 nb3 zb3=>?_;(try simp only[ZS]at nb3);refine xx ?_;by_cases c1:p.aA<m.score
 ·rw[Int.min_eq_right qf]at hk;by_cases c2:m.ak<0
  ·rw[Int.max_eq_right qf]at hk;by_cases c3:p.ak<0
   ·rw[Int.min_eq_right qf]at hk;refine xx ?_;exact ZO (ZO (ZO (ZP hk)))
   ·rw[Int.min_eq_left qf]at hk;refine xx ?_;exact ZO (ZO (ZO (ZP hk)))
  ·rw[Int.max_eq_left qf]at hk;by_cases c3:p.ak<m.ak
   ·rw[Int.min_eq_right qf]at hk;refine xx ?_;exact ZO (ZO (ZO (ZP hk)))
   ·rw[Int.min_eq_left qf]at hk;refine xx ?_;exact ZO (ZO (ZO (ZP hk)))
 ·rw[Int.min_eq_left (a:=m.score) qf]at hk;by_cases c2:m.ak<0
  ·rw[Int.max_eq_right qf]at hk;by_cases c3:p.ak<0
   ·rw[Int.min_eq_right qf]at hk;refine xx ?_;exact ZO (ZO (ZO (ZP hk)))
   ·rw[Int.min_eq_left qf]at hk;refine xx ?_;exact ZO (ZO (ZO (ZP hk)))
  ·rw[Int.max_eq_left qf]at hk;by_cases c3:p.ak<m.ak
   ·rw[Int.min_eq_right qf]at hk;refine xx ?_;exact ZO (ZO (ZO (ZP hk)))
   ·rw[Int.min_eq_left qf]at hk;refine xx ?_;exact ZO (ZO (ZO (ZP hk)))
theorem Y3 (m:Zc)(hk:K (.bool (decide (m.status=2\/m.status=3))) L h):Zb prog 73 [Zeu m] L h K:=by
 refine ed func73 ?_;refine xx ?_;refine ZY fun b1 nb1 zb1=>?_;(try simp only[ZS]at nb1);refine xx ?_;by_cases c:m.status=2
 ·rw[decide_eq_true (Or.inl c)]at hk;refine xx ?_;exact ZO (ZP hk)
 ·have e:decide (m.status=2\/m.status=3)=decide (m.status=3):=by apply decide_eq_decide.2;omega
  rw[e]at hk;refine xx ?_;exact ZO (ZP hk)
theorem Jz {P:Program}{T:Nat}{ks:List IntKind}(ht:P.underlying T=some (.struct (P.fieldsOf T)))(hp:P.stoodInHeld T=false)(hg:P.eqGuardType P.depth T=false)(hok:okF P (P.fieldsOf T).toList 0 ks=true)(ps qs:List Int)(ha:ps.length=ks.length)(hb:qs.length=ks.length)
  (x y:Operand) (K:Value->Prop) (t:Zm K):VO P .neq T x y (.agg (List.zipWith Value.int ks ps).toArray) (.agg (List.zipWith Value.int ks qs).toArray) K t=K (.bool (!decide (ps=qs))) :=
 Yw (fun W=>by
  simp only[Sem.run_bind,run_eqGuard_agg W .neq T x y _ _ hg,Result.andThen_ok,run_neq_struct,Ge ht hp hok ps qs ha hb W]) K
theorem neStd (m q:Zc)(x y:Operand)(K:Value->Prop)(t:Zm K):VO prog .neq 122 x y (Zdk m) (Zdk q) K t=K (.bool (!decide (Zfi m=Zfi q))) :=
 Jz (T:=122) (ks:=[.u64,.u64,.u64,.i64]) qg qg qg qg (Zfi m) (Zfi q) rfl rfl x y K t
theorem Zmp (p:Ze)(ok:Zj p)(hr:Yo p=true)(m:Zc)(mo:Zf m)(hk:K (.bool (Y2 p m)) L h):Zb prog 120 [WS p,Zeu m] L h K:=by
 have ub:0<=m.bal/\m.bal<=18446744073709551615:=mo.u _ qj;have ue:0<=m.eff/\m.eff<=18446744073709551615:=mo.u _ qj;have h1:=Ul hr;refine ed func120 ?_;refine xx ?_;refine ZY fun b1 nb1 zb1=>?_;(try simp only[ZS]at nb1);refine xx ?_;refine ZY fun b2 nb2 zb2=>?_;(try simp only[ZS]at nb2);refine xx ?_;refine WX qg rfl ?_;by_cases c1:m.owner<0
 ·rw[show Y2 p m=false by simp [Y2,show ¬ 0<=m.owner from qf]]at hk;refine xx ?_;exact ZO (ZO (ZP hk))
 by_cases c2:63<m.owner
 ·rw[show Y2 p m=false by simp [Y2,show ¬m.owner<64 from qf]]at hk;refine xx ?_;exact ZO (ZO (ZP hk))
 by_cases c3:m.status<1
 ·rw[show Y2 p m=false by simp [Y2,V1,show ¬(m.status=2\/m.status=3) from qf,show ¬m.status=1 from qf,show ¬(m.status=4\/m.status=5) from qf]]at hk;refine xx ?_;exact ZO (ZO (ZP hk))
 by_cases c4:5<m.status
 ·rw[show Y2 p m=false by simp [Y2,V1,show ¬(m.status=2\/m.status=3) from qf,show ¬m.status=1 from qf,show ¬(m.status=4\/m.status=5) from qf]]at hk;refine xx ?_;exact ZO (ZO (ZP hk))
 have hf:Y2 p m=(decide (Zfi (JV p m)=Zfi m)&&V1 p m):=by simp [Y2,show 0<=m.owner from qf,show m.owner<64 from qf]
 rw[hf]at hk;refine xx ?_;refine VK _ (Zaq p m ⟨rfl,rfl,rfl⟩) ?_;simp -dsimp -implicitDefEqProofs (disch:=first|exact dD|fail) [go_sem,neStd]
 cases hq:decide (Zfi (JV p m)=Zfi m) with
 | false =>
  rw[hq]at hk;refine xx ?_;exact ZO (ZO (ZP qA))
 | true =>
  rw[hq,Bool.true_and]at hk;unfold V1 at hk;refine xx ?_;refine Y3 m ?_;by_cases c5:m.status=2\/m.status=3
  ·rw[if_pos c5]at hk;rw[decide_eq_true c5];by_cases c6:p.floor<m.bal
   ·by_cases c7:m.bal<=p.cap
    ·refine xx ?_;refine Zgl p ok h1 _ _ ue ub ?_;refine xx ?_;exact ZO (ZO (ZP (by simpa [c6,c7] using hk)))
    ·refine xx ?_;exact ZO (ZO (ZP (by simpa [c6,c7] using hk)))
   ·refine xx ?_;exact ZO (ZO (ZP (by simpa [c6] using hk)))
  ·rw[if_neg c5]at hk;rw[decide_eq_false c5];by_cases c6:m.status=1
   ·rw[if_pos c6]at hk;by_cases c7:1<=m.bal
    ·by_cases c8:m.bal<=p.cap
     ·refine xx ?_;exact ZO (ZO (ZP (by simpa [c7,c8] using hk)))
     ·refine xx ?_;exact ZO (ZO (ZP (by simpa [c7,c8] using hk)))
    ·refine xx ?_;exact ZO (ZO (ZP (by simpa [c7] using hk)))
   ·rw[if_neg c6,if_pos qf]at hk;by_cases c7:m.bal=0
    ·refine xx ?_;exact ZO (ZO (ZP (by simpa [c7] using hk)))
    ·refine xx ?_;exact ZO (ZO (ZP (by simpa [c7] using hk)))
theorem Zdg:∀ (A l:List Int),A.Nodup->(∀x∈A,x∈l)->l.length=A.length->l.Perm A
 | [],l,_,_,hl=>by
  have:l=[]:=List.eq_nil_of_length_eq_zero (by simpa using hl);subst this;exact List.Perm.refl _
 | a::A,l,hn,hs,hl=>by
  obtain⟨l1,l2,rfl⟩:=List.append_of_mem (hs a qj);have hn':=List.nodup_cons.1 hn
  have ih:=Zdg A (l1++l2) hn'.2 (fun x hx=>by
   have:=hs x wE;rcases List.mem_append.1 this with h|h
   ·exact List.mem_append.2 (Or.inl h)
   ·rcases List.mem_cons.1 h with h|h
    ·subst h;exact absurd hx hn'.1
    ·exact List.mem_append.2 (Or.inr h)) (by simp at hl ⊢;omega)
  exact List.perm_middle.trans (ih.cons a)
def Zve (s:Zg)(st:Int):Nat->List Int
 | 0=>[]
 | k+1=>Zve s st k++if (gr ZQ s.ae k).status=st then [(k:Int)] else []
theorem Zih (s:Zg)(st:Int):∀k,(Zve s st k).length=Zpm s.ae st k
 | 0=>rfl
 | k+1=>by simp only[Zve,Zpm,List.length_append,Zih s st k];split<;>simp
theorem JQ (s:Zg)(st:Int):∀(k:Nat) (x:Int),x∈Zve s st k↔∃j:Nat,j<k/\x=j/\(gr ZQ s.ae j).status=st
 | 0,x=>by simp [Zve]
 | k+1,x=>by
  simp only[Zve,List.mem_append,JQ s st k x]
  constructor
  ·rintro(⟨j,h1,h2,h3⟩ | h)
   ·exact⟨j,qf,h2,h3⟩
   ·split at h
    ·rename_i c;exact⟨k,qf,by simpa using h,c⟩
    ·cases h
  ·rintro⟨j,h1,h2,h3⟩;by_cases e:j=k
   ·subst e;right;rw[if_pos h3];simpa using h2
   ·exact .inl ⟨j,qf,h2,h3⟩
theorem JR (s:Zg)(st:Int):∀k,(Zve s st k).Nodup
 | 0=>List.nodup_nil
 | k+1=>by
  simp only[Zve];refine List.nodup_append.2 ⟨JR s st k,by split<;>simp,fun a ha b hb=>?_⟩;obtain⟨j,h1,h2,_⟩:=(JQ s st k a).1 ha;split at hb
  ·have:b=(k:Int):=by simpa using hb
   omega
  ·cases hb
def Zdu (s:Zg)(l:List Int)(st:Int)(i:Nat):Bool:=wi (at0 l i) 0 ((s.ae.length:Int)-1)&&decide ((gr ZQ s.ae (at0 l i).toNat).status=st) && !decide (at0 l i∈l.take i)
theorem Zem {s:Zg}{l:List Int}{st:Int}:∀(n:Nat),n<=l.length->(∀i,i<n->Zdu s l st i=true)->(l.take n).Nodup
 | 0,_,_=>qj
 | n+1,hn,hq=>by
  rw[List.take_succ_eq_append_getElem qf];refine List.nodup_append.2 ⟨Zem n qf (fun i hi=>hq i qf),qj,fun a ha b hb=>?_⟩;have:=hq n qf;simp only[Zdu,Bool.and_eq_true,Bool.not_eq_true',decide_eq_false_iff_not]at this;have hb':b=at0 l n:=by rw[<- Ys qf];simpa using hb
  intro e;rw[hb']at e;exact this.2 (e ▸ ha)
theorem row_iff {s:Zg}{l:List Int}{st:Int}:Zfz s l st=true↔(∀i,i<l.length->Zdu s l st i=true)/\(∀j,j<s.ae.length->(gr ZQ s.ae j).status=st->(j:Int)∈l):=by
 constructor
 ·intro h;simp only[Zfz,Bool.and_eq_true,decide_eq_true_eq]at h;obtain⟨h1,h2⟩:=h;have hall:∀j,j<s.ae.length->(gr ZQ s.ae j).status=st->(j:Int)∈l:=fun j hj hst=>by
   rw[Yhb,List.all_eq_true]at h1;have:=h1 j (List.mem_range.2 hj)
   simpa [hst] using this
  have hp:l.Perm (Zve s st s.ae.length):=Zdg _ _ (JR s st _) (fun x hx=>by
   obtain⟨j,j1,rfl,j3⟩:=(JQ s st _ x).1 hx
   exact hall j j1 j3) (by rw[Zih];exact h2)
  refine⟨fun i hi=>?_,hall⟩;have hx:at0 l i∈l:=by rw[<- Ys hi];exact List.getElem_mem hi
  obtain⟨j,j1,j2,j3⟩:=(JQ s st _ _).1 (hp.mem_iff.1 hx);have hnd:l.Nodup:=hp.nodup_iff.2 (JR s st _);simp only[Zdu,Bool.and_eq_true,wi_iff,decide_eq_true_eq,Bool.not_eq_true',decide_eq_false_iff_not];refine⟨⟨qf,by rw[j2];simpa using j3⟩,fun hm=>?_⟩;obtain⟨m,hm1,hm2⟩:=List.mem_iff_getElem.1 hm;simp only[List.length_take]at hm1;rw[List.getElem_take]at hm2;exact(List.pairwise_iff_getElem.1 hnd m i qf hi qf) (by rw[Ys qf,Ys hi];rw[Ys qf]at hm2;exact hm2)
 ·rintro⟨h1,h2⟩;have hnd:=Zem l.length (Nat.le_refl _) h1;rw[List.take_length]at hnd;have hp:(Zve s st s.ae.length).Perm l:=by
   have hsub:∀x∈l,x∈Zve s st s.ae.length:=fun x hx=>by
    obtain⟨i,hi,rfl⟩:=List.mem_iff_getElem.1 hx;have:=h1 i hi;simp only[Zdu,Bool.and_eq_true,wi_iff,decide_eq_true_eq]at this;obtain⟨⟨⟨a,b⟩,c⟩,_⟩:=this;rw[Ys hi];exact(JQ s st _ _).2 ⟨(at0 l i).toNat,qf,qf,c⟩
   have hsub2:∀x∈Zve s st s.ae.length,x∈l:=fun x hx=>by
    obtain⟨j,j1,rfl,j3⟩:=(JQ s st _ x).1 hx;exact h2 j j1 j3
   exact(List.perm_ext_iff_of_nodup (JR s st _) hnd).2 fun x=>⟨hsub2 x,hsub x⟩
  simp only[Zfz,Bool.and_eq_true,decide_eq_true_eq];exact⟨Zcj h2,by rw[<- hp.length_eq,Zih]⟩
theorem Zne {s:Zg}{l:List Int}{st:Int}{i:Nat}(hi:i<l.length)(hq:Zdu s l st i=false):Zfz s l st=false:=by
 cases hc:Zfz s l st with
 | false=>rfl
 | true=>have:=(row_iff.1 hc).1 i hi;rw[hq]at this;cases this
def GY (l:List Zh)(k j:Nat):Bool:=decide ((gr ZT l j).at'<=(gr ZT l k).at') && !(decide ((gr ZT l j).at'=(gr ZT l k).at')&&decide ((gr ZT l j).au=(gr ZT l k).au))
theorem dues_pairs {s:Zg}:JX s=true↔∀k,k<s.ai.length->V4 s (gr ZT s.ai k)=true/\∀j,j<k->GY s.ai k j=true:=by
  have hall:JX s=true↔∀k,k<s.ai.length->Zed s k=true:=by
    rw[JX,List.all_eq_true];exact⟨fun h k hk=>h k (List.mem_range.2 hk),fun h k hk=>h k (List.mem_range.1 hk)⟩
  rw[hall];have met:∀k,Zsv s.ai k=false↔∀j,j<k->¬((gr ZT s.ai k).au=(gr ZT s.ai j).au/\(gr ZT s.ai k).at'=(gr ZT s.ai j).at'):=fun k=>by
    rw[Zsv,List.any_eq_false]
    exact⟨fun h j hj hc=>by have:=h j (List.mem_range.2 hj);simp [hc.1,hc.2]at this,fun h j hj=>by
      have:=h j (List.mem_range.1 hj)
      simpa using this⟩
  constructor
  · intro h;have sorted:∀k,k<s.ai.length->∀j,j<=k->(gr ZT s.ai j).at'<=(gr ZT s.ai k).at':=by
      intro k
      induction k with
      | zero => intro _ j hj; have : j = 0 := by omega
                subst this;exact Int.le_refl _
      | succ k ih =>
        intro hk j hj;by_cases e:j=k+1
        · subst e;exact Int.le_refl _
        · have a:=ih qf j qf;have b:=h (k+1) hk;simp only[Zed,Bool.and_eq_true,Zss,Bool.or_eq_true,decide_eq_true_eq,Nat.add_sub_cancel]at b;rcases b.2 with c|c
          · omega
          · omega
    intro k hk;have b:=h k hk;simp only[Zed,Bool.and_eq_true,Bool.not_eq_true']at b;refine⟨b.1.1,fun j hj=>?_⟩;have c:=(met k).1 b.1.2 j hj;have d:=sorted k hk j qf;simp only[GY,Bool.and_eq_true,decide_eq_true_eq,Bool.not_eq_true',Bool.and_eq_false_iff,decide_eq_false_iff_not];refine⟨d,?_⟩;by_cases e:(gr ZT s.ai j).at'=(gr ZT s.ai k).at'
    · exact .inr fun e2=>c ⟨e2.symm,e.symm⟩
    · exact .inl e
  · intro h k hk;obtain⟨a,b⟩:=h k hk;have pr:∀j,j<k->(gr ZT s.ai j).at'<=(gr ZT s.ai k).at'/\¬((gr ZT s.ai j).at'=(gr ZT s.ai k).at'/\(gr ZT s.ai j).au=(gr ZT s.ai k).au):=fun j hj=>by
      have:=b j hj;simp only[GY,Bool.and_eq_true,decide_eq_true_eq,Bool.not_eq_true',Bool.and_eq_false_iff,decide_eq_false_iff_not]at this;exact⟨this.1,fun e=>by rcases this.2 with c|c;exact c e.1;exact c e.2⟩
    simp only[Zed,Bool.and_eq_true,Bool.not_eq_true',a,true_and];refine⟨(met k).2 fun j hj e=>(pr j hj).2 ⟨e.2.symm,e.1.symm⟩,?_⟩;simp only[Zss,Bool.or_eq_true,decide_eq_true_eq];by_cases e:k=0
    · exact .inl e
    · exact .inr (pr (k-1) qf).1
theorem Zgu {s:Zg}{k:Nat}(hk:k<s.ai.length)(hq:V4 s (gr ZT s.ai k)=false):JX s=false:=VX hk (by simp [Zed,hq])
theorem Zqs {s:Zg}{k j:Nat}(hk:k<s.ai.length)(hj:j<k)(hq:GY s.ai k j=false):JX s=false:=by
 cases hc:JX s with
 | false=>rfl
 | true=>have:=((dues_pairs.1 hc) k hk).2 j hj;rw[hq]at this;cases this
end Go.X
