/- Lemmas and contracts. Conditions: as each says. -/
import Derived.Test.YtllhopbilpdpkaaGreatQ16
set_option linter.unusedVariables false
set_option linter.unusedSimpArgs false
set_option maxHeartbeats 12800000
set_option maxRecDepth 20000
namespace Go.X
open Go.RowKit Go.Proofs Go.Bl Go.Proofs.Tryz
variable {L:Own} {h:PH} {K:PK}
theorem Zgu {n m:Int}{k l:Nat}(v u:Value)(ha:Nt h v n k)(hb:Nt h u m l)(hkl:k≤200000∧l≤200000)(hk:∀h' r,PH.le h h'→Nt h' r (n+m) (max k l+1)→K r L h'):Zb prog 189 [v,u] L h K:=by
 obtain⟨s,ds,rfl,hs,hd,rfl,hdl⟩:=ha;obtain⟨r,es,rfl,hr,he,rfl,hel⟩:=hb;have hs0:=hs;have hr0:=hr;obtain⟨a,ca,rfl,hna,hca,_,hcx⟩:=hs.open;obtain⟨b,cb,rfl,hnb,hcb,_,hcy⟩:=hr.open;obtain⟨N,hN⟩:∃N,N=max ds.length es.length:=⟨_,rfl⟩
 have eN:max (ds.length:Int) (es.length:Int)=(N:Int):=by omega
 refine ZS func189 rfl (rs:=[_]) rfl rfl ZX (by kernel_rfl) rfl rfl ?_;refine xx ?_;refine Z0 fun b1 nb1 zb1=>?_;(try simp only[ZT]at nb1);refine xx ?_;refine Z0 fun b2 nb2 zb2=>?_;(try simp only[ZT]at nb2);refine xx ?_;refine Z0 fun b3 nb3 zb3=>?_;(try simp only[ZT]at nb3);refine xx ?_;refine Yu (γ:=Nat×Int×Option (Nat×Nat)×List Int) (0,0,none,[])
  (fun s=>s.1≤N+1∧(s.1=N+1→s.2.1=0)∧0≤s.2.1∧s.2.1≤1∧s.2.2.2.length=s.1∧okO s.2.2.1 s.2.2.2.length∧apO s.2.2.1 (⟨b3,144,[.slice none 0 0],1⟩::⟨b2,144,[.slice b es.length cb],1⟩::⟨b1,144,[.slice a ds.length ca],1⟩::L) h∧Dg s.2.2.2∧vl s.2.2.2+s.2.1*10 ^ s.1=pv ds s.1+pv es s.1)
  (fun s=>[(7,.int .i64 s.1),(6,.int .i64 s.2.1),(5,ovs s.2.2.1 s.2.2.2.length),(4,.pointer (some ⟨b3,0,none⟩)),(3,.pointer (some ⟨b2,0,none⟩)),(2,.pointer (some ⟨b1,0,none⟩))])
  (fun s=>oent 3 1 s.2.2.1 (s.2.2.2.map (Value.int .i64)) (⟨b3,144,[.slice none 0 0],1⟩::⟨b2,144,[.slice b es.length cb],1⟩::⟨b1,144,[.slice a ds.length ca],1⟩::L))
  (fun _=>h) (fun s=>N+1-s.1) ?_ ?_ ?_ ?_
 ·exact⟨Nat.zero_le _,fun _=>rfl,Int.le_refl _,by simp,rfl,rfl,trivial,fun j=>by simp [at0],by simp [vl,pv]⟩
 ·simp [Ent,List.lookup,ovs]
 ·exact Za.refl _ _
 rintro⟨i,c,o,fs⟩ ⟨i1,i2,i3,i4,i5,i6,i7,i8,i9⟩;simp only at i1 i2 i3 i4 i5 i6 i7 i8 i9 ⊢;have m3:apB o b3:=i7.head;have m2:apB o b2:=(ZZ i7).head;have m1:apB o b1:=(ZZ (ZZ i7)).head;have q1:=hd i;have q2:=he i;have hpd:pv ds (i+1)=pv ds i+at0 ds i*10 ^ i:=rfl;have hpe:pv es (i+1)=pv es i+at0 es i*10 ^ i:=rfl;by_cases c1:(i:Int)<(N:Int)∨0<c
 ·have hi:i<N+1:=by
   by_cases e:i=N+1
   ·have:=i2 e;omega
   ·omega
  obtain⟨t,ht⟩:∃t,t=at0 ds i+at0 es i+c:=⟨_,rfl⟩
  have hz:i=N→at0 ds i=0∧at0 es i=0:=fun e=>⟨UM (by omega),UM (by omega)⟩
  have f1:vl (fs++[t%10])+t/10*10 ^ (i+1)=pv ds (i+1)+pv es (i+1):=by
   rw[Zas,i5,hpd,hpe,Int.pow_succ];have e:t=t/10*10+t%10:=by omega
   have e2:t*10 ^ i=t/10*(10 ^ i*10)+t%10*10 ^ i:=by
    conv=>lhs;rw[e]
    rw[Int.add_mul,Int.mul_assoc,Int.mul_comm 10]
   have e3:t*10 ^ i=at0 ds i*10 ^ i+at0 es i*10 ^ i+c*10 ^ i:=by rw[ht,Int.add_mul,Int.add_mul]
   omega
  by_cases c2:(i:Int)<(N:Int)
  all_goals
   simp -dsimp -implicitDefEqProofs (disch:=first|with_reducible assumption|omega) [go_sem,ZR m2,ZR m1,YE,eN];refine Uh (by kernel_rfl) rfl ?_;simp -dsimp -implicitDefEqProofs (disch:=first|with_reducible assumption|omega) [go_sem,ZR m2,ZR m1];refine VE _ (GO _ i hs0 (by omega) (by omega) ⟨rfl,rfl,rfl⟩) ?_;simp only[Int.toNat_natCast];simp -dsimp -implicitDefEqProofs (disch:=first|with_reducible assumption|omega) [go_sem,ZR m2,ZR m1];refine VE _ (GO _ i hr0 (by omega) (by omega) ⟨rfl,rfl,rfl⟩) ?_;simp only[Int.toNat_natCast];simp -dsimp -implicitDefEqProofs (disch:=first|with_reducible assumption|omega) [go_sem,← ht];refine Z0 fun b4 nb4 zb4=>?_;(try simp only[ZT]at nb4);simp -dsimp -implicitDefEqProofs (disch:=first|with_reducible assumption|omega) [go_sem,← ht];refine Z3 (t:=27) (e:=3) (sz:=1) (bytes:=8) (z:=[.int .i64 0]) (by kernel_rfl) GE rfl rfl rfl rfl (by decide) [_] _ o fs.length (fs.map (Value.int .i64)) i6 (by simp) (Src.own List.mem_cons_self) (m:=1) (news:=[.int .i64 (t%10)]) rfl (fun u hu=>by simp at hu;subst hu;rfl) (by simp [maxLen];omega) (by omega) ?_;intro o' j1 j2 j3;simp -dsimp -implicitDefEqProofs (disch:=first|with_reducible assumption|omega) [go_sem,← ht];refine⟨i+1,t/10,o',fs++[t%10],⟨by omega,fun e=>?_,by omega,by omega,by simp [i5],by simpa using j1,ZZ j2,i8.append (by omega) (by omega),f1⟩,by omega,by simp [Ent,List.lookup],by simpa using Za.tail _ _ _⟩;have:=hz (by omega);omega
 ·have hc0:c=0:=by omega
  subst hc0;have hv:vl fs=vl ds+vl es:=by
   rw[← UA ds i (by omega),← UA es i (by omega)];omega
  simp -dsimp -implicitDefEqProofs (disch:=first|with_reducible assumption|omega) [go_sem,ZR m2,ZR m1,YE,eN];refine Vh (n:=fs.length) i6 (by simp) (by omega) i7 fun h' le sl=>?_;refine Zb.ap (Zac (ds:=fs) (m:=max k l+1) _ ⟨sl,VM i8⟩ i8 (by omega) fun r hr ap=>?_);simp only[Ap]at ap;obtain⟨a3,a2,a1,_⟩:=ap;obtain⟨s',fs',rfl,g1,g2,g3,g4⟩:=hr;refine xx ?_;refine⟨by obtain⟨_,_,rfl,_⟩:=g1.open;rfl,ZO (ZO (ZO (ZP (hk h' _ le ⟨s',fs',rfl,g1,g2,by rw[g3,hv],g4⟩))))⟩
theorem Yae (h:PH)(m:Nat):Nt h (.agg #[.slice none 0 0]) 0 m:=⟨_,[],rfl,WL h .i64,fun j=>by simp [at0],rfl,Nat.zero_le _⟩
theorem Nt.sl {v:Value}{n:Int}{m:Nat}(hs:Nt h v n m):∃a k c,v = .agg #[.slice a k c]:=by
 obtain⟨s,ds,rfl,b,_⟩:=hs;obtain⟨a,c,rfl,_⟩:=b.open;exact⟨a,_,c,rfl⟩
theorem G7 {zs:List Int}(v:Value)(hz:Ints h .u64 v zs)(hn:zs.length≤100000)(hk:∀h' r,PH.le h h'→Nt h' r (tot zs) (zs.length+20)→K r L h'):Zb prog 326 [v] L h K:=by
 have hw:=hz.word;obtain⟨a,c,rfl,hcap,hlen,_,hcs⟩:=hz.open;refine ZS func326 rfl (rs:=[_]) rfl rfl ZX (by kernel_rfl) rfl rfl ?_;refine xx ?_;refine Z0 fun b2 nb2 zb2=>?_;(try simp only[ZT]at nb2);refine xx ?_;refine Z0 fun b3 nb3 zb3=>?_;(try simp only[ZT]at nb3);refine xx ?_;refine Yu (γ:=Nat×Value×PH) (0,.slice none 0 0,h)
  (fun s=>s.1≤zs.length∧PH.le h s.2.2∧s.2.2 b3=noC∧s.2.2 b2=noC∧Nt s.2.2 (.agg #[s.2.1]) (YK zs s.1) (s.1+20))
  (fun s=>[(4,.int .i64 s.1),(3,.pointer (some ⟨b3,0,none⟩)),(2,.pointer (some ⟨b2,0,none⟩)),(0,.slice a zs.length c)])
  (fun s=>⟨b3,144,[s.2.1],1⟩::⟨b2,144,[.slice none 0 0],1⟩::L)
  (fun s=>s.2.2) (fun s=>zs.length-s.1) ?_ ?_ ?_ ?_
 ·exact⟨Nat.zero_le _,PH.le_refl _,zb3,zb2,Yae h _⟩
 ·simp [Ent,List.lookup,Y3]
 ·exact Za.refl _ _
 rintro⟨k,sv,hh⟩ ⟨k1,le0,a3,a2,nt⟩;simp only at k1 le0 a3 a2 nt ⊢;obtain⟨sa,sk,sc,es⟩:=nt.sl;obtain rfl:sv = .slice sa sk sc:=by simpa using es
 have hcs':∀j,j<zs.length→Z8 hh a j=some (.int .u64 (at0 zs j)):=fun j hj=>YZ le0 (hcs j hj);by_cases c1:k<zs.length
 ·refine xx ?_;refine Yj (.tk 1 (.tk 2 (.tk 3 (.tkl 0 (.tkl 4 (.o1 5 (.o1 6 (.o2 7 (.fin) (.nil)) (.nil)) (.nil))))))) (by kernel_rfl) (by kernel_rfl) _ (Za.refl _ _) ?_;simp -dsimp -implicitDefEqProofs (disch:=first|with_reducible assumption|omega) [go_sem,idx hcs'];refine Zb.apn (Vu (at0 zs k) (hw k).1 (hw k).2 fun h4 r4 le4 n4 ap nd=>?_);obtain⟨p3,p2,_⟩:=ap;refine xkp (Za.forget le4) ?_;obtain⟨ra,rk,rc,rfl⟩:=n4.sl;refine xx ?_;refine Zb.apn (Zgu _ _ (nt.up le4) n4 ⟨by omega,by omega⟩ fun h5 r5 le5 n5 ap nd=>?_);obtain⟨p3,p2,_⟩:=ap;refine xkp (Za.forget (le4.trans le5)) ?_;obtain⟨ta,tk,tc,rfl⟩:=n5.sl;refine xx ?_;exact⟨k+1,_,h5,⟨by omega,le0.trans (le4.trans le5),p3,p2,n5.more (by omega)⟩,by omega,by simp [Ent,List.lookup],Za.refl _ _⟩
 ·have hkl:k=zs.length:=by omega
  subst hkl;refine xx ?_;exact ZO (ZO (ZP (hk _ _ le0 nt)))
theorem Uf {n m:Int}{k l:Nat}(v u:Value)(ha:Nt h v n k)(hb:Nt h u m l)(hkl:k≤200000∧l≤200000)(hk:∀h' r,PH.le h h'→Nt h' r (n+m) (max k l+1)→K r L h'):Zb prog 254 [v,u] L h K:=by
 obtain⟨va,vk,vc,rfl⟩:=ha.sl;obtain⟨ua,uk,uc,rfl⟩:=hb.sl;refine ZS func254 rfl (rs:=[_]) rfl rfl ZX (by kernel_rfl) rfl rfl ?_;refine xx ?_;refine Z0 fun b1 nb1 zb1=>?_;(try simp only[ZT]at nb1);refine xx ?_;refine Z0 fun b2 nb2 zb2=>?_;(try simp only[ZT]at nb2);refine xx ?_;refine Z0 fun b3 nb3 zb3=>?_;(try simp only[ZT]at nb3);refine xx ?_;refine Zb.apn (Zgu _ _ ha hb hkl fun h5 r5 le5 n5 ap nd=>?_);obtain⟨p3,p2,p1,_⟩:=ap;obtain⟨ta,tk,tc,rfl⟩:=n5.sl;refine xx ?_;exact ZO (ZO (ZO (ZP (hk _ _ le5 n5))))
abbrev Wed (s:Ze)(r1 r2 r3 r4:Value):Value := .agg #[.int .u64 s.most,.int .u64 s.gen,.int .u64 s.mint,.int .u64 s.burn,.int .u64 s.treas,r1,r2,r3,r4]
structure ZL (h:PH)(s:Ze)(r1 r2 r3 r4:Value):Prop where
 ok:ZB s
 a:Ints h .u64 r1 (s.members.map Zc.bal)
 b:Ints h .u64 r2 s.purses
 c:Ints h .u64 r3 (s.pool.map Zk.amt)
 d:Ints h .u64 r4 (s.dues.map Zi.amt)
theorem Zes {s:Ze}(r1 r2 r3 r4:Value)(hm:ZL h s r1 r2 r3 r4)(hk:∀h' r,PH.le h h'→Nt h' r (s.gen+s.mint) 21→K r L h'):Zb prog 253 [Wed s r1 r2 r3 r4] L h K:=by
 have ug:0≤s.gen∧s.gen≤18446744073709551615:=hm.ok.u _ (by simp);have ui:0≤s.mint∧s.mint≤18446744073709551615:=hm.ok.u _ (by simp);obtain⟨a1,c1,rfl,_⟩:=hm.a.open;obtain⟨a2,c2,rfl,_⟩:=hm.b.open;obtain⟨a3,c3,rfl,_⟩:=hm.c.open;obtain⟨a4,c4,rfl,_⟩:=hm.d.open;refine ZS func253 rfl (rs:=[_]) rfl rfl ZX (by kernel_rfl) rfl rfl ?_;refine xx ?_;refine Z0 fun b1 nb1 zb1=>?_;(try simp only[ZT]at nb1);refine xx ?_;refine Z0 fun b2 nb2 zb2=>?_;(try simp only[ZT]at nb2);refine xx ?_;refine Yj (.tk 0 (.tk 3 (.tkl 1 (.tkl 4 (.o1 2 (.o1 5 (.o1 6 (.o2 7 (.fin) (.nil)) (.nil)) (.nil)) (.nil)))))) (by kernel_rfl) (by kernel_rfl) _ (Za.refl _ _) ?_;refine xx ?_;refine Zb.apn (Vu s.gen ug.1 ug.2 fun h4 r4 le4 n4 ap nd=>?_);obtain⟨p2,p1,_⟩:=ap;refine xkp (Za.forget le4) ?_;obtain⟨ra,rk,rc,rfl⟩:=n4.sl;refine xx ?_;refine Zb.apn (Vu s.mint ui.1 ui.2 fun h5 r5 le5 n5 ap nd=>?_);obtain⟨p2,p1,_⟩:=ap;refine xkp (Za.forget (le4.trans le5)) ?_;obtain⟨ta,tk,tc,rfl⟩:=n5.sl;refine xx ?_;refine Zb.apn (Uf _ _ (n4.up le5) n5 ⟨by omega,by omega⟩ fun h6 r6 le6 n6 ap nd=>?_);obtain⟨p2,p1,_⟩:=ap;refine xkp (Za.forget ((le4.trans le5).trans le6)) ?_;obtain⟨ua,uk,uc,rfl⟩:=n6.sl;refine xx ?_;exact ZO (ZO (ZP (hk _ _ ((le4.trans le5).trans le6) n6)))
structure ZN (s:Ze):Prop where
 p:s.purses.length≤20000
 m:s.members.length≤20000
 o:s.pool.length≤20000
 d:s.dues.length≤20000
theorem Zku {s:Ze}(r1 r2 r3 r4:Value)(hm:ZL h s r1 r2 r3 r4)(few:ZN s)(hk:∀h' r,PH.le h h'→Nt h' r (Zkr s) 100000→K r L h'):Zb prog 255 [Wed s r1 r2 r3 r4] L h K:=by
  have ut:0≤s.treas∧s.treas≤18446744073709551615:=hm.ok.u _ (by simp);obtain⟨f1,f2,f3,f4⟩:=few;have ha:=hm.a;have hb:=hm.b;have hc:=hm.c;have hd:=hm.d;have l1:(s.members.map Zc.bal).length=s.members.length:=by simp
  have l3:(s.pool.map Zk.amt).length=s.pool.length:=by simp
  have l4:(s.dues.map Zi.amt).length=s.dues.length:=by simp
  obtain⟨a1,c1,rfl,_⟩:=ha.open;obtain⟨a2,c2,rfl,_⟩:=hb.open;obtain⟨a3,c3,rfl,_⟩:=hc.open;obtain⟨a4,c4,rfl,_⟩:=hd.open;refine ZS func255 rfl (rs:=[_]) rfl rfl ZX (by kernel_rfl) rfl rfl ?_;refine xx ?_;refine Z0 fun b1 nb1 zb1=>?_;(try simp only[ZT]at nb1);refine xx ?_;refine Z0 fun b2 nb2 zb2=>?_;(try simp only[ZT]at nb2);refine xx ?_;simp only[l1,l3,l4]at ha hc hd;refine Wi (.tk 0 (.tk 3 (.tkl 1 (.tkl 4 (.o1 2 (.o1 5 (.o1 6 (.o1 7 (.o2 8 (.fin) (.nil)) (.nil)) (.o1 7 (.o1 6 (.o2 8 (.fin) (.nil)) (.nil)) (.nil))) (.o1 7 (.o1 5 (.o1 6 (.o2 8 (.fin) (.nil)) (.nil)) (.nil)) (.nil))) (.o1 7 (.o1 2 (.o1 5 (.o1 6 (.o2 8 (.fin) (.nil)) (.nil)) (.nil)) (.nil)) (.nil))))))) (by kernel_rfl) (by kernel_rfl) [(1,.pointer (some ⟨b1,0,none⟩)),(2,.pointer (some ⟨b2,0,none⟩))] [⟨b1,180,[.int .u64 s.most,.int .u64 s.gen,.int .u64 s.mint,.int .u64 s.burn,.int .u64 s.treas,.slice a1 s.members.length c1,.slice a2 s.purses.length c2,.slice a3 s.pool.length c3,.slice a4 s.dues.length c4],9⟩] (γ:=Value×Nat×PH)
    (fun q=>PH.le h q.2.2∧Nt q.2.2 (.agg #[q.1]) (Zsn s+Zta s) 40000∧q.2.2 b1=noC∧q.2.2 b2=noC∧q.2.2 q.2.1=noC∧b1≠q.2.1∧b2≠q.2.1)
    (fun q=>[(1,.pointer (some ⟨b1,0,none⟩)),(2,.pointer (some ⟨b2,0,none⟩)),(3,.pointer (some ⟨q.2.1,0,none⟩))])
    (fun q=>⟨q.2.1,144,[q.1],1⟩::⟨b2,144,[.slice none 0 0],1⟩::⟨b1,180,[.int .u64 s.most,.int .u64 s.gen,.int .u64 s.mint,.int .u64 s.burn,.int .u64 s.treas,.slice a1 s.members.length c1,.slice a2 s.purses.length c2,.slice a3 s.pool.length c3,.slice a4 s.dues.length c4],9⟩::L) (fun q=>q.2.2) (by simp [Ent,List.lookup]) (Za.mem (by simp)) ?_ ?_
  · repeat' first
      | with_reducible refine Y0 ?_ ?_
      | with_reducible refine xkp (Za.mem (by simp)) ?_
      | with_reducible refine xkp ((Za.forget le6').trans (Za.mem (by simp))) ?_
      | with_reducible refine xkp ((Za.forget le5').trans (Za.mem (by simp))) ?_
      | with_reducible refine xkp ((Za.forget le4).trans (Za.mem (by simp))) ?_
      | (with_reducible refine Z0 fun b3 nb3 zb3 => ?_
         simp only[ZT]at nb3)
      | simp -dsimp -implicitDefEqProofs (disch:=first|with_reducible assumption|omega) [go_sem]
      | (with_reducible show VP prog 326 [.slice a1 s.members.length c1] _ _ _
         refine Zb.ap (G7 _ ha (by omega) fun h4 r4 le4 n4 ap4=>?_)
         obtain⟨ra,rk,rc,rfl⟩:=n4.sl)
      | (with_reducible show VP prog 326 [.slice a2 s.purses.length c2] _ _ _
         refine Zb.ap (G7 _ (hb.up le4) (by omega) fun h5 r5 le5 n5 ap5=>?_);have le5':=PH.le.trans le4 le5
         obtain⟨ta,tk,tc,rfl⟩:=n5.sl)
      | (with_reducible show VP prog 254 _ _ _ _
         refine Zb.ap (Uf _ _ (n4.up le5) n5 ⟨by omega,by omega⟩ fun h6 r6 le6 n6 ap6=>?_);have le6':=PH.le.trans le5' le6;simp only[Ap]at ap6
         obtain⟨ua,uk,uc,rfl⟩:=n6.sl)
    all_goals
      refine⟨_,b3,h6,⟨le6',n6.more (by omega),?_,?_,?_,nb3.2.1,nb3.1⟩,by simp [Ent,List.lookup],Za.refl _ _⟩
      · simp only[ap6]
      · simp only[ap6]
      · simp only[ap6,zb3]
  rintro⟨sA,b3,h6⟩ ⟨le,n6',p1,p2,p3,n13,n23⟩;simp only at le n6' p1 p2 p3 n13 n23 ⊢;obtain⟨ua,uk,uc,es⟩:=n6'.sl;obtain rfl:sA = .slice ua uk uc:=by simpa using es
  have nb3:b2≠b3∧b1≠b3:=⟨n23,n13⟩
  refine xx ?_;refine Yj (.tk 1 (.tk 4 (.tkl 0 (.tkl 2 (.tkl 5 (.o1 3 (.o1 6 (.o1 7 (.o1 8 (.o2 9 (.fin) (.nil)) (.nil)) (.nil)) (.nil)) (.nil))))))) (by kernel_rfl) (by kernel_rfl) _ (Za.refl _ _) ?_;refine xx ?_;refine Zb.apn (G7 _ (hc.up le) (by omega) fun g4 r4 me4 n4 ap nd=>?_);obtain⟨p3,p2,p1,_⟩:=ap;refine xkp (Za.forget me4) ?_;obtain⟨ra,rk,rc,rfl⟩:=n4.sl;refine xx ?_;refine Zb.apn (G7 _ (hd.up (le.trans me4)) (by omega) fun g5 r5 me5 n5 ap nd=>?_);obtain⟨p3,p2,p1,_⟩:=ap;refine xkp (Za.forget (me4.trans me5)) ?_;obtain⟨ta,tk,tc,rfl⟩:=n5.sl;refine xx ?_;refine Zb.apn (Uf _ _ (n4.up me5) n5 ⟨by omega,by omega⟩ fun g6 r6 me6 m6 ap nd=>?_);obtain⟨p3,p2,p1,_⟩:=ap;refine xkp (Za.forget ((me4.trans me5).trans me6)) ?_;obtain⟨va,vk,vc,rfl⟩:=m6.sl;refine xx ?_;have m6':Nt g6 (.agg #[.slice va vk vc]) (Gx s+Zrn s) 40000:=m6.more (by omega);refine Zb.apn (Uf _ _ (n6'.up ((me4.trans me5).trans me6)) m6' ⟨by omega,by omega⟩ fun g7 r7 me7 m7 ap nd=>?_);obtain⟨p3,p2,p1,_⟩:=ap;have me:=((me4.trans me5).trans me6).trans me7;refine xkp (Za.forget me) ?_;obtain⟨wa,wk,wc,rfl⟩:=m7.sl;refine xx ?_;refine Yj (.tk 1 (.tkl 0 (.tkl 2 (.o1 3 (.o1 4 (.o2 5 (.fin) (.nil)) (.nil)) (.nil))))) (by kernel_rfl) (by kernel_rfl) _ (Za.refl _ _) ?_;refine xx ?_;refine Zb.apn (Vu s.treas ut.1 ut.2 fun g8 r8 me8 n8 ap nd=>?_);obtain⟨p3,p2,p1,_⟩:=ap;refine xkp (Za.forget me8) ?_;obtain⟨xa,xk,xc,rfl⟩:=n8.sl;refine xx ?_;refine Zb.apn (Uf _ _ (m7.up me8) n8 ⟨by omega,by omega⟩ fun g9 r9 me9 n9 ap nd=>?_);obtain⟨p3,p2,p1,_⟩:=ap;refine xkp (Za.forget (me8.trans me9)) ?_;obtain⟨ya,yk,yc,rfl⟩:=n9.sl;refine xx ?_;refine ZO (ZO (ZO (ZP (hk _ _ (le.trans (me.trans (me8.trans me9))) ?_))));rw[show Zkr s=Zsn s+Zta s+(Gx s+Zrn s)+s.treas by simp only[Zkr];omega];exact n9.more (by omega)
theorem Zmf {s:Ze}(r1 r2 r3 r4:Value)(hm:ZL h s r1 r2 r3 r4)(few:ZN s)(hk:∀h',PH.le h h'→K (.bool (Wc s)) L h'):Zb prog 117 [Wed s r1 r2 r3 r4] L h K:=by
 have um:0≤s.most∧s.most≤18446744073709551615:=hm.ok.u _ (by simp);have ub:0≤s.burn∧s.burn≤18446744073709551615:=hm.ok.u _ (by simp);have hm0:=hm;obtain⟨a1,c1,rfl,_⟩:=hm.a.open;obtain⟨a2,c2,rfl,_⟩:=hm.b.open;obtain⟨a3,c3,rfl,_⟩:=hm.c.open;obtain⟨a4,c4,rfl,_⟩:=hm.d.open;simp only[List.length_map]at hm0;have up:∀h',PH.le h h'→ZL h' s (.slice a1 s.members.length c1) (.slice a2 s.purses.length c2) (.slice a3 s.pool.length c3) (.slice a4 s.dues.length c4):=fun h' le=>⟨hm0.ok,hm0.a.up le,hm0.b.up le,hm0.c.up le,hm0.d.up le⟩
 refine ZS func117 rfl (rs:=[_]) rfl rfl ZX (by kernel_rfl) rfl rfl ?_;refine xx ?_;refine Z0 fun b1 nb1 zb1=>?_;(try simp only[ZT]at nb1);refine xx ?_;refine Yj (.tk 2 (.tkl 0 (.tkl 3 (.o1 1 (.o1 4 (.o1 5 (.tk 6 (.tk 7 (.tk 8 (.tkl 9 (.tk 10 (.tk 11 (.tk 12 (.tk 15 (.tkl 13 (.tkl 16 (.tkl 19 (.o1 14 (.o1 17 (.o1 18 (.o1 20 (.o1 21 (.tk 22 (.tk 23 (.tk 24 (.fin)))) (.nil)) (.nil)) (.nil)) (.nil)) (.nil))))))))))))) (.nil)) (.nil)) (.nil))))) (by kernel_rfl) (by kernel_rfl) _ (Za.refl _ _) ?_;refine xx ?_;refine Zb.apn (Zes (s:=s) _ _ _ _ hm0 fun h4 r4 le4 n4 ap nd=>?_);obtain⟨p1,_⟩:=ap;refine xkp (Za.forget le4) ?_;obtain⟨ra,rk,rc,rfl⟩:=n4.sl;refine xx ?_;refine Zb.apn (Vu s.most um.1 um.2 fun h5 r5 le5 n5 ap nd=>?_);obtain⟨p1,_⟩:=ap;refine xkp (Za.forget (le4.trans le5)) ?_;obtain⟨ta,tk,tc,rfl⟩:=n5.sl;refine xx ?_;refine Zct _ _ (n4.up le5) n5 ?_;refine xkp (Za.forget (le4.trans le5)) ?_;by_cases q1:s.gen+s.mint≤s.most
 ·have e1:Zdj (s.gen+s.mint) s.most≤0:=by unfold Zdj;split<;>(try split)<;>omega
  refine xx ?_;by_cases q2:s.most≤4611686018427387904
  ·refine xx ?_;refine Zb.apn (Zku (s:=s) _ _ _ _ (up _ (le4.trans le5)) few fun g4 r4 me4 m4 ap nd=>?_);obtain⟨p1,_⟩:=ap;refine xkp (Za.forget ((le4.trans le5).trans me4)) ?_;obtain⟨ua,uk,uc,rfl⟩:=m4.sl;refine xx ?_;refine Zb.apn (Vu s.burn ub.1 ub.2 fun g5 r5 me5 m5 ap nd=>?_);obtain⟨p1,_⟩:=ap;refine xkp (Za.forget ((le4.trans le5).trans (me4.trans me5))) ?_;obtain⟨va,vk,vc,rfl⟩:=m5.sl;refine xx ?_;refine Zb.apn (Uf _ _ (m4.up me5) m5 ⟨by omega,by omega⟩ fun g6 r6 me6 m6 ap nd=>?_);obtain⟨p1,_⟩:=ap;refine xkp (Za.forget ((le4.trans le5).trans ((me4.trans me5).trans me6))) ?_;obtain⟨wa,wk,wc,rfl⟩:=m6.sl;refine xx ?_;refine Zb.apn (Zes (s:=s) _ _ _ _ (up _ ((le4.trans le5).trans ((me4.trans me5).trans me6))) fun g7 r7 me7 m7 ap nd=>?_);obtain⟨p1,_⟩:=ap;have le:=(le4.trans le5).trans (((me4.trans me5).trans me6).trans me7);refine xkp (Za.forget le) ?_;obtain⟨xa,xk,xc,rfl⟩:=m7.sl;refine xx ?_;refine Zct _ _ (m6.up me7) m7 ?_;refine xkp (Za.forget le) ?_;have e3:decide (Zdj (Zkr s+s.burn) (s.gen+s.mint)=0)=Wc s:=by
    simp only[Wc,decide_eq_true q1,decide_eq_true q2,Bool.true_and];apply decide_eq_decide.2;unfold Zdj;split<;>(try split)<;>omega
   have hk':=hk _ le;rw[← e3]at hk';refine xx ?_;exact ZO (ZP hk')
  ·rw[show Wc s=false by simp [Wc,q2]]at hk
   repeat' first
    | with_reducible refine xkp (Za.forget (le4.trans le5)) ?_
    | simp -dsimp -implicitDefEqProofs (disch:=first|with_reducible assumption|omega) [go_sem]
   exact ZO (ZP (hk _ (le4.trans le5)))
 ·have e1:¬Zdj (s.gen+s.mint) s.most≤0:=by unfold Zdj;split<;>(try split)<;>omega
  rw[show Wc s=false by simp [Wc,q1]]at hk
  repeat' first
   | with_reducible refine xkp (Za.forget (le4.trans le5)) ?_
   | simp -dsimp -implicitDefEqProofs (disch:=first|with_reducible assumption|omega) [go_sem]
  exact ZO (ZP (hk _ (le4.trans le5)))
theorem Zib {α:Type}{f:α→Int}{l:List α}{h:PH}{o:Option (Nat×Nat)}(ho:okO o l.length)(hn:l.length≤100000)(hm:∀x∈l,0≤f x∧f x≤18446744073709551615):Ints (JV h o (U7 f l l.length)) .u64 (ovs o l.length) (l.map f) :=
 J6 (Vv ho (WB (Nat.le_refl _)) (by omega)) hm
theorem Zuu {s:Ze}(v:SV)(hs:Zo h v s)(few:Zv s)(hk:∀h' r1 r2 r3 r4,PH.le h h'→ZL h' s r1 r2 r3 r4→K (Wed s r1 r2 r3 r4) L h'):Zb prog 118 [stV s v] L h K:=by
 obtain⟨pa,pc,ma,mc,ea,ec,xa,xc,oa,oc,da,dc,ta,tc,ka,kc,ra,rc,rfl⟩:=hs.slices;have hp:Ints h .u64 (.slice pa s.purses.length pc) s.purses:=hs.p;have hm:Zh Ym 6 h (.slice ma s.members.length mc) s.members:=hs.m;have ho0:Zh Ua 4 h (.slice oa s.pool.length oc) s.pool:=hs.o;have hd0:Zh YB 3 h (.slice da s.dues.length dc) s.dues:=hs.d;have fm:=few.m;have fo:=few.o;have fd:=few.d;refine ZS func118 rfl (rs:=[_]) rfl rfl ZX (by kernel_rfl) rfl rfl ?_;refine xx ?_;refine Z0 fun b1 nb1 zb1=>?_;(try simp only[ZT]at nb1);refine xx ?_;refine Z0 fun b2 nb2 zb2=>?_;(try simp only[ZT]at nb2);refine xx ?_;refine Z0 fun b3 nb3 zb3=>?_;(try simp only[ZT]at nb3);refine xx ?_;refine Yu (γ:=Nat×Option (Nat×Nat)) (0,none) (fun q=>q.1≤s.members.length∧okO q.2 q.1∧apO q.2 (⟨b3,180,[.int .u64 s.most,.int .u64 s.gen,.int .u64 s.mint,.int .u64 s.burn,.int .u64 s.treas,(ovs q.2 q.1),.slice pa s.purses.length pc,.slice none 0 0,.slice none 0 0],9⟩::⟨b2,180,[.int .u64 0,.int .u64 0,.int .u64 0,.int .u64 0,.int .u64 0,.slice none 0 0,.slice none 0 0,.slice none 0 0,.slice none 0 0],9⟩::⟨b1,45,stC s ⟨.slice pa s.purses.length pc,.slice ma s.members.length mc,.slice ea s.entry.length ec,.slice xa s.exit.length xc,.slice oa s.pool.length oc,.slice da s.dues.length dc,.slice ta s.motions.length tc,.slice ka s.marks.length kc,.slice ra s.ring.length rc⟩,41⟩::L) h)
  (fun q=>[(4,.int .i64 q.1),(1,.pointer (some ⟨b1,0,none⟩)),(2,.pointer (some ⟨b2,0,none⟩)),(3,.pointer (some ⟨b3,0,none⟩))])
  (fun q=>oent 22 1 q.2 (U7 Zc.bal s.members q.1) (⟨b3,180,[.int .u64 s.most,.int .u64 s.gen,.int .u64 s.mint,.int .u64 s.burn,.int .u64 s.treas,(ovs q.2 q.1),.slice pa s.purses.length pc,.slice none 0 0,.slice none 0 0],9⟩::⟨b2,180,[.int .u64 0,.int .u64 0,.int .u64 0,.int .u64 0,.int .u64 0,.slice none 0 0,.slice none 0 0,.slice none 0 0,.slice none 0 0],9⟩::⟨b1,45,stC s ⟨.slice pa s.purses.length pc,.slice ma s.members.length mc,.slice ea s.entry.length ec,.slice xa s.exit.length xc,.slice oa s.pool.length oc,.slice da s.dues.length dc,.slice ta s.motions.length tc,.slice ka s.marks.length kc,.slice ra s.ring.length rc⟩,41⟩::L)) (fun _=>h) (fun q=>s.members.length-q.1) ?_ ?_ ?_ ?_
 ·exact⟨Nat.zero_le _,rfl,trivial⟩
 ·simp [Ent,List.lookup,ovs]
 ·exact Za.refl _ _
 rintro⟨k,o⟩ ⟨k1,k2,k3⟩;simp only at k1 k2 k3 ⊢;have m3:apB o b3:=k3.head;have m2:apB o b2:=(ZZ k3).head;have m1:apB o b1:=(ZZ (ZZ k3)).head;by_cases c1:k<s.members.length
 ·simp -dsimp -implicitDefEqProofs (disch:=first|with_reducible assumption|omega) [go_sem,ZR m3,ZR m2,ZR m1];refine Yj (.tk 0 (.tk 2 (.tk 4 (.tkl 1 (.tkl 3 (.tk 5 (.tk 6 (.tk 7 (.tkl 8 (.o1 9 (.o1 10 (.tk 11 (.o2 12 (.fin) (.nil))) (.nil)) (.nil))))))))))) (by kernel_rfl) (by kernel_rfl) _ (Za.oent _ _ _ _ _ _) ?_;simp -dsimp -implicitDefEqProofs (disch:=first|with_reducible assumption|omega) [go_sem,ZR m3,ZR m2,ZR m1,↓WQ ZQ (by decide) hm];refine(Zh.fld ZQ hm (j:=k) (o:=0) c1 (u:=.int .u64 (gr ZQ s.members k).bal) rfl _ _ _).mpr ?_;simp -dsimp -implicitDefEqProofs (disch:=first|with_reducible assumption|omega) [go_sem,ZR m3,ZR m2,ZR m1];refine Z0 fun b4 nb4 zb4=>?_;(try simp only[ZT]at nb4);have n4:=Yr nb4;simp only[ZT]at n4;obtain⟨n43,n42,n41,_⟩:=n4;refine xkp (Za.trans (Za.tail _ _ _) (Za.oent _ _ _ _ _ _)) ?_;refine xx ?_;refine Z3 (t:=25) (e:=22) (sz:=1) (bytes:=8) (by kernel_rfl) Ug rfl rfl rfl rfl (by decide) [_] _ o k (U7 Zc.bal s.members k) k2 (WB k1) (Src.own (b:=b4) List.mem_cons_self) (m:=1) (news:=[.int .u64 (gr ZQ s.members k).bal]) rfl (by intro u hu;simp only[List.mem_singleton]at hu;subst hu;rfl) (by simp [maxLen];omega) (by omega) ?_;intro o' j1 j2 j3;have j4:=ZZ j2;have m3':apB o' b3:=j4.head;refine xx ?_;refine xkp (Za.trans (Za.tail _ _ _) (Za.oent _ _ _ _ _ _)) ?_;simp -dsimp -implicitDefEqProofs (disch:=first|with_reducible assumption|omega) [go_sem,ZY m3'];refine⟨k+1,o',⟨by omega,j1,?_⟩,by omega,by simp [Ent,List.lookup],?_⟩
  ·cases o' with
   | none=>trivial
   | some p=>exact⟨⟨j4.1.1,j4.1.2⟩,j4.2⟩
  ·rw[VL ZQ c1];exact Za.tail _ _ _
 ·have hkl:k=s.members.length:=by omega
  subst hkl;obtain⟨h1,eh1⟩:∃h1,h1=JV h o (U7 Zc.bal s.members s.members.length):=⟨_,rfl⟩
  have g1:Ints h1 .u64 (ovs o s.members.length) (s.members.map Zc.bal):=by rw[eh1];exact Zib k2 fm fun x hx=>(hs.mo x hx).u _ (by simp)
  have le1:PH.le h h1:=by rw[eh1];exact Y9 k3 _
  have w3:h1 b3=noC:=by rw[eh1];exact Vi m3 zb3
  have w2:h1 b2=noC:=by rw[eh1];exact Vi m2 zb2
  have w1:h1 b1=noC:=by rw[eh1];exact Vi m1 zb1
  have ho:Zh Ua 4 h1 (.slice oa s.pool.length oc) s.pool:=ho0.up le1;obtain⟨ta1,tc1,er1,_⟩:=g1.open;rw[List.length_map]at er1;simp -dsimp -implicitDefEqProofs (disch:=first|with_reducible assumption|omega) [go_sem,ZR m3,ZR m2,ZR m1];refine Yu (γ:=Nat×Option (Nat×Nat)) (0,none) (fun q=>q.1≤s.pool.length∧okO q.2 q.1∧apO q.2 (⟨b3,180,[.int .u64 s.most,.int .u64 s.gen,.int .u64 s.mint,.int .u64 s.burn,.int .u64 s.treas,(.slice ta1 s.members.length tc1),.slice pa s.purses.length pc,(ovs q.2 q.1),.slice none 0 0],9⟩::⟨b2,180,[.int .u64 0,.int .u64 0,.int .u64 0,.int .u64 0,.int .u64 0,.slice none 0 0,.slice none 0 0,.slice none 0 0,.slice none 0 0],9⟩::⟨b1,45,stC s ⟨.slice pa s.purses.length pc,.slice ma s.members.length mc,.slice ea s.entry.length ec,.slice xa s.exit.length xc,.slice oa s.pool.length oc,.slice da s.dues.length dc,.slice ta s.motions.length tc,.slice ka s.marks.length kc,.slice ra s.ring.length rc⟩,41⟩::L) h1)
   (fun q=>[(5,.int .i64 q.1),(1,.pointer (some ⟨b1,0,none⟩)),(2,.pointer (some ⟨b2,0,none⟩)),(3,.pointer (some ⟨b3,0,none⟩))])
   (fun q=>oent 22 1 q.2 (U7 Zk.amt s.pool q.1) (⟨b3,180,[.int .u64 s.most,.int .u64 s.gen,.int .u64 s.mint,.int .u64 s.burn,.int .u64 s.treas,(.slice ta1 s.members.length tc1),.slice pa s.purses.length pc,(ovs q.2 q.1),.slice none 0 0],9⟩::⟨b2,180,[.int .u64 0,.int .u64 0,.int .u64 0,.int .u64 0,.int .u64 0,.slice none 0 0,.slice none 0 0,.slice none 0 0,.slice none 0 0],9⟩::⟨b1,45,stC s ⟨.slice pa s.purses.length pc,.slice ma s.members.length mc,.slice ea s.entry.length ec,.slice xa s.exit.length xc,.slice oa s.pool.length oc,.slice da s.dues.length dc,.slice ta s.motions.length tc,.slice ka s.marks.length kc,.slice ra s.ring.length rc⟩,41⟩::L)) (fun _=>h1) (fun q=>s.pool.length-q.1) ?_ ?_ ?_ ?_
  ·exact⟨Nat.zero_le _,rfl,trivial⟩
  ·simp [Ent,List.lookup,ovs]
  ·rw[er1,eh1];exact Y4 _ _ _ _ (by decide)
  rintro⟨k,o⟩ ⟨k1,k2,k3⟩;simp only at k1 k2 k3 ⊢;have m3:apB o b3:=k3.head;have m2:apB o b2:=(ZZ k3).head;have m1:apB o b1:=(ZZ (ZZ k3)).head;by_cases c1:k<s.pool.length
  ·simp -dsimp -implicitDefEqProofs (disch:=first|with_reducible assumption|omega) [go_sem,ZR m3,ZR m2,ZR m1];refine Yj (.tk 0 (.tk 2 (.tk 4 (.tkl 1 (.tkl 3 (.tk 5 (.tk 6 (.tkl 7 (.o1 8 (.o1 9 (.tk 10 (.o2 11 (.fin) (.nil))) (.nil)) (.nil)))))))))) (by kernel_rfl) (by kernel_rfl) _ (Za.oent _ _ _ _ _ _) ?_;simp -dsimp -implicitDefEqProofs (disch:=first|with_reducible assumption|omega) [go_sem,ZR m3,ZR m2,ZR m1,↓WQ Z4 (by decide) ho];refine(Zh.fld Z4 ho (j:=k) (o:=2) c1 (u:=.int .u64 (gr Z4 s.pool k).amt) rfl _ _ _).mpr ?_;simp -dsimp -implicitDefEqProofs (disch:=first|with_reducible assumption|omega) [go_sem,ZR m3,ZR m2,ZR m1];refine Z0 fun b4 nb4 zb4=>?_;(try simp only[ZT]at nb4);have n4:=Yr nb4;simp only[ZT]at n4;obtain⟨n43,n42,n41,_⟩:=n4;refine xkp (Za.trans (Za.tail _ _ _) (Za.oent _ _ _ _ _ _)) ?_;refine xx ?_;refine Z3 (t:=25) (e:=22) (sz:=1) (bytes:=8) (by kernel_rfl) Ug rfl rfl rfl rfl (by decide) [_] _ o k (U7 Zk.amt s.pool k) k2 (WB k1) (Src.own (b:=b4) List.mem_cons_self) (m:=1) (news:=[.int .u64 (gr Z4 s.pool k).amt]) rfl (by intro u hu;simp only[List.mem_singleton]at hu;subst hu;rfl) (by simp [maxLen];omega) (by omega) ?_;intro o' j1 j2 j3;have j4:=ZZ j2;have m3':apB o' b3:=j4.head;refine xx ?_;refine xkp (Za.trans (Za.tail _ _ _) (Za.oent _ _ _ _ _ _)) ?_;simp -dsimp -implicitDefEqProofs (disch:=first|with_reducible assumption|omega) [go_sem,ZY m3'];refine⟨k+1,o',⟨by omega,j1,?_⟩,by omega,by simp [Ent,List.lookup],?_⟩
   ·cases o' with
    | none=>trivial
    | some p=>exact⟨⟨j4.1.1,j4.1.2⟩,j4.2⟩
   ·rw[VL Z4 c1];exact Za.tail _ _ _
  ·have hkl:k=s.pool.length:=by omega
   subst hkl;obtain⟨h3,eh3⟩:∃h3,h3=JV h1 o (U7 Zk.amt s.pool s.pool.length):=⟨_,rfl⟩
   have g3:Ints h3 .u64 (ovs o s.pool.length) (s.pool.map Zk.amt):=by rw[eh3];exact Zib k2 fo fun x hx=>(hs.oo x hx).a
   have le3:PH.le h1 h3:=by rw[eh3];exact Y9 k3 _
   have y3:h3 b3=noC:=by rw[eh3];exact Vi m3 w3
   have y2:h3 b2=noC:=by rw[eh3];exact Vi m2 w2
   have y1:h3 b1=noC:=by rw[eh3];exact Vi m1 w1
   have hd:Zh YB 3 h3 (.slice da s.dues.length dc) s.dues:=hd0.up (le1.trans le3);obtain⟨ta3,tc3,er3,_⟩:=g3.open;rw[List.length_map]at er3;simp -dsimp -implicitDefEqProofs (disch:=first|with_reducible assumption|omega) [go_sem,ZR m3,ZR m2,ZR m1];refine Yu (γ:=Nat×Option (Nat×Nat)) (0,none) (fun q=>q.1≤s.dues.length∧okO q.2 q.1∧apO q.2 (⟨b3,180,[.int .u64 s.most,.int .u64 s.gen,.int .u64 s.mint,.int .u64 s.burn,.int .u64 s.treas,(.slice ta1 s.members.length tc1),.slice pa s.purses.length pc,(.slice ta3 s.pool.length tc3),(ovs q.2 q.1)],9⟩::⟨b2,180,[.int .u64 0,.int .u64 0,.int .u64 0,.int .u64 0,.int .u64 0,.slice none 0 0,.slice none 0 0,.slice none 0 0,.slice none 0 0],9⟩::⟨b1,45,stC s ⟨.slice pa s.purses.length pc,.slice ma s.members.length mc,.slice ea s.entry.length ec,.slice xa s.exit.length xc,.slice oa s.pool.length oc,.slice da s.dues.length dc,.slice ta s.motions.length tc,.slice ka s.marks.length kc,.slice ra s.ring.length rc⟩,41⟩::L) h3)
    (fun q=>[(6,.int .i64 q.1),(1,.pointer (some ⟨b1,0,none⟩)),(2,.pointer (some ⟨b2,0,none⟩)),(3,.pointer (some ⟨b3,0,none⟩))])
    (fun q=>oent 22 1 q.2 (U7 Zi.amt s.dues q.1) (⟨b3,180,[.int .u64 s.most,.int .u64 s.gen,.int .u64 s.mint,.int .u64 s.burn,.int .u64 s.treas,(.slice ta1 s.members.length tc1),.slice pa s.purses.length pc,(.slice ta3 s.pool.length tc3),(ovs q.2 q.1)],9⟩::⟨b2,180,[.int .u64 0,.int .u64 0,.int .u64 0,.int .u64 0,.int .u64 0,.slice none 0 0,.slice none 0 0,.slice none 0 0,.slice none 0 0],9⟩::⟨b1,45,stC s ⟨.slice pa s.purses.length pc,.slice ma s.members.length mc,.slice ea s.entry.length ec,.slice xa s.exit.length xc,.slice oa s.pool.length oc,.slice da s.dues.length dc,.slice ta s.motions.length tc,.slice ka s.marks.length kc,.slice ra s.ring.length rc⟩,41⟩::L)) (fun _=>h3) (fun q=>s.dues.length-q.1) ?_ ?_ ?_ ?_
   ·exact⟨Nat.zero_le _,rfl,trivial⟩
   ·simp [Ent,List.lookup,ovs]
   ·rw[er3,eh3];exact Y4 _ _ _ _ (by decide)
   rintro⟨k,o⟩ ⟨k1,k2,k3⟩;simp only at k1 k2 k3 ⊢;have m3:apB o b3:=k3.head;have m2:apB o b2:=(ZZ k3).head;have m1:apB o b1:=(ZZ (ZZ k3)).head;by_cases c1:k<s.dues.length
   ·simp -dsimp -implicitDefEqProofs (disch:=first|with_reducible assumption|omega) [go_sem,ZR m3,ZR m2,ZR m1];refine Yj (.tk 0 (.tk 2 (.tk 4 (.tkl 1 (.tkl 3 (.tk 5 (.tk 6 (.tkl 7 (.o1 8 (.o1 9 (.tk 10 (.o2 11 (.fin) (.nil))) (.nil)) (.nil)))))))))) (by kernel_rfl) (by kernel_rfl) _ (Za.oent _ _ _ _ _ _) ?_;simp -dsimp -implicitDefEqProofs (disch:=first|with_reducible assumption|omega) [go_sem,ZR m3,ZR m2,ZR m1,↓WQ ZV (by decide) hd];refine(Zh.fld ZV hd (j:=k) (o:=2) c1 (u:=.int .u64 (gr ZV s.dues k).amt) rfl _ _ _).mpr ?_;simp -dsimp -implicitDefEqProofs (disch:=first|with_reducible assumption|omega) [go_sem,ZR m3,ZR m2,ZR m1];refine Z0 fun b4 nb4 zb4=>?_;(try simp only[ZT]at nb4);have n4:=Yr nb4;simp only[ZT]at n4;obtain⟨n43,n42,n41,_⟩:=n4;refine xkp (Za.trans (Za.tail _ _ _) (Za.oent _ _ _ _ _ _)) ?_;refine xx ?_;refine Z3 (t:=25) (e:=22) (sz:=1) (bytes:=8) (by kernel_rfl) Ug rfl rfl rfl rfl (by decide) [_] _ o k (U7 Zi.amt s.dues k) k2 (WB k1) (Src.own (b:=b4) List.mem_cons_self) (m:=1) (news:=[.int .u64 (gr ZV s.dues k).amt]) rfl (by intro u hu;simp only[List.mem_singleton]at hu;subst hu;rfl) (by simp [maxLen];omega) (by omega) ?_;intro o' j1 j2 j3;have j4:=ZZ j2;have m3':apB o' b3:=j4.head;refine xx ?_;refine xkp (Za.trans (Za.tail _ _ _) (Za.oent _ _ _ _ _ _)) ?_;simp -dsimp -implicitDefEqProofs (disch:=first|with_reducible assumption|omega) [go_sem,ZY m3'];refine⟨k+1,o',⟨by omega,j1,?_⟩,by omega,by simp [Ent,List.lookup],?_⟩
    ·cases o' with
     | none=>trivial
     | some p=>exact⟨⟨j4.1.1,j4.1.2⟩,j4.2⟩
    ·rw[VL ZV c1];exact Za.tail _ _ _
   ·have hkl:k=s.dues.length:=by omega
    subst hkl;simp -dsimp -implicitDefEqProofs (disch:=first|with_reducible assumption|omega) [go_sem,ZR m3,ZR m2,ZR m1,ZY m2];rw[er1]at g1;rw[er3]at g3;exact YR (n:=s.dues.length) k2 (WB (Nat.le_refl _)) (by omega) k3 fun h' le sl=>ZO (ZO (ZO (ZP (hk h' _ _ _ _ ((le1.trans le3).trans le) ⟨hs.ok,g1.up (le3.trans le),hp.up ((le1.trans le3).trans le),g3.up le,J6 sl fun x hx=>(hs.dd x hx).a⟩))))
theorem Zis (a b c:Int)(ha:0≤a∧a≤18446744073709551615)(hb:0≤b)(hc:0≤c∧c≤18446744073709551615)(hk:K (.bool (decide (a+b<c))) L h):Zb prog 267 [.int .u64 a,.int .u64 b,.int .u64 c] L h K:=by
 refine ZS func267 rfl (rs:=[_]) rfl rfl ZX (by kernel_rfl) rfl rfl ?_;refine xx ?_;by_cases c1:a<c
 ·have e:decide (a+b<c)=decide (b<c-a):=by apply decide_eq_decide.2;omega
  rw[e]at hk;refine xx ?_;exact ZP hk
 ·rw[decide_eq_false (show ¬a+b<c by omega)]at hk;refine xx ?_;exact ZP hk
theorem Zcs (p:Zd)(b:Int)(h1:1≤p.inc)(hb:0≤b∧b≤18446744073709551615)(hk:K (.int .u64 (Wm p b)) L h):Zb prog 141 [WR p,.int .u64 b] L h K:=by
 have e1:=Int.emod_nonneg b (show p.inc≠0 by omega);have e3:b/p.inc*p.inc=b-b%p.inc:=by rw[Int.emod_def,Int.mul_comm];omega
 have e2:0≤b/p.inc*p.inc:=Int.mul_nonneg (Int.ediv_nonneg hb.1 (by omega)) (by omega);have e4:=Int.ediv_nonneg hb.1 (show 0≤p.inc by omega);have e5:b/p.inc≤18446744073709551615:=Int.le_trans (Int.ediv_le_self _ hb.1) hb.2;have e6:b/p.inc*p.inc≤18446744073709551615:=by rw[e3];omega
 unfold Wm at hk;rw[← e3]at hk;refine ZS func141 rfl (rs:=[_]) rfl rfl ZX (by kernel_rfl) rfl rfl ?_;refine xx ?_;refine Z0 fun b1 nb1 zb1=>?_;(try simp only[ZT]at nb1);refine xx ?_;refine Yj (.tk 0 (.tk 1 (.tk 4 (.tkl 2 (.tk 3 (.tkl 5 (.tk 6 (.tk 7 (.fin))))))))) (by kernel_rfl) (by kernel_rfl) _ (Za.refl _ _) ?_;refine xx ?_;by_cases c:p.maxEff<b/p.inc*p.inc
 ·rw[Int.min_eq_right (by omega)]at hk;refine xx ?_;exact ZO (ZP hk)
 ·rw[Int.min_eq_left (by omega)]at hk;refine xx ?_;exact ZO (ZP hk)
theorem Ztf (p:Zd)(ok:Zj p)(h1:1≤p.inc)(e b:Int)(he:0≤e∧e≤18446744073709551615)(hb:0≤b∧b≤18446744073709551615)(hk:K (.int .u64 (Gq p e b)) L h):Zb prog 139 [WR p,.int .u64 e,.int .u64 b] L h K:=by
 have u1:=ok.w p.down (by simp [Ys]);have u2:=ok.w p.up (by simp [Ys]);unfold Gq Ybl at hk;refine ZS func139 rfl (rs:=[_]) rfl rfl ZX (by kernel_rfl) rfl rfl ?_;refine xx ?_;refine Z0 fun b1 nb1 zb1=>?_;(try simp only[ZT]at nb1);refine xx ?_;refine Zis _ _ _ hb u1.1 he ?_
 cases c1:decide (b+p.down<e) with
 | true =>
  rw[c1]at hk;refine xx ?_;refine Zcs p b h1 hb ?_;refine xx ?_;exact ZO (ZP (by simpa using hk))
 | false =>
  rw[c1]at hk;refine xx ?_;refine Zis _ _ _ he u2.1 hb ?_
  cases c2:decide (e+p.up<b) with
  | true =>
   rw[c2]at hk;refine xx ?_;refine Zcs p b h1 hb ?_;refine xx ?_;exact ZO (ZP (by simpa using hk))
  | false =>
   rw[c2]at hk;refine xx ?_;exact ZO (ZP (by simpa using hk))
theorem Ztp (p:Zd)(ok:Zj p)(h1:1≤p.inc)(e b:Int)(he:0≤e∧e≤18446744073709551615)(hb:0≤b∧b≤18446744073709551615)(hk:K (.bool (W8 p e b)) L h):Zb prog 140 [WR p,.int .u64 e,.int .u64 b] L h K:=by
 refine ZS func140 rfl (rs:=[_]) rfl rfl ZX (by kernel_rfl) rfl rfl ?_;refine xx ?_;refine Z0 fun b1 nb1 zb1=>?_;(try simp only[ZT]at nb1);refine xx ?_;by_cases c1:p.inc≤e
 ·by_cases c2:e≤p.maxEff
  ·by_cases c3:e%p.inc=0
   ·refine xx ?_;refine Ztf p ok h1 e b he hb ?_;refine xx ?_;exact ZO (ZP (by simpa [W8,c1,c2,c3] using hk))
   ·refine xx ?_;exact ZO (ZP (by simpa [W8,c1,c2,c3] using hk))
  ·refine xx ?_;exact ZO (ZP (by simpa [W8,c1,c2] using hk))
 ·refine xx ?_;exact ZO (ZP (by simpa [W8,c1] using hk))
theorem Zqp (p:Zd)(m:Zc)(hk:K (Zdf (Gf p m)) L h):Zb prog 138 [WR p,Zdf m] L h K:=by
 unfold Gf at hk;refine ZS func138 rfl (rs:=[_]) rfl rfl ZX (by kernel_rfl) rfl rfl ?_;refine xx ?_;refine Z0 fun b1 nb1 zb1=>?_;(try simp only[ZT]at nb1);refine xx ?_;refine Z0 fun b2 nb2 zb2=>?_;(try simp only[ZT]at nb2);refine xx ?_;refine Z0 fun b3 nb3 zb3=>?_;(try simp only[ZT]at nb3);refine xx ?_;by_cases c1:p.scoreCap<m.score
 ·rw[Int.min_eq_right (by omega)]at hk;by_cases c2:m.streak<0
  ·rw[Int.max_eq_right (by omega)]at hk;by_cases c3:p.streak<0
   ·rw[Int.min_eq_right (by omega)]at hk;refine xx ?_;exact ZO (ZO (ZO (ZP hk)))
   ·rw[Int.min_eq_left (by omega)]at hk;refine xx ?_;exact ZO (ZO (ZO (ZP hk)))
  ·rw[Int.max_eq_left (by omega)]at hk;by_cases c3:p.streak<m.streak
   ·rw[Int.min_eq_right (by omega)]at hk;refine xx ?_;exact ZO (ZO (ZO (ZP hk)))
   ·rw[Int.min_eq_left (by omega)]at hk;refine xx ?_;exact ZO (ZO (ZO (ZP hk)))
 ·rw[Int.min_eq_left (a:=m.score) (by omega)]at hk;by_cases c2:m.streak<0
  ·rw[Int.max_eq_right (by omega)]at hk;by_cases c3:p.streak<0
   ·rw[Int.min_eq_right (by omega)]at hk;refine xx ?_;exact ZO (ZO (ZO (ZP hk)))
   ·rw[Int.min_eq_left (by omega)]at hk;refine xx ?_;exact ZO (ZO (ZO (ZP hk)))
  ·rw[Int.max_eq_left (by omega)]at hk;by_cases c3:p.streak<m.streak
   ·rw[Int.min_eq_right (by omega)]at hk;refine xx ?_;exact ZO (ZO (ZO (ZP hk)))
   ·rw[Int.min_eq_left (by omega)]at hk;refine xx ?_;exact ZO (ZO (ZO (ZP hk)))
theorem GS (m:Zc)(hk:K (.bool (decide (m.status=2∨m.status=3))) L h):Zb prog 73 [Ztw m] L h K:=by
 refine ZS func73 rfl (rs:=[_]) rfl rfl ZX (by kernel_rfl) rfl rfl ?_;refine xx ?_;refine Z0 fun b1 nb1 zb1=>?_;(try simp only[ZT]at nb1);refine xx ?_;by_cases c:m.status=2
 ·rw[decide_eq_true (Or.inl c)]at hk;refine xx ?_;exact ZO (ZP hk)
 ·have e:decide (m.status=2∨m.status=3)=decide (m.status=3):=by apply decide_eq_decide.2;omega
  rw[e]at hk;refine xx ?_;exact ZO (ZP hk)
theorem UT {P:Program}{T:Nat}{ks:List IntKind}(ht:P.underlying T=some (.struct (P.fieldsOf T)))(hp:P.stoodInHeld T=false)(hg:P.eqGuardType P.depth T=false)(hok:okF P (P.fieldsOf T).toList 0 ks=true)(ps qs:List Int)(ha:ps.length=ks.length)(hb:qs.length=ks.length)
  (x y:Operand) (K:Value→Prop) (t:Zm K):VN P .neq T x y (.agg (List.zipWith Value.int ks ps).toArray) (.agg (List.zipWith Value.int ks qs).toArray) K t=K (.bool (!decide (ps=qs))) :=
 Yt (fun W=>by
  simp only[Sem.run_bind,run_eqGuard_agg W .neq T x y _ _ hg,Result.andThen_ok,run_neq_struct,JK ht hp hok ps qs ha hb W]) K
theorem neStd (m q:Zc)(x y:Operand)(K:Value→Prop)(t:Zm K):VN prog .neq 122 x y (Zdf m) (Zdf q) K t=K (.bool (!decide (Zfb m=Zfb q))) :=
 UT (T:=122) (ks:=[.u64,.u64,.u64,.i64]) (by kernel_rfl) (by kernel_rfl) (by kernel_rfl) (by kernel_rfl) (Zfb m) (Zfb q) rfl rfl x y K t
theorem Zlv (p:Zd)(ok:Zj p)(hr:Yd p=true)(m:Zc)(mo:Zg m)(hk:K (.bool (YV p m)) L h):Zb prog 120 [WR p,Ztw m] L h K:=by
 have ub:0≤m.bal∧m.bal≤18446744073709551615:=mo.u _ (by simp);have ue:0≤m.eff∧m.eff≤18446744073709551615:=mo.u _ (by simp);have h1:=Ja hr;refine ZS func120 rfl (rs:=[_]) rfl rfl ZX (by kernel_rfl) rfl rfl ?_;refine xx ?_;refine Z0 fun b1 nb1 zb1=>?_;(try simp only[ZT]at nb1);refine xx ?_;refine Z0 fun b2 nb2 zb2=>?_;(try simp only[ZT]at nb2);refine xx ?_;refine Uh (by kernel_rfl) rfl ?_;by_cases c1:m.owner<0
 ·rw[show YV p m=false by simp [YV,show ¬ 0≤m.owner by omega]]at hk;refine xx ?_;exact ZO (ZO (ZP hk))
 by_cases c2:63<m.owner
 ·rw[show YV p m=false by simp [YV,show ¬m.owner<64 by omega]]at hk;refine xx ?_;exact ZO (ZO (ZP hk))
 by_cases c3:m.status<1
 ·rw[show YV p m=false by simp [YV,VG,show ¬(m.status=2∨m.status=3) by omega,show ¬m.status=1 by omega,show ¬(m.status=4∨m.status=5) by omega]]at hk;refine xx ?_;exact ZO (ZO (ZP hk))
 by_cases c4:5<m.status
 ·rw[show YV p m=false by simp [YV,VG,show ¬(m.status=2∨m.status=3) by omega,show ¬m.status=1 by omega,show ¬(m.status=4∨m.status=5) by omega]]at hk;refine xx ?_;exact ZO (ZO (ZP hk))
 have hf:YV p m=(decide (Zfb (Gf p m)=Zfb m)&&VG p m):=by simp [YV,show 0≤m.owner by omega,show m.owner<64 by omega]
 rw[hf]at hk;refine xx ?_;refine VE _ (Zqp p m ⟨rfl,rfl,rfl⟩) ?_;simp -dsimp -implicitDefEqProofs (disch:=first|with_reducible assumption|omega) [go_sem,neStd]
 cases hq:decide (Zfb (Gf p m)=Zfb m) with
 | false =>
  rw[hq]at hk;refine xx ?_;exact ZO (ZO (ZP (by simpa using hk)))
 | true =>
  rw[hq,Bool.true_and]at hk;unfold VG at hk;refine xx ?_;refine GS m ?_;by_cases c5:m.status=2∨m.status=3
  ·rw[if_pos c5]at hk;rw[decide_eq_true c5];by_cases c6:p.floor<m.bal
   ·by_cases c7:m.bal≤p.cap
    ·refine xx ?_;refine Ztp p ok h1 _ _ ue ub ?_;refine xx ?_;exact ZO (ZO (ZP (by simpa [c6,c7] using hk)))
    ·refine xx ?_;exact ZO (ZO (ZP (by simpa [c6,c7] using hk)))
   ·refine xx ?_;exact ZO (ZO (ZP (by simpa [c6] using hk)))
  ·rw[if_neg c5]at hk;rw[decide_eq_false c5];by_cases c6:m.status=1
   ·rw[if_pos c6]at hk;by_cases c7:1≤m.bal
    ·by_cases c8:m.bal≤p.cap
     ·refine xx ?_;exact ZO (ZO (ZP (by simpa [c7,c8] using hk)))
     ·refine xx ?_;exact ZO (ZO (ZP (by simpa [c7,c8] using hk)))
    ·refine xx ?_;exact ZO (ZO (ZP (by simpa [c7] using hk)))
   ·rw[if_neg c6,if_pos (by omega)]at hk;by_cases c7:m.bal=0
    ·refine xx ?_;exact ZO (ZO (ZP (by simpa [c7] using hk)))
    ·refine xx ?_;exact ZO (ZO (ZP (by simpa [c7] using hk)))
theorem Zca:∀ (A l:List Int),A.Nodup→(∀x∈A,x∈l)→l.length=A.length→l.Perm A
 | [],l,_,_,hl=>by
  have:l=[]:=List.eq_nil_of_length_eq_zero (by simpa using hl);subst this;exact List.Perm.refl _
 | a::A,l,hn,hs,hl=>by
  obtain⟨l1,l2,rfl⟩:=List.append_of_mem (hs a (by simp));have hn':=List.nodup_cons.1 hn
  have ih:=Zca A (l1++l2) hn'.2 (fun x hx=>by
   have:=hs x (by simp [hx]);rcases List.mem_append.1 this with h|h
   ·exact List.mem_append.2 (Or.inl h)
   ·rcases List.mem_cons.1 h with h|h
    ·subst h;exact absurd hx hn'.1
    ·exact List.mem_append.2 (Or.inr h)) (by simp at hl ⊢;omega)
  exact List.perm_middle.trans (ih.cons a)
def Zuc (s:Ze)(st:Int):Nat→List Int
 | 0=>[]
 | k+1=>Zuc s st k++if (gr ZQ s.members k).status=st then [(k:Int)] else []
theorem Zfm (s:Ze)(st:Int):∀k,(Zuc s st k).length=Zpt s.members st k
 | 0=>rfl
 | k+1=>by simp only[Zuc,Zpt,List.length_append,Zfm s st k];split<;>simp
theorem Jm (s:Ze)(st:Int):∀(k:Nat) (x:Int),x∈Zuc s st k↔∃j:Nat,j<k∧x=j∧(gr ZQ s.members j).status=st
 | 0,x=>by simp [Zuc]
 | k+1,x=>by
  simp only[Zuc,List.mem_append,Jm s st k x]
  constructor
  ·rintro(⟨j,h1,h2,h3⟩ | h)
   ·exact⟨j,by omega,h2,h3⟩
   ·split at h
    ·rename_i c;exact⟨k,by omega,by simpa using h,c⟩
    ·cases h
  ·rintro⟨j,h1,h2,h3⟩;by_cases e:j=k
   ·subst e;right;rw[if_pos h3];simpa using h2
   ·exact .inl ⟨j,by omega,h2,h3⟩
theorem Jp (s:Ze)(st:Int):∀k,(Zuc s st k).Nodup
 | 0=>List.nodup_nil
 | k+1=>by
  simp only[Zuc];refine List.nodup_append.2 ⟨Jp s st k,by split<;>simp,fun a ha b hb=>?_⟩;obtain⟨j,h1,h2,_⟩:=(Jm s st k a).1 ha;split at hb
  ·have:b=(k:Int):=by simpa using hb
   omega
  ·cases hb
def Zbj (s:Ze)(l:List Int)(st:Int)(i:Nat):Bool:=wi (at0 l i) 0 ((s.members.length:Int)-1)&&decide ((gr ZQ s.members (at0 l i).toNat).status=st) && !decide (at0 l i∈l.take i)
theorem Zfa {s:Ze}{l:List Int}{st:Int}:∀(n:Nat),n≤l.length→(∀i,i<n→Zbj s l st i=true)→(l.take n).Nodup
 | 0,_,_=>by simp
 | n+1,hn,hq=>by
  rw[List.take_succ_eq_append_getElem (by omega)];refine List.nodup_append.2 ⟨Zfa n (by omega) (fun i hi=>hq i (by omega)),by simp,fun a ha b hb=>?_⟩;have:=hq n (by omega);simp only[Zbj,Bool.and_eq_true,Bool.not_eq_true',decide_eq_false_iff_not]at this;have hb':b=at0 l n:=by rw[← Ye (by omega)];simpa using hb
  intro e;rw[hb']at e;exact this.2 (e ▸ ha)
theorem row_iff {s:Ze}{l:List Int}{st:Int}:Zdz s l st=true↔(∀i,i<l.length→Zbj s l st i=true)∧(∀j,j<s.members.length→(gr ZQ s.members j).status=st→(j:Int)∈l):=by
 constructor
 ·intro h;simp only[Zdz,Bool.and_eq_true,decide_eq_true_eq]at h;obtain⟨h1,h2⟩:=h;have hall:∀j,j<s.members.length→(gr ZQ s.members j).status=st→(j:Int)∈l:=fun j hj hst=>by
   rw[Ygy,List.all_eq_true]at h1;have:=h1 j (List.mem_range.2 hj)
   simpa [hst] using this
  have hp:l.Perm (Zuc s st s.members.length):=Zca _ _ (Jp s st _) (fun x hx=>by
   obtain⟨j,j1,rfl,j3⟩:=(Jm s st _ x).1 hx
   exact hall j j1 j3) (by rw[Zfm];exact h2)
  refine⟨fun i hi=>?_,hall⟩;have hx:at0 l i∈l:=by rw[← Ye hi];exact List.getElem_mem hi
  obtain⟨j,j1,j2,j3⟩:=(Jm s st _ _).1 (hp.mem_iff.1 hx);have hnd:l.Nodup:=hp.nodup_iff.2 (Jp s st _);simp only[Zbj,Bool.and_eq_true,wi_iff,decide_eq_true_eq,Bool.not_eq_true',decide_eq_false_iff_not];refine⟨⟨by omega,by rw[j2];simpa using j3⟩,fun hm=>?_⟩;obtain⟨m,hm1,hm2⟩:=List.mem_iff_getElem.1 hm;simp only[List.length_take]at hm1;rw[List.getElem_take]at hm2;exact(List.pairwise_iff_getElem.1 hnd m i (by omega) hi (by omega)) (by rw[Ye (by omega),Ye hi];rw[Ye (by omega)]at hm2;exact hm2)
 ·rintro⟨h1,h2⟩;have hnd:=Zfa l.length (Nat.le_refl _) h1;rw[List.take_length]at hnd;have hp:(Zuc s st s.members.length).Perm l:=by
   have hsub:∀x∈l,x∈Zuc s st s.members.length:=fun x hx=>by
    obtain⟨i,hi,rfl⟩:=List.mem_iff_getElem.1 hx;have:=h1 i hi;simp only[Zbj,Bool.and_eq_true,wi_iff,decide_eq_true_eq]at this;obtain⟨⟨⟨a,b⟩,c⟩,_⟩:=this;rw[Ye hi];exact(Jm s st _ _).2 ⟨(at0 l i).toNat,by omega,by omega,c⟩
   have hsub2:∀x∈Zuc s st s.members.length,x∈l:=fun x hx=>by
    obtain⟨j,j1,rfl,j3⟩:=(Jm s st _ x).1 hx;exact h2 j j1 j3
   exact(List.perm_ext_iff_of_nodup (Jp s st _) hnd).2 fun x=>⟨hsub2 x,hsub x⟩
  simp only[Zdz,Bool.and_eq_true,decide_eq_true_eq];exact⟨Zbh h2,by rw[← hp.length_eq,Zfm]⟩
theorem Znb {s:Ze}{l:List Int}{st:Int}{i:Nat}(hi:i<l.length)(hq:Zbj s l st i=false):Zdz s l st=false:=by
 cases hc:Zdz s l st with
 | false=>rfl
 | true=>have:=(row_iff.1 hc).1 i hi;rw[hq]at this;cases this
def JX (l:List Zi)(k j:Nat):Bool:=decide ((gr ZV l j).at'≤(gr ZV l k).at') && !(decide ((gr ZV l j).at'=(gr ZV l k).at')&&decide ((gr ZV l j).acct=(gr ZV l k).acct))
theorem dues_pairs {s:Ze}:Jw s=true↔∀k,k<s.dues.length→VR s (gr ZV s.dues k)=true∧∀j,j<k→JX s.dues k j=true:=by
  have hall:Jw s=true↔∀k,k<s.dues.length→Zdi s k=true:=by
    rw[Jw,List.all_eq_true];exact⟨fun h k hk=>h k (List.mem_range.2 hk),fun h k hk=>h k (List.mem_range.1 hk)⟩
  rw[hall];have met:∀k,Zqw s.dues k=false↔∀j,j<k→¬((gr ZV s.dues k).acct=(gr ZV s.dues j).acct∧(gr ZV s.dues k).at'=(gr ZV s.dues j).at'):=fun k=>by
    rw[Zqw,List.any_eq_false]
    exact⟨fun h j hj hc=>by have:=h j (List.mem_range.2 hj);simp [hc.1,hc.2]at this,fun h j hj=>by
      have:=h j (List.mem_range.1 hj)
      simpa using this⟩
  constructor
  · intro h;have sorted:∀k,k<s.dues.length→∀j,j≤k→(gr ZV s.dues j).at'≤(gr ZV s.dues k).at':=by
      intro k
      induction k with
      | zero => intro _ j hj; have : j = 0 := by omega
                subst this;exact Int.le_refl _
      | succ k ih =>
        intro hk j hj;by_cases e:j=k+1
        · subst e;exact Int.le_refl _
        · have a:=ih (by omega) j (by omega);have b:=h (k+1) hk;simp only[Zdi,Bool.and_eq_true,Zso,Bool.or_eq_true,decide_eq_true_eq,Nat.add_sub_cancel]at b;rcases b.2 with c|c
          · omega
          · omega
    intro k hk;have b:=h k hk;simp only[Zdi,Bool.and_eq_true,Bool.not_eq_true']at b;refine⟨b.1.1,fun j hj=>?_⟩;have c:=(met k).1 b.1.2 j hj;have d:=sorted k hk j (by omega);simp only[JX,Bool.and_eq_true,decide_eq_true_eq,Bool.not_eq_true',Bool.and_eq_false_iff,decide_eq_false_iff_not];refine⟨d,?_⟩;by_cases e:(gr ZV s.dues j).at'=(gr ZV s.dues k).at'
    · exact .inr fun e2=>c ⟨e2.symm,e.symm⟩
    · exact .inl e
  · intro h k hk;obtain⟨a,b⟩:=h k hk;have pr:∀j,j<k→(gr ZV s.dues j).at'≤(gr ZV s.dues k).at'∧¬((gr ZV s.dues j).at'=(gr ZV s.dues k).at'∧(gr ZV s.dues j).acct=(gr ZV s.dues k).acct):=fun j hj=>by
      have:=b j hj;simp only[JX,Bool.and_eq_true,decide_eq_true_eq,Bool.not_eq_true',Bool.and_eq_false_iff,decide_eq_false_iff_not]at this;exact⟨this.1,fun e=>by rcases this.2 with c|c;exact c e.1;exact c e.2⟩
    simp only[Zdi,Bool.and_eq_true,Bool.not_eq_true',a,true_and];refine⟨(met k).2 fun j hj e=>(pr j hj).2 ⟨e.2.symm,e.1.symm⟩,?_⟩;simp only[Zso,Bool.or_eq_true,decide_eq_true_eq];by_cases e:k=0
    · exact .inl e
    · exact .inr (pr (k-1) (by omega)).1
theorem Zgf {s:Ze}{k:Nat}(hk:k<s.dues.length)(hq:VR s (gr ZV s.dues k)=false):Jw s=false:=VK hk (by simp [Zdi,hq])
theorem Zqa {s:Ze}{k j:Nat}(hk:k<s.dues.length)(hj:j<k)(hq:JX s.dues k j=false):Jw s=false:=by
 cases hc:Jw s with
 | false=>rfl
 | true=>have:=((dues_pairs.1 hc) k hk).2 j hj;rw[hq]at this;cases this
end Go.X
