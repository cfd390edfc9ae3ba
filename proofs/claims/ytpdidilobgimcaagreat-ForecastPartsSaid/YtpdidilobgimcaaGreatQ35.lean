/- Lemmas and contracts. Conditions: as each says. -/
import Derived.Test.YtpdidilobgimcaaGreatQ11
set_option linter.unusedVariables false
set_option linter.unusedSimpArgs false
set_option maxHeartbeats 12800000
set_option maxRecDepth 20000
namespace Go.X
open Go.RowKit Go.Proofs Go.Bl Go.Proofs.Tryz
variable {L:Own} {h:PH} {K:PK}
@[go_sem ↓] theorem eqParF (p:Zd)(x y:Operand)(K:Value→Prop)(t:Zp K):Vi prog .eql 44 x y (Vt p) (Vt p) K t=K (.bool true):=Ziv _ (by kernel_rfl) (by kernel_rfl) x y K t
@[go_sem ↓] theorem neParF (p:Zd)(x y:Operand)(K:Value→Prop)(t:Zp K):Vi prog .neq 44 x y (Vt p) (Vt p) K t=K (.bool false):=VL _ (by kernel_rfl) (by kernel_rfl) x y K t
theorem Yml (m:Zc)(x y:Operand)(K:Value→Prop)(t:Zp K):Vi prog .neq 137 x y (.agg #[.int .u64 m.bal,.int .u64 m.eff,.int .u64 m.score,.int .i64 m.streak,.int .i64 m.owner,.int .i64 m.status]) (.agg #[.int .u64 m.bal,.int .u64 m.eff,.int .u64 m.score,.int .i64 m.streak,.int .i64 m.owner,.int .i64 m.status]) K t=K (.bool false):=VL _ (by kernel_rfl) (by kernel_rfl) x y K t
theorem Yne (d:Zn)(x y:Operand)(K:Value→Prop)(t:Zp K):Vi prog .neq 249 x y (.agg #[.int .i64 d.acct,.int .i64 d.mem,.int .u64 d.amt,.bool d.new]) (.agg #[.int .i64 d.acct,.int .i64 d.mem,.int .u64 d.amt,.bool d.new]) K t=K (.bool false):=VL _ (by kernel_rfl) (by kernel_rfl) x y K t
theorem Yql (d:Zh)(x y:Operand)(K:Value→Prop)(t:Zp K):Vi prog .neq 250 x y (.agg #[.int .i64 d.acct,.int .i64 d.at',.int .u64 d.amt]) (.agg #[.int .i64 d.acct,.int .i64 d.at',.int .u64 d.amt]) K t=K (.bool false):=VL _ (by kernel_rfl) (by kernel_rfl) x y K t
theorem Zui (m:Zm)(v1 v2 u1 u2:Value)(hy1:Ints h .u8 v1 m.yes)(hn1:Ints h .u8 v2 m.no)(hy2:Ints h .u8 u1 m.yes)(hn2:Ints h .u8 u2 m.no)(hk:K (.bool true) L h) :
  Zb prog 185 [.agg (YW (v1,v2,m)).toArray,.agg (YW (u1,u2,m)).toArray] L h K:=by
 have a1:=hy1;have a2:=hn1;have a3:=hy2;have a4:=hn2;obtain⟨x1,y1,rfl,_⟩:=a1.open;obtain⟨x2,y2,rfl,_⟩:=a2.open;obtain⟨x3,y3,rfl,_⟩:=a3.open;obtain⟨x4,y4,rfl,_⟩:=a4.open;refine ZT func185 rfl (rs:=[_]) rfl rfl ZW (by kernel_rfl) rfl rfl ?_;simp -dsimp -implicitDefEqProofs (disch:=first|with_reducible assumption|omega) [go_sem,YW];refine Z1 fun b1 nb1 zb1=>?_;(try simp only[ZU]at nb1);simp -dsimp -implicitDefEqProofs (disch:=first|with_reducible assumption|omega) [go_sem,YW];refine Z1 fun b2 nb2 zb2=>?_;(try simp only[ZU]at nb2);simp -dsimp -implicitDefEqProofs (disch:=first|with_reducible assumption|omega) [go_sem,YW];refine Yjx _ _ hy1 hy2 ?_;rw[decide_eq_true rfl];refine xx ?_;refine Yjx _ _ hn1 hn2 ?_;rw[decide_eq_true rfl];refine xx ?_;exact ZO (ZO (ZP hk))
theorem Zru (q1 q2:QM)(i1:Zq h q1)(i2:Zq h q2)(he:q2.2.2=q1.2.2)(hk:K (.bool true) L h):Zb prog 185 [.agg (YW q1).toArray,.agg (YW q2).toArray] L h K:=by
 obtain⟨v1,v2,m⟩:=q1;obtain⟨u1,u2,m'⟩:=q2;simp only at he;subst he;exact Zui m' v1 v2 u1 u2 i1.y i1.n i2.y i2.n hk
theorem Zpf {xs:List Int}(v u:Value)(hx:Ints h .u64 v xs)(hy:Ints h .u64 u xs)(hk:K (.bool true) L h):Zb prog 69 [v,u] L h K:=by
 obtain⟨a,ca,rfl,hna,hca,_,hcx⟩:=hx.open;obtain⟨b,cb,rfl,hnb,hcb,_,hcy⟩:=hy.open;refine ZT func69 rfl (rs:=[_]) rfl rfl ZW (by kernel_rfl) rfl rfl ?_;refine xx ?_;refine Wv (0:Nat) (fun k=>k≤xs.length) (fun k=>[(5,.int .i64 k),(0,.slice a xs.length ca),(1,.slice b xs.length cb)]) (fun k=>xs.length-k) ?_ ?_ ?_
 ·exact Nat.zero_le _
 ·simp [Ent,List.lookup,Wc]
 rintro k k1;by_cases c1:k<xs.length
 ·refine xx ?_;refine UU (by kernel_rfl) rfl ?_;simp -dsimp -implicitDefEqProofs (disch:=first|with_reducible assumption|omega) [go_sem,idx hcx,idx hcy];exact⟨k+1,by omega,by omega,by simp [Ent,List.lookup],Za.refl _ _⟩
 ·refine xx ?_;exact ZP hk
theorem G7 {xs:List Int}(v u:Value)(hx:Ints h .i64 v xs)(hy:Ints h .i64 u xs)(hk:K (.bool true) L h):Zb prog 70 [v,u] L h K:=by
 obtain⟨a,ca,rfl,hna,hca,_,hcx⟩:=hx.open;obtain⟨b,cb,rfl,hnb,hcb,_,hcy⟩:=hy.open;refine ZT func70 rfl (rs:=[_]) rfl rfl ZW (by kernel_rfl) rfl rfl ?_;refine xx ?_;refine Wv (0:Nat) (fun k=>k≤xs.length) (fun k=>[(5,.int .i64 k),(0,.slice a xs.length ca),(1,.slice b xs.length cb)]) (fun k=>xs.length-k) ?_ ?_ ?_
 ·exact Nat.zero_le _
 ·simp [Ent,List.lookup,Wc]
 rintro k k1;by_cases c1:k<xs.length
 ·refine xx ?_;refine UU (by kernel_rfl) rfl ?_;simp -dsimp -implicitDefEqProofs (disch:=first|with_reducible assumption|omega) [go_sem,idx hcx,idx hcy];exact⟨k+1,by omega,by omega,by simp [Ent,List.lookup],Za.refl _ _⟩
 ·refine xx ?_;exact ZP hk
theorem Zvx {l:List Zn}(v u:Value)(hx:Zg Un 4 h v l)(hy:Zg Un 4 h u l)(hk:K (.bool true) L h):Zb prog 71 [v,u] L h K:=by
 obtain⟨a,ca,rfl,hna,hca,_,hd⟩:=hx.open;obtain⟨b,cb,rfl,hnb,hcb,_,hd'⟩:=hy.open;refine ZT func71 rfl (rs:=[_]) rfl rfl ZW (by kernel_rfl) rfl rfl ?_;refine xx ?_;refine Wv (0:Nat) (fun k=>k≤l.length) (fun k=>[(5,.int .i64 k),(0,.slice a l.length ca),(1,.slice b l.length cb)]) (fun k=>l.length-k) ?_ ?_ ?_
 ·exact Nat.zero_le _
 ·simp [Ent,List.lookup,Wc]
 rintro k k1;by_cases c1:k<l.length
 ·refine xx ?_;refine UU (by kernel_rfl) rfl ?_;simp -dsimp -implicitDefEqProofs (disch:=first|with_reducible assumption|omega) [go_sem,↓Ut Yv (by decide) hd,↓Ut Yv (by decide) hd',Un,Yne];exact⟨k+1,by omega,by omega,by simp [Ent,List.lookup],Za.refl _ _⟩
 ·refine xx ?_;exact ZP hk
theorem Ztv {l:List Zh}(v u:Value)(hx:Zg Yo 3 h v l)(hy:Zg Yo 3 h u l)(hk:K (.bool true) L h):Zb prog 72 [v,u] L h K:=by
 obtain⟨a,ca,rfl,hna,hca,_,hd⟩:=hx.open;obtain⟨b,cb,rfl,hnb,hcb,_,hd'⟩:=hy.open;refine ZT func72 rfl (rs:=[_]) rfl rfl ZW (by kernel_rfl) rfl rfl ?_;refine xx ?_;refine Wv (0:Nat) (fun k=>k≤l.length) (fun k=>[(5,.int .i64 k),(0,.slice a l.length ca),(1,.slice b l.length cb)]) (fun k=>l.length-k) ?_ ?_ ?_
 ·exact Nat.zero_le _
 ·simp [Ent,List.lookup,Wc]
 rintro k k1;by_cases c1:k<l.length
 ·refine xx ?_;refine UU (by kernel_rfl) rfl ?_;simp -dsimp -implicitDefEqProofs (disch:=first|with_reducible assumption|omega) [go_sem,↓Ut ZY (by decide) hd,↓Ut ZY (by decide) hd',Yo,Yql];exact⟨k+1,by omega,by omega,by simp [Ent,List.lookup],Za.refl _ _⟩
 ·refine xx ?_;exact ZP hk
theorem Zve {l1 l2:List QM}(v u:Value)(hx:Zg YW 33 h v l1)(hy:Zg YW 33 h u l2)(hm1:∀x∈l1,Zq h x)(hm2:∀x∈l2,Zq h x)(he:l1.map (fun x=>x.2.2)=l2.map (fun x=>x.2.2))(hk:K (.bool true) L h):Zb prog 73 [v,u] L h K:=by
 obtain⟨a,ca,rfl,hna,hca,_,hd⟩:=hx.open;obtain⟨b,cb,rfl,hnb,hcb,_,hd'⟩:=hy.open;have hlen:l1.length=l2.length:=by simpa using congrArg List.length he
 refine ZT func73 rfl (rs:=[_]) rfl rfl ZW (by kernel_rfl) rfl rfl ?_;refine xx ?_;refine Wv (0:Nat) (fun k=>k≤l1.length) (fun k=>[(5,.int .i64 k),(0,.slice a l1.length ca),(1,.slice b l2.length cb)]) (fun k=>l1.length-k) ?_ ?_ ?_
 ·exact Nat.zero_le _
 ·simp [Ent,List.lookup,Wc]
 rintro k k1;by_cases c1:k<l1.length
 ·have hg:(gr Z2 l2 k).2.2=(gr Z2 l1 k).2.2:=by
   have e1:(l1.map (fun x=>x.2.2))[k]?=(l2.map (fun x=>x.2.2))[k]?:=by rw[he]
   simp only[List.getElem?_map,List.getElem?_eq_getElem c1,List.getElem?_eq_getElem (show k<l2.length by omega)]at e1;rw[Z5 c1,Z5 (show k<l2.length by omega)];exact(Option.some.inj e1).symm
  have i1:Zq h (gr Z2 l1 k):=by rw[Z5 c1];exact hm1 _ (List.getElem_mem c1)
  have i2:Zq h (gr Z2 l2 k):=by rw[Z5 (show k<l2.length by omega)];exact hm2 _ (List.getElem_mem (by omega))
  refine xx ?_;refine UU (by kernel_rfl) rfl ?_;simp -dsimp -implicitDefEqProofs (disch:=first|with_reducible assumption|omega) [go_sem,↓Ut Z2 (by decide) hd,↓Ut Z2 (by decide) hd'];refine Zmv _ (Zru _ _ i1 i2 hg ⟨rfl,rfl,rfl⟩) ?_;refine xx ?_;exact⟨k+1,by omega,by omega,by simp [Ent,List.lookup],Za.refl _ _⟩
 ·refine xx ?_;exact ZP hk
theorem Zrf {l1 l2:List QS}(v u:Value)(h1:Zw h v l1)(h2:Zw h u l2)(he:xsL l1=xsL l2)(hk:K (.bool true) L h):Zb prog 74 [v,u] L h K:=by
 obtain⟨a,ca,rfl,hc,hl,_,hcx,hd⟩:=h1.open;obtain⟨b,cb,rfl,hc',hl',_,hcy,hd'⟩:=h2.open;have hlen:l1.length=l2.length:=by rw[← WI l1,← WI l2,he]
 refine ZT func74 rfl (rs:=[_]) rfl rfl ZW (by kernel_rfl) rfl rfl ?_;refine xx ?_;refine Wv (0:Nat) (fun k=>k≤l1.length) (fun k=>[(5,.int .i64 k),(0,.slice a l1.length ca),(1,.slice b l2.length cb)]) (fun k=>l1.length-k) ?_ ?_ ?_
 ·exact Nat.zero_le _
 ·simp [Ent,List.lookup,Wc]
 rintro k k1;by_cases c1:k<l1.length
 ·have hi:=hd.at c1;have hi':=hd'.at (i:=k) (by omega);have hg:(gs l2 k).2=(gs l1 k).2:=by
   have e1:=Zkn c1;rw[he,Zkn (by omega)]at e1;exact Option.some.inj e1
  rw[hg]at hi';refine xx ?_;refine UU (by kernel_rfl) rfl ?_;simp -dsimp -implicitDefEqProofs (disch:=first|with_reducible assumption|omega) [go_sem,idx hcx,idx hcy];refine JF (e:=5) (by kernel_rfl) (by kernel_rfl) (by kernel_rfl) hi ?_;simp -dsimp -implicitDefEqProofs (disch:=first|with_reducible assumption|omega) [go_sem,idx hcx,idx hcy];refine JF (e:=5) (by kernel_rfl) (by kernel_rfl) (by kernel_rfl) hi' ?_;simp -dsimp -implicitDefEqProofs (disch:=first|with_reducible assumption|omega) [go_sem,Znp,beq_self_eq_true];exact⟨k+1,by omega,by omega,by simp [Ent,List.lookup],Za.refl _ _⟩
 ·refine xx ?_;exact ZP hk
theorem Zjp {s:Ze}{v u:SV}(h1:Zo h v s)(h2:Zo h u s)(hk:K (.bool true) L h):Zb prog 17 [stV s v,stV s u] L h K:=by
 obtain⟨vp,vm,ve,vx,vo,vd,vt,vk,vr⟩:=v;obtain⟨up,um,ue,ux,uo,ud,ut,uk,ur⟩:=u;obtain⟨_,p1,m1,_,e1,x1,o1,_,d1,_,⟨q1,t1,t1e,t1m⟩,k1,⟨r1,r1s,r1e⟩⟩:=h1;obtain⟨_,p2,m2,_,e2,x2,o2,_,d2,_,⟨q2,t2,t2e,t2m⟩,k2,⟨r2,r2s,r2e⟩⟩:=h2;simp only at p1 m1 e1 x1 o1 d1 t1 k1 r1s p2 m2 e2 x2 o2 d2 t2 k2 r2s;have cp1:=p1.open;obtain⟨ap1,zp1,rfl,_⟩:=cp1;have cp2:=p2.open;obtain⟨ap2,zp2,rfl,_⟩:=cp2;have cm1:=m1.open;obtain⟨am1,zm1,rfl,_⟩:=cm1;have cm2:=m2.open;obtain⟨am2,zm2,rfl,_⟩:=cm2;have ce1:=e1.open;obtain⟨ae1,ze1,rfl,_⟩:=ce1;have ce2:=e2.open;obtain⟨ae2,ze2,rfl,_⟩:=ce2;have cx1:=x1.open;obtain⟨ax1,zx1,rfl,_⟩:=cx1;have cx2:=x2.open;obtain⟨ax2,zx2,rfl,_⟩:=cx2;have co1:=o1.open;obtain⟨ao1,zo1,rfl,_⟩:=co1;have co2:=o2.open;obtain⟨ao2,zo2,rfl,_⟩:=co2;have cd1:=d1.open;obtain⟨ad1,zd1,rfl,_⟩:=cd1;have cd2:=d2.open;obtain⟨ad2,zd2,rfl,_⟩:=cd2;have ct1:=t1.open;obtain⟨at1,zt1,rfl,_⟩:=ct1;have ct2:=t2.open;obtain⟨at2,zt2,rfl,_⟩:=ct2;have ck1:=k1.open;obtain⟨ak1,zk1,rfl,_⟩:=ck1;have ck2:=k2.open;obtain⟨ak2,zk2,rfl,_⟩:=ck2;obtain⟨ar1,zr1,rfl,_,_,_,_,r1t⟩:=r1s.open;obtain⟨ar2,zr2,rfl,_,_,_,_,r2t⟩:=r2s.open;refine ZT func17 rfl (rs:=[_]) rfl rfl ZW (by kernel_rfl) rfl rfl ?_;refine xx ?_;refine Z1 fun b1 nb1 zb1=>?_;(try simp only[ZU]at nb1);refine xx ?_;refine Z1 fun b2 nb2 zb2=>?_;(try simp only[ZU]at nb2);refine xx ?_;refine Wv (0:Nat) (fun k=>k≤s.members.length) (fun k=>[(5,.int .i64 k),(2,.pointer (some ⟨b1,0,none⟩)),(3,.pointer (some ⟨b2,0,none⟩))]) (fun k=>s.members.length-k) ?_ ?_ ?_
 ·exact Nat.zero_le _
 ·simp [Ent,List.lookup,Wc]
 rintro k hk1;by_cases c1:k<s.members.length
 ·refine xx ?_;refine UU (by kernel_rfl) rfl ?_;simp -dsimp -implicitDefEqProofs (disch:=first|with_reducible assumption|omega) [go_sem,↓Ut ZR (by decide) m1,↓Ut ZR (by decide) m2,Yw,Yml];exact⟨k+1,by omega,by omega,by simp [Ent,List.lookup],Za.refl _ _⟩
 refine xx ?_;refine Zpf _ _ p1 p2 ?_;refine xx ?_;refine G7 _ _ e1 e2 ?_;refine xx ?_;refine G7 _ _ x1 x2 ?_;refine xx ?_;refine Zvx _ _ o1 o2 ?_;refine xx ?_;refine Ztv _ _ d1 d2 ?_;refine xx ?_;refine Zve _ _ t1 t2 t1m t2m (by rw[t1e,t2e]) ?_;refine xx ?_;refine JF (e:=5) (by kernel_rfl) (by kernel_rfl) (by kernel_rfl) k1 ?_;refine xx ?_;refine JF (e:=5) (by kernel_rfl) (by kernel_rfl) (by kernel_rfl) k2 ?_;simp -dsimp -implicitDefEqProofs (disch:=first|with_reducible assumption|omega) [go_sem,Zoo,beq_self_eq_true];refine Zrf _ _ r1t r2t (by rw[r1e,r2e]) ?_;refine xx ?_;exact ZO (ZO (ZP hk))
theorem GR {s:Ze}{v:SV}(hs:Zo h v s)(hn1:s.members.length≤100000)(hn2:s.pool.length≤100000)(hn3:s.dues.length≤100000)(hn4:s.motions.length≤100000)(hk:∀h' u,PH.le h h'→Zo h' u s→K (stV s u) L h'):Zb prog 18 [stV s v] L h K:=by
 obtain⟨vp,vm,ve,vx,vo,vd,vt,vk,vr⟩:=v;obtain⟨ok1,p1,m1,mo1,e1,x1,o1,oo1,d1,dd1,⟨q1,t1,t1e,t1m⟩,k1,⟨r1,r1s,r1e⟩⟩:=hs;simp only at p1 m1 e1 x1 o1 d1 t1 k1 r1s;have cp1:=p1.open;obtain⟨ap1,zp1,rfl,_⟩:=cp1;have cm1:=m1.open;obtain⟨am1,zm1,rfl,_⟩:=cm1;have ce1:=e1.open;obtain⟨ae1,ze1,rfl,_⟩:=ce1;have cx1:=x1.open;obtain⟨ax1,zx1,rfl,_⟩:=cx1;have co1:=o1.open;obtain⟨ao1,zo1,rfl,_⟩:=co1;have cd1:=d1.open;obtain⟨ad1,zd1,rfl,_⟩:=cd1;have ct1:=t1.open;obtain⟨at1,zt1,rfl,_⟩:=ct1;have ck1:=k1.open;obtain⟨ak1,zk1,rfl,_⟩:=ck1;obtain⟨ar1,zr1,rfl,_,_,_,_,r1t⟩:=r1s.open;have hql:q1.length≤100000:=by have:=congrArg List.length t1e;simp at this;omega
 refine ZT func18 rfl (rs:=[_]) rfl rfl ZW (by kernel_rfl) rfl rfl ?_;refine xx ?_;refine Z1 fun b1 nb1 zb1=>?_;(try simp only[ZU]at nb1);refine xx ?_;refine Z1 fun b2 nb2 zb2=>?_;(try simp only[ZU]at nb2);refine xx ?_;refine Yn (.tk 0 (.tk 2 (.tk 4 (.tk 6 (.tk 8 (.tk 10 (.tk 12 (.tk 14 (.tk 16 (.tk 18 (.tk 20 (.tk 23 (.tk 25 (.tk 27 (.tk 30 (.tk 33 (.tk 36 (.tk 38 (.tkl 1 (.tkl 3 (.tkl 5 (.tkl 7 (.tkl 9 (.tkl 11 (.tkl 13 (.tkl 15 (.tkl 17 (.tkl 19 (.tkl 21 (.tkl 24 (.tkl 26 (.tkl 28 (.tkl 31 (.tkl 34 (.tkl 37 (.tkl 39 (.o1 22 (.o1 29 (.o1 32 (.o1 35 (.tk 40 (.o2 41 (.fin) (.nil))) (.nil)) (.nil)) (.nil)) (.nil)))))))))))))))))))))))))))))))))))))) (by kernel_rfl) (by kernel_rfl) _ (Za.refl _ _) ?_;refine xx ?_;refine Zb.apn (Zon _ m1 hn1 fun h2 r2 le2 hr2 ap nd=>?_);simp only[Ap]at ap;obtain⟨u1,u2,_⟩:=ap;have hr2':=hr2;obtain⟨am2,zm2,rfl,_⟩:=hr2'.open;refine xx ?_;refine xkp (Za.forget le2) ?_;refine xx ?_;refine Zb.apn (Zgg _ (o1.up le2) hn2 fun h5 r5 le5 hr5 ap nd=>?_);simp only[Ap]at ap;obtain⟨v5,w5,_⟩:=ap;have hr5':=hr5;obtain⟨as5,zs5,rfl,_⟩:=hr5'.open;refine xx ?_;refine xkp (Za.forget (le2.trans le5)) ?_;refine xx ?_;refine Zb.apn (Zgb _ (d1.up (le2.trans le5)) hn3 fun h6 r6 le6 hr6 ap nd=>?_);simp only[Ap]at ap;obtain⟨v6,w6,_⟩:=ap;have hr6':=hr6;obtain⟨as6,zs6,rfl,_⟩:=hr6'.open;refine xx ?_;refine xkp (Za.forget ((le2.trans le5).trans le6)) ?_;refine xx ?_;refine Zb.apn (Zhc _ (t1.up (le2.trans (le5.trans le6))) (fun x hx=>(t1m x hx).up (le2.trans (le5.trans le6))) hql fun h7 r7 le7 hr7 ap nd=>?_);simp only[Ap]at ap;obtain⟨v7,w7,_⟩:=ap;have hr7':=hr7;obtain⟨as7,zs7,rfl,_⟩:=hr7'.open;refine xx ?_;refine xkp (Za.forget ((le2.trans (le5.trans le6)).trans le7)) ?_;refine xx ?_;have LE:=le2.trans (le5.trans (le6.trans le7))
 have hu:Zo h7 ⟨.slice ap1 s.purses.length zp1,.slice am2 s.members.length zm2,.slice ae1 s.entry.length ze1,.slice ax1 s.exit.length zx1,.slice as5 s.pool.length zs5,.slice as6 s.dues.length zs6,.slice as7 q1.length zs7,.slice ak1 s.marks.length zk1,.slice ar1 r1.length zr1⟩ s :=
  ⟨ok1,p1.up LE,hr2.up (le5.trans (le6.trans le7)),mo1,e1.up LE,x1.up LE,hr5.up (le6.trans le7),oo1,hr6.up le7,dd1,⟨q1,hr7,t1e,fun x hx=>(t1m x hx).up LE⟩,k1.up LE,⟨r1,r1t.up LE,r1e⟩⟩
 exact ZO (ZO (ZP (hk h7 _ LE hu)))
end Go.X
