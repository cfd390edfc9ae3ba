/- Lemmas and contracts. Conditions: as each says. -/
import Derived.Test.YtllhopbilpdpkaaGreatQ18
import Derived.Test.YtllhopbilpdpkaaGreatQ20
set_option linter.unusedVariables false
set_option linter.unusedSimpArgs false
set_option maxHeartbeats 12800000
set_option maxRecDepth 20000
namespace Go.X
open Go.RowKit Go.Proofs Go.Bl Go.Proofs.Tryz
variable {L:Own} {h:PH} {K:PK}
def hvK (ds:List Int):Nat->Int
 | 0=>0
 | j+1=>hvK ds j*10+at0 ds (ds.length-1-j)
theorem Zxx (ds:List Int):∀j,j<=ds.length->vl ds=hvK ds j*10 ^ (ds.length-j)+pv ds (ds.length-j)
 | 0,_=>by simp [hvK,vl]
 | j+1,hj=>by
  have ih:=Zxx ds j qf;have e:ds.length-j=(ds.length-(j+1))+1:=qf;have e2:ds.length-1-j=ds.length-(j+1):=qf;rw[e,pv,Int.pow_succ]at ih;rw[ih,hvK,e2,Int.add_mul,Int.mul_assoc,Int.mul_comm (10 ^ (ds.length-(j+1))) 10];omega
theorem Zhh (ds:List Int):hvK ds ds.length=vl ds:=by
 have:=Zxx ds ds.length (Nat.le_refl _);rw[Nat.sub_self,Int.pow_zero,Int.mul_one,pv]at this;omega
theorem JO {ds:List Int}(hd:Dg ds):∀j,0<=hvK ds j
 | 0=>Int.le_refl _
 | j+1=>by
  have:=JO hd j;have:=(hd (ds.length-1-j)).1;rw[hvK];omega
theorem Ysd {ds:List Int}(hd:Dg ds){j:Nat}(hj:j<=ds.length):hvK ds j<=vl ds:=by
 have h1:=Zxx ds j hj;have h2:=(Vs hd (ds.length-j)).1;have h3:hvK ds j*1<=hvK ds j*10 ^ (ds.length-j):=Int.mul_le_mul_of_nonneg_left (p10 _) (JO hd j);omega
theorem Ygi {A m d:Int}(hA:0<=A)(hm:0<m)(hd:0<=d/\d<=9):(A*10+d)/m=A/m*10+(A%m*10+d)/m/\(A*10+d)%m=(A%m*10+d)%m/\0<=(A%m*10+d)/m/\(A%m*10+d)/m<=9:=by
 have h1:=Int.mul_ediv_add_emod A m;have h2:=Int.emod_nonneg A (show m≠0 from qf);have h3:=Int.emod_lt_of_pos A hm;have e:A*10+d=(A%m*10+d)+m*(A/m*10):=by
  rw[<- Int.mul_assoc];omega
 refine⟨?_,?_,Int.ediv_nonneg qf qf,?_⟩
 ·rw[e,Int.add_mul_ediv_left _ _ qf];omega
 ·rw[e,Int.add_mul_emod_self_left]
 ·have:(A%m*10+d)/m<10:=Int.ediv_lt_of_lt_mul hm qf;omega
theorem Yva {es:List Int}(hd:Dg es)(k:Nat):∀j,∃c,0<=c/\pv es (k+j)=pv es k+c*10 ^ k
 | 0=>⟨0,Int.le_refl _,qj⟩
 | j+1=>by
  obtain⟨c,h1,h2⟩:=Yva hd k j;refine⟨c+at0 es (k+j)*10 ^ j,?_,?_⟩
  ·have:=Int.mul_nonneg (hd (k+j)).1 (Int.le_of_lt (p10 j));omega
  ·rw[<- Nat.add_assoc,pv,h2,Int.pow_add,Int.add_mul,Int.mul_assoc,Int.mul_comm (10 ^ j) (10 ^ k)];omega
theorem Zvt {es:List Int}(hd:Dg es){k:Nat}(hk:vl es<10 ^ k):pv es k=vl es:=by
 by_cases c:es.length<=k
 ·exact U5 es k c
 ·obtain⟨j,hj⟩:∃j,es.length=k+j:=⟨es.length-k,qf⟩
  obtain⟨c,h1,h2⟩:=Yva hd k j;rw[<- hj]at h2;have h3:=(Vs hd k).1;have h4:c=0:=by
   refine Int.le_antisymm (Int.not_lt.1 fun h5=>?_) h1;have h6:1*10 ^ k<=c*10 ^ k:=Int.mul_le_mul_of_nonneg_right qf (Int.le_of_lt (p10 k));rw[show vl es=pv es es.length from rfl,h2]at hk;omega
  rw[h4]at h2;rw[show vl es=pv es es.length from rfl,h2];simp
theorem Zxk {ds:List Int}(hd:Dg ds):0<=vl ds/\vl ds<10 ^ ds.length:=Vs hd _
theorem Ymn {ds es fs:List Int}{b:Int}(hd:Dg ds)(he:Dg es)(hf:Dg fs)(hl:fs.length=ds.length)(hb:0<=b/\b<=1)(hle:vl es<=vl ds)(hv:vl fs-b*10 ^ ds.length=pv ds ds.length-pv es ds.length):vl fs=vl ds-vl es:=by
 have h1:=(Zxk hd).2;have h2:=Zvt he (show vl es<10 ^ ds.length from qf);have h3:=(Zxk hf).2;rw[hl]at h3;rw[h2,show pv ds ds.length=vl ds from rfl]at hv;by_cases c:b=0
 ·rw[c]at hv;omega
 ·have:b=1:=qf;rw[this]at hv;omega
theorem Ylo {r m t:Int}(hm:0<m)(h1:0<=r-t*m)(h2:r-t*m<m):t=r/m/\r-t*m=r%m:=by
 have e:r=(r-t*m)+m*t:=by rw[Int.mul_comm m t];omega
 have h3:r/m=t:=by
  rw[e,Int.add_mul_ediv_left _ _ qf,Int.ediv_eq_zero_of_lt h1 h2];omega
 have h4:=Int.mul_ediv_add_emod r m;rw[h3,Int.mul_comm]at h4;exact⟨h3.symm,qf⟩
theorem Zhy (d:Int)(rs:List Int)(i:Nat):at0 (d::rs) (i+1)=at0 rs i:=rfl
theorem Zxy (d:Int)(rs:List Int):∀k,pv (d::rs) (k+1)=d+pv rs k*10
 | 0=>by simp [pv,at0]
 | k+1=>by
  rw[pv,Zxy d rs k,pv,Zhy,Int.add_mul,Int.mul_assoc,<- Int.pow_succ];simp only[Nat.succ_eq_add_one];omega
theorem Ylx (d:Int)(rs:List Int):vl (d::rs)=d+vl rs*10:=Zxy d rs rs.length
theorem Dg.cons {d:Int}{rs:List Int}(h0:0<=d/\d<=9)(hr:Dg rs):Dg (d::rs)
 | 0=>h0
 | j+1=>hr j
theorem Zxv {n m:Int}{k l:Nat}(v u:Value)(ha:Nt h v n k)(hb:Nt h u m l)(hkl:k<=200000/\l<=200000)(hmn:m<=n)(hk:∀h' r,PH.le h h'->Nt h' r (n-m) (nz (n-m) k)->K r L h'):Zb prog 352 [v,u] L h K:=by
 obtain⟨s,ds,rfl,hs,hd,rfl,hdl⟩:=ha;obtain⟨r,es,rfl,hr,he,rfl,hel⟩:=hb;have hs0:=hs;have hr0:=hr;obtain⟨a,ca,rfl,hna,hca,_,hcx⟩:=hs.open;obtain⟨b,cb,rfl,hnb,hcb,_,hcy⟩:=hr.open;refine ed func352 ?_;refine xx ?_;refine ZY fun b1 nb1 zb1=>?_;(try simp only[ZS]at nb1);refine xx ?_;refine ZY fun b2 nb2 zb2=>?_;(try simp only[ZS]at nb2);refine xx ?_;refine ZY fun b3 nb3 zb3=>?_;(try simp only[ZS]at nb3);refine xx ?_;refine Yi (γ:=Nat×Int×Option (Nat×Nat)×List Int) (0,0,none,[])
  (fun s=>s.1<=ds.length/\0<=s.2.1/\s.2.1<=1/\s.2.2.2.length=s.1/\okO s.2.2.1 s.2.2.2.length/\apO s.2.2.1 (⟨b3,144,[.slice none 0 0],1⟩::⟨b2,144,[.slice b es.length cb],1⟩::⟨b1,144,[.slice a ds.length ca],1⟩::L) h/\Dg s.2.2.2/\vl s.2.2.2-s.2.1*10 ^ s.1=pv ds s.1-pv es s.1)
  (fun s=>[(7,.int .i64 s.1),(6,.int .i64 s.2.1),(5,ovs s.2.2.1 s.2.2.2.length),(4,.pointer (some ⟨b3,0,none⟩)),(3,.pointer (some ⟨b2,0,none⟩)),(2,.pointer (some ⟨b1,0,none⟩))])
  (fun s=>oent 3 1 s.2.2.1 (s.2.2.2.map (Value.int .i64)) (⟨b3,144,[.slice none 0 0],1⟩::⟨b2,144,[.slice b es.length cb],1⟩::⟨b1,144,[.slice a ds.length ca],1⟩::L))
  (fun _=>h) (fun s=>ds.length-s.1) ?_ ?_ ?_ ?_
 ·exact⟨Nat.zero_le _,Int.le_refl _,qj,rfl,rfl,trivial,fun j=>by simp [at0],by simp [vl,pv]⟩
 ·simp [Ent,List.lookup,ovs]
 ·exact Za.refl _ _
 rintro⟨i,c,o,fs⟩ ⟨i1,i3,i4,i5,i6,i7,i8,i9⟩;simp only at i1 i3 i4 i5 i6 i7 i8 i9 ⊢;have m3:apB o b3:=i7.head;have m2:apB o b2:=(ZV i7).head;have m1:apB o b1:=(ZV (ZV i7)).head;have q1:=hd i;have q2:=he i;have hpd:pv ds (i+1)=pv ds i+at0 ds i*10 ^ i:=rfl;have hpe:pv es (i+1)=pv es i+at0 es i*10 ^ i:=rfl;by_cases c1:i<ds.length
 ·obtain⟨t,ht⟩:∃t,t=at0 ds i-at0 es i-c:=⟨_,rfl⟩
  have f1:∀x y:Int,x-y*10=t->vl (fs++[x])-y*10 ^ (i+1)=pv ds (i+1)-pv es (i+1):=fun x y hxy=>by
   rw[Zbx,i5,hpd,hpe,Int.pow_succ];have e3:t*10 ^ i=at0 ds i*10 ^ i-at0 es i*10 ^ i-c*10 ^ i:=by rw[ht,Int.sub_mul,Int.sub_mul]
   rw[<- hxy,Int.sub_mul,Int.mul_assoc,Int.mul_comm 10]at e3;omega
  refine xU ?_;refine WX qg rfl ?_;simp -dsimp -implicitDefEqProofs (disch:=first|exact dD|fail) [go_sem,ZR m2,ZR m1,idx hcx];refine VK _ (Zas _ i hr0 qf qf ⟨rfl,rfl,rfl⟩) ?_;simp only[Int.toNat_natCast];simp -dsimp -implicitDefEqProofs (disch:=first|exact dD|fail) [go_sem,ZR m2,ZR m1,<- ht];by_cases c2:t<0
  ·refine xx ?_;refine ZY fun b4 nb4 zb4=>?_;(try simp only[ZS]at nb4);refine xx ?_;refine ZZ (t:=27) (e:=3) (sz:=1) (bytes:=8) (z:=[.int .i64 0]) qg V6 rfl rfl rfl rfl qh [_] _ o fs.length (fs.map (Value.int .i64)) i6 qj (Src.own List.mem_cons_self) (m:=1) (news:=[.int .i64 (t+10)]) rfl (fun u hu=>qw) qm qf ?_;intro o' j1 j2 j3;refine xx ?_;exact⟨i+1,1,o',fs++[t+10],⟨qf,qh,qh,by simp [i5],zf,ZV j2,i8.append qf qf,f1 (t+10) 1 qf⟩,qf,qi,zN⟩
  ·refine xx ?_;refine ZY fun b4 nb4 zb4=>?_;(try simp only[ZS]at nb4);refine xx ?_;refine ZZ (t:=27) (e:=3) (sz:=1) (bytes:=8) (z:=[.int .i64 0]) qg V6 rfl rfl rfl rfl qh [_] _ o fs.length (fs.map (Value.int .i64)) i6 qj (Src.own List.mem_cons_self) (m:=1) (news:=[.int .i64 t]) rfl (fun u hu=>qw) qm qf ?_;intro o' j1 j2 j3;refine xx ?_;exact⟨i+1,0,o',fs++[t],⟨qf,qh,qh,by simp [i5],zf,ZV j2,i8.append qf qf,f1 t 0 qf⟩,qf,qi,zN⟩
 ·have hkl:i=ds.length:=qf;subst hkl;have hv:vl fs=vl ds-vl es:=Ymn hd he i8 i5 ⟨i3,i4⟩ hmn i9;refine xU ?_;refine WT (n:=fs.length) i6 qj qf i7 fun h' le sl=>?_;refine Zb.ap (Zdy (ds:=fs) (m:=k) _ ⟨sl,VV i8⟩ i8 qf fun r hr ap=>?_);simp only[Ap]at ap;obtain⟨a3,a2,a1,_⟩:=ap;obtain⟨s',fs',rfl,g1,g2,g3,g4⟩:=hr;refine xx ?_;refine⟨wC,ZO (ZO (ZO (ZP (hk h' _ le ⟨s',fs',rfl,g1,g2,by rw[g3,hv],by rw[<- hv];exact g4⟩))))⟩
theorem Yqq {t:Nat}{R m:Int}(hm:0<m)(h9:R<10*m)(ht:(t:Int)*m<=R):(t:Int)<=9:=by
 have:(t:Int)<10:=Int.lt_of_mul_lt_mul_right (show (t:Int)*m<10*m from qf) qf;omega
theorem Ygn {t:Nat}{R m:Int}(hm:0<m)(c:m<=R-t*m):R-((t+1:Nat):Int)*m=R-t*m-m/\((t+1:Nat):Int)*m<=R/\max (R-((t+1:Nat):Int)*m) 0<R-t*m:=by
 rw[Int.natCast_succ,Int.add_mul,Int.one_mul];omega
theorem Ysf {ds qs:List Int}{m R:Int}{i j t:Nat}(hm:0<m)(hd:Dg ds)(hj:j<ds.length)(hi:i=ds.length-1-j)(hR:R=hvK ds j%m*10+at0 ds i)(i2:qs.length=ds.length)(i4:vl qs=hvK ds j/m*10 ^ (ds.length-j))(i5:∀x,x<ds.length-j->at0 qs x=0)(t0:0<=R-t*m)(t1:R-t*m<m) :
  vl (qs.set i (t:Int))=hvK ds (j+1)/m*10 ^ (ds.length-(j+1))/\(∀x,x<ds.length-(j+1)->at0 (qs.set i (t:Int)) x=0)/\R-t*m=hvK ds (j+1)%m:=by
 have hiq:i<qs.length:=qf;obtain⟨g1,g2,g3,g4⟩:=Ygi (A:=hvK ds j) (d:=at0 ds i) (JO hd j) hm (hd i);have g5:hvK ds (j+1)=hvK ds j*10+at0 ds i:=by rw[hvK,hi]
 rw[<- hR]at g1 g2;obtain⟨e5,e6⟩:=Ylo hm t0 t1;refine⟨?_,fun x hx=>?_,?_⟩
 ·rw[Ygz _ _ _ hiq,i4,i5 i qf,g5,g1,<- e5,show ds.length-j=i+1 from qf,show ds.length-(j+1)=i from qf,Int.pow_succ,Int.add_mul,Int.sub_zero,Int.mul_assoc,Int.mul_comm 10]
 ·rw[Wz _ _ _ _ hiq,if_neg qf];exact i5 x qf
 ·rw[g5,g2,<- e6]
theorem div_R {A m d:Int}(hm:0<m)(hd:0<=d/\d<=9):0<=A%m*10+d/\A%m*10+d<10*m:=by
 have h1:=Int.emod_nonneg A (show m≠0 from qf);have h2:=Int.emod_lt_of_pos A hm;omega
theorem Yee {qs:List Int}{i:Nat}(hi:i<qs.length)(h0:at0 qs i=0):qs.set i 0=qs:=Zyx qj fun x hx=>by
 rw[Wz _ _ _ _ hi];split
 ·rename_i e;rw[e,h0]
 ·rfl
theorem Zav {P:Program}{e n b cap:Nat}{xs:List Value}(L1:Own){L2:Own}{h:PH}{K:PK}{f:FuncId}{args:List Value}(ho:n<=cap/\cap<=maxLen)(hl:xs.length=n)(hn:n<=9223372036854775807)(ha:h b=noC)
  (hk:∀h',PH.le h h'->Sl h' (.slice (some ⟨b,0,none⟩) n cap) n 1 xs->(∀b',b'≠b->h' b'=h b')->Zb P f args (L1++L2) h' K) (heT:e≠4294967295:=by first|decide|omega):Zb P f args (L1++⟨b,e,xs,cap⟩::L2) h K:=by
 have:=Ws (P:=P) (f:=f) (args:=args) (K:=K) (e:=e) (sz:=1) (cap:=cap) L1 (L2:=L2) ho (by rw[hl,Nat.mul_one]) hn ha hk heT
 rwa [Nat.mul_one]at this
theorem Ybg {n m:Int}{k l:Nat}(v u:Value)(ha:Nt h v n k)(hb:Nt h u m l)(hkl:k<=100000/\l<=100000)(hm:0<m)(hk:∀h' q r,PH.le h h'->Nt h' q (n/m) k->Nt h' r (n%m) (nz (n%m) k)->K (.tuple #[q,r]) L h'):Zb prog 291 [v,u] L h K:=by
 obtain⟨s,ds,rfl,hs,hd,rfl,hdl⟩:=ha;have hb0:=hb;obtain⟨b,bn,cb,rfl⟩:=hb.sl;obtain⟨a,ca,rfl,hna,hca,_,hcx⟩:=hs.open;refine eF func291 ?_;refine xx ?_;refine ZY fun b1 nb1 zb1=>?_;(try simp only[ZS]at nb1);refine xx ?_;refine ZY fun b2 nb2 zb2=>?_;(try simp only[ZS]at nb2);refine xx ?_;refine ZY fun b3 nb3 zb3=>?_;(try simp only[ZS]at nb3);refine xx ?_;refine ZY fun b4 nb4 zb4=>?_;(try simp only[ZS]at nb4);refine xx ?_;refine JH (e:=3) (z:=.int .i64 0) qg V6 rfl rfl .i64 .i64 _ qf qF qf ?_;simp only[Int.toNat_natCast];refine ZY fun b6 nb6 zb6=>?_;(try simp only[ZS]at nb6);refine xx ?_;refine ZY fun b7 nb7 zb7=>?_;(try simp only[ZS]at nb7);refine xx ?_;have key:∃_:Unit,(b6≠b7/\b4≠b7/\b3≠b7/\b2≠b7/\b1≠b7)/\(b4≠b6/\b3≠b6/\b2≠b6/\b1≠b6)/\(b3≠b4/\b2≠b4/\b1≠b4)/\(b2≠b3/\b1≠b3)/\b1≠b2 :=
  ⟨(),⟨nb7.1,nb7.2.1,nb7.2.2.1,nb7.2.2.2.1,nb7.2.2.2.2.1⟩,⟨nb6.1,nb6.2.1,nb6.2.2.1,nb6.2.2.2.1⟩,⟨nb4.1,nb4.2.1,nb4.2.2.1⟩,⟨nb3.1,nb3.2.1⟩,nb2.1⟩
 clear nb7 nb6 nb4 nb3 nb2;refine Yi (γ:=Nat×List Int×Value×PH) (0,List.replicate ds.length 0,.slice none 0 0,h)
  (fun q=>q.1<=ds.length/\q.2.1.length=ds.length/\Dg q.2.1/\vl q.2.1=hvK ds q.1/m*10 ^ (ds.length-q.1)/\(∀i,i<ds.length-q.1->at0 q.2.1 i=0)/\Nt q.2.2.2 (.agg #[q.2.2.1]) (hvK ds q.1%m) (nz (hvK ds q.1%m) q.1)/\PH.le h q.2.2.2/\q.2.2.2 b7=noC/\q.2.2.2 b6=noC/\q.2.2.2 b4=noC/\q.2.2.2 b3=noC/\q.2.2.2 b2=noC/\q.2.2.2 b1=noC)
  (fun q=>[(8,.int .i64 ((ds.length:Int)-1-q.1)),(7,.pointer (some ⟨b7,0,none⟩)),(6,.slice (some ⟨b6,0,none⟩) ds.length ds.length),(5,.pointer (some ⟨b4,0,none⟩)),(4,.pointer (some ⟨b3,0,none⟩)),(3,.pointer (some ⟨b2,0,none⟩)),(2,.pointer (some ⟨b1,0,none⟩))])
  (fun q=>⟨b7,144,[q.2.2.1],1⟩::⟨b6,3,q.2.1.map (Value.int .i64),ds.length⟩::⟨b4,144,[.slice none 0 0],1⟩::⟨b3,144,[.slice none 0 0],1⟩::⟨b2,144,[.slice b bn cb],1⟩::⟨b1,144,[.slice a ds.length ca],1⟩::L)
  (fun q=>q.2.2.2) (fun q=>ds.length-q.1) ?_ ?_ ?_ ?_
 ·have z:∀j,at0 (List.replicate ds.length 0) j=0:=fun j=>by
   simp only[at0,List.getD_eq_getElem?_getD,List.getElem?_replicate];split<;>rfl
  have z2:∀k,pv (List.replicate ds.length 0) k=0:=fun k=>by
   induction k with
   | zero=>rfl
   | succ k ih=>rw[pv,ih,z];simp
  refine⟨Nat.zero_le _,qj,fun j=>by rw[z];omega,by rw[vl,z2];simp [hvK],fun i _=>z i,?_,PH.le_refl h,zb7,zb6,zb4,zb3,zb2,zb1⟩;have:=Zak h (nz (hvK ds 0%m) 0)
  simpa [hvK] using this
 ·simp [Ent,List.lookup,YT]
 ·rw[List.map_replicate];exact Za.refl _ _
 rintro⟨j,qs,sv,hh⟩ ⟨i1,i2,i3,i4,i5,i6,i7,i8,i9,z4,z3,z2,z1⟩;simp only at i1 i2 i3 i4 i5 i6 i7 i8 i9 z4 z3 z2 z1 ⊢;obtain⟨sv',rs,e1,hrs,hrd,hrv,hrl0⟩:=i6;have hrl:=Nat.le_trans hrl0 (Yla _ _);obtain rfl:sv=sv':=by simpa using e1
 have hrs0:=hrs;obtain⟨ra,rc,rfl,_,hrc,_,_⟩:=hrs.open;by_cases c1:j<ds.length
 ·obtain⟨i,hi⟩:∃i,i=ds.length-1-j:=⟨_,rfl⟩
  have ei:((ds.length:Int)-1-j).toNat=i:=qf;have hcx':∀i,i<ds.length->Z9 hh a i=some (Value.int .i64 (at0 ds i)):=fun i hi=>Yr i7 (hcx i hi);have hdi:=hd i;obtain⟨d,hdd⟩:∃d,d=at0 ds i:=⟨_,rfl⟩
  rw[<- hdd]at hdi;obtain⟨_,⟨-,-,-,-,p71⟩,⟨-,-,-,p61⟩,⟨-,-,p41⟩,⟨-,p31⟩,p21⟩:=id key;refine xZ ?_;refine ZY fun b8 nb8 zb8=>?_;have p78:b7≠b8:=nb8.1;clear nb8;refine xZ ?_;refine ZZ (t:=27) (e:=3) (sz:=1) (bytes:=8) (z:=[.int .i64 0]) qg V6 rfl rfl rfl rfl qh [_] _ none 0 [] rfl rfl (Src.own List.mem_cons_self) (m:=1) (news:=[.int .i64 d]) rfl (fun u hu=>qw) zX qf ?_;intro o1 j1 j2 j3;simp only[Nat.zero_add,List.nil_append]at j1 j2 ⊢;have m7:apB o1 b7:=(ZV j2).head;simp -dsimp -implicitDefEqProofs (disch:=first|exact dD|fail) [go_sem,ZR m7];refine ZZ (t:=27) (e:=3) (sz:=1) (bytes:=8) (z:=[.int .i64 0]) qg V6 rfl rfl rfl rfl qh [_] _ o1 1 [.int .i64 d] j1 rfl (Src.known hrs0.1) (m:=rs.length) (news:=rs.map (.int .i64)) qj (Vr _ _) qm qf ?_;intro o2 l1 l2 l3;refine xx ?_;have hdg:Dg (d::rs):=Dg.cons hdi hrd;refine Zkr (WT (n:=1+rs.length) l1 qF qf (ZV l2) fun h2 le2 sl=>?_);have hlen1:(d::rs).length=1+rs.length:=by simp;omega
  refine Zb.ap (Zdy (ds:=d::rs) (m:=j+1) _ ⟨by rw[hlen1];exact sl,VV hdg⟩ hdg qf fun r hr ap=>?_);simp only[Ap]at ap;obtain⟨y7,y6,y4,y3,y2,y1,_⟩:=ap;obtain⟨R,hR⟩:∃R,R=hvK ds j%m*10+d:=⟨_,rfl⟩
  have hvr:vl (d::rs)=R:=by rw[Ylx,hrv,hR];exact Int.add_comm _ _
  rw[hvr]at hr;obtain⟨hR0,hR9⟩:=div_R (A:=hvK ds j) hm hdi;rw[<- hR]at hR0 hR9;obtain⟨va,vn,vc,rfl⟩:=hr.sl;have hiq:i<qs.length:=by rw[i2,hi];clear p71 p61 p41 p31 p21 p78;omega
  have hq0:qs.set i 0=qs:=Yee hiq (i5 i (by clear p71 p61 p41 p31 p21 p78;omega));have le0:PH.le h h2:=i7.trans le2;refine xx ?_;refine Yi (γ:=Nat×Value×PH) (0,.slice va vn vc,h2)
   (fun q=>(q.1:Int)*m<=R/\Nt q.2.2 (.agg #[q.2.1]) (R-q.1*m) (nz (R-q.1*m) (j+1))/\PH.le h q.2.2/\q.2.2 b7=noC/\q.2.2 b6=noC/\q.2.2 b4=noC/\q.2.2 b3=noC/\q.2.2 b2=noC/\q.2.2 b1=noC)
   (fun q=>[(8,.int .i64 ((ds.length:Int)-1-j)),(7,.pointer (some ⟨b7,0,none⟩)),(6,.slice (some ⟨b6,0,none⟩) ds.length ds.length),(5,.pointer (some ⟨b4,0,none⟩)),(4,.pointer (some ⟨b3,0,none⟩)),(3,.pointer (some ⟨b2,0,none⟩)),(2,.pointer (some ⟨b1,0,none⟩))])
   (fun q=>⟨b7,144,[q.2.1],1⟩::⟨b6,3,(qs.set i (q.1:Int)).map (Value.int .i64),ds.length⟩::⟨b4,144,[.slice none 0 0],1⟩::⟨b3,144,[.slice none 0 0],1⟩::⟨b2,144,[.slice b bn cb],1⟩::⟨b1,144,[.slice a ds.length ca],1⟩::L)
   (fun q=>q.2.2) (fun q=>(R-q.1*m).toNat) ?_ ?_ ?_ ?_
  ·exact⟨by simpa using hR0,by simpa using hr,le0,y7,y6,y4,y3,y2,y1⟩
  ·simp [Ent,List.lookup,YT]
  ·simp only[Int.natCast_zero,Int.cast_ofNat_Int,hq0];exact Za.refl _ _
  clear p71 p61 p41 p31 p21 p78;obtain⟨_,⟨p76,-,-,p72,-⟩,⟨-,-,p62,-⟩,⟨-,p42,-⟩,⟨p32,-⟩,-⟩:=id key;rintro⟨t,sv,h3⟩ ⟨t1,t2,t3,t7,t6,t4,tt3,tt2,tt1⟩;simp only at t1 t2 t3 t7 t6 t4 tt3 tt2 tt1 ⊢;obtain⟨wa,wn,wc,e1⟩:=t2.sl;obtain rfl:sv = .slice wa wn wc:=by simpa using e1
  have hat:at0 (qs.set i (t:Int)) i=t:=by rw[Wz _ _ _ _ hiq,if_pos rfl]
  have hln:(qs.set i (t:Int)).length=ds.length:=by simp [i2]
  have ht9:=Yqq hm hR9 t1;obtain⟨ps,hps⟩:∃ps,ps=qs.set i (t:Int):=⟨_,rfl⟩
  rw[<- hps]at hat hln ⊢;refine xx ?_;refine UV _ _ t2 (hb0.up t3) ?_;by_cases c2:m<=R-t*m
  ·have hc:=(Zos (R-t*m) m).2 c2;obtain⟨est,es2,es3⟩:=Ygn hm c2;refine xx ?_;refine Zb.apn (Zxv _ _ (t2.more (Yla _ _)) (hb0.up t3) ⟨Nat.le_trans (show j+1<=ds.length from c1) qf,qf⟩ c2 fun h4 r4 le4 n4 ap nd=>?_);obtain⟨x7,x6,x4,x3,x2,x1,_⟩:=ap;obtain⟨ua,un,uc,rfl⟩:=n4.sl;simp -dsimp -implicitDefEqProofs (disch:=first|exact dD|fail) [go_sem,ei,Vd,hat];refine⟨by rw[hln,<- i2];exact hiq,t+1,_,h4,⟨es2,by rw[est];exact n4,t3.trans le4,x7,x6,x4,x3,x2,x1⟩,es3,qi,?_⟩;simp only[hps,List.map_set,List.set_set,Int.natCast_succ];exact Za.refl _ _
  ·have hc:¬ 0<=J2 (R-t*m) m:=fun x=>c2 ((Zos _ _).1 x);obtain⟨e1,e2,e3⟩:=Ysf (t:=t) hm hd c1 hi (by rw[hR,hdd]) i2 i4 i5 (Int.sub_nonneg_of_le t1) (Int.not_le.1 c2);have hds:=i3.set i t hiq (Int.natCast_nonneg t) ht9;rw[e3]at t2;refine xx ?_;rw[<- hps]at e1 e2 hds;exact⟨j+1,ps,_,h3,⟨c1,hln,hds,e1,e2,t2,t3,t7,t6,t4,tt3,tt2,tt1⟩,by clear p76 p72 p62 p42 p32;omega,by simp [Ent,List.lookup];clear p76 p72 p62 p42 p32;omega,Za.refl _ _⟩
 ·have hkl:j=ds.length:=qf;subst hkl;have hq:vl qs=vl ds/m:=by
   rw[i4,Zhh,Nat.sub_self,Int.pow_zero,Int.mul_one]
  rw[Zhh]at hrv;obtain⟨_,⟨p76,p74,p73,-,-⟩,⟨p64,p63,-,-⟩,⟨p43,-,-⟩,-⟩:=id key;refine xx ?_;refine Z4 (.tk 0 (.o1 1 (.o1 2 (.o2 3 (.o2 4 (.fin) (.nil)) (.nil)) (.o2 3 (.o1 2 (.o2 4 (.fin) (.nil)) (.nil)) (.nil))) (.o1 2 (.o1 1 (.o2 3 (.o2 4 (.fin) (.nil)) (.nil)) (.nil)) (.nil)))) qg qg [⟨b7,144,[.slice ra rs.length rc],1⟩] (Za.mem qj) ?_;refine xx ?_;have hqi:∀h2,Sl h2 (.slice (some ⟨b6,0,none⟩) ds.length ds.length) ds.length 1 (qs.map (.int .i64))->Ints h2 .i64 (.slice (some ⟨b6,0,none⟩) ds.length ds.length) qs:=fun h2 sl=>⟨by rw[i2];exact sl,VV i3⟩
  have hcap:ds.length<=ds.length/\ds.length<=maxLen:=⟨Nat.le_refl _,by clear p76 p74 p73 p64 p63 p43;simp [maxLen];omega⟩
  have hns:Nt hh (.agg #[.slice ra rs.length rc]) (vl ds%m) (nz (vl ds%m) k):=Nt.nzm ⟨_,rs,rfl,hrs0,hrd,hrv,by rw[Zhh]at hrl0;exact hrl0⟩ hdl;have D:∀A h2,PH.le hh h2->Za (⟨b7,144,[.slice ra rs.length rc],1⟩::A) h2 [⟨b7,144,[.slice ra rs.length rc],1⟩] hh:=fun A h2 le=>(Za.forget le).trans (Za.mem qj);refine Yf ?_ ?_
  ·refine xx ?_;refine Zav [_] hcap (by rw[List.length_map,i2]) hca i9 fun h2 le2 sl ne=>?_;refine Zb.ap (Zbm (ds:=qs) (m:=k) _ (hqi h2 sl) i3 (by rw[i2];exact hdl) fun r hr ap=>?_);simp only[List.cons_append,List.nil_append,Ap]at ap ⊢;obtain⟨y7,y4,y3,y2,y1,_⟩:=ap;rw[hq]at hr;obtain⟨va,vn,vc,rfl⟩:=hr.sl;refine xkp (D _ _ le2) ?_;refine xx ?_;refine Yf ?_ ?_
   ·refine xx ?_;refine xkp (D _ _ le2) ?_;refine xx ?_;exact ZO (ZO (ZO (ZO (ZO (ZP (hk _ _ _ (i7.trans le2) hr (hns.up le2)))))))
   ·refine xx ?_;exact ZO (ZO (ZO (ZO (ZO (ZP (hk _ _ _ (i7.trans le2) hr (hns.up le2)))))))
  ·refine xx ?_;refine xkp (D _ _ (PH.le_refl hh)) ?_;refine xx ?_;refine Zav [_] hcap (by rw[List.length_map,i2]) hca i9 fun h2 le2 sl ne=>?_;refine Zb.ap (Zbm (ds:=qs) (m:=k) _ (hqi h2 sl) i3 (by rw[i2];exact hdl) fun r hr ap=>?_);simp only[List.cons_append,List.nil_append,Ap]at ap ⊢;obtain⟨y7,y4,y3,y2,y1,_⟩:=ap;rw[hq]at hr;obtain⟨va,vn,vc,rfl⟩:=hr.sl;refine xkp (D _ _ le2) ?_;refine xx ?_;exact ZO (ZO (ZO (ZO (ZO (ZP (hk _ _ _ (i7.trans le2) hr (hns.up le2)))))))
def Zik (n:Int):Bool:=decide (n<=18446744073709551615)
def GZ (n:Int):Int:=if n<=18446744073709551615 then n else 0
theorem Ua {n:Int}{k:Nat}(v:Value)(ha:Nt h v n k)(hk:∀h',PH.le h h'->K (.tuple #[.int .u64 (GZ n),.bool (Zik n)]) L h'):Zb prog 292 [v] L h K:=by
 have ha0:=ha;obtain⟨s,ds,rfl,hs,hd,rfl,hdl⟩:=ha;obtain⟨a,ca,rfl,hna,hca,_,hcx⟩:=hs.open;have hv0:=(Zxk hd).1;refine eF func292 ?_;refine xx ?_;refine ZY fun b1 nb1 zb1=>?_;(try simp only[ZS]at nb1);refine xx ?_;refine Z4 (.tkl 0 (.o1 1 (.o1 2 (.tk 3 (.fin)) (.nil)) (.nil))) qg qg _ (Za.refl _ _) ?_;refine xx ?_;have most:∀ {K':PK},(∀h2 r2,PH.le h h2->Nt h2 r2 18446744073709551615 20->h2 b1=noC->K' r2 (⟨b1,144,[.slice a ds.length ca],1⟩::L) h2)->Zb prog 353 [] (⟨b1,144,[.slice a ds.length ca],1⟩::L) h K':=fun {K'} hK=>by
  refine ed func353 ?_;refine xx ?_;refine ZY fun b5 nb5 zb5=>?_;(try simp only[ZS]at nb5);refine xx ?_;refine Zb.apn (YZ 18446744073709551615 qh qh fun h2 r2 le2 n2 ap nd=>?_);obtain⟨_,p1,_⟩:=ap;obtain⟨ta,tk,tc,rfl⟩:=n2.sl;refine xx ?_;exact ZO (ZP (hK _ _ le2 n2 p1))
 refine most fun h2 r2 le2 n2 p1=>?_;obtain⟨ma,mk,mc,rfl⟩:=n2.sl;refine xkp (Za.forget le2) ?_;refine xx ?_;refine UV _ _ (ha0.up le2) n2 ?_;refine xkp (Za.forget le2) ?_;have hcx':∀j,j<ds.length->Z9 h2 a j=some (Value.int .i64 (at0 ds j)):=fun j hj=>Yr le2 (hcx j hj);by_cases c:vl ds<=18446744073709551615
 ·have e1:Zik (vl ds)=true:=decide_eq_true c;have e2:GZ (vl ds)=vl ds:=by rw[GZ,if_pos c]
  have h3:=hk h2 le2;rw[e1,e2]at h3;have c2:¬ 0<J2 (vl ds) 18446744073709551615:=by
   unfold J2;split
   ·decide
   ·split
    ·omega
    ·decide
  refine xx ?_;refine Yi (γ:=Nat) 0 (fun j=>j<=ds.length) (fun j=>[(4,.int .u64 (hvK ds j)),(5,.int .i64 ((ds.length:Int)-1-j)),(1,.pointer (some ⟨b1,0,none⟩))])
   (fun _=>⟨b1,144,[.slice a ds.length ca],1⟩::L) (fun _=>h2) (fun j=>ds.length-j) ?_ ?_ ?_ ?_
  ·exact Nat.zero_le _
  ·simp [Ent,List.lookup,hvK]
  ·exact Za.refl _ _
  intro j hj;by_cases c3:j<ds.length
  ·have hle:=Ysd hd (show j+1<=ds.length from c3);have h0:=JO hd j;obtain⟨i,hi⟩:∃i,i=ds.length-1-j:=⟨_,rfl⟩
   have ei:((ds.length:Int)-1-j).toNat=i:=qf;have hdi:=hd i;have es:hvK ds (j+1)=hvK ds j*10+at0 ds i:=by rw[hvK,hi]
   simp -dsimp -implicitDefEqProofs (disch:=first|exact dD|fail) [go_sem,idx hcx',ei];exact⟨j+1,c3,qf,by simp [Ent,List.lookup,es];omega,Za.refl _ _⟩
  ·have hkl:j=ds.length:=qf;subst hkl;rw[Zhh];refine xx ?_;exact ZO (ZP h3)
 ·have e1:Zik (vl ds)=false:=decide_eq_false c;have e2:GZ (vl ds)=0:=by rw[GZ,if_neg c]
  have h3:=hk h2 le2;rw[e1,e2]at h3;have c2:0<J2 (vl ds) 18446744073709551615:=by
   unfold J2;rw[if_neg qf,if_pos qf]
   decide
  refine xx ?_;exact ZO (ZP h3)
theorem Zgx {n:Int}{k:Nat}(v:Value)(ha:Nt h v n k)(hk:∀h',PH.le h h'->K (.tuple #[.int .u64 (GZ n),.int .i64 (if Zik n then 0 else 10)]) L h'):Zb prog 190 [v] L h K:=by
 obtain⟨a,c,d,rfl⟩:=ha.sl;refine eF func190 ?_;refine xx ?_;refine ZY fun b1 nb1 zb1=>?_;(try simp only[ZS]at nb1);refine xx ?_;refine Ua _ ha fun h1 le1=>?_;have:=hk h1 le1
 cases e:Zik n with
 | true =>
  rw[e]at this;refine xx ?_;exact ZO (ZP this)
 | false =>
  have e2:GZ n=0:=by
   simp only[Zik,decide_eq_false_iff_not]at e;rw[GZ,if_neg e]
  rw[e,e2]at this;refine xx ?_;exact ZO (ZP this)
theorem Zce (a b c:Int)(ha:0<=a/\a<=18446744073709551615)(hb:0<=b/\b<=18446744073709551615)(hc:1<=c/\c<=18446744073709551615)(hk:∀h' q r,PH.le h h'->Nt h' q (a*b/c) 41->Nt h' r (a*b%c) (nz (a*b%c) 41)->K (.tuple #[q,r]) L h'):Zb prog 188 [.int .u64 a,.int .u64 b,.int .u64 c] L h K:=by
 refine eF func188 ?_;refine xx ?_;refine ZY fun b1 nb1 zb1=>?_;(try simp only[ZS]at nb1);refine xx ?_;refine ZY fun b2 nb2 zb2=>?_;(try simp only[ZS]at nb2);refine xx ?_;refine YZ _ ha.1 ha.2 fun h1 r1 l1 n1=>?_;refine xx ?_;refine YZ _ hb.1 hb.2 fun h2 r2 l2 n2=>?_;refine xx ?_;refine U6 _ _ (n1.up l2) n2 qh fun h3 r3 l3 n3=>?_;refine xx ?_;refine YZ _ qf hc.2 fun h4 r4 l4 n4=>?_;refine xx ?_;refine Zb.apn (Ybg _ _ (n3.up l4) n4 ⟨qh,qh⟩ qf fun h5 q r l5 nq nr ap nd=>?_);obtain⟨p2,p1,_⟩:=ap;obtain⟨qa,qk,qc,rfl⟩:=nq.sl;obtain⟨ra,rk,rc,rfl⟩:=nr.sl;refine xx ?_;exact ZO (ZO (ZP (hk _ _ _ (l1.trans (l2.trans (l3.trans (l4.trans l5)))) nq nr)))
theorem Ybn (a b c:Int)(ha:0<=a/\a<=18446744073709551615)(hb:0<=b/\b<=18446744073709551615)(hc:1<=c/\c<=18446744073709551615)(hq:a*b/c<=18446744073709551615)(hk:∀h',PH.le h h'->K (.tuple #[.int .u64 (a*b/c),.int .i64 0]) L h'):Zb prog 332 [.int .u64 a,.int .u64 b,.int .u64 c] L h K:=by
 refine eF func332 ?_;refine xx ?_;refine Zce a b c ha hb hc fun h1 q r l1 nq nr=>?_;obtain⟨qa,qk,qc,rfl⟩:=nq.sl;obtain⟨ra,rk,rc,rfl⟩:=nr.sl;refine xx ?_;refine ZY fun b8 nb8 zb8=>?_;(try simp only[ZS]at nb8);refine xx ?_;refine ZY fun b9 nb9 zb9=>?_;(try simp only[ZS]at nb9);refine xx ?_;refine Zgx _ nq fun h2 l2=>?_;have h3:=hk h2 (l1.trans l2);have e1:Zik (a*b/c)=true:=decide_eq_true hq;have e2:GZ (a*b/c)=a*b/c:=by rw[GZ,if_pos hq]
 rw[e1,e2];refine xx ?_;exact ZO (ZO (ZP h3))
theorem Ztq {ws:List Int}(v:Value)(hw:Ints h .u64 v ws)(hn:ws.length<=100000)(hk:∀h',PH.le h h'->K (.tuple #[.int .u64 (Zpv ws),.int .i64 (Zay ws)]) L h'):Zb prog 371 [v] L h K:=by
 have hw0:=hw;obtain⟨a,c,rfl,_⟩:=hw.open;refine eF func371 ?_;refine xx ?_;by_cases c1:256<ws.length
 ·have e:Zay ws=40:=by rw[Zay,if_neg qf]
  have h3:=hk h (PH.le_refl h);rw[Zpv,e]at h3;refine xx ?_;exact ZP h3
 ·refine xx ?_;refine UR _ hw0 hn fun h1 r l1 n1=>?_;obtain⟨qa,qk,qc,rfl⟩:=n1.sl;refine xx ?_;refine Ua _ n1 fun h2 l2=>?_;have h3:=hk h2 (l1.trans l2);by_cases c2:tot ws<=18446744073709551615
  ·have e:Zay ws=0:=by rw[Zay,if_pos qf,if_pos c2]
   have e1:Zik (tot ws)=true:=decide_eq_true c2;have e2:GZ (tot ws)=tot ws:=by rw[GZ,if_pos c2]
   rw[Zpv,e,if_pos rfl]at h3;rw[e1,e2];refine xx ?_;exact ZP h3
  ·have e:Zay ws=40:=by rw[Zay,if_pos qf,if_neg c2]
   have e1:Zik (tot ws)=false:=decide_eq_false c2;have e2:GZ (tot ws)=0:=by rw[GZ,if_neg c2]
   rw[Zpv,e]at h3;rw[e1,e2];refine xx ?_;exact ZP h3
theorem Zrk {t w x:Int}(ht:0<=t)(hx:0<=x)(hxw:x<=w):0<=VF t w x/\VF t w x<=t:=by
 unfold VF;split
 ·rename_i c;refine⟨Int.ediv_nonneg (Int.mul_nonneg ht hx) qf,?_⟩;have h1:t*x<=t*w:=Int.mul_le_mul_of_nonneg_left hxw ht;have h2:t*x/w<=t*w/w:=Int.ediv_le_ediv c h1
  rwa [Int.mul_ediv_cancel _ qf]at h2
 ·omega
theorem Zry {ws:List Int}(t:Int)(ht:0<=t/\t<=18446744073709551615)(wv:Value)(hws:Ints h .u64 wv ws)(c0:Zay ws=0)
  (hk:∀h' o,PH.le h h'->okO o ws.length->apO o L h'->K (.tuple #[ovs o ws.length,.int .u64 (t-tot (Yt t (tot ws) ws)),.int .i64 0]) (oent 22 1 o ((Yt t (tot ws) ws).map (.int .u64)) L) h') :
  Zb prog 331 [.int .u64 t,wv] L h K:=by
 have hws0:=hws;have hwd:=hws.word;obtain⟨wa,wc,rfl,_,hwl,_,hcs0⟩:=hws.open;have h0:∀i,0<=at0 ws i:=fun i=>(hwd i).1;have hlen:ws.length<=256:=by
  unfold Zay at c0;split at c0
  ·assumption
  ·cases c0
 have htot:tot ws<=18446744073709551615:=by
  unfold Zay at c0;rw[if_pos hlen]at c0;split at c0
  ·assumption
  ·cases c0
 have ht0:=Ym h0;have hN:Zpv ws=tot ws:=by rw[Zpv,if_pos c0]
 have hsl:∀k,k<=ws.length->0<=YE (Yt t (tot ws) ws) k/\YE (Yt t (tot ws) ws) k<=t:=fun k hk=>Zib ht.1 h0 hk;refine eu func331 ?_;refine xx ?_;refine Ztq _ hws0 qf fun h1 l1=>?_;rw[c0,hN];refine xx ?_;refine Yi (γ:=Nat×Option (Nat×Nat)×PH) (0,none,h1) (fun q=>q.1<=ws.length/\okO q.2.1 q.1/\apO q.2.1 L q.2.2/\PH.le h q.2.2)
  (fun q=>[(11,.int .i64 q.1),(10,.int .u64 (t-YE (Yt t (tot ws) ws) q.1)),(9,ovs q.2.1 q.1),(7,.int .u64 (tot ws)),(0,.int .u64 t),(1,.slice wa ws.length wc)])
  (fun q=>oent 22 1 q.2.1 (spC t ws q.1) L) (fun q=>q.2.2) (fun q=>ws.length-q.1) ?_ ?_ ?_ ?_
 ·exact⟨Nat.zero_le _,rfl,trivial,l1⟩
 ·simp [Ent,List.lookup,YT,ovs,YE]
 ·exact Za.refl _ _
 rintro⟨k,o,h2⟩ ⟨k1,k2,k3,le⟩;simp only at k1 k2 k3 le ⊢;by_cases c1:k<ws.length
 ·have hcs:∀j,j<ws.length->Z9 h2 wa j=some (Value.int .u64 (at0 ws j)):=fun j hj=>Yr le (hcs0 j hj);have hs1:=hsl k qf;have hs2:=hsl (k+1) qf;have hss:YE (Yt t (tot ws) ws) (k+1)=YE (Yt t (tot ws) ws) k+VF t (tot ws) (at0 ws k):=by
   rw[YE,Yt,Gy _ ws c1]
  have hp:=Zrk (w:=tot ws) ht.1 (h0 k) (Yj h0 k);have hwk:=hwd k;obtain⟨pv,hpv⟩:∃pv,pv=VF t (tot ws) (at0 ws k):=⟨_,rfl⟩
  by_cases c2:0<tot ws
  ·have ep:VF t (tot ws) (at0 ws k)=t*at0 ws k/tot ws:=by rw[VF,if_pos c2]
   refine xe ?_;refine Zb.ap (Ybn t (at0 ws k) (tot ws) ht hwk ⟨qf,htot⟩ (by rw[<- ep];omega) fun h3 l3 ap=>?_);have k3':=Gp k3 ap;rw[<- ep,<- hpv];rw[<- hpv]at hss hp;refine xx ?_;refine ZY fun b6 nb6 zb6=>?_;(try simp only[ZS]at nb6);refine xx ?_;refine ZZ (t:=25) (e:=22) (sz:=1) (bytes:=8) (z:=[.int .u64 0]) qg Vw rfl rfl rfl rfl qh [_] _ o k (spC t ws k) k2 (Zof k1) (Src.own List.mem_cons_self) (m:=1) (news:=[.int .u64 pv]) rfl (fun u hu=>qw) qm qf ?_;intro o' j1 j2 j3;refine xx ?_;refine⟨k+1,o',h3,⟨qf,j1,ZV j2,le.trans l3⟩,qf,by simp [Ent,List.lookup,hss];omega,?_⟩;rw[Zhs c1,<- hpv];exact Za.tail _ _ _
  ·have ep:VF t (tot ws) (at0 ws k)=0:=by rw[VF,if_neg c2]
   rw[ep]at hss;refine xx ?_;refine ZY fun b6 nb6 zb6=>?_;(try simp only[ZS]at nb6);refine xx ?_;refine ZZ (t:=25) (e:=22) (sz:=1) (bytes:=8) (z:=[.int .u64 0]) qg Vw rfl rfl rfl rfl qh [_] _ o k (spC t ws k) k2 (Zof k1) (Src.own List.mem_cons_self) (m:=1) (news:=[.int .u64 0]) rfl (fun u hu=>qw) qm qf ?_;intro o' j1 j2 j3;refine xx ?_;refine⟨k+1,o',h2,⟨qf,j1,ZV j2,le⟩,qf,by simp [Ent,List.lookup,hss],?_⟩;rw[Zhs c1,ep];exact Za.tail _ _ _
 ·have hkl:k=ws.length:=qf;subst hkl;have e2:spC t ws ws.length=(Yt t (tot ws) ws).map (.int .u64):=by rw[spC,List.take_of_length_le wG]
  have e3:YE (Yt t (tot ws) ws) ws.length=tot (Yt t (tot ws) ws):=by rw[show tot (Yt t (tot ws) ws)=YE (Yt t (tot ws) ws) (Yt t (tot ws) ws).length from rfl,show (Yt t (tot ws) ws).length=ws.length from wG]
  obtain⟨x,y,e,hxy⟩:=Z5 k2;have h3:=hk h2 o le k2 k3;rw[e]at h3 ⊢;rw[e2,e3];refine xx ?_;exact ZP h3
end Go.X
