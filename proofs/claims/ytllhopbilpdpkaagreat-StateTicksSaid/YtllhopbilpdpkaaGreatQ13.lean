/- Lemmas and contracts. Conditions: as each says. -/
import Derived.Test.YtllhopbilpdpkaaGreatQ07
import Derived.Test.YtllhopbilpdpkaaGreatQ09
set_option linter.unusedVariables false
set_option linter.unusedSimpArgs false
set_option maxHeartbeats 12800000
set_option maxRecDepth 20000
namespace Go.X
open Go.RowKit Go.Proofs Go.Bl Go.Proofs.Tryz
variable {L:Own} {h:PH} {K:PK}
def pv (ds:List Int):Nat->Int
 | 0=>0
 | k+1=>pv ds k+at0 ds k*10 ^ k
def Dg (ds:List Int):Prop:=∀j,0<=at0 ds j/\at0 ds j<=9
def vl (ds:List Int):Int:=pv ds ds.length
theorem p10 (k:Nat):(0:Int)<10 ^ k:=Int.pow_pos qh
theorem Vs {ds:List Int}(hd:Dg ds):∀k,0<=pv ds k/\pv ds k<10 ^ k
 | 0=>by simp [pv]
 | k+1=>by
  have ih:=Vs hd k;have hk:=hd k;have h10:=p10 k;simp only[pv,Int.pow_succ];have h1:0<=at0 ds k*10 ^ k:=Int.mul_nonneg hk.1 (Int.le_of_lt h10);have h2:at0 ds k*10 ^ k<=9*10 ^ k:=Int.mul_le_mul_of_nonneg_right hk.2 (Int.le_of_lt h10);omega
theorem U5 (ds:List Int)(k:Nat)(hk:ds.length<=k):pv ds k=vl ds:=by
 obtain⟨m,rfl⟩:=Nat.exists_eq_add_of_le hk;clear hk
 induction m with
 | zero=>rfl
 | succ m ih=>rw[Nat.add_succ,pv,ih,U7 qf];simp
theorem Wz (ds:List Int)(j:Nat)(s:Int)(i:Nat)(hj:j<ds.length):at0 (ds.set j s) i=if i=j then s else at0 ds i:=by
 simp only[at0,List.getD_eq_getElem?_getD,List.getElem?_set];by_cases e:i=j
 ·subst e;simp [hj]
 ·simp [e,Ne.symm e]
theorem Dg.set {ds:List Int}(hd:Dg ds)(j:Nat)(s:Int)(hj:j<ds.length)(h0:0<=s)(h1:s<=9):Dg (ds.set j s):=by
 intro i;rw[Wz ds j s i hj];split
 ·exact⟨h0,h1⟩
 ·exact hd i
theorem Yhn (ds:List Int)(j:Nat)(s:Int)(hj:j<ds.length):∀k,pv (ds.set j s) k=if j<k then pv ds k+(s-at0 ds j)*10 ^ j else pv ds k
 | 0=>by simp [pv]
 | k+1=>by
  simp only[pv,Yhn ds j s hj k,Wz ds j s k hj];by_cases e1:k=j
  ·subst e1;simp [Int.sub_mul];omega
  ·by_cases e2:j<k
   ·rw[if_pos e2,if_neg e1,if_pos qf];omega
   ·rw[if_neg e2,if_neg e1,if_neg qf]
theorem Ygz (ds:List Int)(j:Nat)(s:Int)(hj:j<ds.length):vl (ds.set j s)=vl ds+(s-at0 ds j)*10 ^ j:=by
 unfold vl;rw[Yhn ds j s hj,List.length_set,if_pos hj]
theorem Zac (ds:List Int)(s:Int)(i:Nat):at0 (ds++[s]) i=if i<ds.length then at0 ds i else if i=ds.length then s else 0:=by
 simp only[at0,List.getD_eq_getElem?_getD];by_cases e:i<ds.length
 ·simp [e,List.getElem?_append_left e]
 ·rw[if_neg e,List.getElem?_append_right qf];by_cases e2:i=ds.length
  ·subst e2;simp
  ·rw[if_neg e2,List.getElem?_eq_none qF];rfl
theorem Dg.append {ds:List Int}(hd:Dg ds){s:Int}(h0:0<=s)(h1:s<=9):Dg (ds++[s]):=by
 intro i;rw[Zac];have:=hd i;split
 ·exact this
 ·split
  ·exact⟨h0,h1⟩
  ·omega
theorem Zlg (ds:List Int)(s:Int):∀k,k<=ds.length->pv (ds++[s]) k=pv ds k
 | 0,_=>rfl
 | k+1,hk=>by rw[pv,pv,Zlg ds s k qf,Zac,if_pos qf]
theorem Zbx (ds:List Int)(s:Int):vl (ds++[s])=vl ds+s*10 ^ ds.length:=by
 unfold vl;rw[List.length_append,List.length_singleton,pv,Zlg ds s _ (Nat.le_refl _),Zac,if_neg qf,if_pos rfl]
theorem Ymf {a b:List Int}(ha:Dg a)(hb:Dg b)(i:Nat)(h1:at0 a i<at0 b i):∀m,i<m->(∀j,i<j->j<m->at0 a j=at0 b j)->pv a m<pv b m
 | 0,h,_=>qf
 | m+1,hm,he=>by
  simp only[pv];by_cases e:i=m
  ·subst e;have:=Vs ha i;have:=Vs hb i;have h2:(at0 a i+1)*10 ^ i<=at0 b i*10 ^ i:=Int.mul_le_mul_of_nonneg_right qf (Int.le_of_lt (p10 i));rw[Int.add_mul]at h2;omega
  ·have:=Ymf ha hb i h1 m qf fun j h1 h2=>he j h1 qf;rw[he m qf qf];omega
theorem Ykb {a b:List Int}:∀m,(∀j,j<m->at0 a j=at0 b j)->pv a m=pv b m
 | 0,_=>rfl
 | m+1,he=>by rw[pv,pv,Ykb m fun j hj=>he j qf,he m qf]
def Nt (h:PH)(v:Value)(n:Int)(m:Nat):Prop:=∃s ds,v = .agg #[s]/\Ints h .i64 s ds/\Dg ds/\vl ds=n/\ds.length<=m
theorem Nt.up {h h':PH}(le:PH.le h h'){v:Value}{n:Int}{m:Nat}(hs:Nt h v n m):Nt h' v n m:=by
 obtain⟨s,ds,h1,h2,h3⟩:=hs;exact⟨s,ds,h1,h2.up le,h3⟩
theorem Zas {ds:List Int}(v:Value)(i:Int)(hs:Ints h .i64 v ds)(h0:0<=i)(h1:i<=9223372036854775807)(hk:K (.int .i64 (at0 ds i.toNat)) L h):Zb prog 191 [v,.int .i64 i] L h K:=by
 obtain⟨a,cap,rfl,hn,hc,ha,hcs⟩:=hs.open;refine ed func191 ?_;refine xx ?_;refine Y6 (fun c1=>?_) (fun c1=>?_)
 ·refine xe ?_;exact ZP hk
 ·rw[U7 qf]at hk;refine xx ?_;exact ZP hk
def J2 (a b:Int):Int:=if a<b then -1 else if b<a then 1 else 0
theorem UV {n m:Int}{k l:Nat}(v u:Value)(ha:Nt h v n k)(hb:Nt h u m l)(hk:K (.int .i64 (J2 n m)) L h):Zb prog 78 [v,u] L h K:=by
 obtain⟨s,ds,rfl,hs,hd,rfl,_⟩:=ha;obtain⟨r,es,rfl,hr,he,rfl,_⟩:=hb;obtain⟨a,ca,rfl,hna,hca,_,hcx⟩:=hs.open;obtain⟨b,cb,rfl,hnb,hcb,_,hcy⟩:=hr.open;refine ed func78 ?_;refine xx ?_;refine ZY fun b1 nb1 zb1=>?_;(try simp only[ZS]at nb1);refine xx ?_;refine ZY fun b2 nb2 zb2=>?_;(try simp only[ZS]at nb2);refine xx ?_;simp only[W5];refine xx ?_;refine Y1 (max ds.length es.length) (fun k=>k<=max ds.length es.length/\∀j,k<=j->j<max ds.length es.length->at0 ds j=at0 es j)
  (fun k=>[(5,.int .i64 ((k:Int)-1)),(2,.pointer (some ⟨b1,0,none⟩)),(3,.pointer (some ⟨b2,0,none⟩))]) (fun k=>k) ?_ ?_ ?_
 ·exact⟨Nat.le_refl _,fun j h1 h2=>qf⟩
 ·simp [Ent,List.lookup];omega
 intro k ⟨hk1,hk2⟩;have hvd:=U5 ds (max ds.length es.length) qf;have hve:=U5 es (max ds.length es.length) qf;refine xx ?_;refine Y6 (fun c1=>?_) (fun c1=>?_)
 ·have ek:((k:Int)-1).toNat=k-1:=qf;refine xx ?_;refine WX qg rfl ?_;refine xx ?_;refine VK _ (Zas _ _ hs qf qf ⟨rfl,rfl,rfl⟩) ?_;refine xx ?_;refine VK _ (Zas _ _ hr qf qf ⟨rfl,rfl,rfl⟩) ?_;refine xB ?_;refine Y6 (fun c2=>?_) (fun c2=>?_)
  ·refine xx ?_;refine ZO (ZO (ZP ?_));have:=Ymf hd he (k-1) c2 (max ds.length es.length) qf fun j h1 h2=>hk2 j qf h2
   rwa [show J2 (vl ds) (vl es) = -1 by rw[<- hvd,<- hve];simp [J2,this]]at hk
  ·refine xx ?_;refine WX qg rfl ?_;refine xx ?_;refine VK _ (Zas _ _ hs qf qf ⟨rfl,rfl,rfl⟩) ?_;refine xx ?_;refine VK _ (Zas _ _ hr qf qf ⟨rfl,rfl,rfl⟩) ?_;refine xB ?_;refine Y6 (fun c3=>?_) (fun c3=>?_)
   ·refine xx ?_;refine ZO (ZO (ZP ?_));have:=Ymf he hd (k-1) c3 (max ds.length es.length) qf fun j h1 h2=>(hk2 j qf h2).symm
    rwa [show J2 (vl ds) (vl es)=1 by rw[<- hvd,<- hve];simp [J2,this,Int.not_lt.2 (Int.le_of_lt this)]]at hk
   ·refine xx ?_;refine⟨k-1,⟨qf,fun j h1 h2=>?_⟩,qf,by simp [Ent,List.lookup];omega,Za.refl _ _⟩;by_cases e:j=k-1
    ·subst e;omega
    ·exact hk2 j qf h2
 ·have:=Ykb (a:=ds) (b:=es) (max ds.length es.length) fun j h1=>hk2 j qf h1;rw[show J2 (vl ds) (vl es)=0 by rw[<- hvd,<- hve];simp [J2,this]]at hk;refine xx ?_;exact ZO (ZO (ZP hk))
theorem Zgv (ds:List Int)(k j:Nat):at0 (ds.take k) j=if j<k then at0 ds j else 0:=by
 simp only[at0,List.getD_eq_getElem?_getD,List.getElem?_take];split<;>rfl
theorem Yjh {ds:List Int}{k:Nat}(hk:k<=ds.length)(hz:∀j,k<=j->at0 ds j=0):vl (ds.take k)=vl ds:=by
 rw[<- U5 (ds.take k) ds.length qF];refine Ykb _ fun j hj=>?_;rw[Zgv];split
 ·rfl
 ·exact(hz j qf).symm
def nz (n:Int)(k:Nat):Nat:=if n=0 then 0 else k
theorem Yla (n:Int)(k:Nat):nz n k<=k:=by unfold nz;split<;>omega
theorem Nt.more {v:Value}{n:Int}{m m':Nat}(hs:Nt h v n m)(hm:m<=m'):Nt h v n m':=by
 obtain⟨s,ds,e,a,b,c,d⟩:=hs;exact⟨s,ds,e,a,b,c,Nat.le_trans d hm⟩
theorem Nt.nzm {v:Value}{n:Int}{m m':Nat}(hs:Nt h v n (nz n m))(hm:m<=m'):Nt h v n (nz n m'):=by
 refine hs.more ?_;unfold nz;split<;>omega
theorem Ymt {ds:List Int}(hd:Dg ds):∀ {k m:Nat},k<=m->pv ds k<=pv ds m:=fun {k m} hkm=>by
  induction m with
  | zero => have : k = 0 := by omega
            subst this;exact Int.le_refl _
  | succ m ih =>
    by_cases e:k=m+1
    · subst e;exact Int.le_refl _
    · have h1:=ih qf;have h2:=Int.mul_nonneg (hd m).1 (Int.le_of_lt (p10 m));simp only[pv];omega
theorem Yrc {ds:List Int}(hd:Dg ds){j:Nat}(hj:j<ds.length)(h0:at0 ds j≠0):vl ds≠0:=by
 have h1:=Ymt hd (show j+1<=ds.length from hj);have h2:=(Vs hd j).1;have h3:1*10 ^ j<=at0 ds j*10 ^ j:=Int.mul_le_mul_of_nonneg_right (by have:=(hd j).1;omega) (Int.le_of_lt (p10 j));have h4:=p10 j;simp only[pv]at h1;unfold vl;omega
theorem Zdy {ds:List Int}{m:Nat}(v:Value)(hs:Ints h .i64 v ds)(hd:Dg ds)(hm:ds.length<=m)(hk:∀r,Nt h r (vl ds) (nz (vl ds) m)->K r L h):Zb prog 192 [v] L h K:=by
 obtain⟨a,ca,rfl,hna,hca,_,hcx⟩:=hs.open;refine ed func192 ?_;refine xx ?_;refine ZY fun b1 nb1 zb1=>?_;(try simp only[ZS]at nb1);refine xx ?_;refine Y1 ds.length (fun k=>k<=ds.length/\∀j,k<=j->at0 ds j=0) (fun k=>[(3,.int .i64 k),(0,.slice a ds.length ca),(2,.pointer (some ⟨b1,0,none⟩))]) (fun k=>k) ?_ ?_ ?_
 ·exact⟨Nat.le_refl _,fun j hj=>U7 hj⟩
 ·simp [Ent,List.lookup,YT]
 intro k ⟨hk1,hk2⟩;have out:(k=0\/vl ds≠0)->fin K (.agg #[.slice a k ca]) (⟨b1,144,[.slice a k ca],1⟩::L) h:=fun hz =>
  ZO (ZP (hk _ ⟨_,ds.take k,rfl,hs.take k hk1,fun j=>by rw[Zgv];have:=hd j;split<;>omega,Yjh hk1 hk2,by
   unfold nz;rw[List.length_take];rcases hz with hz|hz
   ·split<;>omega
   ·rw[if_neg hz];omega⟩))
 refine xx ?_;by_cases c1:0<k
 ·have ek:((k:Int)-1).toNat=k-1:=qf;simp -dsimp -implicitDefEqProofs (disch:=first|exact dD|fail) [go_sem,idx hcx,ek];refine Y6 (fun c2=>?_) (fun c2=>?_)
  ·refine xx ?_;refine⟨k-1,⟨qf,fun j hj=>?_⟩,qf,by simp [Ent,List.lookup];omega,Za.refl _ _⟩;by_cases e:j=k-1
   ·subst e;exact c2
   ·exact hk2 j qf
  ·refine xx ?_;exact out (.inr (Yrc hd (show k-1<ds.length from qf) c2))
 ·refine xx ?_;exact out (.inl qf)
theorem Zbm {ds:List Int}{m:Nat}(v:Value)(hs:Ints h .i64 v ds)(hd:Dg ds)(hm:ds.length<=m)(hk:∀r,Nt h r (vl ds) m->K r L h):Zb prog 192 [v] L h K :=
 Zdy v hs hd hm fun r hr=>hk r (hr.more (Yla _ _))
theorem Ylp {c x:Int}{n:Nat}(hc:0<c)(hx:c*10 ^ n<=x)(h1:x<=18446744073709551615):n<=19:=by
 by_cases hn:n<=19
 ·exact hn
 ·exfalso
  obtain⟨m,rfl⟩:=Nat.exists_eq_add_of_le (show 20<=n from qf);have e:(10:Int) ^ (20+m)=100000000000000000000*10 ^ m:=by rw[Int.pow_add];rfl
  have hm:=p10 m;have h2:1*(10:Int) ^ (20+m)<=c*10 ^ (20+m):=Int.mul_le_mul_of_nonneg_right qf (Int.le_of_lt (p10 _));omega
theorem Zgn {ds:List Int}(hd:Dg ds):0<=vl ds:=(Vs hd _).1
theorem YZ (x:Int)(h0:0<=x)(h1:x<=18446744073709551615)(hk:∀h' r,PH.le h h'->Nt h' r x 20->K r L h'):Zb prog 77 [.int .u64 x] L h K:=by
 refine ed func77 ?_;refine xx ?_;refine ZY fun b1 nb1 zb1=>?_;(try simp only[ZS]at nb1);refine xx ?_;refine Yi (γ:=Option (Nat×Nat)×List Int×Int) (none,[],x)
  (fun s=>okO s.1 s.2.1.length/\apO s.1 (⟨b1,144,[.slice none 0 0],1⟩::L) h/\Dg s.2.1/\0<=s.2.2/\vl s.2.1+s.2.2*10 ^ s.2.1.length=x/\s.2.1.length<=20)
  (fun s=>[(3,ovs s.1 s.2.1.length),(0,.int .u64 s.2.2),(2,.pointer (some ⟨b1,0,none⟩))])
  (fun s=>oent 3 1 s.1 (s.2.1.map (Value.int .i64)) (⟨b1,144,[.slice none 0 0],1⟩::L)) (fun _=>h) (fun s=>s.2.2.toNat) ?_ ?_ ?_ ?_
 ·exact⟨rfl,trivial,fun j=>by simp [at0],h0,by simp [vl,pv],qj⟩
 ·simp [Ent,List.lookup,YT,ovs]
 ·exact Za.refl _ _
 rintro⟨o,ds,c⟩ ⟨i1,i2,i3,i4,i5,i6⟩;simp only at i1 i2 i3 i4 i5 i6;have hv:=Zgn i3;have hx:0<=c*10 ^ ds.length:=Int.mul_nonneg i4 (Int.le_of_lt (p10 _));have hc:c<=18446744073709551615:=by
  have:c*1<=c*10 ^ ds.length:=Int.mul_le_mul_of_nonneg_left (by have:=p10 ds.length;omega) i4;omega
 refine xx ?_;refine Y6 (fun c1=>?_) (fun c1=>?_)
 ·have hn:ds.length<=19:=Ylp c1 (x:=x) qf h1;refine xx ?_;refine ZY fun b4 nb4 zb4=>?_;(try simp only[ZS]at nb4);refine xx ?_;refine ZZ (t:=27) (e:=3) (sz:=1) (bytes:=8) (z:=[.int .i64 0]) qg V6 rfl rfl rfl rfl qh [_] _ o ds.length _ i1 qj (Src.own List.mem_cons_self) (m:=1) (news:=[.int .i64 (c%10)]) rfl (fun u hu=>qw) qm qf ?_;intro o' j1 j2 j3;refine xx ?_;refine⟨o',ds++[c%10],c/10,⟨zf,ZV j2,i3.append qf qf,qf,?_,qF⟩,qf,qi,zN⟩;rw[Zbx,List.length_append,List.length_singleton,Int.pow_succ,<- i5];have e:c=c/10*10+c%10:=qf;have e2:c*10 ^ ds.length=c/10*(10 ^ ds.length*10)+c%10*10 ^ ds.length:=by
   conv=>lhs;rw[e]
   rw[Int.add_mul,Int.mul_assoc,Int.mul_comm 10]
  omega
 ·have hne:apB o b1:=i2.head;have hc0:c=0:=qf;subst hc0;simp -dsimp -implicitDefEqProofs (disch:=first|exact dD|fail) [go_sem,ZX hne,ZR hne];refine Yv (n:=ds.length) i1 qj qf i2 fun h' le sl=>ZO (ZP (hk h' _ le ⟨_,ds,rfl,⟨sl,?_⟩,i3,qf,i6⟩));intro z hz;obtain⟨j,hj,rfl⟩:=List.mem_iff_getElem.1 hz;have:=i3 j;rw[Ys hj];simp only[IntKind.min,IntKind.max,IntKind.bits,IntKind.signed];simp;omega
theorem VV {ds:List Int}(hd:Dg ds):∀z∈ds,IntKind.i64.min<=z/\z<=IntKind.i64.max:=by
 intro z hz;obtain⟨j,hj,rfl⟩:=List.mem_iff_getElem.1 hz;have:=hd j;rw[Ys hj];simp only[IntKind.min,IntKind.max,IntKind.bits,IntKind.signed];simp;omega
theorem Zgk {a b:Nat}{c x:Int}(hc:0<c)(hx:c*10 ^ a<=x)(hy:x<10 ^ b):a<b:=by
 by_cases e:a<b
 ·exact e
 ·exfalso
  have h1:(10:Int) ^ b<=10 ^ a:=by
   obtain⟨m,rfl⟩:=Nat.exists_eq_add_of_le (show b<=a from qf);have h3:(10:Int) ^ b*1<=10 ^ b*10 ^ m:=Int.mul_le_mul_of_nonneg_left (by have:=p10 m;omega) (Int.le_of_lt (p10 b));rw[Int.pow_add];omega
  have h2:1*(10:Int) ^ a<=c*10 ^ a:=Int.mul_le_mul_of_nonneg_right qf (Int.le_of_lt (p10 a));omega
theorem Zli {ds es:List Int}(hd:Dg ds)(he:Dg es)(i:Nat):0<=pv ds i*vl es/\pv ds i*vl es<10 ^ (i+es.length):=by
 have h1:=Vs hd i;have h2:=Vs he es.length;have h3:=p10 es.length;refine⟨Int.mul_nonneg h1.1 h2.1,?_⟩;have h4:pv ds i*vl es<=pv ds i*10 ^ es.length:=Int.mul_le_mul_of_nonneg_left (Int.le_of_lt h2.2) h1.1;have h5:pv ds i*10 ^ es.length<10 ^ i*10 ^ es.length:=Int.mul_lt_mul_of_pos_right h1.2 h3;rw[Int.pow_add];omega
theorem Ymj (D c s p x y W T:Int)(hs:s=x+y+c)(h:D+c*p=W+T):D+(s%10-x)*p+s/10*(p*10)=W+(T+y*p):=by
 have e:s/10*(p*10)=s/10*10*p:=by rw[Int.mul_comm p 10,<- Int.mul_assoc]
 have e2:(s%10-x)*p+s/10*10*p=(s%10-x+s/10*10)*p:=by rw[<- Int.add_mul]
 have e3:s%10-x+s/10*10=y+c:=qf;rw[e];rw[e3,Int.add_mul]at e2;omega
theorem U6 {n m:Int}{k l:Nat}(v u:Value)(ha:Nt h v n k)(hb:Nt h u m l)(hkl:k+l<=1000)(hk:∀h' r,PH.le h h'->Nt h' r (n*m) (k+l+1)->K r L h'):Zb prog 76 [v,u] L h K:=by
 obtain⟨s,ds,rfl,hs,hd,rfl,hdl⟩:=ha;obtain⟨r,es,rfl,hr,he,rfl,hel⟩:=hb;obtain⟨a,ca,rfl,hna,hca,_,hcx⟩:=hs.open;obtain⟨b,cb,rfl,hnb,hcb,_,hcy⟩:=hr.open;refine ed func76 ?_;refine xx ?_;refine ZY fun b1 nb1 zb1=>?_;(try simp only[ZS]at nb1);refine xx ?_;refine ZY fun b2 nb2 zb2=>?_;(try simp only[ZS]at nb2);refine xx ?_;refine ZY fun b3 nb3 zb3=>?_;(try simp only[ZS]at nb3);refine xx ?_;refine JH (e:=3) (z:=.int .i64 0) qg V6 rfl rfl .i64 .i64 _ qf qF qf ?_;refine ZY fun b4 nb4 zb4=>?_;(try simp only[ZS]at nb4);obtain⟨N,hN⟩:∃N,N=ds.length+es.length+1:=⟨_,rfl⟩
 have eN:((ds.length:Int)+es.length+1).toNat=N:=qf;refine xx ?_;simp only[eN];refine Yi (γ:=Nat×List Int) (0,List.replicate N 0)
  (fun s=>s.1<=ds.length/\s.2.length=N/\Dg s.2/\vl s.2=pv ds s.1*vl es)
  (fun s=>[(6,.int .i64 s.1),(5,.slice (some ⟨b4,0,none⟩) N N),(4,.pointer (some ⟨b3,0,none⟩)),(2,.pointer (some ⟨b1,0,none⟩)),(3,.pointer (some ⟨b2,0,none⟩))])
  (fun s=>⟨b4,3,s.2.map (Value.int .i64),N⟩::⟨b3,144,[.slice none 0 0],1⟩::⟨b2,144,[.slice b es.length cb],1⟩::⟨b1,144,[.slice a ds.length ca],1⟩::L)
  (fun _=>h) (fun s=>ds.length-s.1) ?_ ?_ ?_ ?_
 ·have z:∀j,at0 (List.replicate N 0) j=0:=fun j=>by
   simp only[at0,List.getD_eq_getElem?_getD,List.getElem?_replicate];split<;>rfl
  have z2:∀k,pv (List.replicate N 0) k=0:=fun k=>by
   induction k with
   | zero=>rfl
   | succ k ih=>rw[pv,ih,z];simp
  exact⟨Nat.zero_le _,qj,fun j=>by rw[z];omega,by rw[vl,z2];simp [pv]⟩
 ·simp [Ent,List.lookup]
 ·rw[List.map_replicate];exact Za.refl _ _
 rintro⟨i,fs⟩ ⟨i1,i2,i3,i4⟩;simp only at i1 i2 i3 i4;refine xx ?_;refine Y6 (fun c1=>?_) (fun c1=>?_)
 ·refine xx ?_;refine Yi (γ:=Nat×Int×List Int) (0,0,fs)
   (fun s=>s.1<=es.length+1/\0<=s.2.1/\s.2.1<=9/\s.2.2.length=N/\Dg s.2.2/\vl s.2.2+s.2.1*10 ^ (i+s.1)=pv ds i*vl es+at0 ds i*pv es s.1*10 ^ i)
   (fun s=>[(8,.int .i64 s.1),(7,.int .i64 s.2.1),(6,.int .i64 i),(5,.slice (some ⟨b4,0,none⟩) N N),(4,.pointer (some ⟨b3,0,none⟩)),(2,.pointer (some ⟨b1,0,none⟩)),(3,.pointer (some ⟨b2,0,none⟩))])
   (fun s=>⟨b4,3,s.2.2.map (Value.int .i64),N⟩::⟨b3,144,[.slice none 0 0],1⟩::⟨b2,144,[.slice b es.length cb],1⟩::⟨b1,144,[.slice a ds.length ca],1⟩::L)
   (fun _=>h) (fun s=>es.length+2-s.1) ?_ ?_ ?_ ?_
  ·exact⟨Nat.zero_le _,Int.le_refl _,qj,i2,i3,by simp only;rw[i4];simp [pv]⟩
  ·simp [Ent,List.lookup]
  ·exact Za.refl _ _
  rintro⟨k',c,gs⟩ ⟨j1,j2,j3,j4,j5,j6⟩;simp only at j1 j2 j3 j4 j5 j6;have hp:pv ds (i+1)=pv ds i+at0 ds i*10 ^ i:=rfl;have hp2:pv ds i*vl es+at0 ds i*vl es*10 ^ i=pv ds (i+1)*vl es:=by
   rw[hp,Int.add_mul,Int.mul_assoc,Int.mul_assoc,Int.mul_comm (vl es)]
  by_cases c2:(k':Int)<es.length\/0<c
  ·have hix:i+k'<N:=by
    by_cases c3:(k':Int)<es.length
    ·omega
    ·rw[U5 es k' qf,hp2]at j6;have h1:=Zli hd he (i+1);have h2:=Zgn j5;have:=Zgk (a:=i+k') (b:=i+1+es.length) (c:=c) (x:=pv ds (i+1)*vl es) qf qf h1.2;omega
   have hk3:k'<=es.length:=by
    by_cases c3:(k':Int)<es.length
    ·omega
    ·rw[U5 es k' qf,hp2]at j6;have h1:=Zli hd he (i+1);have h2:=Zgn j5;have:=Zgk (a:=i+k') (b:=i+1+es.length) (c:=c) (x:=pv ds (i+1)*vl es) qf qf h1.2;omega
   have q1:=hd i;have q2:=he k';have q3:=j5 (i+k');have q4:0<=at0 ds i*at0 es k'/\at0 ds i*at0 es k'<=81:=⟨Int.mul_nonneg q1.1 q2.1,Int.le_trans (Int.mul_le_mul q1.2 q2.2 q2.1 qh) qh⟩
   have ej:((i:Int)+(k':Int)).toNat=i+k':=qf;obtain⟨s,hs1⟩:∃s,s=at0 gs (i+k')+at0 ds i*at0 es k'+c:=⟨_,rfl⟩
   have f1:vl (gs.set (i+k') (s%10))+s/10*10 ^ (i+(k'+1))=pv ds i*vl es+at0 ds i*pv es (k'+1)*10 ^ i:=by
    rw[Ygz _ _ _ qf,<- Nat.add_assoc,Int.pow_succ,Ymj _ c s _ _ (at0 ds i*at0 es k') _ _ hs1 j6];have:pv es (k'+1)=pv es k'+at0 es k'*10 ^ k':=rfl;rw[this,Int.mul_add,Int.add_mul,Int.pow_add];have e:at0 ds i*at0 es k'*(10 ^ i*10 ^ k')=at0 ds i*(at0 es k'*10 ^ k')*10 ^ i:=by
     rw[Int.mul_comm (10 ^ i),Int.mul_assoc,Int.mul_assoc,Int.mul_assoc]
    rw[e]
   have f2:=j5.set (i+k') (s%10) qf qf qf;by_cases c3:(k':Int)<es.length
   all_goals
    refine xx ?_;refine WX qg rfl ?_;simp -dsimp -implicitDefEqProofs (disch:=first|exact dD|fail) [go_sem,ej,idx hcx,Vd];refine VK _ (Zas _ _ hr qf qf ⟨rfl,rfl,rfl⟩) ?_;simp -dsimp -implicitDefEqProofs (disch:=first|exact dD|fail) [go_sem,ej,<- hs1];exact⟨qf,k'+1,s/10,gs.set (i+k') (s%10),⟨qf,qf,qf,by simp [j4],f2,f1⟩,qf,qi,by rw[List.map_set];exact Za.refl _ _⟩
  ·refine xx ?_;rw[U5 es k' qf,hp2]at j6;refine⟨i+1,gs,⟨qf,j4,j5,?_⟩,qf,qi,Za.refl _ _⟩;rw[<- j6,show c=0 from qf];simp
 ·have hi:i=ds.length:=qf;subst hi;refine xx ?_;have eo:(⟨b4,3,fs.map (Value.int .i64),N⟩::⟨b3,144,[.slice none 0 0],1⟩::⟨b2,144,[.slice b es.length cb],1⟩::⟨b1,144,[.slice a ds.length ca],1⟩::L:Own)
    = oent 3 1 (some (b4,N)) (fs.map (Value.int .i64)) (⟨b3,144,[.slice none 0 0],1⟩::⟨b2,144,[.slice b es.length cb],1⟩::⟨b1,144,[.slice a ds.length ca],1⟩::L):=by simp [oent]
  rw[eo];refine WT (n:=N) (L0:=⟨b3,144,[.slice none 0 0],1⟩::⟨b2,144,[.slice b es.length cb],1⟩::⟨b1,144,[.slice a ds.length ca],1⟩::L) ⟨Nat.le_refl _,qm⟩ (by simp [i2]) qf ⟨by simp only[ZS];exact nb4,zb4⟩ fun h' le sl=>?_;refine Zb.ap (Zbm (ds:=fs) (m:=k+l+1) _ ⟨by rw[i2];exact sl,VV i3⟩ i3 qf fun r hr ap=>?_);simp only[Ap]at ap;obtain⟨a3,a2,a1,_⟩:=ap;obtain⟨s',fs',rfl,g1,g2,g3,g4⟩:=hr;refine xx ?_;refine⟨wC,ZO (ZO (ZO (ZP (hk h' _ le ⟨s',fs',rfl,g1,g2,by rw[g3,i4];rfl,g4⟩))))⟩
theorem Ygo (a b c d:Int)(ha:0<=a/\a<=18446744073709551615)(hb:0<=b/\b<=18446744073709551615)(hc:0<=c/\c<=18446744073709551615)(hd:0<=d/\d<=18446744073709551615)(hk:∀h',PH.le h h'->K (.bool (decide (a*b<c*d))) L h') :
  Zb prog 369 [.int .u64 a,.int .u64 b,.int .u64 c,.int .u64 d] L h K:=by
 refine ed func369 ?_;refine xx ?_;refine YZ _ ha.1 ha.2 fun h1 r1 l1 n1=>?_;refine xx ?_;refine YZ _ hb.1 hb.2 fun h2 r2 l2 n2=>?_;refine xx ?_;refine U6 _ _ (n1.up l2) n2 qh fun h3 r3 l3 n3=>?_;refine xx ?_;refine YZ _ hc.1 hc.2 fun h4 r4 l4 n4=>?_;refine xx ?_;refine YZ _ hd.1 hd.2 fun h5 r5 l5 n5=>?_;refine xx ?_;refine U6 _ _ (n4.up l5) n5 qh fun h6 r6 l6 n6=>?_;refine xx ?_;refine UV _ _ (n3.up (l4.trans (l5.trans l6))) n6 ?_;refine xx ?_;have e:decide (J2 (a*b) (c*d)<0)=decide (a*b<c*d):=by
  unfold J2;rw[decide_eq_decide];split
  ·simp [*]
  ·split<;>simp [*]
 rw[e];exact ZP (hk h6 (l1.trans (l2.trans (l3.trans (l4.trans (l5.trans l6))))))
theorem Ykc (p a:Int)(hp:0<=p/\p<=18446744073709551615)(ha:0<=a/\a<=18446744073709551615)(hk:∀h',PH.le h h'->K (.bool (decide (0<a)&&decide (2*a<3*p))) L h') :
  Zb prog 327 [.int .u64 p,.int .u64 a] L h K:=by
 refine ed func327 ?_;refine xx ?_;by_cases c:0<a
 ·refine xx ?_;refine Ygo _ _ _ _ qf ha qf hp fun h' le=>?_;refine xx ?_;exact ZP (by simpa [c] using hk h' le)
 ·refine xx ?_;exact ZP (by simpa [c] using hk h (PH.le_refl h))
theorem Ww {xs:List Int}(v:Value)(hx:Ints h .u8 v xs)(hl:xs.length<=1000)(hk:∀h' r,PH.le h h'->Ints h' .u8 r xs->K r L h'):Zb prog 104 [v] L h K:=by
 have ox:=hx.open;obtain⟨a,ca,rfl,hna,hca,h0,hcx⟩:=ox;refine ed func104 ?_;refine xx ?_
 cases ha:a.isNone with
 | true =>
  have ha':a=none:=qP;subst ha';have hl0:xs.length=0:=by have:=h0 rfl;omega
  have hx':xs=[]:=List.eq_nil_of_length_eq_zero hl0;subst hx';refine xx ?_;refine ZP (hk h _ (PH.le_refl h) ?_);rw[h0 rfl]at hx;exact hx
 | false =>
  refine xx ?_;refine ZY fun b1 nb1 zb1=>?_;(try simp only[ZS]at nb1);refine xx ?_;refine ZZ (t:=31) (e:=5) (sz:=1) (bytes:=1) (z:=[.int .u8 0]) qg Ypn rfl rfl rfl rfl qh [] L (some (b1,0)) 0 [] ⟨Nat.le_refl _,Nat.zero_le _⟩ rfl (Src.known hx.1) qj (Vr _ _) qm qf ?_;intro o' j1 j2 j3;simp only[Nat.zero_add,List.nil_append]at j1 j2 ⊢;refine xx ?_;exact Yv (n:=xs.length) j1 qj qf j2 fun h' le sl=>ZP (hk h' _ le ⟨sl,hx.2⟩)
theorem Gj {xs:List Int}(v:Value)(hx:Ints h .u64 v xs)(hl:xs.length<=1000)(hk:∀h' r,PH.le h h'->Ints h' .u64 r xs->K r L h'):Zb prog 98 [v] L h K:=by
 have ox:=hx.open;obtain⟨a,ca,rfl,hna,hca,h0,hcx⟩:=ox;refine ed func98 ?_;refine xx ?_
 cases ha:a.isNone with
 | true =>
  have ha':a=none:=qP;subst ha';have hl0:xs.length=0:=by have:=h0 rfl;omega
  have hx':xs=[]:=List.eq_nil_of_length_eq_zero hl0;subst hx';refine xx ?_;refine ZP (hk h _ (PH.le_refl h) ?_);rw[h0 rfl]at hx;exact hx
 | false =>
  refine xx ?_;refine ZY fun b1 nb1 zb1=>?_;(try simp only[ZS]at nb1);refine xx ?_;refine ZZ (t:=25) (e:=22) (sz:=1) (bytes:=8) (z:=[.int .u64 0]) qg Vw rfl rfl rfl rfl qh [] L (some (b1,0)) 0 [] ⟨Nat.le_refl _,Nat.zero_le _⟩ rfl (Src.known hx.1) qj (Vr _ _) qm qf ?_;intro o' j1 j2 j3;simp only[Nat.zero_add,List.nil_append]at j1 j2 ⊢;refine xx ?_;exact Yv (n:=xs.length) j1 qj qf j2 fun h' le sl=>ZP (hk h' _ le ⟨sl,hx.2⟩)
def orB (x:Int)(j:Nat):Int:=bits .or .u8 x (2 ^ j%256)
def setB (xs:List Int)(i:Int):List Int:=xs.set (i/8).toNat (orB (at0 xs (i/8).toNat) (i%8).toNat)
def bol (bl:List Bool)(i:Nat):Bool:=bl.getD i false
def Bools (h:PH)(v:Value)(bl:List Bool):Prop:=Sl h v bl.length 1 (bl.map Value.bool)
theorem Bools.open {v:Value}{bl:List Bool}(hs:Bools h v bl):∃a cap,v = .slice a bl.length cap/\bl.length<=cap/\(a=none->cap=0)/\∀j,j<bl.length->Z9 h a j=some (.bool (bol bl j)):=by
 obtain⟨_,a,cap,h2,h3,h4,h4',h5,h6⟩:=hs;exact⟨a,cap,h2,h3,h5,fun j hj=>h6 j _ (by simp [bol,hj])⟩
def PackB (bl:List Bool)(m:Nat)(x:Int)(j:Nat):Prop :=
 0<=x/\x<2 ^ (8*j+8-max (8*j) m)/\∀k,k<8*j+8-max (8*j) m->(x/2 ^ k%2=1↔bol bl (max (8*j) m+k)=true)
theorem PackB.step {bl:List Bool}{m:Nat}{x:Int}{j:Nat}(hp:PackB bl (m+1) x j)(hj:m/8=j):2*x+(if bol bl m then 1 else 0)<=255/\PackB bl m (2*x+if bol bl m then 1 else 0) j:=by
 obtain⟨h0,h1,h2⟩:=hp;have e1:max (8*j) (m+1)=m+1:=qf;have e2:max (8*j) m=m:=qf;obtain⟨w,hw⟩:∃w,8*j+8-(m+1)=w:=⟨_,rfl⟩
 have hw2:8*j+8-m=w+1:=qf;have hw3:w<=7:=qf;rw[e1,hw]at h1 h2;have hb:(0:Int)<=(if bol bl m then 1 else 0)/\(if bol bl m then (1:Int) else 0)<=1:=by split<;>omega
 have hp:(2:Int) ^ (w+1)=2*2 ^ w:=by rw[Int.pow_succ,Int.mul_comm]
 have hp7:(2:Int) ^ w<=128:=by
  have:∀w,w<=7->(2:Int) ^ w<=128:=qh;exact this w hw3
 have hc:(if bol bl m then (1:Int) else 0)=1↔bol bl m=true:=by split<;>rename_i hc<;>simp [hc]
 generalize (if bol bl m then (1:Int) else 0)=c at hb hc ⊢
 refine⟨qf,qf,?_,?_⟩
 ·rw[e2,hw2,hp];omega
 ·intro k hk;rw[e2,hw2]at hk;rw[e2]
  cases k with
  | zero =>
   simp only[Int.pow_zero,Int.ediv_one,Nat.add_zero];rw[<- hc];omega
  | succ k =>
   have e3:(2:Int) ^ (k+1)=2*2 ^ k:=by rw[Int.pow_succ,Int.mul_comm]
   have e:(2*x+c)/2 ^ (k+1)=x/2 ^ k:=by
    rw[e3,<- Int.ediv_ediv_of_nonneg (show (0:Int)<=2 from qh),show (2*x+c)/2=x from qf]
   rw[e,h2 k qf,show m+1+k=m+(k+1) from qf]
theorem idxB {bl:List Bool}{a:Option Addr}(hc:∀j,j<bl.length->Z9 h a j=some (.bool (bol bl j))):∀j,j<bl.length->Z9 h a j=some ((fun j=>Value.bool (bol bl j)) j):=hc
theorem Wb (n lo hi:Int)(hk:K (.bool (wi n lo hi)) L h):Zb prog 277 [.int .u64 n,.int .u64 lo,.int .u64 hi] L h K:=by
 unfold wi at hk;refine ed func277 ?_;refine xx ?_;by_cases c:lo<=n
 ·refine xx ?_;exact ZP qC
 ·refine xx ?_;exact ZP qC
theorem Zou (n lo hi:Int)(hk:K (.bool (wi n lo hi)) L h):Zb prog 184 [.int .i64 n,.int .i64 lo,.int .i64 hi] L h K:=by
 unfold wi at hk;refine ed func184 ?_;refine xx ?_;by_cases c:lo<=n
 ·refine xx ?_;exact ZP qC
 ·refine xx ?_;exact ZP qC
theorem Zhb {bl:List Bool}(v:Value)(hb:Bools h v bl)(hl:bl.length<=100)(hk:K (.bool (bl.all id)) L h):Zb prog 276 [v] L h K:=by
 have ob:=hb.open;obtain⟨a,c,rfl,_,_,hcs⟩:=ob;refine ed func276 ?_;refine xx ?_;refine Y1 (0:Nat) (fun k=>k<=bl.length/\∀j,j<k->bol bl j=true) (fun k=>[(7,.int .i64 k),(5,.slice a bl.length c),(6,.int .i64 bl.length)]) (fun k=>bl.length-k) ?_ ?_ ?_
 ·exact⟨Nat.zero_le _,fun j hj=>qf⟩
 ·simp [Ent,List.lookup]
 intro k ⟨k1,k2⟩;by_cases d:k<bl.length
 ·simp -dsimp -implicitDefEqProofs (disch:=first|exact dD|fail) [go_sem,idx (idxB hcs)]
  cases hg:bol bl k with
  | true =>
   refine xx ?_;refine⟨k+1,⟨qf,fun j hj=>?_⟩,qf,qi,Za.refl _ _⟩;by_cases e:j=k
   ·subst e;exact hg
   ·exact k2 j qf
  | false =>
   have:bl.all id=false:=by
    rw[List.all_eq_false];refine⟨bl[k],List.getElem_mem d,?_⟩;simp [bol,d]at hg;simp [hg]
   rw[this]at hk;refine xx ?_;exact ZP hk
 ·have:bl.all id=true:=by
   rw[List.all_eq_true];intro x hx;obtain⟨j,hj,rfl⟩:=List.mem_iff_getElem.1 hx;have:=k2 j qf;simp [bol,hj]at this
   simpa using this
  rw[this]at hk;refine xx ?_;exact ZP hk
theorem Zut (p:Ze)(ok:Zj p)(hk:∀h',PH.le h h'->K (.bool (Wa p)) L h'):Zb prog 165 [WS p] L h K:=by
 refine ed func165 ?_;refine xx ?_;refine ZY fun b1 nb1 zb1=>?_;(try simp only[ZS]at nb1);refine xx ?_;refine Z4 (.tk 0 (.tk 3 (.tk 5 (.tk 8 (.tk 10 (.tk 13 (.tk 15 (.tk 18 (.tk 20 (.tk 23 (.tk 25 (.tk 28 (.tkl 1 (.tkl 4 (.tkl 6 (.tkl 9 (.tkl 11 (.tk 12 (.tkl 14 (.tkl 16 (.tk 17 (.tkl 19 (.tkl 21 (.tkl 24 (.tkl 26 (.tkl 29 (.tk 30 (.o1 2 (.o1 7 (.o1 22 (.o1 27 (.o1 31 (.o1 32 (.tk 33 (.tk 34 (.tk 36 (.tkl 35 (.tkl 37 (.tk 38 (.tk 39 (.tk 40 (.tk 41 (.fin)))))))))) (.nil)) (.nil)) (.nil)) (.nil)) (.nil)) (.nil))))))))))))))))))))))))))))) qg qg _ (Za.refl _ _) ?_;refine xx ?_;refine Wb _ _ _ ?_;refine xx ?_;refine Wb _ _ _ ?_;refine xx ?_;refine Wb _ _ _ ?_;refine xx ?_;refine Wb _ _ _ ?_;refine xx ?_;refine ZY fun b2 nb2 zb2=>?_;(try simp only[ZS]at nb2);refine xkp (Za.tail _ _ _) ?_;refine xx ?_;refine Ws (sz:=1) (n:=7) (cap:=7) [] ⟨Nat.le_refl _,qh⟩ rfl qh zb2 fun h2 le2 s2 f2=>?_;refine Zhb (bl:=[wi p.inc 1 2147483648,wi p.aF p.inc 1099511627776,decide (p.inc<=p.floor),decide (p.floor<p.cap),wi p.cap p.aF 1099511627776,wi p.up p.inc 1099511627776,decide (p.down<=1099511627776)]) _ s2 qj ?_;have hs:Wa p=([wi p.inc 1 2147483648,wi p.aF p.inc 1099511627776,decide (p.inc<=p.floor),decide (p.floor<p.cap),wi p.cap p.aF 1099511627776,wi p.up p.inc 1099511627776,decide (p.down<=1099511627776)].all id&&decide (p.aF%p.inc=0)):=rfl;rw[hs]at hk
 cases hB:[wi p.inc 1 2147483648,wi p.aF p.inc 1099511627776,decide (p.inc<=p.floor),decide (p.floor<p.cap),wi p.cap p.aF 1099511627776,wi p.up p.inc 1099511627776,decide (p.down<=1099511627776)].all id with
 | false =>
  rw[hB]at hk;refine xkp (Za.forget le2) ?_;simp only[List.nil_append];refine xx ?_;exact ZO (ZP (hk h2 le2))
 | true =>
  rw[hB]at hk;have h1:1<=p.inc:=by
   simp only[List.all_cons,List.all_nil,id,Bool.and_eq_true,wi_iff,decide_eq_true_eq,and_true]at hB;omega
  have h3:=ok.w p.aF qB;refine xkp (Za.forget le2) ?_;simp only[List.nil_append];refine xx ?_;exact ZO (ZP (by simpa using hk h2 le2))
theorem Zsr (p:Ze)(hk:∀h',PH.le h h'->K (.bool (WB p)) L h'):Zb prog 166 [WS p] L h K:=by
 refine ed func166 ?_;refine xx ?_;refine ZY fun b1 nb1 zb1=>?_;(try simp only[ZS]at nb1);refine xx ?_;refine Z4 (.tk 0 (.tk 3 (.tk 5 (.tk 8 (.tk 11 (.tk 13 (.tk 16 (.tk 19 (.tkl 1 (.tkl 4 (.tkl 6 (.tkl 9 (.tkl 12 (.tkl 14 (.tkl 17 (.tk 18 (.tkl 20 (.o1 2 (.o1 7 (.o1 10 (.o1 15 (.o1 21 (.o1 22 (.o1 23 (.tk 24 (.fin)) (.nil)) (.nil)) (.nil)) (.nil)) (.nil)) (.nil)) (.nil))))))))))))))))))) qg qg _ (Za.refl _ _) ?_;refine xx ?_;refine Wb _ _ _ ?_;refine xx ?_;refine Wb _ _ _ ?_;refine xx ?_;refine Wb _ _ _ ?_;refine xx ?_;refine Wb _ _ _ ?_;refine xx ?_;refine Wb _ _ _ ?_;refine xx ?_;refine ZY fun b2 nb2 zb2=>?_;(try simp only[ZS]at nb2);refine xkp (Za.tail _ _ _) ?_;refine xx ?_;refine Ws (sz:=1) (n:=6) (cap:=6) [] ⟨Nat.le_refl _,qh⟩ rfl qh zb2 fun h2 le2 s2 f2=>?_;refine Zhb (bl:=[wi p.aP 1 4294967296,wi p.aO p.aP 4294967296,wi p.aQ 1 1099511627776,wi p.aH 1 p.aQ,decide (p.recover<=4294967296),wi p.aA 1 72057594037927936]) _ s2 qj ?_;have hs:WB p=[wi p.aP 1 4294967296,wi p.aO p.aP 4294967296,wi p.aQ 1 1099511627776,wi p.aH 1 p.aQ,decide (p.recover<=4294967296),wi p.aA 1 72057594037927936].all id:=rfl;rw[<- hs];refine xkp (Za.forget le2) ?_;simp only[List.nil_append];refine xx ?_;exact ZO (ZP (hk h2 le2))
theorem Zsj (p:Ze)(hk:∀h',PH.le h h'->K (.bool (We p)) L h'):Zb prog 167 [WS p] L h K:=by
 refine ed func167 ?_;refine xx ?_;refine ZY fun b1 nb1 zb1=>?_;(try simp only[ZS]at nb1);refine xx ?_;refine Z4 (.tk 0 (.tk 3 (.tk 6 (.tk 9 (.tk 12 (.tk 15 (.tk 18 (.tk 21 (.tk 24 (.tk 27 (.tk 30 (.tk 33 (.tkl 1 (.tk 2 (.tkl 4 (.tk 5 (.tkl 7 (.tkl 10 (.tkl 13 (.tkl 16 (.tkl 19 (.tkl 22 (.tkl 25 (.tkl 28 (.tkl 31 (.tkl 34 (.o1 8 (.o1 11 (.o1 14 (.o1 17 (.o1 20 (.o1 23 (.o1 26 (.o1 29 (.o1 32 (.o1 35 (.o1 36 (.o1 37 (.tk 38 (.fin)) (.nil)) (.nil)) (.nil)) (.nil)) (.nil)) (.nil)) (.nil)) (.nil)) (.nil)) (.nil)) (.nil)) (.nil)))))))))))))))))))))))))))) qg qg _ (Za.refl _ _) ?_;refine xx ?_
 iterate 10
  refine Zou _ _ _ ?_;simp -dsimp -implicitDefEqProofs (disch:=first|exact dD|fail) [go_sem]
 refine ZY fun b2 nb2 zb2=>?_;(try simp only[ZS]at nb2);refine xkp (Za.tail _ _ _) ?_;refine xx ?_;refine Ws (sz:=1) (n:=12) (cap:=12) [] ⟨Nat.le_refl _,qh⟩ rfl qh zb2 fun h2 le2 s2 f2=>?_;refine Zhb (bl:=[decide (p.rate<=4294967296),decide (p.aX<=1099511627776),wi p.delay 0 1000,wi p.wait 0 50,wi p.aN 0 1000,wi p.aW 1 1000,wi p.ak 0 64,wi p.aS 0 1000,wi p.aJ 0 10000,wi p.aG 0 10000,wi p.aI 0 10000,wi p.aK 1 64]) _ s2 qj ?_;have hs:We p=[decide (p.rate<=4294967296),decide (p.aX<=1099511627776),wi p.delay 0 1000,wi p.wait 0 50,wi p.aN 0 1000,wi p.aW 1 1000,wi p.ak 0 64,wi p.aS 0 1000,wi p.aJ 0 10000,wi p.aG 0 10000,wi p.aI 0 10000,wi p.aK 1 64].all id:=rfl;rw[<- hs];refine xkp (Za.forget le2) ?_;simp only[List.nil_append];refine xx ?_;exact ZO (ZP (hk h2 le2))
theorem Zst (n:Nat)(q:Nat->Bool)(fv:Value)(hn:n<=4611686018427387904)(hq:∀i j,i<=j->q i=true->q j=true)
  (hf:∀i:Nat,i<n->∀K:PK,K (.bool (q i)) L h->Zfc prog fv [.int .i64 i] L h K)
  (hk:K (.int .i64 (WD q n 0)) L h):Zb prog 280 [.int .i64 n,fv] L h K:=by
 refine ed func280 ?_;refine xx ?_;refine Y1 (γ:=Nat×Nat) (0,n) (fun g=>g.1<=g.2/\g.2<=n/\(∀k,k<g.1->q k=false)/\(g.2<n->q g.2=true)) (fun g=>[(5,.int .i64 g.1),(6,.int .i64 g.2),(1,fv)]) (fun g=>g.2-g.1) ?_ ?_ ?_
 ·exact⟨Nat.zero_le _,Nat.le_refl _,fun k hk=>by simp only at hk;omega,fun h=>by simp only at h;omega⟩
 ·simp [Ent,List.lookup,YT]
 rintro⟨i,j⟩ ⟨i1,i2,i3,i4⟩;simp only at i1 i2 i3 i4 ⊢;by_cases d:i<j
 ·obtain⟨m,hm⟩:∃m,m=(i+j)/2:=⟨_,rfl⟩
  have e:((i:Int)+(j:Int))/2=(m:Int):=qf;simp -dsimp -implicitDefEqProofs (disch:=first|exact dD|fail) [go_sem,e];refine Or.inl (hf m qf _ ?_)
  cases hg:q m with
  | true =>
   refine xx ?_;exact⟨i,m,⟨qf,qf,i3,fun _=>hg⟩,qf,qi,Za.refl _ _⟩
  | false =>
   refine xx ?_;refine⟨m+1,j,⟨qf,i2,fun k hk=>?_,i4⟩,qf,qi,Za.refl _ _⟩
   cases hqk:q k with
   | false=>rfl
   | true=>rw[hq k m qf hqk]at hg;cases hg
 ·have:i=j:=qf;subst this;have e:WD q n 0=i:=Vf (Nat.zero_le _) qf (fun k _ hk=>i3 k hk) (fun h=>i4 qf);rw[e]at hk;refine xx ?_;exact ZP hk
theorem Zax (q:Nat->Bool):∀(m k:Nat),WD (fun i=>q (i+1)) m k+1=WD q m (k+1)
 | 0,k=>rfl
 | m+1,k=>by
  simp only[WD];split
  ·rfl
  ·exact Zax q m (k+1)
theorem Yeg (p:Ze)(ok:Zj p)(h1:Wa p=true)(h2:WB p=true)(hk:K (.int .i64 (VT p)) L h):Zb prog 168 [WS p] L h K:=by
 have f1:=YK h1;have f2:=Wd h2;refine ed func168 ?_;refine xx ?_;refine ZY fun b1 nb1 zb1=>?_;(try simp only[ZS]at nb1);refine xx ?_;refine Zst 1048576 (fun i=>Vj p (i+1)) _ qf (fun i j hij he=>Zby qf qf qf he) (fun i hi K' hk'=>?_) ?_
 ·have hA:0<=p.inc*p.aP/\p.inc*p.aP<=9223372036854775808 :=
   ⟨Int.mul_nonneg qf qf,Int.le_trans (Int.mul_le_mul f1.2.1 f2.2.1 qf qf) qh⟩
  have hB:0<=((i:Int)+1)*((i:Int)+1+1)/\((i:Int)+1)*((i:Int)+1+1)<=1099513724929 :=
   ⟨Int.mul_nonneg qf qf,Int.le_trans (Int.mul_le_mul (show (i:Int)+1<=1048576 from qf) (show (i:Int)+1+1<=1048577 from qf) qf qf) qh⟩
  refine xx ?_;refine ed func278 ?_;refine xx ?_;refine Zcg _ _ _ _ qf qf qf qf ?_;refine xx ?_;refine ZP ?_;have e:Vj p (i+1) = !decide (p.inc*p.aP*(((i:Int)+1)*((i:Int)+1+1))<2*p.aQ*(p.cap-p.floor)):=by
   unfold Vj
   push_cast
   rw[<- decide_not,decide_eq_decide];omega
  rw[e]at hk'
  simpa using hk'
 ·have e:=Zax (Vj p) 1048576 0;have hl:=(Vp (fun i=>Vj p (i+1)) 1048576 0).2.1;have e2:VT p=WD (fun i=>Vj p (i+1)) 1048576 0+1:=by rw[e];rfl
  rw[e2]at hk;refine xx ?_;exact ZO (ZP qA)
theorem Zsn (p:Ze)(ok:Zj p)(hk:∀h',PH.le h h'->K (.int .i64 (if Yo p then 0 else 70)) L h'):Zb prog 58 [WS p] L h K:=by
 refine ed func58 ?_;refine xx ?_;refine ZY fun b1 nb1 zb1=>?_;(try simp only[ZS]at nb1);refine xx ?_;refine Zb.ap (Zut p ok fun h2 le2 ap=>?_);obtain⟨q2,_⟩:=ap
 cases h1:Wa p with
 | false =>
  rw[show Yo p=false by simp [Yo,h1]]at hk;refine xx ?_;exact ZO (ZP (hk h2 le2))
 | true =>
  refine xx ?_;refine Zb.ap (Zsr p fun h3 le3 ap=>?_);obtain⟨q3,_⟩:=ap
  cases h2':WB p with
  | false =>
   rw[show Yo p=false by simp [Yo,h2']]at hk;refine xx ?_;exact ZO (ZP (hk h3 (le2.trans le3)))
  | true =>
   refine xx ?_;refine Zb.ap (Zsj p fun h4 le4 ap=>?_);obtain⟨q4,_⟩:=ap
   cases h3':We p with
   | false =>
    rw[show Yo p=false by simp [Yo,h3']]at hk;refine xx ?_;exact ZO (ZP (hk h4 (le2.trans (le3.trans le4))))
   | true =>
    have f1:=YK h1;have f2:=Wd h2';have hl:=(Vp (Vj p) 1048576 1).2.1;have hl1:VT p<=1048577:=by unfold VT;omega
    have e:Yo p=(decide (VT p<=1048576)&&decide (p.aP*(VT p:Int)<=p.aA)):=by simp [Yo,h1,h2',h3']
    have hA:0<=p.aP*(VT p:Int)/\p.aP*(VT p:Int)<=4503603922337792 :=
     ⟨Int.mul_nonneg qf qf,Int.le_trans (Int.mul_le_mul f2.2.1 (show (VT p:Int)<=1048577 from qf) qf qf) qh⟩
    rw[e]at hk;refine xx ?_;refine Yeg p ok h1 h2' ?_;by_cases d1:VT p<=1048576
    ·by_cases d2:p.aP*(VT p:Int)<=p.aA
     ·refine xx ?_;exact ZO (ZP (by simpa [d1,d2] using hk h4 (le2.trans (le3.trans le4))))
     ·refine xx ?_;exact ZO (ZP (by simpa [d1,d2] using hk h4 (le2.trans (le3.trans le4))))
    ·refine xx ?_;exact ZO (ZP (by simpa [d1] using hk h4 (le2.trans (le3.trans le4))))
end Go.X
