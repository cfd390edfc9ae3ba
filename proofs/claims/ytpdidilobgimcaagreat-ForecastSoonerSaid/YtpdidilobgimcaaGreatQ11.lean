/- Lemmas and contracts. Conditions: as each says. -/
import Derived.Test.YtpdidilobgimcaaGreatQ06
set_option linter.unusedVariables false
set_option linter.unusedSimpArgs false
set_option maxHeartbeats 12800000
set_option maxRecDepth 20000
namespace Go.X
open Go.RowKit Go.Proofs Go.Bl Go.Proofs.Tryz
variable {L:Own} {h:PH} {K:PK}
def pv (ds:List Int):Nat→Int
 | 0=>0
 | k+1=>pv ds k+at0 ds k*10 ^ k
def Dg (ds:List Int):Prop:=∀j,0≤at0 ds j∧at0 ds j≤9
def vl (ds:List Int):Int:=pv ds ds.length
theorem p10 (k:Nat):(0:Int)<10 ^ k:=Int.pow_pos (by decide)
theorem WY {ds:List Int}(hd:Dg ds):∀k,0≤pv ds k∧pv ds k<10 ^ k
 | 0=>by simp [pv]
 | k+1=>by
  have ih:=WY hd k;have hk:=hd k;have h10:=p10 k;simp only[pv,Int.pow_succ];have h1:0≤at0 ds k*10 ^ k:=Int.mul_nonneg hk.1 (Int.le_of_lt h10);have h2:at0 ds k*10 ^ k≤9*10 ^ k:=Int.mul_le_mul_of_nonneg_right hk.2 (Int.le_of_lt h10);omega
theorem VU (ds:List Int)(k:Nat)(hk:ds.length≤k):pv ds k=vl ds:=by
 obtain⟨m,rfl⟩:=Nat.exists_eq_add_of_le hk;clear hk
 induction m with
 | zero=>rfl
 | succ m ih=>rw[Nat.add_succ,pv,ih,Ua (by omega)];simp
theorem Wy (ds:List Int)(j:Nat)(s:Int)(i:Nat)(hj:j<ds.length):at0 (ds.set j s) i=if i=j then s else at0 ds i:=by
 simp only[at0,List.getD_eq_getElem?_getD,List.getElem?_set];by_cases e:i=j
 ·subst e;simp [hj]
 ·simp [e,Ne.symm e]
theorem Dg.set {ds:List Int}(hd:Dg ds)(j:Nat)(s:Int)(hj:j<ds.length)(h0:0≤s)(h1:s≤9):Dg (ds.set j s):=by
 intro i;rw[Wy ds j s i hj];split
 ·exact⟨h0,h1⟩
 ·exact hd i
theorem Yde (ds:List Int)(j:Nat)(s:Int)(hj:j<ds.length):∀k,pv (ds.set j s) k=if j<k then pv ds k+(s-at0 ds j)*10 ^ j else pv ds k
 | 0=>by simp [pv]
 | k+1=>by
  simp only[pv,Yde ds j s hj k,Wy ds j s k hj];by_cases e1:k=j
  ·subst e1;simp [Int.sub_mul];omega
  ·by_cases e2:j<k
   ·rw[if_pos e2,if_neg e1,if_pos (by omega)];omega
   ·rw[if_neg e2,if_neg e1,if_neg (by omega)]
theorem Ybv (ds:List Int)(j:Nat)(s:Int)(hj:j<ds.length):vl (ds.set j s)=vl ds+(s-at0 ds j)*10 ^ j:=by
 unfold vl;rw[Yde ds j s hj,List.length_set,if_pos hj]
theorem JT (ds:List Int)(s:Int)(i:Nat):at0 (ds++[s]) i=if i<ds.length then at0 ds i else if i=ds.length then s else 0:=by
 simp only[at0,List.getD_eq_getElem?_getD];by_cases e:i<ds.length
 ·simp [e,List.getElem?_append_left e]
 ·rw[if_neg e,List.getElem?_append_right (by omega)];by_cases e2:i=ds.length
  ·subst e2;simp
  ·rw[if_neg e2,List.getElem?_eq_none (by simp;omega)];rfl
theorem Dg.append {ds:List Int}(hd:Dg ds){s:Int}(h0:0≤s)(h1:s≤9):Dg (ds++[s]):=by
 intro i;rw[JT];have:=hd i;split
 ·exact this
 ·split
  ·exact⟨h0,h1⟩
  ·omega
theorem Zgd (ds:List Int)(s:Int):∀k,k≤ds.length→pv (ds++[s]) k=pv ds k
 | 0,_=>rfl
 | k+1,hk=>by rw[pv,pv,Zgd ds s k (by omega),JT,if_pos (by omega)]
theorem Zav (ds:List Int)(s:Int):vl (ds++[s])=vl ds+s*10 ^ ds.length:=by
 unfold vl;rw[List.length_append,List.length_singleton,pv,Zgd ds s _ (Nat.le_refl _),JT,if_neg (by omega),if_pos rfl]
theorem Ydz {a b:List Int}(ha:Dg a)(hb:Dg b)(i:Nat)(h1:at0 a i<at0 b i):∀m,i<m→(∀j,i<j→j<m→at0 a j=at0 b j)→pv a m<pv b m
 | 0,h,_=>by omega
 | m+1,hm,he=>by
  simp only[pv];by_cases e:i=m
  ·subst e;have:=WY ha i;have:=WY hb i;have h2:(at0 a i+1)*10 ^ i≤at0 b i*10 ^ i:=Int.mul_le_mul_of_nonneg_right (by omega) (Int.le_of_lt (p10 i));rw[Int.add_mul]at h2;omega
  ·have:=Ydz ha hb i h1 m (by omega) fun j h1 h2=>he j h1 (by omega);rw[he m (by omega) (by omega)];omega
theorem Ygw {a b:List Int}:∀m,(∀j,j<m→at0 a j=at0 b j)→pv a m=pv b m
 | 0,_=>rfl
 | m+1,he=>by rw[pv,pv,Ygw m fun j hj=>he j (by omega),he m (by omega)]
def Nt (h:PH)(v:Value)(n:Int)(m:Nat):Prop:=∃s ds,v = .agg #[s]∧Ints h .i64 s ds∧Dg ds∧vl ds=n∧ds.length≤m
theorem Nt.up {h h':PH}(le:PH.le h h'){v:Value}{n:Int}{m:Nat}(hs:Nt h v n m):Nt h' v n m:=by
 obtain⟨s,ds,h1,h2,h3⟩:=hs;exact⟨s,ds,h1,h2.up le,h3⟩
theorem Gl {ds:List Int}(v:Value)(i:Int)(hs:Ints h .i64 v ds)(h0:0≤i)(h1:i≤9223372036854775807)(hk:K (.int .i64 (at0 ds i.toNat)) L h):Zb prog 266 [v,.int .i64 i] L h K:=by
 obtain⟨a,cap,rfl,hn,hc,ha,hcs⟩:=hs.open;refine ZR func266 rfl (rs:=[_]) rfl rfl ZW (by kernel_rfl) rfl rfl ?_;refine xx ?_;refine WE (fun c1=>?_) (fun c1=>?_)
 ·simp -dsimp -implicitDefEqProofs (disch:=first|with_reducible assumption|omega) [go_sem,idx hcs];exact ZP hk
 ·rw[Ua (by omega)]at hk;refine xx ?_;exact ZP hk
def Zkh (a b:Int):Int:=if a<b then -1 else if b<a then 1 else 0
theorem Zjm {n m:Int}{k l:Nat}(v u:Value)(ha:Nt h v n k)(hb:Nt h u m l)(hk:K (.int .i64 (Zkh n m)) L h):Zb prog 142 [v,u] L h K:=by
 obtain⟨s,ds,rfl,hs,hd,rfl,_⟩:=ha;obtain⟨r,es,rfl,hr,he,rfl,_⟩:=hb;obtain⟨a,ca,rfl,hna,hca,_,hcx⟩:=hs.open;obtain⟨b,cb,rfl,hnb,hcb,_,hcy⟩:=hr.open;refine ZR func142 rfl (rs:=[_]) rfl rfl ZW (by kernel_rfl) rfl rfl ?_;refine xx ?_;refine Z0 fun b1 nb1 zb1=>?_;(try simp only[ZU]at nb1);refine xx ?_;refine Z0 fun b2 nb2 zb2=>?_;(try simp only[ZU]at nb2);refine xx ?_;simp only[Yi];refine xx ?_;refine Vk (max ds.length es.length) (fun k=>k≤max ds.length es.length∧∀j,k≤j→j<max ds.length es.length→at0 ds j=at0 es j)
  (fun k=>[(5,.int .i64 ((k:Int)-1)),(2,.pointer (some ⟨b1,0,none⟩)),(3,.pointer (some ⟨b2,0,none⟩))]) (fun k=>k) ?_ ?_ ?_
 ·exact⟨Nat.le_refl _,fun j h1 h2=>by omega⟩
 ·simp [Ent,List.lookup];omega
 intro k ⟨hk1,hk2⟩;have hvd:=VU ds (max ds.length es.length) (by omega);have hve:=VU es (max ds.length es.length) (by omega);refine xx ?_;refine WE (fun c1=>?_) (fun c1=>?_)
 ·have ek:((k:Int)-1).toNat=k-1:=by omega
  refine xx ?_;refine JY (by kernel_rfl) rfl ?_;refine xx ?_;refine UG _ (Gl _ _ hs (by omega) (by omega) ⟨rfl,rfl,rfl⟩) ?_;refine xx ?_;refine UG _ (Gl _ _ hr (by omega) (by omega) ⟨rfl,rfl,rfl⟩) ?_;simp -dsimp -implicitDefEqProofs (disch:=first|with_reducible assumption|omega) [go_sem,ek];refine WE (fun c2=>?_) (fun c2=>?_)
  ·refine xx ?_;refine ZO (ZO (ZP ?_));have:=Ydz hd he (k-1) c2 (max ds.length es.length) (by omega) fun j h1 h2=>hk2 j (by omega) h2
   rwa [show Zkh (vl ds) (vl es) = -1 by rw[← hvd,← hve];simp [Zkh,this]]at hk
  ·refine xx ?_;refine JY (by kernel_rfl) rfl ?_;refine xx ?_;refine UG _ (Gl _ _ hs (by omega) (by omega) ⟨rfl,rfl,rfl⟩) ?_;refine xx ?_;refine UG _ (Gl _ _ hr (by omega) (by omega) ⟨rfl,rfl,rfl⟩) ?_;simp -dsimp -implicitDefEqProofs (disch:=first|with_reducible assumption|omega) [go_sem,ek];refine WE (fun c3=>?_) (fun c3=>?_)
   ·refine xx ?_;refine ZO (ZO (ZP ?_));have:=Ydz he hd (k-1) c3 (max ds.length es.length) (by omega) fun j h1 h2=>(hk2 j (by omega) h2).symm
    rwa [show Zkh (vl ds) (vl es)=1 by rw[← hvd,← hve];simp [Zkh,this,Int.not_lt.2 (Int.le_of_lt this)]]at hk
   ·refine xx ?_;refine⟨k-1,⟨by omega,fun j h1 h2=>?_⟩,by omega,by simp [Ent,List.lookup];omega,Za.refl _ _⟩;by_cases e:j=k-1
    ·subst e;omega
    ·exact hk2 j (by omega) h2
 ·have:=Ygw (a:=ds) (b:=es) (max ds.length es.length) fun j h1=>hk2 j (by omega) h1;rw[show Zkh (vl ds) (vl es)=0 by rw[← hvd,← hve];simp [Zkh,this]]at hk;refine xx ?_;exact ZO (ZO (ZP hk))
theorem Zdw (ds:List Int)(k j:Nat):at0 (ds.take k) j=if j<k then at0 ds j else 0:=by
 simp only[at0,List.getD_eq_getElem?_getD,List.getElem?_take];split<;>rfl
theorem Yhi {ds:List Int}{k:Nat}(hk:k≤ds.length)(hz:∀j,k≤j→at0 ds j=0):vl (ds.take k)=vl ds:=by
 rw[← VU (ds.take k) ds.length (by simp;omega)];refine Ygw _ fun j hj=>?_;rw[Zdw];split
 ·rfl
 ·exact(hz j (by omega)).symm
def nz (n:Int)(k:Nat):Nat:=if n=0 then 0 else k
theorem Yek (n:Int)(k:Nat):nz n k≤k:=by unfold nz;split<;>omega
theorem Nt.more {v:Value}{n:Int}{m m':Nat}(hs:Nt h v n m)(hm:m≤m'):Nt h v n m':=by
 obtain⟨s,ds,e,a,b,c,d⟩:=hs;exact⟨s,ds,e,a,b,c,Nat.le_trans d hm⟩
theorem Nt.nzm {v:Value}{n:Int}{m m':Nat}(hs:Nt h v n (nz n m))(hm:m≤m'):Nt h v n (nz n m'):=by
 refine hs.more ?_;unfold nz;split<;>omega
theorem Yef {ds:List Int}(hd:Dg ds):∀ {k m:Nat},k≤m→pv ds k≤pv ds m:=fun {k m} hkm=>by
  induction m with
  | zero => have : k = 0 := by omega
            subst this;exact Int.le_refl _
  | succ m ih =>
    by_cases e:k=m+1
    · subst e;exact Int.le_refl _
    · have h1:=ih (by omega);have h2:=Int.mul_nonneg (hd m).1 (Int.le_of_lt (p10 m));simp only[pv];omega
theorem Ysc {ds:List Int}(hd:Dg ds){j:Nat}(hj:j<ds.length)(h0:at0 ds j≠0):vl ds≠0:=by
 have h1:=Yef hd (show j+1≤ds.length from hj);have h2:=(WY hd j).1;have h3:1*10 ^ j≤at0 ds j*10 ^ j:=Int.mul_le_mul_of_nonneg_right (by have:=(hd j).1;omega) (Int.le_of_lt (p10 j));have h4:=p10 j;simp only[pv]at h1;unfold vl;omega
theorem GQ {ds:List Int}{m:Nat}(v:Value)(hs:Ints h .i64 v ds)(hd:Dg ds)(hm:ds.length≤m)(hk:∀r,Nt h r (vl ds) (nz (vl ds) m)→K r L h):Zb prog 267 [v] L h K:=by
 obtain⟨a,ca,rfl,hna,hca,_,hcx⟩:=hs.open;refine ZR func267 rfl (rs:=[_]) rfl rfl ZW (by kernel_rfl) rfl rfl ?_;refine xx ?_;refine Z0 fun b1 nb1 zb1=>?_;(try simp only[ZU]at nb1);refine xx ?_;refine Vk ds.length (fun k=>k≤ds.length∧∀j,k≤j→at0 ds j=0) (fun k=>[(3,.int .i64 k),(0,.slice a ds.length ca),(2,.pointer (some ⟨b1,0,none⟩))]) (fun k=>k) ?_ ?_ ?_
 ·exact⟨Nat.le_refl _,fun j hj=>Ua hj⟩
 ·simp [Ent,List.lookup,Wv]
 intro k ⟨hk1,hk2⟩;have out:(k=0∨vl ds≠0)→fin K (.agg #[.slice a k ca]) (⟨b1,196,[.slice a k ca],1⟩::L) h:=fun hz =>
  ZO (ZP (hk _ ⟨_,ds.take k,rfl,hs.take k hk1,fun j=>by rw[Zdw];have:=hd j;split<;>omega,Yhi hk1 hk2,by
   unfold nz;rw[List.length_take];rcases hz with hz|hz
   ·split<;>omega
   ·rw[if_neg hz];omega⟩))
 refine xx ?_;by_cases c1:0<k
 ·have ek:((k:Int)-1).toNat=k-1:=by omega
  simp -dsimp -implicitDefEqProofs (disch:=first|with_reducible assumption|omega) [go_sem,idx hcx,ek];refine WE (fun c2=>?_) (fun c2=>?_)
  ·refine xx ?_;refine⟨k-1,⟨by omega,fun j hj=>?_⟩,by omega,by simp [Ent,List.lookup];omega,Za.refl _ _⟩;by_cases e:j=k-1
   ·subst e;exact c2
   ·exact hk2 j (by omega)
  ·refine xx ?_;exact out (.inr (Ysc hd (show k-1<ds.length by omega) c2))
 ·refine xx ?_;exact out (.inl (by omega))
theorem GG {ds:List Int}{m:Nat}(v:Value)(hs:Ints h .i64 v ds)(hd:Dg ds)(hm:ds.length≤m)(hk:∀r,Nt h r (vl ds) m→K r L h):Zb prog 267 [v] L h K :=
 GQ v hs hd hm fun r hr=>hk r (hr.more (Yek _ _))
theorem Ygi {c x:Int}{n:Nat}(hc:0<c)(hx:c*10 ^ n≤x)(h1:x≤18446744073709551615):n≤19:=by
 by_cases hn:n≤19
 ·exact hn
 ·exfalso
  obtain⟨m,rfl⟩:=Nat.exists_eq_add_of_le (show 20≤n by omega);have e:(10:Int) ^ (20+m)=100000000000000000000*10 ^ m:=by rw[Int.pow_add];rfl
  have hm:=p10 m;have h2:1*(10:Int) ^ (20+m)≤c*10 ^ (20+m):=Int.mul_le_mul_of_nonneg_right (by omega) (Int.le_of_lt (p10 _));omega
theorem Zdl {ds:List Int}(hd:Dg ds):0≤vl ds:=(WY hd _).1
theorem U6 (x:Int)(h0:0≤x)(h1:x≤18446744073709551615)(hk:∀h' r,PH.le h h'→Nt h' r x 20→K r L h'):Zb prog 141 [.int .u64 x] L h K:=by
 refine ZR func141 rfl (rs:=[_]) rfl rfl ZW (by kernel_rfl) rfl rfl ?_;refine xx ?_;refine Z0 fun b1 nb1 zb1=>?_;(try simp only[ZU]at nb1);refine xx ?_;refine YJ (γ:=Option (Nat×Nat)×List Int×Int) (none,[],x)
  (fun s=>okO s.1 s.2.1.length∧apO s.1 (⟨b1,196,[.slice none 0 0],1⟩::L) h∧Dg s.2.1∧0≤s.2.2∧vl s.2.1+s.2.2*10 ^ s.2.1.length=x∧s.2.1.length≤20)
  (fun s=>[(3,ovs s.1 s.2.1.length),(0,.int .u64 s.2.2),(2,.pointer (some ⟨b1,0,none⟩))])
  (fun s=>oent 3 1 s.1 (s.2.1.map (Value.int .i64)) (⟨b1,196,[.slice none 0 0],1⟩::L)) (fun _=>h) (fun s=>s.2.2.toNat) ?_ ?_ ?_ ?_
 ·exact⟨rfl,trivial,fun j=>by simp [at0],h0,by simp [vl,pv],by simp⟩
 ·simp [Ent,List.lookup,Wv,ovs]
 ·exact Za.refl _ _
 rintro⟨o,ds,c⟩ ⟨i1,i2,i3,i4,i5,i6⟩;simp only at i1 i2 i3 i4 i5 i6;have hv:=Zdl i3;have hx:0≤c*10 ^ ds.length:=Int.mul_nonneg i4 (Int.le_of_lt (p10 _));have hc:c≤18446744073709551615:=by
  have:c*1≤c*10 ^ ds.length:=Int.mul_le_mul_of_nonneg_left (by have:=p10 ds.length;omega) i4;omega
 refine xx ?_;refine WE (fun c1=>?_) (fun c1=>?_)
 ·have hn:ds.length≤19:=Ygi c1 (x:=x) (by omega) h1;refine xx ?_;refine Z0 fun b4 nb4 zb4=>?_;(try simp only[ZU]at nb4);refine xx ?_;refine Z2 (t:=27) (e:=3) (sz:=1) (bytes:=8) (z:=[.int .i64 0]) (by kernel_rfl) JM rfl rfl rfl rfl (by decide) [_] _ o ds.length _ i1 (by simp) (Src.own List.mem_cons_self) (m:=1) (news:=[.int .i64 (c%10)]) rfl (fun u hu=>by simp at hu;subst hu;rfl) (by simp [maxLen];omega) (by omega) ?_;intro o' j1 j2 j3;refine xx ?_;refine⟨o',ds++[c%10],c/10,⟨by simpa using j1,ZY j2,i3.append (by omega) (by omega),by omega,?_,by simp;omega⟩,by omega,by simp [Ent,List.lookup],by simpa using Za.tail _ _ _⟩;rw[Zav,List.length_append,List.length_singleton,Int.pow_succ,← i5];have e:c=c/10*10+c%10:=by omega
  have e2:c*10 ^ ds.length=c/10*(10 ^ ds.length*10)+c%10*10 ^ ds.length:=by
   conv=>lhs;rw[e]
   rw[Int.add_mul,Int.mul_assoc,Int.mul_comm 10]
  omega
 ·have hne:apB o b1:=i2.head;have hc0:c=0:=by omega
  subst hc0;simp -dsimp -implicitDefEqProofs (disch:=first|with_reducible assumption|omega) [go_sem,ZS hne,ZQ hne];refine YT (n:=ds.length) i1 (by simp) (by omega) i2 fun h' le sl=>ZO (ZP (hk h' _ le ⟨_,ds,rfl,⟨sl,?_⟩,i3,by omega,i6⟩));intro z hz;obtain⟨j,hj,rfl⟩:=List.mem_iff_getElem.1 hz;have:=i3 j;rw[Yh hj];simp only[IntKind.min,IntKind.max,IntKind.bits,IntKind.signed];simp;omega
theorem Vl {ds:List Int}(hd:Dg ds):∀z∈ds,IntKind.i64.min≤z∧z≤IntKind.i64.max:=by
 intro z hz;obtain⟨j,hj,rfl⟩:=List.mem_iff_getElem.1 hz;have:=hd j;rw[Yh hj];simp only[IntKind.min,IntKind.max,IntKind.bits,IntKind.signed];simp;omega
theorem Zbx {a b:Nat}{c x:Int}(hc:0<c)(hx:c*10 ^ a≤x)(hy:x<10 ^ b):a<b:=by
 by_cases e:a<b
 ·exact e
 ·exfalso
  have h1:(10:Int) ^ b≤10 ^ a:=by
   obtain⟨m,rfl⟩:=Nat.exists_eq_add_of_le (show b≤a by omega);have h3:(10:Int) ^ b*1≤10 ^ b*10 ^ m:=Int.mul_le_mul_of_nonneg_left (by have:=p10 m;omega) (Int.le_of_lt (p10 b));rw[Int.pow_add];omega
  have h2:1*(10:Int) ^ a≤c*10 ^ a:=Int.mul_le_mul_of_nonneg_right (by omega) (Int.le_of_lt (p10 a));omega
theorem Zha {ds es:List Int}(hd:Dg ds)(he:Dg es)(i:Nat):0≤pv ds i*vl es∧pv ds i*vl es<10 ^ (i+es.length):=by
 have h1:=WY hd i;have h2:=WY he es.length;have h3:=p10 es.length;refine⟨Int.mul_nonneg h1.1 h2.1,?_⟩;have h4:pv ds i*vl es≤pv ds i*10 ^ es.length:=Int.mul_le_mul_of_nonneg_left (Int.le_of_lt h2.2) h1.1;have h5:pv ds i*10 ^ es.length<10 ^ i*10 ^ es.length:=Int.mul_lt_mul_of_pos_right h1.2 h3;rw[Int.pow_add];omega
theorem Yfx (D c s p x y W T:Int)(hs:s=x+y+c)(h:D+c*p=W+T):D+(s%10-x)*p+s/10*(p*10)=W+(T+y*p):=by
 have e:s/10*(p*10)=s/10*10*p:=by rw[Int.mul_comm p 10,← Int.mul_assoc]
 have e2:(s%10-x)*p+s/10*10*p=(s%10-x+s/10*10)*p:=by rw[← Int.add_mul]
 have e3:s%10-x+s/10*10=y+c:=by omega
 rw[e];rw[e3,Int.add_mul]at e2;omega
theorem Zeg {n m:Int}{k l:Nat}(v u:Value)(ha:Nt h v n k)(hb:Nt h u m l)(hkl:k+l≤1000)(hk:∀h' r,PH.le h h'→Nt h' r (n*m) (k+l+1)→K r L h'):Zb prog 140 [v,u] L h K:=by
 obtain⟨s,ds,rfl,hs,hd,rfl,hdl⟩:=ha;obtain⟨r,es,rfl,hr,he,rfl,hel⟩:=hb;obtain⟨a,ca,rfl,hna,hca,_,hcx⟩:=hs.open;obtain⟨b,cb,rfl,hnb,hcb,_,hcy⟩:=hr.open;refine ZR func140 rfl (rs:=[_]) rfl rfl ZW (by kernel_rfl) rfl rfl ?_;refine xx ?_;refine Z0 fun b1 nb1 zb1=>?_;(try simp only[ZU]at nb1);refine xx ?_;refine Z0 fun b2 nb2 zb2=>?_;(try simp only[ZU]at nb2);refine xx ?_;refine Z0 fun b3 nb3 zb3=>?_;(try simp only[ZU]at nb3);refine xx ?_;refine GK (e:=3) (z:=.int .i64 0) (by kernel_rfl) JM rfl rfl .i64 .i64 _ (by omega) (by simp;omega) (by omega) ?_;refine Z0 fun b4 nb4 zb4=>?_;(try simp only[ZU]at nb4);obtain⟨N,hN⟩:∃N,N=ds.length+es.length+1:=⟨_,rfl⟩
 have eN:((ds.length:Int)+es.length+1).toNat=N:=by omega
 refine xx ?_;simp only[eN];refine YJ (γ:=Nat×List Int) (0,List.replicate N 0)
  (fun s=>s.1≤ds.length∧s.2.length=N∧Dg s.2∧vl s.2=pv ds s.1*vl es)
  (fun s=>[(6,.int .i64 s.1),(5,.slice (some ⟨b4,0,none⟩) N N),(4,.pointer (some ⟨b3,0,none⟩)),(2,.pointer (some ⟨b1,0,none⟩)),(3,.pointer (some ⟨b2,0,none⟩))])
  (fun s=>⟨b4,3,s.2.map (Value.int .i64),N⟩::⟨b3,196,[.slice none 0 0],1⟩::⟨b2,196,[.slice b es.length cb],1⟩::⟨b1,196,[.slice a ds.length ca],1⟩::L)
  (fun _=>h) (fun s=>ds.length-s.1) ?_ ?_ ?_ ?_
 ·have z:∀j,at0 (List.replicate N 0) j=0:=fun j=>by
   simp only[at0,List.getD_eq_getElem?_getD,List.getElem?_replicate];split<;>rfl
  have z2:∀k,pv (List.replicate N 0) k=0:=fun k=>by
   induction k with
   | zero=>rfl
   | succ k ih=>rw[pv,ih,z];simp
  exact⟨Nat.zero_le _,by simp,fun j=>by rw[z];omega,by rw[vl,z2];simp [pv]⟩
 ·simp [Ent,List.lookup]
 ·rw[List.map_replicate];exact Za.refl _ _
 rintro⟨i,fs⟩ ⟨i1,i2,i3,i4⟩;simp only at i1 i2 i3 i4;refine xx ?_;refine WE (fun c1=>?_) (fun c1=>?_)
 ·refine xx ?_;refine YJ (γ:=Nat×Int×List Int) (0,0,fs)
   (fun s=>s.1≤es.length+1∧0≤s.2.1∧s.2.1≤9∧s.2.2.length=N∧Dg s.2.2∧vl s.2.2+s.2.1*10 ^ (i+s.1)=pv ds i*vl es+at0 ds i*pv es s.1*10 ^ i)
   (fun s=>[(8,.int .i64 s.1),(7,.int .i64 s.2.1),(6,.int .i64 i),(5,.slice (some ⟨b4,0,none⟩) N N),(4,.pointer (some ⟨b3,0,none⟩)),(2,.pointer (some ⟨b1,0,none⟩)),(3,.pointer (some ⟨b2,0,none⟩))])
   (fun s=>⟨b4,3,s.2.2.map (Value.int .i64),N⟩::⟨b3,196,[.slice none 0 0],1⟩::⟨b2,196,[.slice b es.length cb],1⟩::⟨b1,196,[.slice a ds.length ca],1⟩::L)
   (fun _=>h) (fun s=>es.length+2-s.1) ?_ ?_ ?_ ?_
  ·exact⟨Nat.zero_le _,Int.le_refl _,by simp,i2,i3,by simp only;rw[i4];simp [pv]⟩
  ·simp [Ent,List.lookup]
  ·exact Za.refl _ _
  rintro⟨k',c,gs⟩ ⟨j1,j2,j3,j4,j5,j6⟩;simp only at j1 j2 j3 j4 j5 j6;have hp:pv ds (i+1)=pv ds i+at0 ds i*10 ^ i:=rfl;have hp2:pv ds i*vl es+at0 ds i*vl es*10 ^ i=pv ds (i+1)*vl es:=by
   rw[hp,Int.add_mul,Int.mul_assoc,Int.mul_assoc,Int.mul_comm (vl es)]
  by_cases c2:(k':Int)<es.length∨0<c
  ·have hix:i+k'<N:=by
    by_cases c3:(k':Int)<es.length
    ·omega
    ·rw[VU es k' (by omega),hp2]at j6;have h1:=Zha hd he (i+1);have h2:=Zdl j5;have:=Zbx (a:=i+k') (b:=i+1+es.length) (c:=c) (x:=pv ds (i+1)*vl es) (by omega) (by omega) h1.2;omega
   have hk3:k'≤es.length:=by
    by_cases c3:(k':Int)<es.length
    ·omega
    ·rw[VU es k' (by omega),hp2]at j6;have h1:=Zha hd he (i+1);have h2:=Zdl j5;have:=Zbx (a:=i+k') (b:=i+1+es.length) (c:=c) (x:=pv ds (i+1)*vl es) (by omega) (by omega) h1.2;omega
   have q1:=hd i;have q2:=he k';have q3:=j5 (i+k');have q4:0≤at0 ds i*at0 es k'∧at0 ds i*at0 es k'≤81:=⟨Int.mul_nonneg q1.1 q2.1,Int.le_trans (Int.mul_le_mul q1.2 q2.2 q2.1 (by decide)) (by decide)⟩
   have ej:((i:Int)+(k':Int)).toNat=i+k':=by omega
   obtain⟨s,hs1⟩:∃s,s=at0 gs (i+k')+at0 ds i*at0 es k'+c:=⟨_,rfl⟩
   have f1:vl (gs.set (i+k') (s%10))+s/10*10 ^ (i+(k'+1))=pv ds i*vl es+at0 ds i*pv es (k'+1)*10 ^ i:=by
    rw[Ybv _ _ _ (by omega),← Nat.add_assoc,Int.pow_succ,Yfx _ c s _ _ (at0 ds i*at0 es k') _ _ hs1 j6];have:pv es (k'+1)=pv es k'+at0 es k'*10 ^ k':=rfl;rw[this,Int.mul_add,Int.add_mul,Int.pow_add];have e:at0 ds i*at0 es k'*(10 ^ i*10 ^ k')=at0 ds i*(at0 es k'*10 ^ k')*10 ^ i:=by
     rw[Int.mul_comm (10 ^ i),Int.mul_assoc,Int.mul_assoc,Int.mul_assoc]
    rw[e]
   have f2:=j5.set (i+k') (s%10) (by omega) (by omega) (by omega);by_cases c3:(k':Int)<es.length
   all_goals
    refine xx ?_;refine JY (by kernel_rfl) rfl ?_;simp -dsimp -implicitDefEqProofs (disch:=first|with_reducible assumption|omega) [go_sem,ej,idx hcx,W8];refine UG _ (Gl _ _ hr (by omega) (by omega) ⟨rfl,rfl,rfl⟩) ?_;simp -dsimp -implicitDefEqProofs (disch:=first|with_reducible assumption|omega) [go_sem,ej,← hs1];exact⟨by omega,k'+1,s/10,gs.set (i+k') (s%10),⟨by omega,by omega,by omega,by simp [j4],f2,f1⟩,by omega,by simp [Ent,List.lookup],by rw[List.map_set];exact Za.refl _ _⟩
  ·refine xx ?_;rw[VU es k' (by omega),hp2]at j6;refine⟨i+1,gs,⟨by omega,j4,j5,?_⟩,by omega,by simp [Ent,List.lookup],Za.refl _ _⟩;rw[← j6,show c=0 by omega];simp
 ·have hi:i=ds.length:=by omega
  subst hi;refine xx ?_;have eo:(⟨b4,3,fs.map (Value.int .i64),N⟩::⟨b3,196,[.slice none 0 0],1⟩::⟨b2,196,[.slice b es.length cb],1⟩::⟨b1,196,[.slice a ds.length ca],1⟩::L:Own)
    = oent 3 1 (some (b4,N)) (fs.map (Value.int .i64)) (⟨b3,196,[.slice none 0 0],1⟩::⟨b2,196,[.slice b es.length cb],1⟩::⟨b1,196,[.slice a ds.length ca],1⟩::L):=by simp [oent]
  rw[eo];refine WL (n:=N) (L0:=⟨b3,196,[.slice none 0 0],1⟩::⟨b2,196,[.slice b es.length cb],1⟩::⟨b1,196,[.slice a ds.length ca],1⟩::L) ⟨Nat.le_refl _,by simp [maxLen];omega⟩ (by simp [i2]) (by omega) ⟨by simp only[ZU];exact nb4,zb4⟩ fun h' le sl=>?_;refine Zb.ap (GG (ds:=fs) (m:=k+l+1) _ ⟨by rw[i2];exact sl,Vl i3⟩ i3 (by omega) fun r hr ap=>?_);simp only[Ap]at ap;obtain⟨a3,a2,a1,_⟩:=ap;obtain⟨s',fs',rfl,g1,g2,g3,g4⟩:=hr;refine xx ?_;refine⟨by obtain⟨_,_,rfl,_⟩:=g1.open;rfl,ZO (ZO (ZO (ZP (hk h' _ le ⟨s',fs',rfl,g1,g2,by rw[g3,i4];rfl,g4⟩))))⟩
end Go.X
