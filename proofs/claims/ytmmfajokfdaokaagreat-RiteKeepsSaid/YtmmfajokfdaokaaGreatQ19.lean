/- Lemmas and contracts. Conditions: as each says. -/
import Derived.Test.YtmmfajokfdaokaaGreatQ18
set_option linter.unusedVariables false
set_option linter.unusedSimpArgs false
set_option maxHeartbeats 12800000
set_option maxRecDepth 20000
namespace Go.X
open Go.RowKit Go.Bl
theorem Zkn {xs:List Int}{most:Int}{s:Nat×Int}(h:s.2≠0):∀k,(Gt xs most k s).2=s
 | 0=>rfl
 | k+1=>by simp only[Gt,Zev h];exact Zkn h k
theorem Zax {xs:List Int}{most:Int}(hx:∀z∈xs,0≤z∧z≤255):∀(m:Nat) (s:Nat×Int) (st:List Int) (k:Nat),s.1≤xs.length→Gt xs most m s=(st,(k,0)) →
  s.2=0∧xs.drop s.1=Ua st++xs.drop k∧k≤xs.length
 | 0,s,st,k,hs,h=>by
  simp only[Gt]at h;injection h with h1 h2
  subst h1;subst h2;exact⟨rfl,by simp [Ua],hs⟩
 | m+1,s,st,k,hs,h=>by
  simp only[Gt]at h;injection h with h1 h2
  subst h1
  cases hr:Z7 xs s most with
  | mk v p =>
   obtain⟨j,e⟩:=p;rw[hr]at h2;simp only at h2 ⊢;by_cases he:e=0
   ·subst he;obtain⟨h0,n,rfl,hn,_,hd,_,hj⟩:=UU hx hr;obtain⟨_,b4,b5⟩:=Zax hx m (j,0) (Gt xs most m (j,0)).1 k (hj hs) (Prod.ext rfl h2);refine⟨h0,?_,b5⟩;simp only[Ua,Int.toNat_natCast,List.append_assoc];simp only at b4;rw[hd,b4]
   ·rw[Zkn (by simpa using he)]at h2;injection h2 with _ h2
    exact absurd h2 he
theorem Zur {xs:List Int}{s:Nat×Int}{k:Nat}(hx:∀z∈xs,0≤z∧z≤255)(hs:s.1≤xs.length)(h:(Zdt xs s).2=(k,0)):s.2=0∧xs.drop s.1=Zkl (Zdt xs s).1++xs.drop k∧k≤xs.length:=by
 simp only[Zdt]at h ⊢;have hp:=Zco hx (most:=18446744073709551615) (by decide) 14 s hs;obtain⟨a1,a2,a3⟩:=Zax hx 10 (Gt xs 18446744073709551615 14 s).2 _ k hp.1 (Prod.ext rfl h);obtain⟨j,e⟩:∃j,(Gt xs 18446744073709551615 14 s).2=(j,0):=⟨(Gt xs 18446744073709551615 14 s).2.1,Prod.ext rfl a1⟩
 obtain⟨b1,b2,b3⟩:=Zax hx 14 s _ j hs (Prod.ext rfl e);refine⟨b1,?_,a3⟩;rw[Zkl,Zgs _ _ (G5 _ _ _ _),Zbh _ _ (G5 _ _ _ _),Jt,List.append_assoc,← a2,b2,e]
theorem Zqu {ok:Bool}{n e t:Int}(hn:n≠0)(ht:t=0)(he:e=0)(h:Gj ok n e t=0):ok=true:=by
 cases ok with
 | true=>rfl
 | false=>simp [Gj,he,ht]at h;exact absurd h hn
theorem VE {xs:List Int}{d:Zd}{s:Nat×Int}{e:Int}(hk:¬d.kind=5):YY xs d s e=WT xs (WB xs { d with acct:=(Z7 xs s 63).1 } (Z7 xs s 63).2 e):=by
 simp [YY,hk]
theorem WS {xs:List Int}{s:Nat×Int}{most z:Int}{t:Nat×Int}(hz:∀z∈xs,0≤z∧z≤255)(hs:s.1≤xs.length)(e:Z7 xs s most=(z,t))(h:t.2=0) :
  s.2=0∧0≤z∧z≤most∧xs.drop s.1=Ye z.toNat++xs.drop t.1∧t.1≤xs.length:=by
 obtain⟨k,q⟩:=t;simp only at h;subst h;obtain⟨h0,n,rfl,hn,_,hd,_,hk⟩:=UU hz e;exact⟨h0,by omega,hn,by simpa using hd,hk hs⟩
theorem Jh {xs:List Int}(hz:∀z∈xs,0≤z∧z≤255){q:Zd×(Nat×Int)×Int}(hs:q.2.1.1≤xs.length){d:Zd}{k:Nat}(h:WT xs q=(d,(k,0),0)) :
  q.2.2=0∧q.2.1.2=0∧((YB q.1=false∧d=q.1∧q.2.1=(k,0))∨(YB q.1=true∧∃a:Int,0<a∧a≤4611686018427387904∧d={ q.1 with amt:=a }∧xs.drop q.2.1.1=Ye a.toNat++xs.drop k∧k≤xs.length)):=by
 unfold WT at h;split at h
 ·rename_i c;injection h with h1 h2
  injection h2 with h2 h3
  obtain⟨_,b1,b2,b3,b4⟩:=WS hz hs (Prod.ext rfl h2:Z7 xs q.2.1 4611686018427387904=((Z7 xs q.2.1 4611686018427387904).1,(k,0))) rfl;have hp:=Zqu (by decide) (by rw[h2]) c.1 h3;exact⟨c.1,c.2.1,Or.inr ⟨c.2.2,_,of_decide_eq_true hp,b2,h1.symm,b3,b4⟩⟩
 ·rename_i c;subst h;refine⟨rfl,rfl,Or.inl ⟨?_,rfl,rfl⟩⟩
  cases hp:YB d with
  | false=>rfl
  | true=>exact absurd ⟨rfl,rfl,hp⟩ c
theorem Ztg (d:Zd):Yn d d=true:=by simp [Yn]
theorem VW {d:Zd}(hk:1≤d.kind∧d.kind≤7)(hb:Yi d=d)(h1:0≤d.acct∧d.acct≤63)(h2:0≤d.to∧d.to≤63)(h3:0≤d.mem∧d.mem≤127)(h4:0≤d.mot∧d.mot≤31)
  (hp:YB d=decide (0<d.amt)) (ha:d.amt≤4611686018427387904) (he:0≤d.ep∧d.ep≤1073741824) (hl:(d.bits.length:Int)≤32) (h6:d.kind=6→(1≤d.what∧d.what≤4)∧(d.what=1→Ym d.par=true)):ZW d=true:=by
 unfold ZW;rw[hb,Ztg,hp,wi_iff.2 hk,wi_iff.2 h1,wi_iff.2 h2,wi_iff.2 h3,wi_iff.2 h4,wi_iff.2 he,decide_eq_true ha,decide_eq_true hl];by_cases k6:d.kind=6
 ·obtain⟨g1,g2⟩:=h6 k6;rw[wi_iff.2 g1];by_cases w1:d.what=1
  ·simp [g2 w1]
  ·simp [w1]
 ·simp [k6]
def Js (xs:List Int)(s:Nat×Int)(z:Int)(d:Zd)(k:Nat):Prop :=
 s.2=0∧k≤xs.length∧ZW d=true∧ZG d∧(∀y∈d.bits,0≤y∧y≤255)∧∃b,WN d=Ye z.toNat++b∧xs.drop s.1=b++xs.drop k
theorem Wci {xs:List Int}(hz:∀z∈xs,0≤z∧z≤255){s:Nat×Int}(hs:s.1≤xs.length){d:Zd}{k:Nat}(h:YY xs ({ Z0 with kind:=1 }) s 0=(d,(k,0),0)):Js xs s 1 d k:=by
 rw[VE (by simp)]at h;have p0:=(Yt xs s 63 hz hs (by decide)).1;obtain⟨a,t0,e0'⟩:∃a t,Z7 xs s 63=(a,t):=⟨_,_,rfl⟩
 rw[e0']at h p0;simp only at h p0;have p1:=(Yt xs t0 63 hz p0 (by decide)).1;obtain⟨v1,t1,e1'⟩:∃a t,Z7 xs t0 63=(a,t):=⟨_,_,rfl⟩
 rw[e1']at p1;simp only at p1;rw[show WB xs ({ ({ Z0 with kind:=1 }:Zd) with acct:=a }) t0 0=({ Z0 with kind:=1,acct:=a,to:=v1 },t1,0) from by simp [WB,e1']]at h;obtain⟨_,g0,g⟩:=Jh hz p1 h;rcases g with⟨g,_⟩ | ⟨_,c,m1,m2,rfl,m3,m4⟩
 ·simp [YB,wi,Z0]at g
 simp only at g0;obtain⟨z1,a1,b1,c1,d1⟩:=WS hz p0 e1' g0;obtain⟨e0,a0,b0,c0',d0⟩:=WS hz hs e0' z1;exact⟨e0,m4,VW (by simp only[Z0];omega) (by simp [Yi,Z0]) (by simp only[Z0];omega) (by simp only[Z0];omega) (by simp only[Z0];omega) (by simp only[Z0];omega) (by simp [YB,wi,Z0];omega) (by simp only[Z0];omega) (by simp only[Z0];omega) (by simp [Z0]) (fun h=>by simp at h),⟨fun y hy=>by simp only[Z0,List.mem_cons,List.not_mem_nil,or_false]at hy;omega,⟨by simp only[Z0];omega,by simp only[Z0];omega⟩,Uk⟩,by simp [Z0],Ye a.toNat++(Ye v1.toNat++(Ye c.toNat)),by simp [WN,YB,wi,Z0],by rw[c0',c1,m3];simp⟩
theorem Wdm {xs:List Int}(hz:∀z∈xs,0≤z∧z≤255){s:Nat×Int}(hs:s.1≤xs.length){d:Zd}{k:Nat}(h:YY xs ({ Z0 with kind:=2 }) s 0=(d,(k,0),0)):Js xs s 2 d k:=by
 rw[VE (by simp)]at h;have p0:=(Yt xs s 63 hz hs (by decide)).1;obtain⟨a,t0,e0'⟩:∃a t,Z7 xs s 63=(a,t):=⟨_,_,rfl⟩
 rw[e0']at h p0;simp only at h p0;rw[show WB xs ({ ({ Z0 with kind:=2 }:Zd) with acct:=a }) t0 0=({ Z0 with kind:=2,acct:=a },t0,0) from by simp [WB]]at h;obtain⟨_,g0,g⟩:=Jh hz p0 h;rcases g with⟨g,_⟩ | ⟨_,c,m1,m2,rfl,m3,m4⟩
 ·simp [YB,wi,Z0]at g
 simp only at g0;obtain⟨e0,a0,b0,c0',d0⟩:=WS hz hs e0' g0;exact⟨e0,m4,VW (by simp only[Z0];omega) (by simp [Yi,Z0]) (by simp only[Z0];omega) (by simp only[Z0];omega) (by simp only[Z0];omega) (by simp only[Z0];omega) (by simp [YB,wi,Z0];omega) (by simp only[Z0];omega) (by simp only[Z0];omega) (by simp [Z0]) (fun h=>by simp at h),⟨fun y hy=>by simp only[Z0,List.mem_cons,List.not_mem_nil,or_false]at hy;omega,⟨by simp only[Z0];omega,by simp only[Z0];omega⟩,Uk⟩,by simp [Z0],Ye a.toNat++(Ye c.toNat),by simp [WN,YB,wi,Z0],by rw[c0',m3];simp⟩
theorem Wao {xs:List Int}(hz:∀z∈xs,0≤z∧z≤255){s:Nat×Int}(hs:s.1≤xs.length){d:Zd}{k:Nat}(h:YY xs ({ Z0 with kind:=3 }) s 0=(d,(k,0),0)):Js xs s 3 d k:=by
 rw[VE (by simp)]at h;have p0:=(Yt xs s 63 hz hs (by decide)).1;obtain⟨a,t0,e0'⟩:∃a t,Z7 xs s 63=(a,t):=⟨_,_,rfl⟩
 rw[e0']at h p0;simp only at h p0;have p1:=(Yt xs t0 127 hz p0 (by decide)).1;obtain⟨v1,t1,e1'⟩:∃a t,Z7 xs t0 127=(a,t):=⟨_,_,rfl⟩
 rw[e1']at p1;simp only at p1;rw[show WB xs ({ ({ Z0 with kind:=3 }:Zd) with acct:=a }) t0 0=({ Z0 with kind:=3,acct:=a,mem:=v1 },t1,0) from by simp [WB,e1']]at h;obtain⟨_,g0,g⟩:=Jh hz p1 h;rcases g with⟨g,_⟩ | ⟨_,c,m1,m2,rfl,m3,m4⟩
 ·simp [YB,wi,Z0]at g
 simp only at g0;obtain⟨z1,a1,b1,c1,d1⟩:=WS hz p0 e1' g0;obtain⟨e0,a0,b0,c0',d0⟩:=WS hz hs e0' z1;exact⟨e0,m4,VW (by simp only[Z0];omega) (by simp [Yi,Z0]) (by simp only[Z0];omega) (by simp only[Z0];omega) (by simp only[Z0];omega) (by simp only[Z0];omega) (by simp [YB,wi,Z0];omega) (by simp only[Z0];omega) (by simp only[Z0];omega) (by simp [Z0]) (fun h=>by simp at h),⟨fun y hy=>by simp only[Z0,List.mem_cons,List.not_mem_nil,or_false]at hy;omega,⟨by simp only[Z0];omega,by simp only[Z0];omega⟩,Uk⟩,by simp [Z0],Ye a.toNat++(Ye v1.toNat++(Ye c.toNat)),by simp [WN,YB,wi,Z0],by rw[c0',c1,m3];simp⟩
theorem Yyi {xs:List Int}(hz:∀z∈xs,0≤z∧z≤255){s:Nat×Int}(hs:s.1≤xs.length){d:Zd}{k:Nat}(h:YY xs ({ Z0 with kind:=4 }) s 0=(d,(k,0),0)):Js xs s 4 d k:=by
 rw[VE (by simp)]at h;have p0:=(Yt xs s 63 hz hs (by decide)).1;obtain⟨a,t0,e0'⟩:∃a t,Z7 xs s 63=(a,t):=⟨_,_,rfl⟩
 rw[e0']at h p0;simp only at h p0;have p1:=(Yt xs t0 127 hz p0 (by decide)).1;obtain⟨v1,t1,e1'⟩:∃a t,Z7 xs t0 127=(a,t):=⟨_,_,rfl⟩
 rw[e1']at p1;simp only at p1;rw[show WB xs ({ ({ Z0 with kind:=4 }:Zd) with acct:=a }) t0 0=({ Z0 with kind:=4,acct:=a,mem:=v1 },t1,0) from by simp [WB,e1']]at h;obtain⟨_,g0,g⟩:=Jh hz p1 h;rcases g with⟨_,rfl,g1⟩ | ⟨g,_⟩
 rotate_left
 ·simp [YB,wi,Z0]at g
 simp only at g0 g1;subst g1;obtain⟨z1,a1,b1,c1,d1⟩:=WS hz p0 e1' g0;obtain⟨e0,a0,b0,c0',d0⟩:=WS hz hs e0' z1;exact⟨e0,d1,VW (by simp only[Z0];omega) (by simp [Yi,Z0]) (by simp only[Z0];omega) (by simp only[Z0];omega) (by simp only[Z0];omega) (by simp only[Z0];omega) (by simp [YB,wi,Z0]) (by simp only[Z0];omega) (by simp only[Z0];omega) (by simp [Z0]) (fun h=>by simp at h),⟨fun y hy=>by simp only[Z0,List.mem_cons,List.not_mem_nil,or_false]at hy;omega,⟨by simp only[Z0];omega,by simp only[Z0];omega⟩,Uk⟩,by simp [Z0],Ye a.toNat++(Ye v1.toNat),by simp [WN,YB,wi,Z0],by rw[c0',c1];simp⟩
theorem Waf {xs:List Int}(hz:∀z∈xs,0≤z∧z≤255){s:Nat×Int}(hs:s.1≤xs.length){d:Zd}{k:Nat}(h:YY xs ({ Z0 with kind:=7 }) s 0=(d,(k,0),0)):Js xs s 7 d k:=by
 rw[VE (by simp)]at h;have p0:=(Yt xs s 63 hz hs (by decide)).1;obtain⟨a,t0,e0'⟩:∃a t,Z7 xs s 63=(a,t):=⟨_,_,rfl⟩
 rw[e0']at h p0;simp only at h p0;have p1:=(Yt xs t0 127 hz p0 (by decide)).1;obtain⟨v1,t1,e1'⟩:∃a t,Z7 xs t0 127=(a,t):=⟨_,_,rfl⟩
 rw[e1']at p1;simp only at p1;have p2:=(Yt xs t1 31 hz p1 (by decide)).1;obtain⟨v2,t2,e2'⟩:∃a t,Z7 xs t1 31=(a,t):=⟨_,_,rfl⟩
 rw[e2']at p2;simp only at p2;have p3:=(Yt xs t2 1 hz p2 (by decide)).1;obtain⟨v3,t3,e3'⟩:∃a t,Z7 xs t2 1=(a,t):=⟨_,_,rfl⟩
 rw[e3']at p3;simp only at p3;rw[show WB xs ({ ({ Z0 with kind:=7 }:Zd) with acct:=a }) t0 0=({ Z0 with kind:=7,acct:=a,mem:=v1,mot:=v2,yes:=decide (v3=1) },t3,0) from by simp [WB,e1',e2',e3']]at h;obtain⟨_,g0,g⟩:=Jh hz p3 h;rcases g with⟨_,rfl,g1⟩ | ⟨g,_⟩
 rotate_left
 ·simp [YB,wi,Z0]at g
 simp only at g0 g1;subst g1;obtain⟨z3,a3,b3,c3,d3⟩:=WS hz p2 e3' g0;obtain⟨z2,a2,b2,c2,d2⟩:=WS hz p1 e2' z3;obtain⟨z1,a1,b1,c1,d1⟩:=WS hz p0 e1' z2;obtain⟨e0,a0,b0,c0',d0⟩:=WS hz hs e0' z1;have hy:((decide (v3=1)).toNat:Nat)=v3.toNat:=by
  rcases(by omega:v3=0∨v3=1) with rfl|rfl<;>rfl
 exact⟨e0,d3,VW (by simp only[Z0];omega) (by simp [Yi,Z0]) (by simp only[Z0];omega) (by simp only[Z0];omega) (by simp only[Z0];omega) (by simp only[Z0];omega) (by simp [YB,wi,Z0]) (by simp only[Z0];omega) (by simp only[Z0];omega) (by simp [Z0]) (fun h=>by simp at h),⟨fun y hy=>by simp only[Z0,List.mem_cons,List.not_mem_nil,or_false]at hy;omega,⟨by simp only[Z0];omega,by simp only[Z0];omega⟩,Uk⟩,by simp [Z0],Ye a.toNat++(Ye v1.toNat++(Ye v2.toNat++(Ye v3.toNat))),by simp [WN,YB,wi,Z0,hy],by rw[c0',c1,c2,c3];simp⟩
theorem Wax {xs:List Int}(hz:∀z∈xs,0≤z∧z≤255){s:Nat×Int}(hs:s.1≤xs.length){d:Zd}{k:Nat}(h:YY xs ({ Z0 with kind:=5 }) s 0=(d,(k,0),0)):Js xs s 5 d k:=by
 have p0:=(Yt xs s 1073741824 hz hs (by decide)).1;obtain⟨a,t0,e0'⟩:∃a t,Z7 xs s 1073741824=(a,t):=⟨_,_,rfl⟩
 obtain⟨bs,t1,e1'⟩:∃a t,Ztl xs t0 32=(a,t):=⟨_,_,rfl⟩
 rw[show YY xs ({ Z0 with kind:=5 }) s 0=({ Z0 with kind:=5,ep:=a,bits:=bs },t1,0) from by simp [YY,e0',e1']]at h;injection h with h1 h2
 injection h2 with h2 _
 subst h1;subst h2;rw[e0']at p0;simp only at p0;obtain⟨z1,a1,c1',d1,_⟩:=Ztk hz p0 e1';obtain⟨e0,a0,b0,c0',d0⟩:=WS hz hs e0' z1;have hbs:∀y∈bs,0≤y∧y≤255:=fun y hy=>hz y (List.mem_of_mem_drop (i:=t0.1) (by rw[c1',Zgm];simp [hy]));exact⟨e0,d1,VW (by simp only[Z0];omega) (by simp [Yi,Z0]) (by simp only[Z0];omega) (by simp only[Z0];omega) (by simp only[Z0];omega) (by simp only[Z0];omega) (by simp [YB,wi,Z0]) (by simp only[Z0];omega) (by simp only[Z0];omega) a1 (fun h=>by simp at h),⟨fun y hy=>by simp only[Z0,List.mem_cons,List.not_mem_nil,or_false]at hy;omega,⟨by simp only[Z0];omega,by simp only[Z0];omega⟩,Uk⟩,hbs,Ye a.toNat++Zgm bs,by simp [WN,YB,wi,Z0],by rw[c0',c1'];simp⟩
theorem Yxz {xs:List Int}(hz:∀z∈xs,0≤z∧z≤255){s:Nat×Int}(hs:s.1≤xs.length){d:Zd}{k:Nat}(h:YY xs ({ Z0 with kind:=6 }) s 0=(d,(k,0),0)):Js xs s 6 d k:=by
 rw[VE (by simp)]at h;have p0:=(Yt xs s 63 hz hs (by decide)).1;obtain⟨a,t0,e0'⟩:∃a t,Z7 xs s 63=(a,t):=⟨_,_,rfl⟩
 rw[e0']at h p0;simp only at h p0;have p1:=(Yt xs t0 255 hz p0 (by decide)).1;obtain⟨w,t1,e1'⟩:∃a t,Z7 xs t0 255=(a,t):=⟨_,_,rfl⟩
 rw[e1']at p1;simp only at p1;rw[show WB xs ({ ({ Z0 with kind:=6 }:Zd) with acct:=a }) t0 0=JQ xs ({ ({ Z0 with kind:=6 }:Zd) with acct:=a }) t0 0 from by simp [WB]]at h;simp only[JQ,e1']at h;by_cases cc:Gj (wi w 1 4) 80 0 t1.2=0∧t1.2=0
 rotate_left
 ·rw[if_neg cc]at h;obtain⟨g1,g0,_⟩:=Jh hz p1 h;exact absurd ⟨g1,g0⟩ cc
 rw[if_pos cc,cc.1]at h;have hw:=wi_iff.1 (Zqu (by decide) cc.2 rfl cc.1);obtain⟨z1,a1,b1,c1',d1⟩:=WS hz p0 e1' cc.2;obtain⟨e0,a0,b0,c0',d0⟩:=WS hz hs e0' z1;by_cases w1:w=1
 ·subst w1;rw[if_pos rfl]at h;have pp:=Znt (s:=t1) hz p1;obtain⟨g1,g0,g⟩:=Jh hz pp.2 h;simp only at g1 g0;have hpr:=of_decide_eq_true (Zqu (by decide) g0 rfl g1);rcases g with⟨_,rfl,g2⟩ | ⟨g,_⟩
  rotate_left
  ·simp [YB,wi,Z0]at g
  simp only at g2;obtain⟨z2,c2',d2⟩:=Zur hz p1 g2;have hpd:(Zed xs t1).1=(Zdt xs t1).1∧Ym (Zdt xs t1).1=true:=by
   unfold Zed at hpr ⊢;rw[if_neg (by rw[g0];simp)]at hpr ⊢;by_cases hr:Ym (Zdt xs t1).1=true
   ·rw[if_pos hr];exact⟨rfl,hr⟩
   ·rw[if_neg hr]at hpr;simp at hpr
  rw[hpd.1];exact⟨e0,d2,VW (by simp only[Z0];omega) (by simp [Yi,Z0]) (by simp only[Z0];omega) (by simp only[Z0];omega) (by simp only[Z0];omega) (by simp only[Z0];omega) (by simp [YB,wi,Z0]) (by simp only[Z0];omega) (by simp only[Z0];omega) (by simp [Z0]) (fun _=>⟨by simp,fun _=>hpd.2⟩),⟨fun y hy=>by simp only[Z0,List.mem_cons,List.not_mem_nil,or_false]at hy;omega,⟨by simp only[Z0];omega,by simp only[Z0];omega⟩,pp.1⟩,by simp [Z0],Ye a.toNat++(Ye 1++Zkl (Zdt xs t1).1),by simp [WN,YB,wi,Z0],by rw[c0',c1',c2'];simp⟩
 rw[if_neg w1]at h;by_cases w2:w=2
 ·subst w2;rw[if_pos rfl]at h;have p2:=(Yt xs t1 63 hz p1 (by decide)).1;obtain⟨v,t2,e2'⟩:∃a t,Z7 xs t1 63=(a,t):=⟨_,_,rfl⟩
  rw[e2']at h p2;simp only at h p2;obtain⟨_,g0,g⟩:=Jh hz p2 h;rcases g with⟨g,_⟩ | ⟨_,c,m1,m2,rfl,m3,m4⟩
  ·simp [YB,wi,Z0]at g
  simp only at g0 m3;obtain⟨z2,a2,b2,c2',d2⟩:=WS hz p1 e2' g0;exact⟨e0,m4,VW (by simp only[Z0];omega) (by simp [Yi,Z0]) (by simp only[Z0];omega) (by simp only[Z0];omega) (by simp only[Z0];omega) (by simp only[Z0];omega) (by simp [YB,wi,Z0];omega) (by simp only[Z0];omega) (by simp only[Z0];omega) (by simp [Z0]) (fun _=>⟨by simp,fun h=>by simp at h⟩),⟨fun y hy=>by simp only[Z0,List.mem_cons,List.not_mem_nil,or_false]at hy;omega,⟨by simp only[Z0];omega,by simp only[Z0];omega⟩,Uk⟩,by simp [Z0],Ye a.toNat++(Ye 2++(Ye v.toNat++Ye c.toNat)),by simp [WN,YB,wi,Z0],by rw[c0',c1',c2',m3];simp⟩
 rw[if_neg w2]at h;obtain⟨_,g0,g⟩:=Jh hz p1 h;rcases g with⟨_,rfl,g1⟩ | ⟨g,_⟩
 rotate_left
 ·simp [YB,wi,Z0,w2]at g
 simp only at g1;subst g1;exact⟨e0,d1,VW (by simp only[Z0];omega) (by simp [Yi,Z0,w1,w2]) (by simp only[Z0];omega) (by simp only[Z0];omega) (by simp only[Z0];omega) (by simp only[Z0];omega) (by simp [YB,wi,Z0,w2]) (by simp only[Z0];omega) (by simp only[Z0];omega) (by simp [Z0]) (fun _=>⟨hw,fun h=>absurd h w1⟩),⟨fun y hy=>by simp only[Z0,List.mem_cons,List.not_mem_nil,or_false]at hy;omega,⟨by simp only[Z0];omega,by simp only[Z0];omega⟩,Uk⟩,by simp [Z0],Ye a.toNat++Ye w.toNat,by simp [WN,YB,wi,Z0,w1,w2],by rw[c0',c1'];simp⟩
theorem Zpv {xs:List Int}(hz:∀z∈xs,0≤z∧z≤255){s t:Nat×Int}(hs:s.1≤xs.length){d:Zd}(h:Wh xs s=(d,0,t)) :
  s.2=0∧t.2=0∧t.1≤xs.length∧ZW d=true∧ZG d∧(∀y∈d.bits,0≤y∧y≤255)∧xs.drop s.1=WN d++xs.drop t.1:=by
 simp only[Wh]at h;split at h
 ·rename_i c;injection h with _ h2
  injection h2 with h2 _
  exact absurd h2 c
 rename_i c1;split at h
 ·rename_i c;injection h with _ h2
  injection h2 with h2 _
  exact absurd h2 c
 rename_i c2;injection h with h1 h2
 injection h2 with _ h2
 have t2:t.2=0:=by rw[← h2];omega
 have hall:Zbt xs s=(d,(t.1,0),0):=Prod.ext h1 (Prod.ext (by rw[h2,← t2]) (by simp only;omega));have p0:=(Yt xs s 255 hz hs (by decide)).1;obtain⟨z,t0,e0'⟩:∃a t,Z7 xs s 255=(a,t):=⟨_,_,rfl⟩
 rw[e0']at p0;simp only at p0;simp only[Zbt,e0']at hall;by_cases cc:Gj (wi z 1 7) 80 0 t0.2=0∧t0.2=0
 rotate_left
 ·rw[if_neg cc]at hall;injection hall with _ hq
  injection hq with hq1 hq2
  exact absurd ⟨hq2,by rw[hq1]⟩ cc
 rw[if_pos cc,cc.1]at hall;have hw:=wi_iff.1 (Zqu (by decide) cc.2 rfl cc.1);obtain⟨e0,a0,b0,c0',d0⟩:=WS hz hs e0' cc.2;have key:Js xs t0 z d t.1:=by
  rcases(by omega:z=1∨z=2∨z=3∨z=4∨z=5∨z=6∨z=7) with rfl|rfl|rfl|rfl|rfl|rfl|rfl
  ·exact Wci hz p0 hall
  ·exact Wdm hz p0 hall
  ·exact Wao hz p0 hall
  ·exact Yyi hz p0 hall
  ·exact Wax hz p0 hall
  ·exact Yxz hz p0 hall
  ·exact Waf hz p0 hall
 obtain⟨_,k1,k2,k3,k4,b,k5,k6⟩:=key;refine⟨e0,t2,k1,k2,k3,k4,?_⟩;rw[c0',k6,k5,List.append_assoc]
def Zqc (l:List Zd):List Int:=l.flatMap WN
def Yht (l:List Zd):List Int:=Ye l.length++Zqc l
theorem Zki (d:Zd)(l:List Zd):Zqc (d::l)=WN d++Zqc l:=rfl
theorem Ygc (a b:List Zd):Zqc (a++b)=Zqc a++Zqc b:=by simp [Zqc]
def Wey (l:List Zd):Prop:=∀d∈l,ZG d∧ZW d=true
theorem Zqh:∀ {l:List Zd},Wey l→(Zqc l).length≤400*l.length
 | [],_=>by simp [Zqc]
 | d::l,h=>by
  have h1:=Zpz (h d (by simp)).1 (h d (by simp)).2;have h2:=Zqh (l:=l) fun x hx=>h x (by simp [hx]);rw[Zki,List.length_append,List.length_cons];omega
def rdL (xs:List Int):Nat→Nat×Int→List Zd×Int×(Nat×Int)
 | 0,s=>([],0,s)
 | k+1,s=>if (Wh xs s).2.1≠0 then ([],(Wh xs s).2.1,(Wh xs s).2.2) else ((Wh xs s).1::(rdL xs k (Wh xs s).2.2).1,(rdL xs k (Wh xs s).2.2).2)
def Zlw (xs:List Int):List Zd×Int×Int :=
 if 131072<xs.length then ([],0,3)
 else if (Z7 xs (0,0) 64).2.2≠0 then ([],0,(Z7 xs (0,0) 64).2.2)
 else if (rdL xs (Z7 xs (0,0) 64).1.toNat (Z7 xs (0,0) 64).2).2.1≠0 then ([],(rdL xs (Z7 xs (0,0) 64).1.toNat (Z7 xs (0,0) 64).2).1.length,(rdL xs (Z7 xs (0,0) 64).1.toNat (Z7 xs (0,0) 64).2).2.1)
 else if Zmn xs (rdL xs (Z7 xs (0,0) 64).1.toNat (Z7 xs (0,0) 64).2).2.2≠0 then ([],(Z7 xs (0,0) 64).1,Zmn xs (rdL xs (Z7 xs (0,0) 64).1.toNat (Z7 xs (0,0) 64).2).2.2)
 else ((rdL xs (Z7 xs (0,0) 64).1.toNat (Z7 xs (0,0) 64).2).1,0,0)
theorem Yds {xs:List Int}{k:Nat}{s:Nat×Int}(h:(Wh xs s).2.1≠0):rdL xs (k+1) s=([],(Wh xs s).2.1,(Wh xs s).2.2):=by rw[rdL,if_pos h]
theorem Ykd {xs:List Int}{k:Nat}{s:Nat×Int}(h:(Wh xs s).2.1=0):rdL xs (k+1) s=((Wh xs s).1::(rdL xs k (Wh xs s).2.2).1,(rdL xs k (Wh xs s).2.2).2):=by rw[rdL,if_neg (by simpa using h)]
theorem Zlx {xs:List Int}(hz:∀z∈xs,0≤z∧z≤255):∀(k:Nat) (s:Nat×Int),s.1≤xs.length→s.2=0→(rdL xs k s).2.1=0 →
  (rdL xs k s).2.2.2=0∧(rdL xs k s).2.2.1≤xs.length∧(rdL xs k s).1.length=k∧Wey (rdL xs k s).1∧xs.drop s.1=Zqc (rdL xs k s).1++xs.drop (rdL xs k s).2.2.1
 | 0,s,h1,h2,_=>⟨h2,h1,rfl,(fun d hd=>by cases hd),rfl⟩
 | k+1,s,h1,h2,h=>by
  by_cases c:(Wh xs s).2.1=0
  ·rw[Ykd c]at h ⊢;have hd:Wh xs s=((Wh xs s).1,0,(Wh xs s).2.2):=Prod.ext rfl (Prod.ext c rfl);obtain⟨_,t2,t1,r1,r2,_,r3⟩:=Zpv hz h1 hd;obtain⟨q1,q2,q3,q4,q5⟩:=Zlx hz k _ t1 t2 h;refine⟨q1,q2,by simp only[List.length_cons,q3],fun d hd=>?_,?_⟩
   ·rcases List.mem_cons.1 hd with rfl|hd
    ·exact⟨r2,r1⟩
    ·exact q4 d hd
   ·rw[r3,q5,Zki,List.append_assoc]
  ·rw[Yds c]at h;exact absurd h c
theorem Ypi {xs:List Int}(hz:∀z∈xs,0≤z∧z≤255){s:Nat×Int}(h1:s.1≤xs.length)(h:(Wh xs s).2.1=0):(Wh xs s).2.2.1≤xs.length∧(Wh xs s).2.2.2=0∧ZG (Wh xs s).1:=by
 have hd:Wh xs s=((Wh xs s).1,0,(Wh xs s).2.2):=Prod.ext rfl (Prod.ext h rfl);obtain⟨_,t2,t1,_,r2,_⟩:=Zpv hz h1 hd;exact⟨t1,t2,r2⟩
theorem Ztf {xs:List Int}(hz:∀z∈xs,0≤z∧z≤255)(h:(Zlw xs).2.2=0):Wey (Zlw xs).1∧(Zlw xs).1.length≤64∧Yht (Zlw xs).1=xs:=by
 have hp:=Yt xs (0,0) 64 hz (Nat.zero_le _) (by decide);simp only[Zlw]at h ⊢;split at h
 ·simp at h
 rename_i c0;split at h
 ·rename_i c1;exact absurd h c1
 rename_i c1;split at h
 ·rename_i c2;exact absurd h c2
 rename_i c2;split at h
 ·rename_i c3;exact absurd h c3
 rename_i c3;rw[if_neg c0,if_neg c1,if_neg c2,if_neg c3];have c1:(Z7 xs (0,0) 64).2.2=0:=by simpa using c1
 have c2:=Decidable.of_not_not c2;have c3:=Decidable.of_not_not c3;obtain⟨_,n,m1,m2,m3,m4,m5,m6⟩:=UU (xs:=xs) (s:=(0,0)) (most:=64) (v:=(Z7 xs (0,0) 64).1) (k:=(Z7 xs (0,0) 64).2.1) hz (Prod.ext rfl (Prod.ext rfl c1));obtain⟨q1,q2,q3,q4,q5⟩:=Zlx hz _ _ hp.1 c1 c2;refine⟨q4,by rw[q3];omega,?_⟩;simp only[Zmn]at c3;rw[Yht,q3];have hn:(Z7 xs (0,0) 64).1.toNat=n:=by omega
 by_cases hl:(rdL xs (Z7 xs (0,0) 64).1.toNat (Z7 xs (0,0) 64).2).2.2.1<xs.length
 ·rw[if_pos ⟨q1,hl⟩]at c3;simp at c3
 ·have hnil:xs.drop (rdL xs (Z7 xs (0,0) 64).1.toNat (Z7 xs (0,0) 64).2).2.2.1=[]:=List.drop_eq_nil_of_le (by omega);rw[hnil,List.append_nil]at q5;rw[List.drop_zero]at m4;rw[← q5,hn];exact m4.symm
theorem Ybr {l:List Zd}(hb:∀d∈l,∀z∈d.bits,0≤z∧z≤255):∀z∈Zqc l,0≤z∧z≤255:=by
 intro z hz;obtain⟨d,hd,hz⟩:=List.mem_flatMap.1 hz;exact Yem (hb d hd) z hz
theorem Yel {l:List Zd}(hb:∀d∈l,∀z∈d.bits,0≤z∧z≤255):∀z∈Yht l,0≤z∧z≤255:=by
 intro z hz;rcases List.mem_append.1 hz with hz|hz
 ·exact Zaz _ z hz
 ·exact Ybr hb z hz
open Go.RowKit Go.Proofs Go.Bl
variable {L:Own} {h:PH} {K:PK}
theorem Zyr {l:List QD}(v:Value)(hd0:Zr h v l)(hn:l.length≤64)(hr:∀d∈dl l,ZW d=true)(hk:∀h' r,PH.le h h'→Ints h' .u8 r (Yht (dl l))→K r L h'):Zb Tryz.prog 107 [v] L h K:=by
 obtain⟨a,c,rfl,hc,hl,_,hd⟩:=hd0.open;have hAllR:Wey (dl l):=fun d hdm=>by
  refine⟨?_,hr d hdm⟩;obtain⟨q,hq,rfl⟩:=List.mem_map.1 hdm;exact(hd.d q hq).ok
 obtain⟨B,hB⟩:∃B:Nat→List Int,∀i,B i=Ye l.length++Zqc ((dl l).take i):=⟨_,fun _=>rfl⟩
 have hBl:∀k,(B k).length≤26000:=fun k=>by
  have h1:=Zqh (l:=(dl l).take k) fun d hd=>hAllR d (List.mem_of_mem_take hd);rw[hB,List.length_append,Ul (by omega)];simp only[List.length_singleton];simp only[List.length_take,Zfy]at h1;omega
 refine ZR Tryz.func107 rfl (rs:=[_]) rfl rfl ZY (by kernel_rfl) rfl rfl ?_;refine xx ?_;refine UF (l.length:Int) (by omega) (by omega) fun o2 k2 m2=>?_;simp only[Int.toNat_natCast]at k2 m2 ⊢;have e0:Ye l.length=B 0:=by rw[hB];simp [Zqc]
 rw[e0]at k2 ⊢;refine xx ?_;refine YZ (γ:=Nat×Option (Nat×Nat)) (0,o2) (fun s=>s.1≤l.length∧okO s.2 (B s.1).length∧apO s.2 L h) (fun s=>[(4,.int .i64 s.1),(3,ovs s.2 (B s.1).length),(0,.slice a l.length c)])
  (fun s=>oent 5 1 s.2 ((B s.1).map (.int .u8)) L) (fun _=>h) (fun s=>l.length-s.1) ?_ ?_ ?_ ?_
 ·exact⟨Nat.zero_le _,k2,m2⟩
 ·simp [Ent,List.lookup,WM]
 ·exact Za.refl _ _
 rintro⟨k,o⟩ ⟨k1,k2,k3⟩;simp only at k1 k2 k3 ⊢;have hb1:=hBl k;have hb2:=hBl (k+1);by_cases c1:k<l.length
 ·have hi:=hd.at c1;obtain⟨x1,y1,hv,_⟩:=hi.i.open;have et:B (k+1)=B k++WN (gq l k).2:=by
   have h1:=dl_gq c1;obtain⟨h2,h3⟩:=List.getElem?_eq_some_iff.1 h1;rw[hB,hB,List.take_succ_eq_append_getElem h2,h3,Ygc,List.append_assoc];simp [Zqc]
  have hrk:=hr _ (Ybp c1);have hel:=Zpz hi.ok hrk;simp -dsimp -implicitDefEqProofs (disch:=first|with_reducible assumption|omega) [go_sem,↓Yvn hd];rw[hv]at hi ⊢;refine Zxb _ hi hrk fun o5 k5=>?_;refine xx ?_
  cases o5 with
  | none =>
   have:(WN (gq l k).2).length=0:=k5;omega
  | some p5 =>
   obtain⟨b5,cap5⟩:=p5;refine Z8 (t:=36) (e:=5) (sz:=1) (bytes:=1) (z:=[.int .u8 0]) (by kernel_rfl) Zmw rfl rfl rfl rfl (by decide) [⟨b5,5,(WN (gq l k).2).map (.int .u8),cap5*1⟩] L o (B k).length ((B k).map (.int .u8)) k2 (by simp) (m:=(WN (gq l k).2).length) (news:=(WN (gq l k).2).map (.int .u8)) (Src.own (b:=b5) (t:=5) (cap:=cap5*1) (by simp)) (by simp) (WC _ _) (by simp only[maxLen];omega) (by omega) ?_;intro o3 i1 i2 i3;rw[← List.map_append,← List.length_append,← et]at *;refine xx ?_;exact⟨k+1,o3,⟨by omega,i1,Z2 i2⟩,by omega,by simp [Ent,List.lookup],Za.tail _ _ _⟩
 ·have hkl:k=l.length:=by omega
  subst hkl;have htk:(dl l).take l.length=dl l:=by rw[← Zfy l,List.take_length]
  have eB:B l.length=Yht (dl l):=by rw[hB,htk,Yht,Zfy]
  have hbb:∀d∈dl l,∀z∈d.bits,0≤z∧z≤255:=fun d hdm=>by
   obtain⟨q,hq,rfl⟩:=List.mem_map.1 hdm;exact Jd (hd.d q hq).i
  rw[eB]at k2 hb1 ⊢;refine xx ?_;exact YE (n:=(Yht (dl l)).length) k2 (by simp) (by omega) k3 fun h' le sl=>ZO (hk h' _ le (Ybh (Yel hbb) sl))
end Go.X
