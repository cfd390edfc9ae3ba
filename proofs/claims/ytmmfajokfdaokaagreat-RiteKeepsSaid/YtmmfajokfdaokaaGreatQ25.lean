/- Lemmas and contracts. Conditions: as each says. -/
import Derived.Test.YtmmfajokfdaokaaGreatQ18
set_option linter.unusedVariables false
set_option linter.unusedSimpArgs false
set_option maxHeartbeats 12800000
set_option maxRecDepth 20000
namespace Go.X
open Go.RowKit Go.Proofs Go.Bl Go.Proofs.Tryz
variable {L:Own} {h:PH} {K:PK}
theorem Ybq (q y1 y0:Int):q*(y1*4294967296+y0)=q*y1*4294967296+q*y0:=by
 rw[Int.mul_add,← Int.mul_assoc]
structure Kn (v u y1 y0 q r:Int):Prop where
 sum:q*y1+r=v
 q0:0≤q
 q1:q≤4294967297
 r0:0≤r
 up:(v*4294967296+u)/(y1*4294967296+y0)≤q
structure KnH (v u y1 y0:Int):Prop where
 hv:0≤v
 hu:0≤u∧u<4294967296
 h1:2147483648≤y1∧y1<4294967296
 h0:0≤y0∧y0<4294967296
 lt:v<y1*4294967296+y0
theorem Ycx {v u y1 y0:Int}(H:KnH v u y1 y0):Kn v u y1 y0 (v/y1) (v-v/y1*y1):=by
 obtain⟨v0,u0,h1,h0,lt⟩:=H;have e:=Int.ediv_mul_add_emod v y1;have m0:=Int.emod_nonneg v (show y1≠0 by omega);have m1:=Int.emod_lt_of_pos v (show 0<y1 by omega);have q0:0≤v/y1:=Int.ediv_nonneg v0 (by omega);refine⟨by omega,q0,?_,by omega,?_⟩
 ·have:v/y1<4294967298:=Int.ediv_lt_of_lt_mul (by omega) (by omega);omega
 ·refine Int.le_ediv_of_mul_le (by omega) ?_
  generalize hq:(v*4294967296+u)/(y1*4294967296+y0)=q
  have qn:0≤q:=by rw[← hq];exact Int.ediv_nonneg (by omega) (by omega)
  have a:=Int.ediv_mul_le (v*4294967296+u) (show y1*4294967296+y0≠0 by omega);rw[hq,Ybq]at a;have b:=Int.mul_nonneg qn h0.1;omega
theorem Zeg {v u y1 y0 q r:Int}(H:KnH v u y1 y0)(k:Kn v u y1 y0 q r)(c:q*y0≤4294967296*r+u):q=(v*4294967296+u)/(y1*4294967296+y0):=by
 obtain⟨v0,u0,h1,h0,lt⟩:=H;refine Int.le_antisymm (Int.le_ediv_of_mul_le (by omega) ?_) k.up;rw[Ybq];have:=k.sum;omega
theorem Zbl {v u y1 y0 q r:Int}(H:KnH v u y1 y0)(k:Kn v u y1 y0 q r)(hq:q≤4294967296)(hr:4294967296≤r):q=(v*4294967296+u)/(y1*4294967296+y0):=by
 refine Zeg H k ?_;have:=Int.mul_le_mul_of_nonneg_right hq H.h0.1;have:=H.h0;have:=H.hu;omega
theorem Zjz {v u y1 y0 q r:Int}(H:KnH v u y1 y0)(k:Kn v u y1 y0 q r)(c:4294967296≤q∨4294967296*r+u<q*y0):Kn v u y1 y0 (q-1) (r+y1)∧1≤q:=by
 obtain⟨v0,u0,h1,h0,lt⟩:=H;obtain⟨s,q0,q1,r0,up⟩:=k;have hq0:0≤(v*4294967296+u)/(y1*4294967296+y0):=Int.ediv_nonneg (by omega) (by omega);have hlt:(v*4294967296+u)/(y1*4294967296+y0)<q:=by
  rcases c with c|c
  ·refine Int.lt_of_lt_of_le (Int.ediv_lt_of_lt_mul (b:=4294967296) (by omega) (by omega)) c
  ·refine Int.ediv_lt_of_lt_mul (by omega) ?_;rw[Ybq];omega
 refine⟨⟨?_,by omega,by omega,by omega,by omega⟩,by omega⟩;rw[Int.sub_mul,Int.one_mul];omega
theorem Wal (v u1 u0 y:Int)(hy:0<y)(h0:0≤u0)(h0':u0<4294967296):((v*4294967296+u1)*4294967296+u0)/y=(v*4294967296+u1)/y*4294967296+((v*4294967296+u1)%y*4294967296+u0)/y ∧
  ((v*4294967296+u1)*4294967296+u0)%y=((v*4294967296+u1)%y*4294967296+u0)%y:=by
 have e:=Int.ediv_mul_add_emod (v*4294967296+u1) y
 generalize (v*4294967296+u1)/y=q1 at *
 generalize (v*4294967296+u1)%y=r1 at *
 rw[← e];have e2:(q1*y+r1)*4294967296+u0=(r1*4294967296+u0)+(q1*4294967296)*y:=by
  rw[Int.add_mul,Int.mul_assoc,Int.mul_comm y,← Int.mul_assoc];omega
 rw[e2,Int.add_mul_ediv_right _ _ (by omega),Int.add_mul_emod_self_right];exact⟨Int.add_comm _ _,rfl⟩
theorem Yrh (n y s:Int)(hs:0<s):n*s/(y*s)=n/y∧n*s%(y*s)/s=n%y:=by
 refine⟨by rw[Int.mul_ediv_mul_of_pos_left _ _ hs],?_⟩;rw[Int.mul_comm n,Int.mul_comm y,Int.mul_emod_mul_of_pos _ _ hs,Int.mul_ediv_cancel_left _ (by omega)]
theorem kn_or (a b s:Nat)(hs:s≤64)(hb:b<2 ^ s):(a*2 ^ s) ||| b=a*2 ^ s+b:=by
 rw[Nat.mul_comm];exact(Nat.two_pow_add_eq_or_of_lt hb a).symm
theorem Ynn (y:Int)(n:Nat)(hn:1≤n∧n≤64)(h1:2 ^ (n-1)≤y)(h2:y<2 ^ n):9223372036854775808≤y*2 ^ (64-n)∧y*2 ^ (64-n)<18446744073709551616:=by
 have p:(0:Int)<2 ^ (64-n):=Int.pow_pos (by decide);have e1:(2:Int) ^ (n-1)*2 ^ (64-n)=9223372036854775808:=by
  rw[← Int.pow_add,show n-1+(64-n)=63 by omega];decide
 have e2:(2:Int) ^ n*2 ^ (64-n)=18446744073709551616:=by
  rw[← Int.pow_add,show n+(64-n)=64 by omega];decide
 have h3:=Int.mul_le_mul_of_nonneg_right h1 (Int.le_of_lt p);have h4:=Int.mul_lt_mul_of_pos_right h2 p;omega
def bl (j:Nat):Nat:=if j=0 then 0 else Nat.log2 j+1
theorem Zfi:∀ j,j<256→1≤j→1≤bl j∧bl j≤8∧(2:Int) ^ (bl j-1)≤(j:Int)∧(j:Int)<2 ^ bl j:=by decide +kernel
theorem Yqt {x t:Int}(c:Nat)(hc:c≤56)(ht:t=x/2 ^ c)(h:1≤t∧t≤255):(1≤c+bl t.toNat∧c+bl t.toNat≤64)∧2 ^ (c+bl t.toNat-1)≤x∧x<2 ^ (c+bl t.toNat):=by
 obtain⟨b1,b2,b3,b4⟩:=Zfi t.toNat (by omega) (by omega);rw[Int.toNat_of_nonneg (by omega)]at b3 b4
 generalize bl t.toNat=n at *
 have p:(0:Int)<2 ^ c:=Int.pow_pos (by decide);have d:=Int.ediv_mul_add_emod x (2 ^ c);have m0:=Int.emod_nonneg x (show (2:Int) ^ c≠0 by omega);have m1:=Int.emod_lt_of_pos x p;rw[← ht]at d;refine⟨by omega,?_,?_⟩
 ·rw[show c+n-1=(n-1)+c by omega,Int.pow_add];have:=Int.mul_le_mul_of_nonneg_right b3 (Int.le_of_lt p);omega
 ·rw[show c+n=n+c by omega,Int.pow_add];have h1:t+1≤2 ^ n:=b4;have:=Int.mul_le_mul_of_nonneg_right h1 (Int.le_of_lt p);rw[Int.add_mul,Int.one_mul]at this;omega
theorem Jw {P:Program}{t:Nat}(ht:P.underlying t=some .string)(S:ByteArray)(k:IntKind)(i:Int)(hi:0≤i∧i≤255)(hS:((List.range 256).all fun j=>S[j]? == some (UInt8.ofNat (bl j)))=true)(K:Value→Prop)(tk:Zq K) :
  xIx P t (.string S) (.int k i) K tk=K (.int .u8 (bl i.toNat:Nat)):=by
 have h1:=List.all_eq_true.1 hS i.toNat (List.mem_range.2 (by omega));have h2:S[i.toNat]?=some (UInt8.ofNat (bl i.toNat)):=by simpa using h1
 have h3:(UInt8.ofNat (bl i.toNat)).toNat=bl i.toNat:=by
  by_cases c:i.toNat=0
  ·rw[c];rfl
  ·have:=(Zfi i.toNat (by omega) (by omega)).2.1;rw[UInt8.toNat_ofNat'];omega
 refine YI (fun W=>?_) K;simp [Instr.index,asIntOf,underlying,ht,hi.1,h2,h3,go_sem]
theorem Zxn (x:Int)(hx:1≤x∧x≤18446744073709551615)(hk:∀n:Nat,1≤n∧n≤64→2 ^ (n-1)≤x→x<2 ^ n→K (.int .i64 n) L h):Zb prog 381 [.int .u64 x] L h K:=by
 have e:∀(c:Nat) (t:Int),c≤56→t=x/2 ^ c→1≤t∧t≤255→K (.int .i64 ((c:Int)+(bl t.toNat:Nat))) L h:=fun c t hc ht h1=>by
  obtain⟨a,b,d⟩:=Yqt c hc ht h1;have:=hk _ a b d
  rwa [Int.natCast_add]at this
 refine ZR func381 rfl (rs:=[_]) rfl rfl ZY (by kernel_rfl) rfl rfl ?_;by_cases c1:4294967296≤x
 ·by_cases c2:65536≤x/4294967296
  ·by_cases c3:256≤x/4294967296/65536
   ·have b8:=(Zfi (x/4294967296/65536/256).toNat (by omega) (by omega)).2.1;have:=e 56 (x/4294967296/65536/256) (by decide) (by omega) (by omega);simp -dsimp -implicitDefEqProofs (disch:=first|with_reducible assumption|omega) [go_sem,IntKind.bits];rw[Jw (by kernel_rfl) _ _ _ (by omega) (by decide +kernel)];refine xx ?_;exact ZO this
   ·have b8:=(Zfi (x/4294967296/65536).toNat (by omega) (by omega)).2.1;have:=e 48 (x/4294967296/65536) (by decide) (by omega) (by omega);simp -dsimp -implicitDefEqProofs (disch:=first|with_reducible assumption|omega) [go_sem,IntKind.bits];rw[Jw (by kernel_rfl) _ _ _ (by omega) (by decide +kernel)];refine xx ?_;exact ZO this
  ·by_cases c3:256≤x/4294967296
   ·have b8:=(Zfi (x/4294967296/256).toNat (by omega) (by omega)).2.1;have:=e 40 (x/4294967296/256) (by decide) (by omega) (by omega);simp -dsimp -implicitDefEqProofs (disch:=first|with_reducible assumption|omega) [go_sem,IntKind.bits];rw[Jw (by kernel_rfl) _ _ _ (by omega) (by decide +kernel)];refine xx ?_;exact ZO this
   ·have b8:=(Zfi (x/4294967296).toNat (by omega) (by omega)).2.1;have:=e 32 (x/4294967296) (by decide) (by omega) (by omega);simp -dsimp -implicitDefEqProofs (disch:=first|with_reducible assumption|omega) [go_sem,IntKind.bits];rw[Jw (by kernel_rfl) _ _ _ (by omega) (by decide +kernel)];refine xx ?_;exact ZO this
 ·by_cases c2:65536≤x
  ·by_cases c3:256≤x/65536
   ·have b8:=(Zfi (x/65536/256).toNat (by omega) (by omega)).2.1;have:=e 24 (x/65536/256) (by decide) (by omega) (by omega);simp -dsimp -implicitDefEqProofs (disch:=first|with_reducible assumption|omega) [go_sem,IntKind.bits];rw[Jw (by kernel_rfl) _ _ _ (by omega) (by decide +kernel)];refine xx ?_;exact ZO this
   ·have b8:=(Zfi (x/65536).toNat (by omega) (by omega)).2.1;have:=e 16 (x/65536) (by decide) (by omega) (by omega);simp -dsimp -implicitDefEqProofs (disch:=first|with_reducible assumption|omega) [go_sem,IntKind.bits];rw[Jw (by kernel_rfl) _ _ _ (by omega) (by decide +kernel)];refine xx ?_;exact ZO this
  ·by_cases c3:256≤x
   ·have b8:=(Zfi (x/256).toNat (by omega) (by omega)).2.1;have:=e 8 (x/256) (by decide) (by omega) (by omega);simp -dsimp -implicitDefEqProofs (disch:=first|with_reducible assumption|omega) [go_sem,IntKind.bits];rw[Jw (by kernel_rfl) _ _ _ (by omega) (by decide +kernel)];refine xx ?_;exact ZO this
   ·have b8:=(Zfi x.toNat (by omega) (by omega)).2.1;have:=e 0 x (by decide) (by simp) (by omega);simp only[Int.natCast_zero,Int.cast_ofNat_Int,Int.zero_add]at this;simp -dsimp -implicitDefEqProofs (disch:=first|with_reducible assumption|omega) [go_sem,IntKind.bits];rw[Jw (by kernel_rfl) _ _ _ (by omega) (by decide +kernel)];refine xx ?_;exact ZO this
theorem Wdr (a b:Int)(s:Nat)(hs:s≤63)(ha:0≤a)(hb:0≤b∧b<2 ^ s)(hab:a*2 ^ s+b≤18446744073709551615):bits .or .u64 (a*2 ^ s) b=a*2 ^ s+b:=by
 obtain⟨x,rfl⟩:=Int.eq_ofNat_of_zero_le ha;obtain⟨y,rfl⟩:=Int.eq_ofNat_of_zero_le hb.1;have hy:y<2 ^ s:=by exact_mod_cast hb.2
 have e:(x:Int)*2 ^ s=((x*2 ^ s:Nat):Int):=by push_cast;rfl
 have k:=kn_or x y s (by omega) hy;rw[e]at hab ⊢
 generalize x*2 ^ s=z at *
 rw[u64_or_nat z y (by omega) (by omega),k,Int.natCast_add]
theorem Waa (x:Int)(hx:1≤x∧x≤18446744073709551615)(hk:∀n:Nat,1≤n∧n≤64→2 ^ (n-1)≤x→x<2 ^ n→K (.int .i64 (64-n)) L h):Zb prog 380 [.int .u64 x] L h K:=by
 refine ZR func380 rfl (rs:=[_]) rfl rfl ZY (by kernel_rfl) rfl rfl ?_;refine xx ?_;refine Zxn x hx fun n hn h1 h2=>?_;have:=hk n hn h1 h2;refine xx ?_;exact ZO this
theorem Yee (x u q y r:Int)(e:q*y+r=x*4294967296+u)(hr:0≤r∧r≤18446744073709551615):IntKind.u64.wrap (IntKind.u64.wrap (IntKind.u64.wrap (x*4294967296)+u)-IntKind.u64.wrap (q*y))=r:=by
 simp only[JA]
 generalize q*y=z at *
 omega
theorem Ydx (a b S T:Int)(hS:1≤S)(hT:1≤T)(hST:S*T=18446744073709551616)(hb:0≤b∧b≤18446744073709551615):0≤b/T∧b/T<S∧(a*18446744073709551616+b)*S=(a*S+b/T)*18446744073709551616+b*S%18446744073709551616:=by
 have h0:=Int.ediv_nonneg hb.1 (show 0≤T by omega);have h1:b/T<S:=Int.ediv_lt_of_lt_mul (by omega) (by omega);have d:=Int.ediv_mul_add_emod b T;have m0:=Int.emod_nonneg b (show T≠0 by omega);have m1:=Int.emod_lt_of_pos b (show 0<T by omega);have e:b*S=b/T*18446744073709551616+b%T*S:=by
  rw[← hST,← Int.mul_assoc,Int.mul_right_comm,← Int.add_mul,d]
 have l0:=Int.mul_nonneg m0 (show 0≤S by omega);have l1:b%T*S<18446744073709551616:=by
  rw[← hST,Int.mul_comm S T];exact Int.mul_lt_mul_of_pos_right m1 (by omega)
 refine⟨h0,h1,?_⟩;rw[Int.add_mul,Int.add_mul,e,Int.mul_right_comm]
 generalize b%T*S=z at *
 generalize b/T=w at *
 generalize a*S=x at *
 omega
theorem Ycv (a b c:Int)(ha:1≤a∧a<c)(hb:0≤b∧b≤18446744073709551615)(hc:c≤18446744073709551615)(hk:K (.tuple #[.int .u64 ((a*18446744073709551616+b)/c),.int .u64 ((a*18446744073709551616+b)%c)]) L h):Zb prog 378 [.int .u64 a,.int .u64 b,.int .u64 c] L h K:=by
 refine ZR func378 rfl (rs:=[_,_]) rfl rfl ZY (by kernel_rfl) rfl rfl ?_;refine xx ?_;refine Waa c (by omega) fun n hn g1 g2=>?_;obtain⟨hy1,hy2⟩:=Ynn c n hn g1 g2;obtain⟨s,hs⟩:∃s,s=64-n:=⟨_,rfl⟩
 obtain⟨S,hS⟩:∃S,S=(2:Int) ^ s:=⟨_,rfl⟩
 obtain⟨T,hT⟩:∃T,T=(2:Int) ^ n:=⟨_,rfl⟩
 have hS1:1≤S:=by rw[hS];exact Int.pow_pos (by decide)
 have hT1:1≤T:=by rw[hT];exact Int.pow_pos (by decide)
 have hST:S*T=18446744073709551616:=by
  rw[hS,hT,← Int.pow_add,show s+n=64 by omega];decide
 rw[← hs,← hS]at hy1 hy2;obtain⟨w0,w1,hN⟩:=Ydx a b S T hS1 hT1 hST hb;obtain⟨w,hw⟩:∃w,w=b/T:=⟨_,rfl⟩
 rw[← hw]at w0 w1 hN;have haS:a*S+w<c*S:=by
  have:(a+1)*S≤c*S:=Int.mul_le_mul_of_nonneg_right (by omega) (by omega);rw[Int.add_mul]at this;omega
 have ha0:=Int.mul_nonneg (show 0≤a by omega) (show 0≤S by omega);have hor:bits .or .u64 (a*S) w=a*S+w:=by
  rw[hS]at w1 haS hy2 ⊢;exact Wdr a w s (by omega) (by omega) ⟨w0,w1⟩ (by omega)
 obtain⟨e3,e4⟩:=Yrh (a*18446744073709551616+b) c S (by omega);rw[hN]at e3 e4;rw[← e3,← e4]at hk;have hbS:=Int.mul_nonneg hb.1 (show 0≤S by omega);obtain⟨u,hu⟩:∃u,u=b*S%18446744073709551616:=⟨_,rfl⟩
 rw[← hu]at hk;have hu1:0≤u∧u<18446744073709551616:=by omega
 obtain⟨y,hy⟩:∃y,y=c*S:=⟨_,rfl⟩
 rw[← hy]at hy1 hy2 haS hk;obtain⟨v,hv⟩:∃v,v=a*S+w:=⟨_,rfl⟩
 rw[← hv]at haS hor hk;have hv0:1≤v:=by
  have:=Int.mul_le_mul_of_nonneg_right (show 1≤a by omega) (show 0≤S by omega);omega
 have hy32:=and_low32 y (by omega) hy2;have hu32:=and_low32 u hu1.1 hu1.2;have huw:IntKind.u64.wrap (b*S)=u:=by rw[JA,hu]
 have has:a*S≤18446744073709551615:=by omega
 clear hN e3 e4 hbS hST hT1 g1 g2;have e5:((64:Int)-(64-n)).toNat=n:=by omega
 obtain⟨y1,hy1'⟩:∃y1,y1=y/4294967296:=⟨_,rfl⟩
 obtain⟨y0,hy0'⟩:∃y0,y0=y%4294967296:=⟨_,rfl⟩
 obtain⟨u1,hu1'⟩:∃u1,u1=u/4294967296:=⟨_,rfl⟩
 obtain⟨u0,hu0'⟩:∃u0,u0=u%4294967296:=⟨_,rfl⟩
 have hyy:y1*4294967296+y0=y:=by omega
 have hu1b:0≤u1∧u1≤4294967295:=by omega
 have hu0b:0≤u0∧u0≤4294967295:=by omega
 have hy1b:2147483648≤y1∧y1≤4294967295:=by omega
 have hy0b:0≤y0∧y0≤4294967295:=by omega
 have H1:KnH v u1 y1 y0:=⟨by omega,by omega,by omega,by omega,by omega⟩
 have I1:=Ycx H1;have I1q:=I1.q1;have I1n:=I1.q0;have I1r:=I1.r0;have I1p:0≤v/y1*y1:=Int.mul_nonneg I1n (by omega);have I1s:v-v/y1*y1<4294967296:=by
  have d:=Int.ediv_mul_add_emod v y1;have m1:=Int.emod_lt_of_pos v (show 0<y1 by omega);omega
 obtain⟨two1,two2⟩:=Wal v u1 u0 y (by omega) hu0b.1 (by omega);rw[show v*18446744073709551616+u=(v*4294967296+u1)*4294967296+u0 by omega,two1,two2]at hk;obtain⟨D1,hD1⟩:∃D,D=(v*4294967296+u1)/y:=⟨_,rfl⟩
 obtain⟨R1,hR1⟩:∃R,R=(v*4294967296+u1)%y:=⟨_,rfl⟩
 have dR1:D1*y+R1=v*4294967296+u1:=by rw[hD1,hR1];exact Int.ediv_mul_add_emod _ _
 have bR1:0≤R1∧R1<y:=by rw[hR1];exact⟨Int.emod_nonneg _ (by omega),Int.emod_lt_of_pos _ (by omega)⟩
 have bD1:0≤D1∧D1≤4294967295:=by
  rw[hD1];refine⟨Int.ediv_nonneg (by omega) (by omega),?_⟩;have:(v*4294967296+u1)/y<4294967296:=Int.ediv_lt_of_lt_mul (by omega) (by omega);omega
 rw[← hD1,← hR1]at hk;obtain⟨D2,hD2⟩:∃D,D=(R1*4294967296+u0)/y:=⟨_,rfl⟩
 obtain⟨R2,hR2⟩:∃R,R=(R1*4294967296+u0)%y:=⟨_,rfl⟩
 have dR2:D2*y+R2=R1*4294967296+u0:=by rw[hD2,hR2];exact Int.ediv_mul_add_emod _ _
 have bR2:0≤R2∧R2<y:=by rw[hR2];exact⟨Int.emod_nonneg _ (by omega),Int.emod_lt_of_pos _ (by omega)⟩
 have bD2:0≤D2∧D2≤4294967295:=by
  rw[hD2];refine⟨Int.ediv_nonneg (by omega) (by omega),?_⟩;have:(R1*4294967296+u0)/y<4294967296:=Int.ediv_lt_of_lt_mul (by omega) (by omega);omega
 rw[← hD2,← hR2]at hk;have H2:KnH R1 u0 y1 y0:=⟨by omega,by omega,by omega,by omega,by omega⟩
 have I2:=Ycx H2;have I2q:=I2.q1;have I2n:=I2.q0;have I2r:=I2.r0;have I2p:0≤R1/y1*y1:=Int.mul_nonneg I2n (by omega);have I2s:R1-R1/y1*y1<4294967296:=by
  have d:=Int.ediv_mul_add_emod R1 y1;have m1:=Int.emod_lt_of_pos R1 (show 0<y1 by omega);omega
 have W1:=Yee v u1 D1 y R1 dR1 (by omega);have W2:=Yee R1 u0 D2 y R2 dR2 (by omega);simp -dsimp -implicitDefEqProofs (disch:=first|with_reducible assumption|omega) [go_sem,IntKind.bits,← hs,← hS,e5,← hT,← hw,← hy,hor,huw,hy32,hu32,← hy1',← hy0',← hu1',← hu0'];clear hor hw ha0 has huw hu hv w0 w1 hy32 hu32 two1 two2;clear hb ha hc hu1 hv0 hu1' hu0' hy1' hy0' hy hy1;refine Vj (γ:=Int×Int) (v/y1,v-v/y1*y1) (fun s=>Kn v u1 y1 y0 s.1 s.2∧s.2<4294967296) (fun s=>[(15,.int .u64 s.1),(16,.int .u64 s.2),(2,.int .u64 y),(8,.int .u64 (64-n)),(9,.int .u64 y1),(10,.int .u64 y0),(11,.int .u64 v),(13,.int .u64 u1),(14,.int .u64 u0)]) (fun s=>s.1.toNat) ?_ ?_ ?_
 ·exact⟨I1,I1s⟩
 ·simp [Ent,List.lookup]
 rintro⟨q,r⟩ ⟨k,hr⟩;simp only at k hr ⊢;have kq:=k.q0;have kq1:=k.q1;have kr:=k.r0;by_cases c1:q<4294967296
 ·have hp:=W4 q y0 kq (by omega) hy0b.1 hy0b.2;by_cases c2:4294967296*r+u1<q*y0
  ·obtain⟨k2,hq1⟩:=Zjz H1 k (.inr c2);by_cases c3:4294967296≤r+y1
   ·have hq:=Zbl H1 k2 (by omega) c3;rw[hyy,← hD1]at hq;refine xx ?_;simp only[hq,W1];simp -dsimp -implicitDefEqProofs (disch:=first|with_reducible assumption|omega) [go_sem,hq,W1];clear k kq kq1 kr hq;refine Vj (γ:=Int×Int) (R1/y1,R1-R1/y1*y1) (fun s=>Kn R1 u0 y1 y0 s.1 s.2∧s.2<4294967296) (fun s=>[(18,.int .u64 s.1),(16,.int .u64 s.2),(2,.int .u64 y),(8,.int .u64 (64-n)),(9,.int .u64 y1),(10,.int .u64 y0),(14,.int .u64 u0),(15,.int .u64 D1),(17,.int .u64 R1)]) (fun s=>s.1.toNat) ?_ ?_ ?_
    ·exact⟨I2,I2s⟩
    ·simp [Ent,List.lookup]
    rintro⟨q,r⟩ ⟨k,hr⟩;simp only at k hr ⊢;have kq:=k.q0;have kq1:=k.q1;have kr:=k.r0;by_cases c1:q<4294967296
    ·have hp:=W4 q y0 kq (by omega) hy0b.1 hy0b.2;by_cases c2:4294967296*r+u0<q*y0
     ·obtain⟨k2,hq1⟩:=Zjz H2 k (.inr c2);by_cases c3:4294967296≤r+y1
      ·have hq:=Zbl H2 k2 (by omega) c3;rw[hyy,← hD2]at hq;refine xx ?_;simp only[hq,W2,← hs,← hS];exact ZO hk
      ·refine xx ?_;exact⟨q-1,r+y1,⟨k2,by omega⟩,by omega,by simp [Ent,List.lookup],Za.refl _ _⟩
     ·have hq:=Zeg H2 k (by omega);rw[hyy,← hD2]at hq;refine xx ?_;simp only[hq,W2,← hs,← hS];exact ZO hk
    ·obtain⟨k2,hq1⟩:=Zjz H2 k (.inl (by omega));by_cases c3:4294967296≤r+y1
     ·have hq:=Zbl H2 k2 (by omega) c3;rw[hyy,← hD2]at hq;refine xx ?_;simp only[hq,W2,← hs,← hS];exact ZO hk
     ·refine xx ?_;exact⟨q-1,r+y1,⟨k2,by omega⟩,by omega,by simp [Ent,List.lookup],Za.refl _ _⟩
   ·refine xx ?_;exact⟨q-1,r+y1,⟨k2,by omega⟩,by omega,by simp [Ent,List.lookup],Za.refl _ _⟩
  ·have hq:=Zeg H1 k (by omega);rw[hyy,← hD1]at hq;refine xx ?_;simp only[hq,W1];simp -dsimp -implicitDefEqProofs (disch:=first|with_reducible assumption|omega) [go_sem,hq,W1];clear k kq kq1 kr hq;refine Vj (γ:=Int×Int) (R1/y1,R1-R1/y1*y1) (fun s=>Kn R1 u0 y1 y0 s.1 s.2∧s.2<4294967296) (fun s=>[(18,.int .u64 s.1),(16,.int .u64 s.2),(2,.int .u64 y),(8,.int .u64 (64-n)),(9,.int .u64 y1),(10,.int .u64 y0),(14,.int .u64 u0),(15,.int .u64 D1),(17,.int .u64 R1)]) (fun s=>s.1.toNat) ?_ ?_ ?_
   ·exact⟨I2,I2s⟩
   ·simp [Ent,List.lookup]
   rintro⟨q,r⟩ ⟨k,hr⟩;simp only at k hr ⊢;have kq:=k.q0;have kq1:=k.q1;have kr:=k.r0;by_cases c1:q<4294967296
   ·have hp:=W4 q y0 kq (by omega) hy0b.1 hy0b.2;by_cases c2:4294967296*r+u0<q*y0
    ·obtain⟨k2,hq1⟩:=Zjz H2 k (.inr c2);by_cases c3:4294967296≤r+y1
     ·have hq:=Zbl H2 k2 (by omega) c3;rw[hyy,← hD2]at hq;refine xx ?_;simp only[hq,W2,← hs,← hS];exact ZO hk
     ·refine xx ?_;exact⟨q-1,r+y1,⟨k2,by omega⟩,by omega,by simp [Ent,List.lookup],Za.refl _ _⟩
    ·have hq:=Zeg H2 k (by omega);rw[hyy,← hD2]at hq;refine xx ?_;simp only[hq,W2,← hs,← hS];exact ZO hk
   ·obtain⟨k2,hq1⟩:=Zjz H2 k (.inl (by omega));by_cases c3:4294967296≤r+y1
    ·have hq:=Zbl H2 k2 (by omega) c3;rw[hyy,← hD2]at hq;refine xx ?_;simp only[hq,W2,← hs,← hS];exact ZO hk
    ·refine xx ?_;exact⟨q-1,r+y1,⟨k2,by omega⟩,by omega,by simp [Ent,List.lookup],Za.refl _ _⟩
 ·obtain⟨k2,hq1⟩:=Zjz H1 k (.inl (by omega));by_cases c3:4294967296≤r+y1
  ·have hq:=Zbl H1 k2 (by omega) c3;rw[hyy,← hD1]at hq;refine xx ?_;simp only[hq,W1];simp -dsimp -implicitDefEqProofs (disch:=first|with_reducible assumption|omega) [go_sem,hq,W1];clear k kq kq1 kr hq;refine Vj (γ:=Int×Int) (R1/y1,R1-R1/y1*y1) (fun s=>Kn R1 u0 y1 y0 s.1 s.2∧s.2<4294967296) (fun s=>[(18,.int .u64 s.1),(16,.int .u64 s.2),(2,.int .u64 y),(8,.int .u64 (64-n)),(9,.int .u64 y1),(10,.int .u64 y0),(14,.int .u64 u0),(15,.int .u64 D1),(17,.int .u64 R1)]) (fun s=>s.1.toNat) ?_ ?_ ?_
   ·exact⟨I2,I2s⟩
   ·simp [Ent,List.lookup]
   rintro⟨q,r⟩ ⟨k,hr⟩;simp only at k hr ⊢;have kq:=k.q0;have kq1:=k.q1;have kr:=k.r0;by_cases c1:q<4294967296
   ·have hp:=W4 q y0 kq (by omega) hy0b.1 hy0b.2;by_cases c2:4294967296*r+u0<q*y0
    ·obtain⟨k2,hq1⟩:=Zjz H2 k (.inr c2);by_cases c3:4294967296≤r+y1
     ·have hq:=Zbl H2 k2 (by omega) c3;rw[hyy,← hD2]at hq;refine xx ?_;simp only[hq,W2,← hs,← hS];exact ZO hk
     ·refine xx ?_;exact⟨q-1,r+y1,⟨k2,by omega⟩,by omega,by simp [Ent,List.lookup],Za.refl _ _⟩
    ·have hq:=Zeg H2 k (by omega);rw[hyy,← hD2]at hq;refine xx ?_;simp only[hq,W2,← hs,← hS];exact ZO hk
   ·obtain⟨k2,hq1⟩:=Zjz H2 k (.inl (by omega));by_cases c3:4294967296≤r+y1
    ·have hq:=Zbl H2 k2 (by omega) c3;rw[hyy,← hD2]at hq;refine xx ?_;simp only[hq,W2,← hs,← hS];exact ZO hk
    ·refine xx ?_;exact⟨q-1,r+y1,⟨k2,by omega⟩,by omega,by simp [Ent,List.lookup],Za.refl _ _⟩
  ·refine xx ?_;exact⟨q-1,r+y1,⟨k2,by omega⟩,by omega,by simp [Ent,List.lookup],Za.refl _ _⟩
def dwE (a b c:Int):Int:=if c=0 then 20 else if a*b/c≤18446744073709551615 then 0 else 10
def dwN (a b c:Int):Int:=if dwE a b c=0 then a*b/c else 0
def uqQ (a b c:Int):Int:=if a*b%c=0 then a*b/c else a*b/c+1
def uqE (a b c:Int):Int:=if c=0 then 20 else if uqQ a b c≤18446744073709551615 then 0 else 10
def uqN (a b c:Int):Int:=if uqE a b c=0 then uqQ a b c else 0
theorem Yxj {a b c:Int}(ha:0≤a)(hb:0≤b)(hc:0≤c):0≤dwN a b c∧dwN a b c≤18446744073709551615:=by
 have:=Int.ediv_nonneg (Int.mul_nonneg ha hb) hc;by_cases e:dwE a b c=0
 ·rw[dwN,if_pos e];unfold dwE at e;refine⟨this,Int.not_lt.1 fun c2=>?_⟩;split at e
  ·cases e
  ·rw[if_neg (by omega)]at e
   cases e
 ·rw[dwN,if_neg e];decide
theorem Wch {a b c:Int}(ha:0≤a)(hb:0≤b)(hc:0≤c):0≤uqN a b c∧uqN a b c≤18446744073709551615:=by
 have:=Int.ediv_nonneg (Int.mul_nonneg ha hb) hc;have h2:0≤uqQ a b c:=by unfold uqQ;split<;>omega
 by_cases e:uqE a b c=0
 ·rw[uqN,if_pos e];unfold uqE at e;refine⟨h2,Int.not_lt.1 fun c2=>?_⟩;split at e
  ·cases e
  ·rw[if_neg (by omega)]at e
   cases e
 ·rw[uqN,if_neg e];decide
theorem Znk (b c:Int)(hb:0≤b∧b≤18446744073709551615)(hc:1≤c∧c≤18446744073709551615)(hk:K (.tuple #[.int .u64 (b/c),.int .u64 (b%c)]) L h):Zb prog 378 [.int .u64 0,.int .u64 b,.int .u64 c] L h K:=by
 have h1:=Int.ediv_nonneg hb.1 (show 0≤c by omega);have h2:b/c≤b:=Int.ediv_le_self _ hb.1;have h3:=Int.emod_nonneg b (show c≠0 by omega);have h4:=Int.emod_lt_of_pos b (show 0<c by omega);refine ZR func378 rfl (rs:=[_,_]) rfl rfl ZY (by kernel_rfl) rfl rfl ?_;refine xx ?_;refine Yr (.tk 0 (.tk 1 (.tk 2 (.tk 3 (.tk 4 (.tk 5 (.tk 6 (.tk 7 (.fin))))))))) (by kernel_rfl) (by kernel_rfl) _ (Za.refl _ _) ?_;refine xx ?_;exact ZO hk
def rsN (a b c:Int):Int:=if dwE a b c=0 then a*b%c else 0
theorem Yov {t x w:Int}(ht:0≤t)(hx:0≤x)(hxw:x≤w)(htm:t≤18446744073709551615)(hw:0<w):dwN t x w=t*x/w∧dwE t x w=0:=by
 have h1:t*x≤t*w:=Int.mul_le_mul_of_nonneg_left hxw ht;have h2:t*x/w≤t*w/w:=Int.ediv_le_ediv hw h1;rw[Int.mul_ediv_cancel _ (by omega)]at h2;have e:dwE t x w=0:=by rw[dwE,if_neg (by omega),if_pos (by omega)]
 exact⟨by rw[dwN,if_pos e],e⟩
theorem Yah (a b c:Int)(ha:0≤a∧a<c)(hb:0≤b∧b≤18446744073709551615)(hc:c≤18446744073709551615)(hk:K (.tuple #[.int .u64 ((a*18446744073709551616+b)/c),.int .u64 ((a*18446744073709551616+b)%c)]) L h):Zb prog 378 [.int .u64 a,.int .u64 b,.int .u64 c] L h K:=by
 by_cases e:a=0
 ·subst e;simp only[Int.zero_mul,Int.zero_add]at hk;exact Znk b c hb ⟨by omega,hc⟩ hk
 ·exact Ycv a b c ⟨by omega,ha.2⟩ hb hc hk
theorem Yuf (n c:Int)(hn:0≤n∧n/18446744073709551616≤18446744073709551615)(hc:1≤c∧c≤18446744073709551615)(hk:K (if n/c≤18446744073709551615 then .tuple #[.int .u64 (n/c),.int .u64 (n%c),.bool true] else .tuple #[.int .u64 0,.int .u64 0,.bool false]) L h) :
  Zb prog 374 [.agg #[.int .u64 (n/18446744073709551616),.int .u64 (n%18446744073709551616)],.int .u64 c] L h K:=by
 have e0:n/18446744073709551616*18446744073709551616+n%18446744073709551616=n:=by omega
 refine ZR func374 rfl (rs:=[_,_,_]) rfl rfl ZY (by kernel_rfl) rfl rfl ?_;refine xx ?_;refine Z6 fun b2 nb2 zb2=>?_;(try simp only[ZU]at nb2);refine xx ?_;by_cases c1:c≤n/18446744073709551616
 ·have:¬n/c≤18446744073709551615:=fun x=>by
   have h1:18446744073709551616≤n/c:=Int.le_ediv_of_mul_le (by omega) (by omega);omega
  rw[if_neg this]at hk;refine xx ?_;exact ZP (ZO hk)
 ·have:n/c<18446744073709551616:=Int.ediv_lt_of_lt_mul (by omega) (by omega);rw[if_pos (by omega)]at hk;refine xx ?_;refine Yah _ _ c ⟨by omega,by omega⟩ (by omega) hc.2 ?_;rw[e0];refine xx ?_;exact ZP (ZO hk)
theorem Yaw (a b c:Int)(ha:0≤a∧a≤18446744073709551615)(hb:0≤b∧b≤18446744073709551615)(hc:0≤c∧c≤18446744073709551615)(hk:K (.tuple #[.int .u64 (dwN a b c),.int .u64 (rsN a b c),.int .i64 (dwE a b c)]) L h) :
  Zb prog 368 [.agg #[.int .u64 (a*b/18446744073709551616),.int .u64 (a*b%18446744073709551616),.int .u64 c]] L h K:=by
 have hi:=Zqp a b ha.1 ha.2 hb.1 hb.2;refine ZR func368 rfl (rs:=[_,_,_]) rfl rfl ZY (by kernel_rfl) rfl rfl ?_;refine xx ?_;refine Z6 fun b1 nb1 zb1=>?_;(try simp only[ZU]at nb1);refine xx ?_;by_cases c0:c=0
 ·have e:dwE a b c=20:=by rw[dwE,if_pos c0]
  rw[dwN,rsN,e]at hk;refine xx ?_;exact ZP (ZO hk)
 ·refine xx ?_;refine Yuf (a*b) c ⟨Int.mul_nonneg ha.1 hb.1,by omega⟩ ⟨by omega,hc.2⟩ ?_;by_cases c1:a*b/c≤18446744073709551615
  ·have e:dwE a b c=0:=by rw[dwE,if_neg c0,if_pos c1]
   rw[dwN,rsN,e,if_pos rfl,if_pos rfl]at hk;rw[if_pos c1];refine xx ?_;exact ZP (ZO hk)
  ·have e:dwE a b c=10:=by rw[dwE,if_neg c0,if_neg c1]
   rw[dwN,rsN,e]at hk;rw[if_neg c1];refine xx ?_;exact ZP (ZO hk)
theorem Zku (a b c:Int)(ha:0≤a∧a≤18446744073709551615)(hb:0≤b∧b≤18446744073709551615)(hc:0≤c∧c≤18446744073709551615)(hk:K (.tuple #[.int .u64 (dwN a b c),.int .u64 (rsN a b c),.int .i64 (dwE a b c)]) L h) :
  Zb prog 356 [.int .u64 a,.int .u64 b,.int .u64 c] L h K:=by
 refine ZR func356 rfl (rs:=[_,_,_]) rfl rfl ZY (by kernel_rfl) rfl rfl ?_;refine xx ?_;refine Zcs a b ha.1 ha.2 hb.1 hb.2 ?_;refine xx ?_;refine Yaw a b c ha hb hc ?_;refine xx ?_;exact ZO hk
theorem Zcf (a b c:Int)(ha:0≤a∧a≤18446744073709551615)(hb:0≤b∧b≤18446744073709551615)(hc:0≤c∧c≤18446744073709551615)(hk:K (.tuple #[.int .u64 (dwN a b c),.int .i64 (dwE a b c)]) L h) :
  Zb prog 322 [.int .u64 a,.int .u64 b,.int .u64 c] L h K:=by
 refine ZR func322 rfl (rs:=[_,_]) rfl rfl ZY (by kernel_rfl) rfl rfl ?_;refine xx ?_;refine Zku a b c ha hb hc ?_;refine xx ?_;exact ZO hk
theorem Ykl (a b c:Int)(ha:0≤a∧a≤18446744073709551615)(hb:0≤b∧b≤18446744073709551615)(hc:0≤c∧c≤18446744073709551615)(hk:K (.tuple #[.int .u64 (uqN a b c),.int .i64 (uqE a b c)]) L h) :
  Zb prog 358 [.int .u64 a,.int .u64 b,.int .u64 c] L h K:=by
 refine ZR func358 rfl (rs:=[_,_]) rfl rfl ZY (by kernel_rfl) rfl rfl ?_;refine xx ?_;refine Zku a b c ha hb hc ?_;by_cases c0:c=0
 ·have e:dwE a b c=20:=by rw[dwE,if_pos c0]
  have e2:uqE a b c=20:=by rw[uqE,if_pos c0]
  rw[uqN,e2]at hk;rw[dwN,rsN,e];refine xx ?_;exact ZO hk
 ·have hq:=Int.ediv_nonneg (Int.mul_nonneg ha.1 hb.1) hc.1;by_cases c1:a*b/c≤18446744073709551615
  ·have e:dwE a b c=0:=by rw[dwE,if_neg c0,if_pos c1]
   rw[dwN,rsN,e,if_pos rfl,if_pos rfl];by_cases c2:a*b%c=0
   ·have q:uqQ a b c=a*b/c:=by rw[uqQ,if_pos c2]
    have e2:uqE a b c=0:=by rw[uqE,if_neg c0,q,if_pos c1]
    rw[uqN,e2,if_pos rfl,q]at hk;refine xx ?_;exact ZO hk
   ·have q:uqQ a b c=a*b/c+1:=by rw[uqQ,if_neg c2]
    by_cases c3:a*b/c=18446744073709551615
    ·have e2:uqE a b c=10:=by rw[uqE,if_neg c0,q,if_neg (by omega)]
     rw[uqN,e2]at hk;refine xx ?_;exact ZO hk
    ·have e2:uqE a b c=0:=by rw[uqE,if_neg c0,q,if_pos (by omega)]
     rw[uqN,e2,if_pos rfl,q]at hk;refine xx ?_;exact ZO hk
  ·have e:dwE a b c=10:=by rw[dwE,if_neg c0,if_neg c1]
   have e2:uqE a b c=10:=by
    rw[uqE,if_neg c0,if_neg];unfold uqQ;split<;>omega
   rw[uqN,e2]at hk;rw[dwN,rsN,e];refine xx ?_;exact ZO hk
def rtK (n:Int):Nat→Int
 | 0=>0
 | k+1=>if (rtK n k+2 ^ (31-k))*(rtK n k+2 ^ (31-k))≤n then rtK n k+2 ^ (31-k) else rtK n k
def GX (n:Int):Int:=rtK n 32
theorem Ycm {n:Int}(hn:0≤n∧n≤18446744073709551615):∀k,k≤32→0≤rtK n k∧rtK n k+2 ^ (32-k)≤4294967296∧rtK n k*rtK n k≤n∧n<(rtK n k+2 ^ (32-k))*(rtK n k+2 ^ (32-k))
 | 0,_=>by
  refine⟨Int.le_refl _,by simp [rtK],by simpa [rtK] using hn.1,?_⟩;simp only[rtK];have:((0:Int)+2 ^ (32-0))*(0+2 ^ (32-0))=18446744073709551616:=by decide
  omega
 | k+1,hk=>by
  obtain⟨a1,a2,a3,a4⟩:=Ycm hn k (by omega);have e:(2:Int) ^ (32-k)=2*2 ^ (31-k):=by
   rw[show 32-k=(31-k)+1 by omega,Int.pow_succ,Int.mul_comm]
  have e2:32-(k+1)=31-k:=by omega
  have hb:(1:Int)≤2 ^ (31-k):=Int.pow_pos (by decide);rw[e]at a2 a4;rw[e2];simp only[rtK]
  generalize (2:Int) ^ (31-k)=b at *
  split
  ·rename_i c;have:rtK n k+b+b=rtK n k+2*b:=by omega
   rw[this];exact⟨by omega,by omega,c,a4⟩
  ·rename_i c;exact⟨a1,by omega,a3,by omega⟩
theorem Zpa {n:Int}(hn:0≤n∧n≤18446744073709551615):0≤GX n∧GX n≤4294967295∧GX n*GX n≤n∧n<(GX n+1)*(GX n+1):=by
 obtain⟨a1,a2,a3,a4⟩:=Ycm hn 32 (Nat.le_refl _);simp only[Nat.sub_self,Int.pow_zero]at a2 a4;exact⟨a1,by unfold GX;omega,a3,a4⟩
theorem Ygi {n:Int}(hn:1≤n∧n≤18446744073709551615):1≤GX n:=by
 obtain⟨a1,_,a3,a4⟩:=Zpa (n:=n) ⟨by omega,hn.2⟩;apply Int.not_lt.1;intro c;have e:GX n=0:=by omega
 rw[e]at a4;omega
def Zbr (a by' most:Int):Int:=min (a+by') most
def WH (a by':Int):Int:=if by'≤a then a-by' else 0
def UN (p:Ze)(m:Zc)(there:Bool)(mode:Int):Zc :=
 if there then { m with streak:=(if max m.streak 0<p.streak then max m.streak 0+1 else p.streak),score:=WH m.score p.recover }
 else { m with streak:=0,score:=(if mode=3 then Zbr m.score p.bias p.scoreCap else if mode=4 then Zbr m.score p.biasEm p.scoreCap else m.score) }
def JS (calm pr ac:Int):Int×Bool:=if 0<ac∧2*ac<3*pr then (0,true) else (min (max calm 0) 1073741823+1,false)
def Ymt (delay calm:Int)(em:Bool):Int:=if em then 4 else if delay<calm then 3 else if 0<calm then 2 else 1
def Zwg (p:Ze)(ac:Int):Int:=if ac=0∨4611686018427387904<ac then 0 else dwN ac p.rate (1048576*GX ac)
def Znx (p:Ze)(ac issued most mode:Int):Int:=if (mode=3∨mode=4)∨most<issued+Zwg p ac then 0 else Zwg p ac
def Wn (p:Ze)(m:Zc):Int:=if p.maxEff<m.eff then 0 else m.eff*(1000+p.boost*min (max m.streak 0) p.streak)
def Jq (p:Ze)(m:Zc)(n:Int):Zc×Int:=({ m with bal:=m.bal+min n (WH p.cap m.bal) },n-min n (WH p.cap m.bal))
def Znb (p:Ze)(m:Zc)(mode:Int):Int:=if mode=3 then uqE m.eff m.score p.quot else if mode=4 then uqE m.eff m.score p.quotEm else dwE m.eff p.absent 10000
def Zfh (p:Ze)(m:Zc)(mode:Int):Int:=if mode=3 then uqN m.eff m.score p.quot else if mode=4 then uqN m.eff m.score p.quotEm else dwN m.eff p.absent 10000
def Wl (p:Ze)(m:Zc)(mode:Int):Int:=if Znb p m mode=0 then min (Zfh p m mode) m.bal else m.bal
def UD (p:Ze)(n:Int):Int:=dwN n p.burn 10000
theorem Ynr {p:Ze}{n:Int}(hn:0≤n∧n≤18446744073709551615)(hb:0≤p.burn∧p.burn≤10000):0≤UD p n∧UD p n≤n∧dwE n p.burn 10000=0:=by
 have h1:n*p.burn≤n*10000:=Int.mul_le_mul_of_nonneg_left hb.2 hn.1;have h0:=Int.mul_nonneg hn.1 hb.1;have e:dwE n p.burn 10000=0:=by
  unfold dwE;rw[if_neg (by decide),if_pos];omega
 unfold UD dwN;rw[if_pos e];omega
end Go.X
