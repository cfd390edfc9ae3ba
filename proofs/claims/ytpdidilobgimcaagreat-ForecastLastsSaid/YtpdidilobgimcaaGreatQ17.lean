/- Lemmas and contracts. Conditions: as each says. -/
import Derived.Shelf.Spec.BitsCarry
import Derived.Test.YtpdidilobgimcaaGreatQ16
set_option linter.unusedVariables false
set_option linter.unusedSimpArgs false
set_option maxHeartbeats 12800000
set_option maxRecDepth 20000
namespace Go.X
open Go.RowKit Go.Proofs Go.Bl Go.Proofs.Tryz
variable {L:Own} {h:PH} {K:PK}
theorem Zvw (q y1 y0:Int):q*(y1*4294967296+y0)=q*y1*4294967296+q*y0:=by
 rw[Int.mul_add,← Int.mul_assoc]
structure Kn (v u y1 y0 q r:Int):Prop where
 sum:q*y1+r=v
 q0:0≤q
 q1:q≤4294967297
 r0:0≤r
 up:(v*4294967296+u)/(y1*4294967296+y0)≤q
structure KnH (v u y1 y0:Int):Prop where
 hv:0≤v
 hu:0≤u∧u<4294967296
 h1:2147483648≤y1∧y1<4294967296
 h0:0≤y0∧y0<4294967296
 lt:v<y1*4294967296+y0
theorem Ztw {v u y1 y0:Int}(H:KnH v u y1 y0):Kn v u y1 y0 (v/y1) (v-v/y1*y1):=by
 obtain⟨v0,u0,h1,h0,lt⟩:=H;have e:=Int.ediv_mul_add_emod v y1;have m0:=Int.emod_nonneg v (show y1≠0 by omega);have m1:=Int.emod_lt_of_pos v (show 0<y1 by omega);have q0:0≤v/y1:=Int.ediv_nonneg v0 (by omega);refine⟨by omega,q0,?_,by omega,?_⟩
 ·have:v/y1<4294967298:=Int.ediv_lt_of_lt_mul (by omega) (by omega);omega
 ·refine Int.le_ediv_of_mul_le (by omega) ?_
  generalize hq:(v*4294967296+u)/(y1*4294967296+y0)=q
  have qn:0≤q:=by rw[← hq];exact Int.ediv_nonneg (by omega) (by omega)
  have a:=Int.ediv_mul_le (v*4294967296+u) (show y1*4294967296+y0≠0 by omega);rw[hq,Zvw]at a;have b:=Int.mul_nonneg qn h0.1;omega
theorem Zat {v u y1 y0 q r:Int}(H:KnH v u y1 y0)(k:Kn v u y1 y0 q r)(c:q*y0≤4294967296*r+u):q=(v*4294967296+u)/(y1*4294967296+y0):=by
 obtain⟨v0,u0,h1,h0,lt⟩:=H;refine Int.le_antisymm (Int.le_ediv_of_mul_le (by omega) ?_) k.up;rw[Zvw];have:=k.sum;omega
theorem Gr {v u y1 y0 q r:Int}(H:KnH v u y1 y0)(k:Kn v u y1 y0 q r)(hq:q≤4294967296)(hr:4294967296≤r):q=(v*4294967296+u)/(y1*4294967296+y0):=by
 refine Zat H k ?_;have:=Int.mul_le_mul_of_nonneg_right hq H.h0.1;have:=H.h0;have:=H.hu;omega
theorem Zfn {v u y1 y0 q r:Int}(H:KnH v u y1 y0)(k:Kn v u y1 y0 q r)(c:4294967296≤q∨4294967296*r+u<q*y0):Kn v u y1 y0 (q-1) (r+y1)∧1≤q:=by
 obtain⟨v0,u0,h1,h0,lt⟩:=H;obtain⟨s,q0,q1,r0,up⟩:=k;have hq0:0≤(v*4294967296+u)/(y1*4294967296+y0):=Int.ediv_nonneg (by omega) (by omega);have hlt:(v*4294967296+u)/(y1*4294967296+y0)<q:=by
  rcases c with c|c
  ·refine Int.lt_of_lt_of_le (Int.ediv_lt_of_lt_mul (b:=4294967296) (by omega) (by omega)) c
  ·refine Int.ediv_lt_of_lt_mul (by omega) ?_;rw[Zvw];omega
 refine⟨⟨?_,by omega,by omega,by omega,by omega⟩,by omega⟩;rw[Int.sub_mul,Int.one_mul];omega
theorem Ykm (v u1 u0 y:Int)(hy:0<y)(h0:0≤u0)(h0':u0<4294967296):((v*4294967296+u1)*4294967296+u0)/y=(v*4294967296+u1)/y*4294967296+((v*4294967296+u1)%y*4294967296+u0)/y ∧
  ((v*4294967296+u1)*4294967296+u0)%y=((v*4294967296+u1)%y*4294967296+u0)%y:=by
 have e:=Int.ediv_mul_add_emod (v*4294967296+u1) y
 generalize (v*4294967296+u1)/y=q1 at *
 generalize (v*4294967296+u1)%y=r1 at *
 rw[← e];have e2:(q1*y+r1)*4294967296+u0=(r1*4294967296+u0)+(q1*4294967296)*y:=by
  rw[Int.add_mul,Int.mul_assoc,Int.mul_comm y,← Int.mul_assoc];omega
 rw[e2,Int.add_mul_ediv_right _ _ (by omega),Int.add_mul_emod_self_right];exact⟨Int.add_comm _ _,rfl⟩
theorem Ydw (n y s:Int)(hs:0<s):n*s/(y*s)=n/y∧n*s%(y*s)/s=n%y:=by
 refine⟨by rw[Int.mul_ediv_mul_of_pos_left _ _ hs],?_⟩;rw[Int.mul_comm n,Int.mul_comm y,Int.mul_emod_mul_of_pos _ _ hs,Int.mul_ediv_cancel_left _ (by omega)]
theorem kn_or (a b s:Nat)(hs:s≤64)(hb:b<2 ^ s):(a*2 ^ s) ||| b=a*2 ^ s+b:=by
 rw[Nat.mul_comm];exact(Nat.two_pow_add_eq_or_of_lt hb a).symm
theorem Yft (y:Int)(n:Nat)(hn:1≤n∧n≤64)(h1:2 ^ (n-1)≤y)(h2:y<2 ^ n):9223372036854775808≤y*2 ^ (64-n)∧y*2 ^ (64-n)<18446744073709551616:=by
 have p:(0:Int)<2 ^ (64-n):=Int.pow_pos (by decide);have e1:(2:Int) ^ (n-1)*2 ^ (64-n)=9223372036854775808:=by
  rw[← Int.pow_add,show n-1+(64-n)=63 by omega];decide
 have e2:(2:Int) ^ n*2 ^ (64-n)=18446744073709551616:=by
  rw[← Int.pow_add,show n+(64-n)=64 by omega];decide
 have h3:=Int.mul_le_mul_of_nonneg_right h1 (Int.le_of_lt p);have h4:=Int.mul_lt_mul_of_pos_right h2 p;omega
def bl (j:Nat):Nat:=if j=0 then 0 else Nat.log2 j+1
theorem Zbf:∀ j,j<256→1≤j→1≤bl j∧bl j≤8∧(2:Int) ^ (bl j-1)≤(j:Int)∧(j:Int)<2 ^ bl j:=by decide +kernel
theorem Yel {x t:Int}(c:Nat)(hc:c≤56)(ht:t=x/2 ^ c)(h:1≤t∧t≤255):(1≤c+bl t.toNat∧c+bl t.toNat≤64)∧2 ^ (c+bl t.toNat-1)≤x∧x<2 ^ (c+bl t.toNat):=by
 obtain⟨b1,b2,b3,b4⟩:=Zbf t.toNat (by omega) (by omega);rw[Int.toNat_of_nonneg (by omega)]at b3 b4
 generalize bl t.toNat=n at *
 have p:(0:Int)<2 ^ c:=Int.pow_pos (by decide);have d:=Int.ediv_mul_add_emod x (2 ^ c);have m0:=Int.emod_nonneg x (show (2:Int) ^ c≠0 by omega);have m1:=Int.emod_lt_of_pos x p;rw[← ht]at d;refine⟨by omega,?_,?_⟩
 ·rw[show c+n-1=(n-1)+c by omega,Int.pow_add];have:=Int.mul_le_mul_of_nonneg_right b3 (Int.le_of_lt p);omega
 ·rw[show c+n=n+c by omega,Int.pow_add];have h1:t+1≤2 ^ n:=b4;have:=Int.mul_le_mul_of_nonneg_right h1 (Int.le_of_lt p);rw[Int.add_mul,Int.one_mul]at this;omega
theorem UI {P:Program}{t:Nat}(ht:P.underlying t=some .string)(S:ByteArray)(k:IntKind)(i:Int)(hi:0≤i∧i≤255)(hS:((List.range 256).all fun j=>S[j]? == some (UInt8.ofNat (bl j)))=true)(K:Value→Prop)(tk:Zo K) :
  xIx P t (.string S) (.int k i) K tk=K (.int .u8 (bl i.toNat:Nat)):=by
 have h1:=List.all_eq_true.1 hS i.toNat (List.mem_range.2 (by omega));have h2:S[i.toNat]?=some (UInt8.ofNat (bl i.toNat)):=by simpa using h1
 have h3:(UInt8.ofNat (bl i.toNat)).toNat=bl i.toNat:=by
  by_cases c:i.toNat=0
  ·rw[c];rfl
  ·have:=(Zbf i.toNat (by omega) (by omega)).2.1;rw[UInt8.toNat_ofNat'];omega
 refine Ys (fun W=>?_) K;simp [Instr.index,asIntOf,underlying,ht,hi.1,h2,h3,go_sem]
theorem Zti (x:Int)(hx:1≤x∧x≤18446744073709551615)(hk:∀n:Nat,1≤n∧n≤64→2 ^ (n-1)≤x→x<2 ^ n→K (.int .i64 n) L h):Zb prog 381 [.int .u64 x] L h K:=by
 have e:∀(c:Nat) (t:Int),c≤56→t=x/2 ^ c→1≤t∧t≤255→K (.int .i64 ((c:Int)+(bl t.toNat:Nat))) L h:=fun c t hc ht h1=>by
  obtain⟨a,b,d⟩:=Yel c hc ht h1;have:=hk _ a b d
  rwa [Int.natCast_add]at this
 refine ZR func381 rfl (rs:=[_]) rfl rfl ZW (by kernel_rfl) rfl rfl ?_;by_cases c1:4294967296≤x
 ·by_cases c2:65536≤x/4294967296
  ·by_cases c3:256≤x/4294967296/65536
   ·have b8:=(Zbf (x/4294967296/65536/256).toNat (by omega) (by omega)).2.1;have:=e 56 (x/4294967296/65536/256) (by decide) (by omega) (by omega);simp -dsimp -implicitDefEqProofs (disch:=first|with_reducible assumption|omega) [go_sem,IntKind.bits];rw[UI (by kernel_rfl) _ _ _ (by omega) (by decide +kernel)];refine xx ?_;exact ZP this
   ·have b8:=(Zbf (x/4294967296/65536).toNat (by omega) (by omega)).2.1;have:=e 48 (x/4294967296/65536) (by decide) (by omega) (by omega);simp -dsimp -implicitDefEqProofs (disch:=first|with_reducible assumption|omega) [go_sem,IntKind.bits];rw[UI (by kernel_rfl) _ _ _ (by omega) (by decide +kernel)];refine xx ?_;exact ZP this
  ·by_cases c3:256≤x/4294967296
   ·have b8:=(Zbf (x/4294967296/256).toNat (by omega) (by omega)).2.1;have:=e 40 (x/4294967296/256) (by decide) (by omega) (by omega);simp -dsimp -implicitDefEqProofs (disch:=first|with_reducible assumption|omega) [go_sem,IntKind.bits];rw[UI (by kernel_rfl) _ _ _ (by omega) (by decide +kernel)];refine xx ?_;exact ZP this
   ·have b8:=(Zbf (x/4294967296).toNat (by omega) (by omega)).2.1;have:=e 32 (x/4294967296) (by decide) (by omega) (by omega);simp -dsimp -implicitDefEqProofs (disch:=first|with_reducible assumption|omega) [go_sem,IntKind.bits];rw[UI (by kernel_rfl) _ _ _ (by omega) (by decide +kernel)];refine xx ?_;exact ZP this
 ·by_cases c2:65536≤x
  ·by_cases c3:256≤x/65536
   ·have b8:=(Zbf (x/65536/256).toNat (by omega) (by omega)).2.1;have:=e 24 (x/65536/256) (by decide) (by omega) (by omega);simp -dsimp -implicitDefEqProofs (disch:=first|with_reducible assumption|omega) [go_sem,IntKind.bits];rw[UI (by kernel_rfl) _ _ _ (by omega) (by decide +kernel)];refine xx ?_;exact ZP this
   ·have b8:=(Zbf (x/65536).toNat (by omega) (by omega)).2.1;have:=e 16 (x/65536) (by decide) (by omega) (by omega);simp -dsimp -implicitDefEqProofs (disch:=first|with_reducible assumption|omega) [go_sem,IntKind.bits];rw[UI (by kernel_rfl) _ _ _ (by omega) (by decide +kernel)];refine xx ?_;exact ZP this
  ·by_cases c3:256≤x
   ·have b8:=(Zbf (x/256).toNat (by omega) (by omega)).2.1;have:=e 8 (x/256) (by decide) (by omega) (by omega);simp -dsimp -implicitDefEqProofs (disch:=first|with_reducible assumption|omega) [go_sem,IntKind.bits];rw[UI (by kernel_rfl) _ _ _ (by omega) (by decide +kernel)];refine xx ?_;exact ZP this
   ·have b8:=(Zbf x.toNat (by omega) (by omega)).2.1;have:=e 0 x (by decide) (by simp) (by omega);simp only[Int.natCast_zero,Int.cast_ofNat_Int,Int.zero_add]at this;simp -dsimp -implicitDefEqProofs (disch:=first|with_reducible assumption|omega) [go_sem,IntKind.bits];rw[UI (by kernel_rfl) _ _ _ (by omega) (by decide +kernel)];refine xx ?_;exact ZP this
theorem Ytk (a b:Int)(s:Nat)(hs:s≤63)(ha:0≤a)(hb:0≤b∧b<2 ^ s)(hab:a*2 ^ s+b≤18446744073709551615):bits .or .u64 (a*2 ^ s) b=a*2 ^ s+b:=by
 obtain⟨x,rfl⟩:=Int.eq_ofNat_of_zero_le ha;obtain⟨y,rfl⟩:=Int.eq_ofNat_of_zero_le hb.1;have hy:y<2 ^ s:=by exact_mod_cast hb.2
 have e:(x:Int)*2 ^ s=((x*2 ^ s:Nat):Int):=by push_cast;rfl
 have k:=kn_or x y s (by omega) hy;rw[e]at hab ⊢
 generalize x*2 ^ s=z at *
 rw[u64_or_nat z y (by omega) (by omega),k,Int.natCast_add]
theorem Ynt (x:Int)(hx:1≤x∧x≤18446744073709551615)(hk:∀n:Nat,1≤n∧n≤64→2 ^ (n-1)≤x→x<2 ^ n→K (.int .i64 (64-n)) L h):Zb prog 379 [.int .u64 x] L h K:=by
 refine ZR func379 rfl (rs:=[_]) rfl rfl ZW (by kernel_rfl) rfl rfl ?_;refine xx ?_;refine Zti x hx fun n hn h1 h2=>?_;have:=hk n hn h1 h2;refine xx ?_;exact ZP this
theorem Zww (x u q y r:Int)(e:q*y+r=x*4294967296+u)(hr:0≤r∧r≤18446744073709551615):IntKind.u64.wrap (IntKind.u64.wrap (IntKind.u64.wrap (x*4294967296)+u)-IntKind.u64.wrap (q*y))=r:=by
 simp only[Ul]
 generalize q*y=z at *
 omega
theorem Zqw (a b S T:Int)(hS:1≤S)(hT:1≤T)(hST:S*T=18446744073709551616)(hb:0≤b∧b≤18446744073709551615):0≤b/T∧b/T<S∧(a*18446744073709551616+b)*S=(a*S+b/T)*18446744073709551616+b*S%18446744073709551616:=by
 have h0:=Int.ediv_nonneg hb.1 (show 0≤T by omega);have h1:b/T<S:=Int.ediv_lt_of_lt_mul (by omega) (by omega);have d:=Int.ediv_mul_add_emod b T;have m0:=Int.emod_nonneg b (show T≠0 by omega);have m1:=Int.emod_lt_of_pos b (show 0<T by omega);have e:b*S=b/T*18446744073709551616+b%T*S:=by
  rw[← hST,← Int.mul_assoc,Int.mul_right_comm,← Int.add_mul,d]
 have l0:=Int.mul_nonneg m0 (show 0≤S by omega);have l1:b%T*S<18446744073709551616:=by
  rw[← hST,Int.mul_comm S T];exact Int.mul_lt_mul_of_pos_right m1 (by omega)
 refine⟨h0,h1,?_⟩;rw[Int.add_mul,Int.add_mul,e,Int.mul_right_comm]
 generalize b%T*S=z at *
 generalize b/T=w at *
 generalize a*S=x at *
 omega
theorem Zrl (a b c:Int)(ha:1≤a∧a<c)(hb:0≤b∧b≤18446744073709551615)(hc:c≤18446744073709551615)(hk:K (.tuple #[.int .u64 ((a*18446744073709551616+b)/c),.int .u64 ((a*18446744073709551616+b)%c)]) L h):Zb prog 377 [.int .u64 a,.int .u64 b,.int .u64 c] L h K:=by
 refine ZR func377 rfl (rs:=[_,_]) rfl rfl ZW (by kernel_rfl) rfl rfl ?_;refine xx ?_;refine Ynt c (by omega) fun n hn g1 g2=>?_;obtain⟨hy1,hy2⟩:=Yft c n hn g1 g2;obtain⟨s,hs⟩:∃s,s=64-n:=⟨_,rfl⟩
 obtain⟨S,hS⟩:∃S,S=(2:Int) ^ s:=⟨_,rfl⟩
 obtain⟨T,hT⟩:∃T,T=(2:Int) ^ n:=⟨_,rfl⟩
 have hS1:1≤S:=by rw[hS];exact Int.pow_pos (by decide)
 have hT1:1≤T:=by rw[hT];exact Int.pow_pos (by decide)
 have hST:S*T=18446744073709551616:=by
  rw[hS,hT,← Int.pow_add,show s+n=64 by omega];decide
 rw[← hs,← hS]at hy1 hy2;obtain⟨w0,w1,hN⟩:=Zqw a b S T hS1 hT1 hST hb;obtain⟨w,hw⟩:∃w,w=b/T:=⟨_,rfl⟩
 rw[← hw]at w0 w1 hN;have haS:a*S+w<c*S:=by
  have:(a+1)*S≤c*S:=Int.mul_le_mul_of_nonneg_right (by omega) (by omega);rw[Int.add_mul]at this;omega
 have ha0:=Int.mul_nonneg (show 0≤a by omega) (show 0≤S by omega);have hor:bits .or .u64 (a*S) w=a*S+w:=by
  rw[hS]at w1 haS hy2 ⊢;exact Ytk a w s (by omega) (by omega) ⟨w0,w1⟩ (by omega)
 obtain⟨e3,e4⟩:=Ydw (a*18446744073709551616+b) c S (by omega);rw[hN]at e3 e4;rw[← e3,← e4]at hk;have hbS:=Int.mul_nonneg hb.1 (show 0≤S by omega);obtain⟨u,hu⟩:∃u,u=b*S%18446744073709551616:=⟨_,rfl⟩
 rw[← hu]at hk;have hu1:0≤u∧u<18446744073709551616:=by omega
 obtain⟨y,hy⟩:∃y,y=c*S:=⟨_,rfl⟩
 rw[← hy]at hy1 hy2 haS hk;obtain⟨v,hv⟩:∃v,v=a*S+w:=⟨_,rfl⟩
 rw[← hv]at haS hor hk;have hv0:1≤v:=by
  have:=Int.mul_le_mul_of_nonneg_right (show 1≤a by omega) (show 0≤S by omega);omega
 have hy32:=and_low32 y (by omega) hy2;have hu32:=and_low32 u hu1.1 hu1.2;have huw:IntKind.u64.wrap (b*S)=u:=by rw[Ul,hu]
 have has:a*S≤18446744073709551615:=by omega
 clear hN e3 e4 hbS hST hT1 g1 g2;have e5:((64:Int)-(64-n)).toNat=n:=by omega
 obtain⟨y1,hy1'⟩:∃y1,y1=y/4294967296:=⟨_,rfl⟩
 obtain⟨y0,hy0'⟩:∃y0,y0=y%4294967296:=⟨_,rfl⟩
 obtain⟨u1,hu1'⟩:∃u1,u1=u/4294967296:=⟨_,rfl⟩
 obtain⟨u0,hu0'⟩:∃u0,u0=u%4294967296:=⟨_,rfl⟩
 have hyy:y1*4294967296+y0=y:=by omega
 have hu1b:0≤u1∧u1≤4294967295:=by omega
 have hu0b:0≤u0∧u0≤4294967295:=by omega
 have hy1b:2147483648≤y1∧y1≤4294967295:=by omega
 have hy0b:0≤y0∧y0≤4294967295:=by omega
 have H1:KnH v u1 y1 y0:=⟨by omega,by omega,by omega,by omega,by omega⟩
 have I1:=Ztw H1;have I1q:=I1.q1;have I1n:=I1.q0;have I1r:=I1.r0;have I1p:0≤v/y1*y1:=Int.mul_nonneg I1n (by omega);have I1s:v-v/y1*y1<4294967296:=by
  have d:=Int.ediv_mul_add_emod v y1;have m1:=Int.emod_lt_of_pos v (show 0<y1 by omega);omega
 obtain⟨two1,two2⟩:=Ykm v u1 u0 y (by omega) hu0b.1 (by omega);rw[show v*18446744073709551616+u=(v*4294967296+u1)*4294967296+u0 by omega,two1,two2]at hk;obtain⟨D1,hD1⟩:∃D,D=(v*4294967296+u1)/y:=⟨_,rfl⟩
 obtain⟨R1,hR1⟩:∃R,R=(v*4294967296+u1)%y:=⟨_,rfl⟩
 have dR1:D1*y+R1=v*4294967296+u1:=by rw[hD1,hR1];exact Int.ediv_mul_add_emod _ _
 have bR1:0≤R1∧R1<y:=by rw[hR1];exact⟨Int.emod_nonneg _ (by omega),Int.emod_lt_of_pos _ (by omega)⟩
 have bD1:0≤D1∧D1≤4294967295:=by
  rw[hD1];refine⟨Int.ediv_nonneg (by omega) (by omega),?_⟩;have:(v*4294967296+u1)/y<4294967296:=Int.ediv_lt_of_lt_mul (by omega) (by omega);omega
 rw[← hD1,← hR1]at hk;obtain⟨D2,hD2⟩:∃D,D=(R1*4294967296+u0)/y:=⟨_,rfl⟩
 obtain⟨R2,hR2⟩:∃R,R=(R1*4294967296+u0)%y:=⟨_,rfl⟩
 have dR2:D2*y+R2=R1*4294967296+u0:=by rw[hD2,hR2];exact Int.ediv_mul_add_emod _ _
 have bR2:0≤R2∧R2<y:=by rw[hR2];exact⟨Int.emod_nonneg _ (by omega),Int.emod_lt_of_pos _ (by omega)⟩
 have bD2:0≤D2∧D2≤4294967295:=by
  rw[hD2];refine⟨Int.ediv_nonneg (by omega) (by omega),?_⟩;have:(R1*4294967296+u0)/y<4294967296:=Int.ediv_lt_of_lt_mul (by omega) (by omega);omega
 rw[← hD2,← hR2]at hk;have H2:KnH R1 u0 y1 y0:=⟨by omega,by omega,by omega,by omega,by omega⟩
 have I2:=Ztw H2;have I2q:=I2.q1;have I2n:=I2.q0;have I2r:=I2.r0;have I2p:0≤R1/y1*y1:=Int.mul_nonneg I2n (by omega);have I2s:R1-R1/y1*y1<4294967296:=by
  have d:=Int.ediv_mul_add_emod R1 y1;have m1:=Int.emod_lt_of_pos R1 (show 0<y1 by omega);omega
 have W1:=Zww v u1 D1 y R1 dR1 (by omega);have W2:=Zww R1 u0 D2 y R2 dR2 (by omega);simp -dsimp -implicitDefEqProofs (disch:=first|with_reducible assumption|omega) [go_sem,IntKind.bits,← hs,← hS,e5,← hT,← hw,← hy,hor,huw,hy32,hu32,← hy1',← hy0',← hu1',← hu0'];clear hor hw ha0 has huw hu hv w0 w1 hy32 hu32 two1 two2;clear hb ha hc hu1 hv0 hu1' hu0' hy1' hy0' hy hy1;refine Vk (γ:=Int×Int) (v/y1,v-v/y1*y1) (fun s=>Kn v u1 y1 y0 s.1 s.2∧s.2<4294967296) (fun s=>[(15,.int .u64 s.1),(16,.int .u64 s.2),(2,.int .u64 y),(8,.int .u64 (64-n)),(9,.int .u64 y1),(10,.int .u64 y0),(11,.int .u64 v),(13,.int .u64 u1),(14,.int .u64 u0)]) (fun s=>s.1.toNat) ?_ ?_ ?_
 ·exact⟨I1,I1s⟩
 ·simp [Ent,List.lookup]
 rintro⟨q,r⟩ ⟨k,hr⟩;simp only at k hr ⊢;have kq:=k.q0;have kq1:=k.q1;have kr:=k.r0;by_cases c1:q<4294967296
 ·have hp:=Wu q y0 kq (by omega) hy0b.1 hy0b.2;by_cases c2:4294967296*r+u1<q*y0
  ·obtain⟨k2,hq1⟩:=Zfn H1 k (.inr c2);by_cases c3:4294967296≤r+y1
   ·have hq:=Gr H1 k2 (by omega) c3;rw[hyy,← hD1]at hq;refine xx ?_;simp only[hq,W1];simp -dsimp -implicitDefEqProofs (disch:=first|with_reducible assumption|omega) [go_sem,hq,W1];clear k kq kq1 kr hq;refine Vk (γ:=Int×Int) (R1/y1,R1-R1/y1*y1) (fun s=>Kn R1 u0 y1 y0 s.1 s.2∧s.2<4294967296) (fun s=>[(18,.int .u64 s.1),(16,.int .u64 s.2),(2,.int .u64 y),(8,.int .u64 (64-n)),(9,.int .u64 y1),(10,.int .u64 y0),(14,.int .u64 u0),(15,.int .u64 D1),(17,.int .u64 R1)]) (fun s=>s.1.toNat) ?_ ?_ ?_
    ·exact⟨I2,I2s⟩
    ·simp [Ent,List.lookup]
    rintro⟨q,r⟩ ⟨k,hr⟩;simp only at k hr ⊢;have kq:=k.q0;have kq1:=k.q1;have kr:=k.r0;by_cases c1:q<4294967296
    ·have hp:=Wu q y0 kq (by omega) hy0b.1 hy0b.2;by_cases c2:4294967296*r+u0<q*y0
     ·obtain⟨k2,hq1⟩:=Zfn H2 k (.inr c2);by_cases c3:4294967296≤r+y1
      ·have hq:=Gr H2 k2 (by omega) c3;rw[hyy,← hD2]at hq;refine xx ?_;simp only[hq,W2,← hs,← hS];exact ZP hk
      ·refine xx ?_;exact⟨q-1,r+y1,⟨k2,by omega⟩,by omega,by simp [Ent,List.lookup],Za.refl _ _⟩
     ·have hq:=Zat H2 k (by omega);rw[hyy,← hD2]at hq;refine xx ?_;simp only[hq,W2,← hs,← hS];exact ZP hk
    ·obtain⟨k2,hq1⟩:=Zfn H2 k (.inl (by omega));by_cases c3:4294967296≤r+y1
     ·have hq:=Gr H2 k2 (by omega) c3;rw[hyy,← hD2]at hq;refine xx ?_;simp only[hq,W2,← hs,← hS];exact ZP hk
     ·refine xx ?_;exact⟨q-1,r+y1,⟨k2,by omega⟩,by omega,by simp [Ent,List.lookup],Za.refl _ _⟩
   ·refine xx ?_;exact⟨q-1,r+y1,⟨k2,by omega⟩,by omega,by simp [Ent,List.lookup],Za.refl _ _⟩
  ·have hq:=Zat H1 k (by omega);rw[hyy,← hD1]at hq;refine xx ?_;simp only[hq,W1];simp -dsimp -implicitDefEqProofs (disch:=first|with_reducible assumption|omega) [go_sem,hq,W1];clear k kq kq1 kr hq;refine Vk (γ:=Int×Int) (R1/y1,R1-R1/y1*y1) (fun s=>Kn R1 u0 y1 y0 s.1 s.2∧s.2<4294967296) (fun s=>[(18,.int .u64 s.1),(16,.int .u64 s.2),(2,.int .u64 y),(8,.int .u64 (64-n)),(9,.int .u64 y1),(10,.int .u64 y0),(14,.int .u64 u0),(15,.int .u64 D1),(17,.int .u64 R1)]) (fun s=>s.1.toNat) ?_ ?_ ?_
   ·exact⟨I2,I2s⟩
   ·simp [Ent,List.lookup]
   rintro⟨q,r⟩ ⟨k,hr⟩;simp only at k hr ⊢;have kq:=k.q0;have kq1:=k.q1;have kr:=k.r0;by_cases c1:q<4294967296
   ·have hp:=Wu q y0 kq (by omega) hy0b.1 hy0b.2;by_cases c2:4294967296*r+u0<q*y0
    ·obtain⟨k2,hq1⟩:=Zfn H2 k (.inr c2);by_cases c3:4294967296≤r+y1
     ·have hq:=Gr H2 k2 (by omega) c3;rw[hyy,← hD2]at hq;refine xx ?_;simp only[hq,W2,← hs,← hS];exact ZP hk
     ·refine xx ?_;exact⟨q-1,r+y1,⟨k2,by omega⟩,by omega,by simp [Ent,List.lookup],Za.refl _ _⟩
    ·have hq:=Zat H2 k (by omega);rw[hyy,← hD2]at hq;refine xx ?_;simp only[hq,W2,← hs,← hS];exact ZP hk
   ·obtain⟨k2,hq1⟩:=Zfn H2 k (.inl (by omega));by_cases c3:4294967296≤r+y1
    ·have hq:=Gr H2 k2 (by omega) c3;rw[hyy,← hD2]at hq;refine xx ?_;simp only[hq,W2,← hs,← hS];exact ZP hk
    ·refine xx ?_;exact⟨q-1,r+y1,⟨k2,by omega⟩,by omega,by simp [Ent,List.lookup],Za.refl _ _⟩
 ·obtain⟨k2,hq1⟩:=Zfn H1 k (.inl (by omega));by_cases c3:4294967296≤r+y1
  ·have hq:=Gr H1 k2 (by omega) c3;rw[hyy,← hD1]at hq;refine xx ?_;simp only[hq,W1];simp -dsimp -implicitDefEqProofs (disch:=first|with_reducible assumption|omega) [go_sem,hq,W1];clear k kq kq1 kr hq;refine Vk (γ:=Int×Int) (R1/y1,R1-R1/y1*y1) (fun s=>Kn R1 u0 y1 y0 s.1 s.2∧s.2<4294967296) (fun s=>[(18,.int .u64 s.1),(16,.int .u64 s.2),(2,.int .u64 y),(8,.int .u64 (64-n)),(9,.int .u64 y1),(10,.int .u64 y0),(14,.int .u64 u0),(15,.int .u64 D1),(17,.int .u64 R1)]) (fun s=>s.1.toNat) ?_ ?_ ?_
   ·exact⟨I2,I2s⟩
   ·simp [Ent,List.lookup]
   rintro⟨q,r⟩ ⟨k,hr⟩;simp only at k hr ⊢;have kq:=k.q0;have kq1:=k.q1;have kr:=k.r0;by_cases c1:q<4294967296
   ·have hp:=Wu q y0 kq (by omega) hy0b.1 hy0b.2;by_cases c2:4294967296*r+u0<q*y0
    ·obtain⟨k2,hq1⟩:=Zfn H2 k (.inr c2);by_cases c3:4294967296≤r+y1
     ·have hq:=Gr H2 k2 (by omega) c3;rw[hyy,← hD2]at hq;refine xx ?_;simp only[hq,W2,← hs,← hS];exact ZP hk
     ·refine xx ?_;exact⟨q-1,r+y1,⟨k2,by omega⟩,by omega,by simp [Ent,List.lookup],Za.refl _ _⟩
    ·have hq:=Zat H2 k (by omega);rw[hyy,← hD2]at hq;refine xx ?_;simp only[hq,W2,← hs,← hS];exact ZP hk
   ·obtain⟨k2,hq1⟩:=Zfn H2 k (.inl (by omega));by_cases c3:4294967296≤r+y1
    ·have hq:=Gr H2 k2 (by omega) c3;rw[hyy,← hD2]at hq;refine xx ?_;simp only[hq,W2,← hs,← hS];exact ZP hk
    ·refine xx ?_;exact⟨q-1,r+y1,⟨k2,by omega⟩,by omega,by simp [Ent,List.lookup],Za.refl _ _⟩
  ·refine xx ?_;exact⟨q-1,r+y1,⟨k2,by omega⟩,by omega,by simp [Ent,List.lookup],Za.refl _ _⟩
def dwE (a b c:Int):Int:=if c=0 then 20 else if a*b/c≤18446744073709551615 then 0 else 10
def dwN (a b c:Int):Int:=if dwE a b c=0 then a*b/c else 0
def uqQ (a b c:Int):Int:=if a*b%c=0 then a*b/c else a*b/c+1
def uqE (a b c:Int):Int:=if c=0 then 20 else if uqQ a b c≤18446744073709551615 then 0 else 10
def uqN (a b c:Int):Int:=if uqE a b c=0 then uqQ a b c else 0
theorem Yon {a b c:Int}(ha:0≤a)(hb:0≤b)(hc:0≤c):0≤dwN a b c∧dwN a b c≤18446744073709551615:=by
 have:=Int.ediv_nonneg (Int.mul_nonneg ha hb) hc;by_cases e:dwE a b c=0
 ·rw[dwN,if_pos e];unfold dwE at e;refine⟨this,Int.not_lt.1 fun c2=>?_⟩;split at e
  ·cases e
  ·rw[if_neg (by omega)]at e
   cases e
 ·rw[dwN,if_neg e];decide
theorem Yoi {a b c:Int}(ha:0≤a)(hb:0≤b)(hc:0≤c):0≤uqN a b c∧uqN a b c≤18446744073709551615:=by
 have:=Int.ediv_nonneg (Int.mul_nonneg ha hb) hc;have h2:0≤uqQ a b c:=by unfold uqQ;split<;>omega
 by_cases e:uqE a b c=0
 ·rw[uqN,if_pos e];unfold uqE at e;refine⟨h2,Int.not_lt.1 fun c2=>?_⟩;split at e
  ·cases e
  ·rw[if_neg (by omega)]at e
   cases e
 ·rw[uqN,if_neg e];decide
theorem Zjk (b c:Int)(hb:0≤b∧b≤18446744073709551615)(hc:1≤c∧c≤18446744073709551615)(hk:K (.tuple #[.int .u64 (b/c),.int .u64 (b%c)]) L h):Zb prog 377 [.int .u64 0,.int .u64 b,.int .u64 c] L h K:=by
 have h1:=Int.ediv_nonneg hb.1 (show 0≤c by omega);have h2:b/c≤b:=Int.ediv_le_self _ hb.1;have h3:=Int.emod_nonneg b (show c≠0 by omega);have h4:=Int.emod_lt_of_pos b (show 0<c by omega);refine ZR func377 rfl (rs:=[_,_]) rfl rfl ZW (by kernel_rfl) rfl rfl ?_;refine xx ?_;refine Ym (.tk 0 (.tk 1 (.tk 2 (.tk 3 (.tk 4 (.tk 5 (.tk 6 (.tk 7 (.fin))))))))) (by kernel_rfl) (by kernel_rfl) _ (Za.refl _ _) ?_;refine xx ?_;exact ZP hk
def rsN (a b c:Int):Int:=if dwE a b c=0 then a*b%c else 0
theorem Ygx {t x w:Int}(ht:0≤t)(hx:0≤x)(hxw:x≤w)(htm:t≤18446744073709551615)(hw:0<w):dwN t x w=t*x/w∧dwE t x w=0:=by
 have h1:t*x≤t*w:=Int.mul_le_mul_of_nonneg_left hxw ht;have h2:t*x/w≤t*w/w:=Int.ediv_le_ediv hw h1;rw[Int.mul_ediv_cancel _ (by omega)]at h2;have e:dwE t x w=0:=by rw[dwE,if_neg (by omega),if_pos (by omega)]
 exact⟨by rw[dwN,if_pos e],e⟩
theorem Zvk (a b c:Int)(ha:0≤a∧a<c)(hb:0≤b∧b≤18446744073709551615)(hc:c≤18446744073709551615)(hk:K (.tuple #[.int .u64 ((a*18446744073709551616+b)/c),.int .u64 ((a*18446744073709551616+b)%c)]) L h):Zb prog 377 [.int .u64 a,.int .u64 b,.int .u64 c] L h K:=by
 by_cases e:a=0
 ·subst e;simp only[Int.zero_mul,Int.zero_add]at hk;exact Zjk b c hb ⟨by omega,hc⟩ hk
 ·exact Zrl a b c ⟨by omega,ha.2⟩ hb hc hk
theorem Ynu (n c:Int)(hn:0≤n∧n/18446744073709551616≤18446744073709551615)(hc:1≤c∧c≤18446744073709551615)(hk:K (if n/c≤18446744073709551615 then .tuple #[.int .u64 (n/c),.int .u64 (n%c),.bool true] else .tuple #[.int .u64 0,.int .u64 0,.bool false]) L h) :
  Zb prog 374 [.agg #[.int .u64 (n/18446744073709551616),.int .u64 (n%18446744073709551616)],.int .u64 c] L h K:=by
 have e0:n/18446744073709551616*18446744073709551616+n%18446744073709551616=n:=by omega
 refine ZR func374 rfl (rs:=[_,_,_]) rfl rfl ZW (by kernel_rfl) rfl rfl ?_;refine xx ?_;refine Z0 fun b2 nb2 zb2=>?_;(try simp only[ZU]at nb2);refine xx ?_;by_cases c1:c≤n/18446744073709551616
 ·have:¬n/c≤18446744073709551615:=fun x=>by
   have h1:18446744073709551616≤n/c:=Int.le_ediv_of_mul_le (by omega) (by omega);omega
  rw[if_neg this]at hk;refine xx ?_;exact ZO (ZP hk)
 ·have:n/c<18446744073709551616:=Int.ediv_lt_of_lt_mul (by omega) (by omega);rw[if_pos (by omega)]at hk;refine xx ?_;refine Zvk _ _ c ⟨by omega,by omega⟩ (by omega) hc.2 ?_;rw[e0];refine xx ?_;exact ZO (ZP hk)
theorem Zrq (a b c:Int)(ha:0≤a∧a≤18446744073709551615)(hb:0≤b∧b≤18446744073709551615)(hc:0≤c∧c≤18446744073709551615)(hk:K (.tuple #[.int .u64 (dwN a b c),.int .u64 (rsN a b c),.int .i64 (dwE a b c)]) L h) :
  Zb prog 366 [.agg #[.int .u64 (a*b/18446744073709551616),.int .u64 (a*b%18446744073709551616),.int .u64 c]] L h K:=by
 have hi:=Zmi a b ha.1 ha.2 hb.1 hb.2;refine ZR func366 rfl (rs:=[_,_,_]) rfl rfl ZW (by kernel_rfl) rfl rfl ?_;refine xx ?_;refine Z0 fun b1 nb1 zb1=>?_;(try simp only[ZU]at nb1);refine xx ?_;by_cases c0:c=0
 ·have e:dwE a b c=20:=by rw[dwE,if_pos c0]
  rw[dwN,rsN,e]at hk;refine xx ?_;exact ZO (ZP hk)
 ·refine xx ?_;refine Ynu (a*b) c ⟨Int.mul_nonneg ha.1 hb.1,by omega⟩ ⟨by omega,hc.2⟩ ?_;by_cases c1:a*b/c≤18446744073709551615
  ·have e:dwE a b c=0:=by rw[dwE,if_neg c0,if_pos c1]
   rw[dwN,rsN,e,if_pos rfl,if_pos rfl]at hk;rw[if_pos c1];refine xx ?_;exact ZO (ZP hk)
  ·have e:dwE a b c=10:=by rw[dwE,if_neg c0,if_neg c1]
   rw[dwN,rsN,e]at hk;rw[if_neg c1];refine xx ?_;exact ZO (ZP hk)
theorem Zgx (a b c:Int)(ha:0≤a∧a≤18446744073709551615)(hb:0≤b∧b≤18446744073709551615)(hc:0≤c∧c≤18446744073709551615)(hk:K (.tuple #[.int .u64 (dwN a b c),.int .u64 (rsN a b c),.int .i64 (dwE a b c)]) L h) :
  Zb prog 336 [.int .u64 a,.int .u64 b,.int .u64 c] L h K:=by
 refine ZR func336 rfl (rs:=[_,_,_]) rfl rfl ZW (by kernel_rfl) rfl rfl ?_;refine xx ?_;refine Zau a b ha.1 ha.2 hb.1 hb.2 ?_;refine xx ?_;refine Zrq a b c ha hb hc ?_;refine xx ?_;exact ZP hk
theorem GJ (a b c:Int)(ha:0≤a∧a≤18446744073709551615)(hb:0≤b∧b≤18446744073709551615)(hc:0≤c∧c≤18446744073709551615)(hk:K (.tuple #[.int .u64 (dwN a b c),.int .i64 (dwE a b c)]) L h) :
  Zb prog 331 [.int .u64 a,.int .u64 b,.int .u64 c] L h K:=by
 refine ZR func331 rfl (rs:=[_,_]) rfl rfl ZW (by kernel_rfl) rfl rfl ?_;refine xx ?_;refine Zgx a b c ha hb hc ?_;refine xx ?_;exact ZP hk
theorem Ycw (a b c:Int)(ha:0≤a∧a≤18446744073709551615)(hb:0≤b∧b≤18446744073709551615)(hc:0≤c∧c≤18446744073709551615)(hk:K (.tuple #[.int .u64 (uqN a b c),.int .i64 (uqE a b c)]) L h) :
  Zb prog 261 [.int .u64 a,.int .u64 b,.int .u64 c] L h K:=by
 refine ZR func261 rfl (rs:=[_,_]) rfl rfl ZW (by kernel_rfl) rfl rfl ?_;refine xx ?_;refine Zgx a b c ha hb hc ?_;by_cases c0:c=0
 ·have e:dwE a b c=20:=by rw[dwE,if_pos c0]
  have e2:uqE a b c=20:=by rw[uqE,if_pos c0]
  rw[uqN,e2]at hk;rw[dwN,rsN,e];refine xx ?_;exact ZP hk
 ·have hq:=Int.ediv_nonneg (Int.mul_nonneg ha.1 hb.1) hc.1;by_cases c1:a*b/c≤18446744073709551615
  ·have e:dwE a b c=0:=by rw[dwE,if_neg c0,if_pos c1]
   rw[dwN,rsN,e,if_pos rfl,if_pos rfl];by_cases c2:a*b%c=0
   ·have q:uqQ a b c=a*b/c:=by rw[uqQ,if_pos c2]
    have e2:uqE a b c=0:=by rw[uqE,if_neg c0,q,if_pos c1]
    rw[uqN,e2,if_pos rfl,q]at hk;refine xx ?_;exact ZP hk
   ·have q:uqQ a b c=a*b/c+1:=by rw[uqQ,if_neg c2]
    by_cases c3:a*b/c=18446744073709551615
    ·have e2:uqE a b c=10:=by rw[uqE,if_neg c0,q,if_neg (by omega)]
     rw[uqN,e2]at hk;refine xx ?_;exact ZP hk
    ·have e2:uqE a b c=0:=by rw[uqE,if_neg c0,q,if_pos (by omega)]
     rw[uqN,e2,if_pos rfl,q]at hk;refine xx ?_;exact ZP hk
  ·have e:dwE a b c=10:=by rw[dwE,if_neg c0,if_neg c1]
   have e2:uqE a b c=10:=by
    rw[uqE,if_neg c0,if_neg];unfold uqQ;split<;>omega
   rw[uqN,e2]at hk;rw[dwN,rsN,e];refine xx ?_;exact ZP hk
def Zhw (ws:List Int):Int:=if ws.length≤256 then (if tot ws≤18446744073709551615 then 0 else 40) else 40
def Ydh (ws:List Int):Int:=if Zhw ws=0 then tot ws else 0
theorem Zjw {ws:List Int}(v:Value)(hw:Ints h .u64 v ws)(hk:K (.tuple #[.int .u64 (Ydh ws),.int .i64 (Zhw ws)]) L h):Zb prog 352 [v] L h K:=by
 have hw0:=hw;obtain⟨a,c,rfl,_⟩:=hw.open;refine ZR func352 rfl (rs:=[_,_]) rfl rfl ZW (by kernel_rfl) rfl rfl ?_;refine xx ?_;by_cases c1:256<ws.length
 ·have e:Zhw ws=40:=by rw[Zhw,if_neg (by omega)]
  rw[Ydh,e]at hk;refine xx ?_;exact ZP hk
 ·refine xx ?_;refine Ws _ hw0 ?_;by_cases c2:tot ws≤18446744073709551615
  ·have e:Zhw ws=0:=by rw[Zhw,if_pos (by omega),if_pos c2]
   rw[Ydh,e,if_pos rfl]at hk;rw[YC c2];refine xx ?_;exact ZP hk
  ·have e:Zhw ws=40:=by rw[Zhw,if_pos (by omega),if_neg c2]
   rw[Ydh,e]at hk;rw[Wh c2];refine xx ?_;exact ZP hk
theorem Zto {xs:List Int}(h0:∀i,0≤at0 xs i)(i:Nat):∀k,i<k→at0 xs i≤YF xs k
 | k+1,hk=>by
  rw[YF];have:=h0 k;by_cases c:k=i
  ·subst c;have:=Vg h0 k;omega
  ·have:=Zto h0 i k (by omega);omega
theorem Yk {xs:List Int}(h0:∀i,0≤at0 xs i)(i:Nat):at0 xs i≤tot xs:=by
 by_cases c:i<xs.length
 ·exact Zto h0 i _ c
 ·rw[Ua (by omega)];exact Vg h0 _
theorem Yhn {xs:List Int}(h0:∀i,0≤at0 xs i){x:Int}(hx:x∈xs):x≤tot xs:=by
 obtain⟨i,hi,rfl⟩:=List.mem_iff_getElem.1 hx;rw[Yh hi];exact Yk h0 i
def V9 (t w:Int)(x:Int):Int:=if 0<w then t*x/w else 0
theorem Zpm {ws:List Int}(t w:Int)(ht:0≤t∧t≤18446744073709551615)(hw:0≤w∧w≤18446744073709551615)(hsm:∀x∈ws,x≤w)(wv:Value)(b5 b4 b3 l:Nat)(n54:b5≠b4)(n53:b5≠b3)(n43:b4≠b3)
  (Inv:Nat→Own→PH→Prop) (hws:Ints h .u64 wv ws)
  (hY:∀j LL h1,j<ws.length→Inv j LL h1→PH.le h h1→YSpec prog l [.int .i64 j,.int .u64 (V9 t w (at0 ws j))] (LL++[⟨b5,25,[wv],1⟩,⟨b4,22,[.int .u64 w],1⟩,⟨b3,22,[.int .u64 t],1⟩]) h1 fun v L' h'=>v = .bool true∧PH.le h1 h'∧∃L2,L'=L2++[⟨b5,25,[wv],1⟩,⟨b4,22,[.int .u64 w],1⟩,⟨b3,22,[.int .u64 t],1⟩]∧Inv (j+1) L2 h')
  {LL:Own} (h0:Inv 0 LL h) (hk:∀L2 h',PH.le h h'→Inv ws.length L2 h'→K (.tuple #[]) L2 h') :
  Zb prog 368 [.func (.yield l) #[] #[],.pointer (some ⟨b5,0,none⟩),.pointer (some ⟨b4,0,none⟩),.pointer (some ⟨b3,0,none⟩)] (⟨b5,25,[wv],1⟩::⟨b4,22,[.int .u64 w],1⟩::⟨b3,22,[.int .u64 t],1⟩::LL) h K:=by
 have hwd:=hws.word;have hws0:=hws;obtain⟨wa,wc,rfl,_,hwl,_,hcs0⟩:=hws.open;refine Z5 func368 rfl (rs:=[]) rfl rfl ZW (by kernel_rfl) rfl rfl fun ap nd=>?_;simp only[Ap]at ap;obtain⟨a5,a4,a3,_⟩:=ap;refine xx ?_;refine YJ (γ:=Nat×Own×PH) (0,LL,h) (fun q=>q.1≤ws.length∧Inv q.1 q.2.1 q.2.2∧PH.le h q.2.2∧q.2.2 b5=noC∧q.2.2 b4=noC∧q.2.2 b3=noC)
  (fun q=>[(10,.int .i64 q.1),(9,.int .i64 ws.length),(8,.slice wa ws.length wc),(0,.func (.yield l) #[] #[]),(2,.pointer (some ⟨b4,0,none⟩)),(3,.pointer (some ⟨b3,0,none⟩))])
  (fun q=>⟨b5,25,[.slice wa ws.length wc],1⟩::⟨b4,22,[.int .u64 w],1⟩::⟨b3,22,[.int .u64 t],1⟩::q.2.1) (fun q=>q.2.2) (fun q=>ws.length-q.1) ?_ ?_ ?_ ?_
 ·exact⟨Nat.zero_le _,h0,PH.le_refl h,a5,a4,a3⟩
 ·simp [Ent,List.lookup,Wv]
 ·exact Za.refl _ _
 rintro⟨k,LL,h1⟩ ⟨i1,i2,i3,i4,i5,i6⟩;simp only at i1 i2 i3 i4 i5 i6 ⊢;by_cases c1:k<ws.length
 ·have hcs:∀j,j<ws.length→Yd h1 wa j=some (Value.int IntKind.u64 (at0 ws j)):=fun j hj=>Wb i3 (hcs0 j hj);have hxw:=hwd k;have hmem:at0 ws k∈ws:=by rw[← Yh c1];exact List.getElem_mem c1
  have go:∀(Q:PK),(∀L2 h2,PH.le h1 h2→Inv (k+1) L2 h2→(h2 b5=noC∧h2 b4=noC∧h2 b3=noC)→Q (.bool true) (L2++[⟨b5,25,[.slice wa ws.length wc],1⟩,⟨b4,22,[.int .u64 w],1⟩,⟨b3,22,[.int .u64 t],1⟩]) h2) →
    YSpec prog l [.int .i64 k,.int .u64 (V9 t w (at0 ws k))] (⟨b5,25,[.slice wa ws.length wc],1⟩::⟨b4,22,[.int .u64 w],1⟩::⟨b3,22,[.int .u64 t],1⟩::LL) h1 Q:=fun Q hQ=>by
   refine YSpec.weaken (Za.perm _ (List.perm_append_comm (l₁:=[_,_,_]) (l₂:=LL))) (YSpec.apn (YSpec.mono (hY k LL h1 c1 i2 i3) ?_));rintro v L' h2 ⟨rfl,le2,L2,rfl,i7⟩ ap nd;have ap2:=(Ap.app ap).2;simp only[Ap]at ap2;exact hQ L2 h2 le2 i7 ⟨ap2.1,ap2.2.1,ap2.2.2.1⟩
  by_cases c2:0<w
  ·have ep:V9 t w (at0 ws k)=t*at0 ws k/w:=by rw[V9,if_pos c2]
   rw[ep]at go;simp -dsimp -implicitDefEqProofs (disch:=first|with_reducible assumption|omega) [go_sem,idx hcs];refine GJ t (at0 ws k) w ht hxw ⟨by omega,hw.2⟩ ?_;obtain⟨z1,z2⟩:=Ygx ht.1 hxw.1 (hsm _ hmem) ht.2 c2;rw[z1,z2];refine xx ?_;refine go _ fun L2 h2 le2 i7 ⟨u5,u4,u3⟩=>?_;refine xx ?_;exact⟨k+1,L2,h2,⟨by omega,i7,i3.trans le2,u5,u4,u3⟩,by omega,by simp [Ent,List.lookup],Za.perm _ Zhj⟩
  ·have ep:V9 t w (at0 ws k)=0:=by rw[V9,if_neg c2]
   rw[ep]at go;simp -dsimp -implicitDefEqProofs (disch:=first|with_reducible assumption|omega) [go_sem,idx hcs];refine go _ fun L2 h2 le2 i7 ⟨u5,u4,u3⟩=>?_;refine xx ?_;exact⟨k+1,L2,h2,⟨by omega,i7,i3.trans le2,u5,u4,u3⟩,by omega,by simp [Ent,List.lookup],Za.perm _ Zhj⟩
 ·have hkl:k=ws.length:=by omega
  subst hkl;refine xx ?_;exact ZO (ZO (ZO (ZP (hk LL h1 i3 i2))))
theorem Ziz (t w:Int)(wa:Option Addr)(wn wc:Nat)(hk:∀b3 b4 b5,ZU b3 L→h b3=noC→b3≠b4→ZU b4 L→h b4=noC→b4≠b5→b3≠b5→ZU b5 L→h b5=noC →
      K (.func (.func 368) #[] #[.pointer (some ⟨b5,0,none⟩),.pointer (some ⟨b4,0,none⟩),.pointer (some ⟨b3,0,none⟩)]) (⟨b5,25,[.slice wa wn wc],1⟩::⟨b4,22,[.int .u64 w],1⟩::⟨b3,22,[.int .u64 t],1⟩::L) h) :
    Zb prog 353 [.int .u64 t,.int .u64 w,.slice wa wn wc] L h K:=by
  refine ZR func353 rfl (rs:=[_]) rfl rfl ZW (by kernel_rfl) rfl rfl ?_;refine xx ?_;refine Z0 fun b3 nb3 zb3=>?_;(try simp only[ZU]at nb3);refine xx ?_;refine Z0 fun b4 nb4 zb4=>?_;(try simp only[ZU]at nb4);refine xx ?_;refine Z0 fun b5 nb5 zb5=>?_;(try simp only[ZU]at nb5);refine xx ?_;exact ZP (hk b3 b4 b5 nb3 zb3 nb4.1 nb4.2 zb4 nb5.1 nb5.2.1 nb5.2.2 zb5)
def YG (t w:Int)(ws:List Int):List Int:=ws.map (V9 t w)
theorem Zmu {t w x:Int}(ht:0≤t)(hx:0≤x):0≤V9 t w x∧V9 t w x*w≤t*x∨¬ 0≤w:=by
 by_cases c:0≤w
 ·left
  unfold V9;split
  ·have h1:=Int.mul_nonneg ht hx;refine⟨Int.ediv_nonneg h1 c,?_⟩;rw[Int.mul_comm];exact Int.mul_ediv_self_le (by omega)
  ·have h1:=Int.mul_nonneg ht hx;exact⟨Int.le_refl _,by simpa using h1⟩
 ·exact .inr c
theorem GA (f:Int→Int)(ws:List Int){i:Nat}(hi:i<ws.length):at0 (ws.map f) i=f (at0 ws i):=by
 rw[← Yh (by simpa using hi),← Yh hi];simp
theorem Zho {t w:Int}{ws:List Int}(ht:0≤t)(hw:0≤w)(h0:∀i,0≤at0 ws i):∀k,k≤ws.length→0≤YF (YG t w ws) k∧YF (YG t w ws) k*w≤t*YF ws k
 | 0,_=>⟨by simp [YF],by simp [YF]⟩
 | k+1,hk=>by
  obtain⟨h1,h2⟩:=Zho ht hw h0 k (by omega);rcases Zmu (w:=w) ht (h0 k) with⟨h3,h4⟩ | h3
  ·simp only[YF,YG,GA _ ws (show k<ws.length by omega)]at h1 h2 ⊢;rw[Int.add_mul,Int.mul_add];exact⟨by omega,by omega⟩
  ·exact absurd hw h3
theorem Znk {t:Int}{ws:List Int}(ht:0≤t)(h0:∀i,0≤at0 ws i){k:Nat}(hk:k≤ws.length):0≤YF (YG t (tot ws) ws) k∧YF (YG t (tot ws) ws) k≤t:=by
 have hw:=Yy h0;obtain⟨h1,h2⟩:=Zho ht hw h0 k hk;refine⟨h1,?_⟩;by_cases c:0<tot ws
 ·have h3:=Jt h0 hk;have h4:t*YF ws k≤t*tot ws:=Int.mul_le_mul_of_nonneg_left h3 ht;have h5:YF (YG t (tot ws) ws) k*tot ws≤t*tot ws:=Int.le_trans h2 h4;exact Int.le_of_mul_le_mul_right h5 c
 ·have hz:∀k,k≤ws.length→YF (YG t (tot ws) ws) k=0:=by
   intro k
   induction k with
   | zero=>intro _;simp [YF]
   | succ k ih =>
    intro hk;have:=ih (by omega);simp only[YF,YG,GA _ ws (show k<ws.length by omega)]at this ⊢;rw[this,V9,if_neg c];rfl
  rw[hz k hk];exact ht
def spC (t:Int)(ws:List Int)(k:Nat):List Value:=((YG t (tot ws) ws).take k).map (.int .u64)
theorem Ygr {t:Int}{ws:List Int}{k:Nat}(hk:k≤ws.length):(spC t ws k).length=k*1:=by simp [spC,YG,hk]
theorem Yam {t:Int}{ws:List Int}{k:Nat}(hk:k<ws.length):spC t ws (k+1)=spC t ws k++[.int .u64 (V9 t (tot ws) (at0 ws k))]:=by
 have hk':k<(YG t (tot ws) ws).length:=by simpa [YG] using hk
 rw[spC,List.take_succ_eq_append_getElem hk',spC,List.map_append];have:(YG t (tot ws) ws)[k]=V9 t (tot ws) (at0 ws k):=by simp [YG,Yh hk]
 rw[this];rfl
theorem Ztb {ws:List Int}(t:Int)(ht:0≤t∧t≤18446744073709551615)(wv:Value)(hws:Ints h .u64 wv ws)
  (hk1:Zhw ws≠0→K (.tuple #[.slice none 0 0,.int .u64 0,.int .i64 (Zhw ws)]) L h)
  (hk2:Zhw ws=0→∀o,okO o ws.length→apO o L h→K (.tuple #[ovs o ws.length,.int .u64 (t-tot (YG t (tot ws) ws)),.int .i64 0]) (oent 22 1 o ((YG t (tot ws) ws).map (.int .u64)) L) h) :
  Zb prog 297 [.int .u64 t,wv] L h K:=by
 have hws0:=hws;have hwd:=hws.word;obtain⟨wa,wc,rfl,_,hwl,_,hcs0⟩:=hws.open;refine ZR func297 rfl (rs:=[_,_,_]) rfl rfl ZW (by kernel_rfl) (by kernel_rfl) rfl ?_;refine xx ?_;refine Z0 fun b1 nb1 zb1=>?_;(try simp only[ZU]at nb1);refine xx ?_;refine Z0 fun b2 nb2 zb2=>?_;(try simp only[ZU]at nb2);refine xx ?_;refine Zjw _ hws0 ?_;by_cases c0:Zhw ws=0
 ·have h2:=hk2 c0;have hN:Ydh ws=tot ws:=by rw[Ydh,if_pos c0]
  have hlen:ws.length≤256:=by
   unfold Zhw at c0;split at c0
   ·assumption
   ·cases c0
  have htot:tot ws≤18446744073709551615:=by
   unfold Zhw at c0;rw[if_pos hlen]at c0;split at c0
   ·assumption
   ·cases c0
  have ht0:=Yy fun i=>(hwd i).1;rw[c0,hN];refine xx ?_;refine Ziz t (tot ws) wa ws.length wc fun b3 b4 b5 x1 x2 x3 x4 x5 x6 x7 x8 x9=>?_;refine xx ?_;refine Yco ⟨f368,func368,by decide +kernel,rfl⟩ fun l D fn tmps he hp ha hb nl hl=>?_;have hsl:∀k,k≤ws.length→0≤YF (YG t (tot ws) ws) k∧YF (YG t (tot ws) ws) k≤t:=fun k hk=>Znk ht.1 (fun i=>(hwd i).1) hk;simp only[ZU]at nl
  generalize hR:V8 fn tmps _ _ _ D .ready none=R
  refine Zb.weaken (Za.perm _ (List.perm_middle (l₁:=[_,_,_]) (l₂:=_::_::L) (a:=Zbk l R)).symm) ?_;refine Zpm t (tot ws) ht ⟨ht0,htot⟩ (fun x hx=>Yhn (fun i=>(hwd i).1) hx) (.slice wa ws.length wc) b5 b4 b3 l (fun e=>x6 e.symm) (fun e=>x7 e.symm) (fun e=>x3 e.symm)
   (fun j LL h1=>h1=h∧∃o,okO o j∧apO o L h∧LL=Zbk l R::⟨b2,22,[.int .u64 (t-YF (YG t (tot ws) ws) j)],1⟩::⟨b1,25,[ovs o j],1⟩::oent 22 1 o (spC t ws j) L) hws0 ?_ ⟨rfl,none,rfl,trivial,by rw[show YF (YG t (tot ws) ws) 0=0 from rfl,Int.sub_zero];rfl⟩ ?_
  ·rintro j LL h1 hj ⟨rfl,o,ho,ao,rfl⟩ le1;have hs1:=hsl j (by omega);have hs2:=hsl (j+1) (by omega);have hp1:0≤V9 t (tot ws) (at0 ws j):=by
    rcases Zmu (w:=tot ws) ht.1 (hwd j).1 with⟨g,_⟩ | g
    ·exact g
    ·exact absurd ht0 g
   have hss:YF (YG t (tot ws) ws) (j+1)=YF (YG t (tot ws) ws) j+V9 t (tot ws) (at0 ws j):=by
    rw[YF,YG,GA _ ws hj]
   simp only[List.cons_append,Zkv];subst hR;refine Ysf ZW he hp ha hb rfl rfl rfl ?_;refine xx ?_;refine Z0 fun b6 nb6 zb6=>?_;(try simp only[ZU]at nb6);refine xx ?_;refine Z2 (t:=25) (e:=22) (sz:=1) (bytes:=8) (z:=[.int .u64 0]) (by kernel_rfl) Ux rfl rfl rfl rfl (by decide) [_,_,_] _ o j _ ho (by rw[Ygr (by omega)]) (Src.own List.mem_cons_self) (m:=1) (news:=[.int .u64 (V9 t (tot ws) (at0 ws j))]) rfl (fun u hu=>by simp at hu;subst hu;rfl) (by simp [maxLen];omega) (by omega) ?_;intro o' j1 j2 j3;rw[← Yam hj];refine xx ?_;refine VJ (Za.tail _ _ _) ?_;refine⟨rfl,PH.le_refl _,_,?_,rfl,o',j1,?_,rfl⟩
   ·simp only[List.cons_append,Zkv,hss,Int.sub_sub]
   ·exact Yaf (ZY (ZY (ZY j2)))
  ·rintro L2 h' le ⟨rfl,o,ho,ao,rfl⟩;obtain⟨x,y,e,hxy⟩:=Z8 ho;have e2:spC t ws ws.length=(YG t (tot ws) ws).map (.int .u64):=by rw[spC,List.take_of_length_le (by simp [YG])]
   have e3:YF (YG t (tot ws) ws) ws.length=tot (YG t (tot ws) ws):=by rw[show tot (YG t (tot ws) ws)=YF (YG t (tot ws) ws) (YG t (tot ws) ws).length from rfl,show (YG t (tot ws) ws).length=ws.length by simp [YG]]
   have h3:=h2 o ho ao;rw[e]at h3 ⊢;rw[e2,e3];subst hR;refine⟨.ready,none,_,rfl,by decide,?_⟩;refine xx ?_;refine Ym (.tkl 0 (.o1 1 (.o2 2 (.o2 3 (.tk 4 (.fin)) (.nil)) (.nil)) (.o2 2 (.o1 1 (.o2 3 (.tk 4 (.fin)) (.nil)) (.nil)) (.nil)))) (by kernel_rfl) (by kernel_rfl) _ (Za.refl _ _) ?_;refine xx ?_;refine Yf ?_ ?_
   ·refine xx ?_;exact ZO (ZO (ZP h3))
   ·refine xx ?_;exact ZO (ZO (ZP h3))
 ·have h1:=hk1 c0;have hN:Ydh ws=0:=by rw[Ydh,if_neg c0]
  rw[hN];refine xx ?_;exact ZO (ZO (ZP h1))
theorem Zzb (xs:List Int){i:Nat}(v:Int)(hi:i<xs.length):at0 (xs.set i v) i=v:=by rw[Wy _ _ _ _ hi,if_pos rfl]
theorem Zvx (xs:List Int){i j:Nat}(v:Int)(hij:j≠i):at0 (xs.set i v) j=at0 xs j:=by
 by_cases hi:i<xs.length
 ·rw[Wy _ _ _ _ hi,if_neg (fun e=>hij e)]
 ·rw[List.set_eq_of_length_le (by omega)]
theorem G1 {xs:List Int}{i:Nat}{v:Int}:∀k,k≤i→YF (xs.set i v) k=YF xs k
 | 0,_=>rfl
 | k+1,hk=>by rw[YF,YF,G1 k (by omega),Zvx xs v (show k≠i by omega)]
theorem Zay {xs:List Int}{i:Nat}{v:Int}(hi:i<xs.length):∀k,i<k→YF (xs.set i v) k=YF xs k+(v-at0 xs i)
 | k+1,hk=>by
  rw[YF,YF];by_cases c:k=i
  ·subst c;rw[G1 k (Nat.le_refl _),Zzb xs v hi];omega
  ·rw[Zay hi k (by omega),Zvx xs v (by omega:k≠i)];omega
theorem Jj {xs:List Int}{i:Nat}{v:Int}(hi:i<xs.length):tot (xs.set i v)=tot xs+(v-at0 xs i):=by
 rw[tot,List.length_set,Zay hi _ hi];rfl
structure Yyp (t:Int)(ws xs:List Int)(r:Int):Prop where
 len:xs.length=ws.length
 pos:∀i,0≤at0 xs i
 sum:tot xs+r=t
 left:0≤r
theorem Yyp.at {t r:Int}{ws xs:List Int}(o:Yyp t ws xs r)(i:Nat):0≤at0 xs i∧at0 xs i+r≤t:=by
 have h1:=Yk o.pos i;have h2:=o.sum;exact⟨o.pos i,by omega⟩
theorem Zwi {xs:List Int}(v:Value)(hx:Ints h .u64 v xs)(i:Nat)(hi:i<xs.length)(hk:K (.bool true) L h):Zb prog 369 [v,.int .i64 i] L h K:=by
 obtain⟨a,c,rfl,_,hl,_⟩:=hx.open;refine ZR func369 rfl (rs:=[_]) rfl rfl ZW (by kernel_rfl) rfl rfl ?_;refine xx ?_;exact ZP hk
theorem Yhb {xs:List Int}(v:Value)(hx:Ints h .u64 v xs)(i:Nat)(hi:i<xs.length)(hk:K (.tuple #[.int .u64 (at0 xs i),.int .i64 0]) L h):Zb prog 354 [v,.int .i64 i] L h K:=by
 have hx0:=hx;obtain⟨a,c,rfl,_,hl,_,hcs⟩:=hx.open;refine ZR func354 rfl (rs:=[_,_]) rfl rfl ZW (by kernel_rfl) rfl rfl ?_;refine xx ?_;refine Zwi _ hx0 i hi ?_;simp -dsimp -implicitDefEqProofs (disch:=first|with_reducible assumption|omega) [go_sem,idx hcs];exact ZP hk
theorem Zwj {xs:List Int}(v:Value)(hx:Ints h .u64 v xs)(hl:xs.length≤1000)(i:Nat)(hi:i<xs.length)(n:Int)(hn:0≤n∧n≤18446744073709551615)(hk:∀h' r,PH.le h h'→Ints h' .u64 r (xs.set i n)→K r L h'):Zb prog 355 [v,.int .i64 i,.int .u64 n] L h K:=by
 have hx0:=hx;have hxw:=hx.word;obtain⟨a,c,rfl,_,hl2,_,hcs⟩:=hx.open;refine ZR func355 rfl (rs:=[_]) rfl rfl ZW (by kernel_rfl) rfl rfl ?_;refine xx ?_;refine GK (e:=22) (z:=.int .u64 0) (by kernel_rfl) Ux rfl rfl .i64 .i64 _ (by omega) (by simp;omega) (by omega) ?_;simp only[Int.toNat_natCast];refine Z0 fun b1 nb1 zb1=>?_;(try simp only[ZU]at nb1);refine xx ?_;refine Ygm (e:=22) (sz:=1) (by kernel_rfl) Ux rfl (Src.known hx0.1) (by simp) (Nat.le_refl _) ?_;have hw:wr (List.replicate xs.length (Value.int .u64 0)) 0 (xs.map (Value.int .u64))=xs.map (Value.int .u64):=by
  rw[Jw _ _ _ (by simp)];simp
 simp -dsimp -implicitDefEqProofs (disch:=first|with_reducible assumption|omega) [go_sem,hw,W8];refine⟨by omega,?_⟩;rw[← List.map_set]
 have:=YT (K:=K) (L:=L) (v:=.slice (some ⟨b1,0,none⟩) xs.length xs.length) (e:=22) (sz:=1) (o:=some (b1,xs.length)) (n:=xs.length) (xs:=(xs.set i n).map (.int .u64)) (h:=h) (L0:=L) ⟨Nat.le_refl _,by simp [maxLen];omega⟩ (by simp) (by omega) ⟨nb1,zb1⟩ fun h' le sl=>ZP (hk h' _ le ⟨by rw[List.length_set];exact sl,fun z hz=>by
  rw[show IntKind.u64.min=0 by decide,show IntKind.u64.max=18446744073709551615 by decide];rcases List.mem_or_eq_of_mem_set hz with hz|rfl
  ·have:=hx0.2 z hz
   rwa [show IntKind.u64.min=0 by decide,show IntKind.u64.max=18446744073709551615 by decide]at this
  ·exact hn⟩)
 simpa only[oent,Nat.mul_one] using this
theorem Yhp {xs:List Int}(v:Value)(hx:Ints h .u64 v xs)(hl:xs.length≤1000)(i:Nat)(hi:i<xs.length)(n:Int)(hn:0≤n)(hs:at0 xs i+n≤4611686018427387904)(hk:∀h' r,PH.le h h'→Ints h' .u64 r (xs.set i (at0 xs i+n))→K (.tuple #[r,.int .i64 0]) L h'):Zb prog 303 [v,.int .i64 i,.int .u64 n] L h K:=by
 have hx0:=hx;have hw:=hx.word i;obtain⟨a,c,rfl,_,hl2,_⟩:=hx.open;refine ZR func303 rfl (rs:=[_,_]) rfl rfl ZW (by kernel_rfl) rfl rfl ?_;refine xx ?_;refine Yhb _ hx0 i hi ?_;refine xx ?_;refine WD (at0 xs i) n hw (by omega) ?_;rw[YC (by omega)];refine xx ?_;refine Zwj _ hx0 hl i hi _ (by omega) fun h1 r le i1=>?_;obtain⟨ra,rc,rfl,_⟩:=i1.open;have h2:=hk h1 _ le i1;rw[List.length_set]at h2;refine xx ?_;exact ZP h2
theorem Zpy (p:Zd)(ok:Zh p)(hr:Yb p=true)(b:Int)(hb:0≤b∧b≤18446744073709551615)(hk:K (.tuple #[.int .u64 (min b p.cap),.int .u64 (b-min b p.cap)]) L h):Zb prog 212 [W5 p,.int .u64 b] L h K:=by
 have hc:=ok.w p.cap (by simp [YA]);refine ZR func212 rfl (rs:=[_,_]) rfl rfl ZW (by kernel_rfl) rfl rfl ?_;refine xx ?_;refine Z0 fun b1 nb1 zb1=>?_;(try simp only[ZU]at nb1);refine xx ?_;refine UP p ok ?_;rw[hr];refine xx ?_;refine Z0 fun b2 nb2 zb2=>?_;(try simp only[ZU]at nb2);refine xx ?_;have take:∀ {K':PK} {L':Own},K' (.tuple #[.int .u64 (min b p.cap),.int .u64 (b-min b p.cap)]) L' h→Zb prog 301 [.int .u64 b,.int .u64 p.cap] L' h K':=fun {K' L'} hK=>by
  refine ZR func301 rfl (rs:=[_,_]) rfl rfl ZW (by kernel_rfl) rfl rfl ?_;refine xx ?_;exact ZP hK
 refine take ?_;refine xx ?_;exact ZO (ZO (ZP hk))
theorem Zgv (p:Zd)(ok:Zh p)(hr:Yb p=true)(e b:Int)(he:0≤e∧e≤18446744073709551615)(hb:0≤b∧b≤18446744073709551615)(hk:K (.int .u64 (VB p e b)) L h):Zb prog 155 [W5 p,.int .u64 e,.int .u64 b] L h K:=by
 refine ZR func155 rfl (rs:=[_]) rfl rfl ZW (by kernel_rfl) rfl rfl ?_;refine xx ?_;refine Z0 fun b1 nb1 zb1=>?_;(try simp only[ZU]at nb1);refine xx ?_;refine UP p ok ?_;rw[hr];refine xx ?_;refine Z0 fun b2 nb2 zb2=>?_;(try simp only[ZU]at nb2);refine xx ?_;refine Zlb p ok (Jf hr) e b he hb ?_;refine xx ?_;exact ZO (ZO (ZP hk))
theorem Yma {l:List Zc}{k:Nat}(hk:k<l.length){i:Nat}(hi:i<6){u:Value}{a a':Zc}(ha:YE a'=(YE a).set i u):((l.set k a).flatMap YE).set (k*6+i) u=(l.set k a').flatMap YE:=by
 rw[Wd Z9 ZT (l.set k a) (by rw[List.length_set];exact hk) hi (a':=a') (by rw[Yc (by rw[List.length_set];exact hk),List.getElem_set_self];exact ha),List.set_set]
theorem fset4 {l:List Zc}{k:Nat}(hk:k<l.length)(a b:Zc)(ho:b.owner=a.owner)(hs:b.status=a.status) :
  (((((l.set k a).flatMap YE).set (k*6) (.int .u64 b.bal)).set (k*6+1) (.int .u64 b.eff)).set (k*6+2) (.int .u64 b.score)).set (k*6+3) (.int .i64 b.streak)=(l.set k b).flatMap YE:=by
 have h0:((l.set k a).flatMap YE).set (k*6) (.int .u64 b.bal)=(l.set k { a with bal:=b.bal }).flatMap YE:=Yma hk (i:=0) (by decide) rfl;have h1:((l.set k { a with bal:=b.bal }).flatMap YE).set (k*6+1) (.int .u64 b.eff)=(l.set k { a with bal:=b.bal,eff:=b.eff }).flatMap YE:=Yma hk (by decide) rfl;have h2:((l.set k { a with bal:=b.bal,eff:=b.eff }).flatMap YE).set (k*6+2) (.int .u64 b.score)=(l.set k { a with bal:=b.bal,eff:=b.eff,score:=b.score }).flatMap YE:=Yma hk (by decide) rfl;have h3:((l.set k { a with bal:=b.bal,eff:=b.eff,score:=b.score }).flatMap YE).set (k*6+3) (.int .i64 b.streak)=(l.set k { a with bal:=b.bal,eff:=b.eff,score:=b.score,streak:=b.streak }).flatMap YE:=Yma hk (by decide) rfl;rw[h0,h1,h2,h3];have:({ a with bal:=b.bal,eff:=b.eff,score:=b.score,streak:=b.streak }:Zc)=b:=by
  cases a;cases b;simp only at ho hs;subst ho;subst hs;rfl
 rw[this]
def VO (q:Zd)(m:Zc):Zc:=Zbo q { m with bal:=min m.bal q.cap }
def Wo (q:Zd)(m:Zc):Zc:={ m with eff:=if VQ q (VB q m.eff m.bal) m.bal then VB q m.eff m.bal else YX q m.bal }
def rtK (n:Int):Nat→Int
 | 0=>0
 | k+1=>if (rtK n k+2 ^ (31-k))*(rtK n k+2 ^ (31-k))≤n then rtK n k+2 ^ (31-k) else rtK n k
def JI (n:Int):Int:=rtK n 32
theorem Zwo {n:Int}(hn:0≤n∧n≤18446744073709551615):∀k,k≤32→0≤rtK n k∧rtK n k+2 ^ (32-k)≤4294967296∧rtK n k*rtK n k≤n∧n<(rtK n k+2 ^ (32-k))*(rtK n k+2 ^ (32-k))
 | 0,_=>by
  refine⟨Int.le_refl _,by simp [rtK],by simpa [rtK] using hn.1,?_⟩;simp only[rtK];have:((0:Int)+2 ^ (32-0))*(0+2 ^ (32-0))=18446744073709551616:=by decide
  omega
 | k+1,hk=>by
  obtain⟨a1,a2,a3,a4⟩:=Zwo hn k (by omega);have e:(2:Int) ^ (32-k)=2*2 ^ (31-k):=by
   rw[show 32-k=(31-k)+1 by omega,Int.pow_succ,Int.mul_comm]
  have e2:32-(k+1)=31-k:=by omega
  have hb:(1:Int)≤2 ^ (31-k):=Int.pow_pos (by decide);rw[e]at a2 a4;rw[e2];simp only[rtK]
  generalize (2:Int) ^ (31-k)=b at *
  split
  ·rename_i c;have:rtK n k+b+b=rtK n k+2*b:=by omega
   rw[this];exact⟨by omega,by omega,c,a4⟩
  ·rename_i c;exact⟨a1,by omega,a3,by omega⟩
theorem Zjp {n:Int}(hn:0≤n∧n≤18446744073709551615):0≤JI n∧JI n≤4294967295∧JI n*JI n≤n∧n<(JI n+1)*(JI n+1):=by
 obtain⟨a1,a2,a3,a4⟩:=Zwo hn 32 (Nat.le_refl _);simp only[Nat.sub_self,Int.pow_zero]at a2 a4;exact⟨a1,by unfold JI;omega,a3,a4⟩
theorem Zyi {n:Int}(hn:1≤n∧n≤18446744073709551615):1≤JI n:=by
 obtain⟨a1,_,a3,a4⟩:=Zjp (n:=n) ⟨by omega,hn.2⟩;apply Int.not_lt.1;intro c;have e:JI n=0:=by omega
 rw[e]at a4;omega
def Uh (a by' most:Int):Int:=min (a+by') most
def Y8 (a by':Int):Int:=if by'≤a then a-by' else 0
def Y2 (p:Zd)(m:Zc)(there:Bool)(mode:Int):Zc :=
 if there then { m with streak:=(if max m.streak 0<p.streak then max m.streak 0+1 else p.streak),score:=Y8 m.score p.recover }
 else { m with streak:=0,score:=(if mode=3 then Uh m.score p.bias p.scoreCap else if mode=4 then Uh m.score p.biasEm p.scoreCap else m.score) }
def Uu (calm pr ac:Int):Int×Bool:=if 0<ac∧2*ac<3*pr then (0,true) else (min (max calm 0) 1073741823+1,false)
def Yei (delay calm:Int)(em:Bool):Int:=if em then 4 else if delay<calm then 3 else if 0<calm then 2 else 1
def Zqf (p:Zd)(ac:Int):Int:=if ac=0∨4611686018427387904<ac then 0 else dwN ac p.rate (1048576*JI ac)
def Zja (p:Zd)(ac issued most mode:Int):Int:=if (mode=3∨mode=4)∨most<issued+Zqf p ac then 0 else Zqf p ac
def YS (p:Zd)(m:Zc):Int:=if p.maxEff<m.eff then 0 else m.eff*(1000+p.boost*min (max m.streak 0) p.streak)
def Ui (p:Zd)(m:Zc)(n:Int):Zc×Int:=({ m with bal:=m.bal+min n (Y8 p.cap m.bal) },n-min n (Y8 p.cap m.bal))
def Ji (p:Zd)(m:Zc)(mode:Int):Int:=if mode=3 then uqE m.eff m.score p.quot else if mode=4 then uqE m.eff m.score p.quotEm else dwE m.eff p.absent 10000
def W9 (p:Zd)(m:Zc)(mode:Int):Int:=if mode=3 then uqN m.eff m.score p.quot else if mode=4 then uqN m.eff m.score p.quotEm else dwN m.eff p.absent 10000
def YI (p:Zd)(m:Zc)(mode:Int):Int:=if Ji p m mode=0 then min (W9 p m mode) m.bal else m.bal
def VC (p:Zd)(n:Int):Int:=dwN n p.burn 10000
theorem Ygv {p:Zd}{n:Int}(hn:0≤n∧n≤18446744073709551615)(hb:0≤p.burn∧p.burn≤10000):0≤VC p n∧VC p n≤n∧dwE n p.burn 10000=0:=by
 have h1:n*p.burn≤n*10000:=Int.mul_le_mul_of_nonneg_left hb.2 hn.1;have h0:=Int.mul_nonneg hn.1 hb.1;have e:dwE n p.burn 10000=0:=by
  unfold dwE;rw[if_neg (by decide),if_pos];omega
 unfold VC dwN;rw[if_pos e];omega
theorem Zwd (x y:Nat)(hk:K (.tuple #[.int .u64 (((x+18446744073709551616-y)%18446744073709551616:Nat):Int),.int .u64 ((if x<y then 1 else 0:Nat):Int)]) L h):Zb prog 356 [.int .u64 x,.int .u64 y,.int .u64 0] L h K :=
 Zb.extern (fun W=>by
  show (callFunc 356 #[.int .u64 x,.int .u64 y,.int .u64 ((0:Nat):Int)]).run prog W=_;rw[run_callFunc_extern func356 (by kernel_rfl) (by kernel_rfl) (by kernel_rfl) (e:=sub64Entry) (by kernel_rfl),run_sub64 x y 0 (by decide)]
  rfl) hk
theorem Znm (x y:Int)(hx:0≤x∧x≤18446744073709551615)(hy:0≤y∧y≤18446744073709551615)(hk:K (if y≤x then .tuple #[.int .u64 (x-y),.int .i64 0] else .tuple #[.int .u64 0,.int .i64 11]) L h):Zb prog 304 [.int .u64 x,.int .u64 y] L h K:=by
 obtain⟨m,rfl⟩:=Int.eq_ofNat_of_zero_le hx.1;obtain⟨n,rfl⟩:=Int.eq_ofNat_of_zero_le hy.1;refine ZR func304 rfl (rs:=[_,_]) rfl rfl ZW (by kernel_rfl) rfl rfl ?_;refine xx ?_;refine Zwd m n ?_;by_cases c:(n:Int)≤m
 ·rw[if_pos c]at hk;have e1:(((m+18446744073709551616-n)%18446744073709551616:Nat):Int)=m-n:=by omega
  rw[e1,if_neg (by omega)];refine xx ?_;exact ZP hk
 ·rw[if_neg c]at hk;rw[if_pos (by omega)];refine xx ?_;exact ZP hk
theorem Zzj {n m:Int}{k l:Nat}(v u:Value)(ha:Nt h v n k)(hb:Nt h u m l)(hkl:k≤200000∧l≤200000)(hk:∀h' r,PH.le h h'→Nt h' r (n+m) (max k l+1)→K r L h'):Zb prog 264 [v,u] L h K:=by
 obtain⟨s,ds,rfl,hs,hd,rfl,hdl⟩:=ha;obtain⟨r,es,rfl,hr,he,rfl,hel⟩:=hb;have hs0:=hs;have hr0:=hr;obtain⟨a,ca,rfl,hna,hca,_,hcx⟩:=hs.open;obtain⟨b,cb,rfl,hnb,hcb,_,hcy⟩:=hr.open;obtain⟨N,hN⟩:∃N,N=max ds.length es.length:=⟨_,rfl⟩
 have eN:max (ds.length:Int) (es.length:Int)=(N:Int):=by omega
 refine ZR func264 rfl (rs:=[_]) rfl rfl ZW (by kernel_rfl) rfl rfl ?_;refine xx ?_;refine Z0 fun b1 nb1 zb1=>?_;(try simp only[ZU]at nb1);refine xx ?_;refine Z0 fun b2 nb2 zb2=>?_;(try simp only[ZU]at nb2);refine xx ?_;refine Z0 fun b3 nb3 zb3=>?_;(try simp only[ZU]at nb3);refine xx ?_;refine YJ (γ:=Nat×Int×Option (Nat×Nat)×List Int) (0,0,none,[])
  (fun s=>s.1≤N+1∧(s.1=N+1→s.2.1=0)∧0≤s.2.1∧s.2.1≤1∧s.2.2.2.length=s.1∧okO s.2.2.1 s.2.2.2.length∧apO s.2.2.1 (⟨b3,196,[.slice none 0 0],1⟩::⟨b2,196,[.slice b es.length cb],1⟩::⟨b1,196,[.slice a ds.length ca],1⟩::L) h∧Dg s.2.2.2∧vl s.2.2.2+s.2.1*10 ^ s.1=pv ds s.1+pv es s.1)
  (fun s=>[(7,.int .i64 s.1),(6,.int .i64 s.2.1),(5,ovs s.2.2.1 s.2.2.2.length),(4,.pointer (some ⟨b3,0,none⟩)),(3,.pointer (some ⟨b2,0,none⟩)),(2,.pointer (some ⟨b1,0,none⟩))])
  (fun s=>oent 3 1 s.2.2.1 (s.2.2.2.map (Value.int .i64)) (⟨b3,196,[.slice none 0 0],1⟩::⟨b2,196,[.slice b es.length cb],1⟩::⟨b1,196,[.slice a ds.length ca],1⟩::L))
  (fun _=>h) (fun s=>N+1-s.1) ?_ ?_ ?_ ?_
 ·exact⟨Nat.zero_le _,fun _=>rfl,Int.le_refl _,by simp,rfl,rfl,trivial,fun j=>by simp [at0],by simp [vl,pv]⟩
 ·simp [Ent,List.lookup,ovs]
 ·exact Za.refl _ _
 rintro⟨i,c,o,fs⟩ ⟨i1,i2,i3,i4,i5,i6,i7,i8,i9⟩;simp only at i1 i2 i3 i4 i5 i6 i7 i8 i9 ⊢;have m3:apB o b3:=i7.head;have m2:apB o b2:=(ZY i7).head;have m1:apB o b1:=(ZY (ZY i7)).head;have q1:=hd i;have q2:=he i;have hpd:pv ds (i+1)=pv ds i+at0 ds i*10 ^ i:=rfl;have hpe:pv es (i+1)=pv es i+at0 es i*10 ^ i:=rfl;by_cases c1:(i:Int)<(N:Int)∨0<c
 ·have hi:i<N+1:=by
   by_cases e:i=N+1
   ·have:=i2 e;omega
   ·omega
  obtain⟨t,ht⟩:∃t,t=at0 ds i+at0 es i+c:=⟨_,rfl⟩
  have hz:i=N→at0 ds i=0∧at0 es i=0:=fun e=>⟨Ua (by omega),Ua (by omega)⟩
  have f1:vl (fs++[t%10])+t/10*10 ^ (i+1)=pv ds (i+1)+pv es (i+1):=by
   rw[Zav,i5,hpd,hpe,Int.pow_succ];have e:t=t/10*10+t%10:=by omega
   have e2:t*10 ^ i=t/10*(10 ^ i*10)+t%10*10 ^ i:=by
    conv=>lhs;rw[e]
    rw[Int.add_mul,Int.mul_assoc,Int.mul_comm 10]
   have e3:t*10 ^ i=at0 ds i*10 ^ i+at0 es i*10 ^ i+c*10 ^ i:=by rw[ht,Int.add_mul,Int.add_mul]
   omega
  by_cases c2:(i:Int)<(N:Int)
  all_goals
   simp -dsimp -implicitDefEqProofs (disch:=first|with_reducible assumption|omega) [go_sem,ZQ m2,ZQ m1,Yi,eN];refine JY (by kernel_rfl) rfl ?_;simp -dsimp -implicitDefEqProofs (disch:=first|with_reducible assumption|omega) [go_sem,ZQ m2,ZQ m1];refine UG _ (Gl _ i hs0 (by omega) (by omega) ⟨rfl,rfl,rfl⟩) ?_;simp only[Int.toNat_natCast];simp -dsimp -implicitDefEqProofs (disch:=first|with_reducible assumption|omega) [go_sem,ZQ m2,ZQ m1];refine UG _ (Gl _ i hr0 (by omega) (by omega) ⟨rfl,rfl,rfl⟩) ?_;simp only[Int.toNat_natCast];simp -dsimp -implicitDefEqProofs (disch:=first|with_reducible assumption|omega) [go_sem,← ht];refine Z0 fun b4 nb4 zb4=>?_;(try simp only[ZU]at nb4);simp -dsimp -implicitDefEqProofs (disch:=first|with_reducible assumption|omega) [go_sem,← ht];refine Z2 (t:=27) (e:=3) (sz:=1) (bytes:=8) (z:=[.int .i64 0]) (by kernel_rfl) JM rfl rfl rfl rfl (by decide) [_] _ o fs.length (fs.map (Value.int .i64)) i6 (by simp) (Src.own List.mem_cons_self) (m:=1) (news:=[.int .i64 (t%10)]) rfl (fun u hu=>by simp at hu;subst hu;rfl) (by simp [maxLen];omega) (by omega) ?_;intro o' j1 j2 j3;simp -dsimp -implicitDefEqProofs (disch:=first|with_reducible assumption|omega) [go_sem,← ht];refine⟨i+1,t/10,o',fs++[t%10],⟨by omega,fun e=>?_,by omega,by omega,by simp [i5],by simpa using j1,ZY j2,i8.append (by omega) (by omega),f1⟩,by omega,by simp [Ent,List.lookup],by simpa using Za.tail _ _ _⟩;have:=hz (by omega);omega
 ·have hc0:c=0:=by omega
  subst hc0;have hv:vl fs=vl ds+vl es:=by
   rw[← VU ds i (by omega),← VU es i (by omega)];omega
  simp -dsimp -implicitDefEqProofs (disch:=first|with_reducible assumption|omega) [go_sem,ZQ m2,ZQ m1,Yi,eN];refine WL (n:=fs.length) i6 (by simp) (by omega) i7 fun h' le sl=>?_;refine Zb.ap (GG (ds:=fs) (m:=max k l+1) _ ⟨sl,Vl i8⟩ i8 (by omega) fun r hr ap=>?_);simp only[Ap]at ap;obtain⟨a3,a2,a1,_⟩:=ap;obtain⟨s',fs',rfl,g1,g2,g3,g4⟩:=hr;refine xx ?_;refine⟨by obtain⟨_,_,rfl,_⟩:=g1.open;rfl,ZO (ZO (ZO (ZP (hk h' _ le ⟨s',fs',rfl,g1,g2,by rw[g3,hv],g4⟩))))⟩
theorem Yed (h:PH)(m:Nat):Nt h (.agg #[.slice none 0 0]) 0 m:=⟨_,[],rfl,YO h .i64,fun j=>by simp [at0],rfl,Nat.zero_le _⟩
theorem Nt.sl {v:Value}{n:Int}{m:Nat}(hs:Nt h v n m):∃a k c,v = .agg #[.slice a k c]:=by
 obtain⟨s,ds,rfl,b,_⟩:=hs;obtain⟨a,c,rfl,_⟩:=b.open;exact⟨a,_,c,rfl⟩
theorem Zfw (a b c:Int)(ha:0≤a∧a≤18446744073709551615)(hb:0≤b)(hc:0≤c∧c≤18446744073709551615)(hk:K (.bool (decide (a+b<c))) L h):Zb prog 278 [.int .u64 a,.int .u64 b,.int .u64 c] L h K:=by
 refine ZR func278 rfl (rs:=[_]) rfl rfl ZW (by kernel_rfl) rfl rfl ?_;refine xx ?_;by_cases c1:a<c
 ·have e:decide (a+b<c)=decide (b<c-a):=by apply decide_eq_decide.2;omega
  rw[e]at hk;refine xx ?_;exact ZP hk
 ·rw[decide_eq_false (show ¬a+b<c by omega)]at hk;refine xx ?_;exact ZP hk
theorem GR (p:Zd)(b:Int)(h1:1≤p.inc)(hb:0≤b∧b≤18446744073709551615)(hk:K (.int .u64 (YX p b)) L h):Zb prog 238 [W5 p,.int .u64 b] L h K:=by
 have e1:=Int.emod_nonneg b (show p.inc≠0 by omega);have e3:b/p.inc*p.inc=b-b%p.inc:=by rw[Int.emod_def,Int.mul_comm];omega
 have e2:0≤b/p.inc*p.inc:=Int.mul_nonneg (Int.ediv_nonneg hb.1 (by omega)) (by omega);have e4:=Int.ediv_nonneg hb.1 (show 0≤p.inc by omega);have e5:b/p.inc≤18446744073709551615:=Int.le_trans (Int.ediv_le_self _ hb.1) hb.2;have e6:b/p.inc*p.inc≤18446744073709551615:=by rw[e3];omega
 unfold YX at hk;rw[← e3]at hk;refine ZR func238 rfl (rs:=[_]) rfl rfl ZW (by kernel_rfl) rfl rfl ?_;refine xx ?_;refine Z0 fun b1 nb1 zb1=>?_;(try simp only[ZU]at nb1);refine xx ?_;refine Ym (.tk 0 (.tk 1 (.tk 4 (.tkl 2 (.tk 3 (.tkl 5 (.tk 6 (.tk 7 (.fin))))))))) (by kernel_rfl) (by kernel_rfl) _ (Za.refl _ _) ?_;refine xx ?_;by_cases c:p.maxEff<b/p.inc*p.inc
 ·rw[Int.min_eq_right (by omega)]at hk;refine xx ?_;exact ZO (ZP hk)
 ·rw[Int.min_eq_left (by omega)]at hk;refine xx ?_;exact ZO (ZP hk)
theorem Zoc (p:Zd)(ok:Zh p)(h1:1≤p.inc)(e b:Int)(he:0≤e∧e≤18446744073709551615)(hb:0≤b∧b≤18446744073709551615)(hk:K (.int .u64 (VB p e b)) L h):Zb prog 160 [W5 p,.int .u64 e,.int .u64 b] L h K:=by
 have u1:=ok.w p.down (by simp [YA]);have u2:=ok.w p.up (by simp [YA]);unfold VB Zxm at hk;refine ZR func160 rfl (rs:=[_]) rfl rfl ZW (by kernel_rfl) rfl rfl ?_;refine xx ?_;refine Z0 fun b1 nb1 zb1=>?_;(try simp only[ZU]at nb1);refine xx ?_;refine Zfw _ _ _ hb u1.1 he ?_
 cases c1:decide (b+p.down<e) with
 | true =>
  rw[c1]at hk;refine xx ?_;refine GR p b h1 hb ?_;refine xx ?_;exact ZO (ZP (by simpa using hk))
 | false =>
  rw[c1]at hk;refine xx ?_;refine Zfw _ _ _ he u2.1 hb ?_
  cases c2:decide (e+p.up<b) with
  | true =>
   rw[c2]at hk;refine xx ?_;refine GR p b h1 hb ?_;refine xx ?_;exact ZO (ZP (by simpa using hk))
  | false =>
   rw[c2]at hk;refine xx ?_;exact ZO (ZP (by simpa using hk))
theorem Zfe {P:Program}{T:Nat}{ks:List IntKind}(ht:P.underlying T=some (.struct (P.fieldsOf T)))(hp:P.stoodInHeld T=false)(hg:P.eqGuardType P.depth T=false)(hok:okF P (P.fieldsOf T).toList 0 ks=true)(ps qs:List Int)(ha:ps.length=ks.length)(hb:qs.length=ks.length)
  (x y:Operand) (K:Value→Prop) (t:Zo K):Ur P .neq T x y (.agg (List.zipWith Value.int ks ps).toArray) (.agg (List.zipWith Value.int ks qs).toArray) K t=K (.bool (!decide (ps=qs))) :=
 Ys (fun W=>by
  simp only[Sem.run_bind,run_eqGuard_agg W .neq T x y _ _ hg,Result.andThen_ok,run_neq_struct,Jc ht hp hok ps qs ha hb W]) K
end Go.X
