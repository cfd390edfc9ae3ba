/- Lemmas and contracts. Conditions: as each says. -/
import Derived.Laws.MathBits
import Derived.Test.YtllhopbilpdpkaaGreatQ06
set_option linter.unusedVariables false
set_option linter.unusedSimpArgs false
set_option maxHeartbeats 12800000
set_option maxRecDepth 20000
namespace Go.X
open Go.RowKit Go.Proofs Go.Bl Go.Proofs.Tryz
variable {L:Own} {h:PH} {K:PK}
theorem Zdq (n:Int)(h1 : -9223372036854775808≤n)(h2:n≤9223372036854775807)(hk:K (.int .i64 (Zgx n)) L h):Zc prog 180 [.int .i64 n] L h K:=by
 refine ZS func180 rfl (rs:=[_]) rfl rfl ZW (by kernel_rfl) rfl rfl ?_;refine xx ?_;unfold Zgx at hk;refine VI (fun c=>?_) (fun c=>?_)
 ·refine xx ?_;exact ZO (by simpa [c] using hk)
 ·refine xx ?_;exact ZO (by simpa [c] using hk)
theorem Ygb (a:Option Addr)(len cap:Nat)(i:Int)(hi:¬(0≤i∧i/8<(len:Int)))(h2:i≤9223372036854775807)(hk:K (.tuple #[.int .i64 0,.int .u8 0,.bool false]) L h) :
  Zc prog 182 [.slice a len cap,.int .i64 i] L h K:=by
 refine ZS func182 rfl (rs:=[_,_,_]) rfl rfl ZW (by kernel_rfl) rfl rfl ?_;refine xx ?_;by_cases c:i<0
 ·refine xx ?_;exact ZO hk
 ·refine xx ?_;exact ZO hk
theorem Zzo (a:Option Addr)(len cap:Nat)(i:Int)(h0:0≤i)(h1:i/8<(len:Int))(h2:i≤9223372036854775807)(hk:K (.tuple #[.int .i64 (i/8),.int .u8 (2 ^ (i%8).toNat%256),.bool true]) L h) :
  Zc prog 182 [.slice a len cap,.int .i64 i] L h K:=by
 refine ZS func182 rfl (rs:=[_,_,_]) rfl rfl ZW (by kernel_rfl) rfl rfl ?_;refine xx ?_;refine Zgl (by kernel_rfl) rfl ?_;have e:(min (i%8).toNat 8)=(i%8).toNat:=by omega
 simp -dsimp -implicitDefEqProofs (disch:=first|with_reducible assumption|omega) [go_sem,IntKind.bits,e,Int.one_mul];rw[Ziy];exact ZO hk
theorem GY {bs:List Int}(v:Value)(i:Int)(hb:Ints h .u8 v bs)(hi:i≤9223372036854775807)(hk:K (.bool (Vm bs i)) L h):Zc prog 68 [v,.int .i64 i] L h K:=by
 have hbd:=hb.byte;obtain⟨a,cap,rfl,hn,hc,ha,hcs⟩:=hb.open;refine ZS func68 rfl (rs:=[_]) rfl rfl ZW (by kernel_rfl) rfl rfl ?_;refine xx ?_;by_cases c:0≤i∧i/8<(bs.length:Int)
 ·refine Zzo _ _ _ _ c.1 c.2 hi ?_;simp -dsimp -implicitDefEqProofs (disch:=first|with_reducible assumption|omega) [go_sem,idx hcs];refine ZO ?_;have hx:=Zfg _ (i%8).toNat (hbd (i/8).toNat).1 (hbd (i/8).toNat).2 (by omega);rw[Ygv _ _ c.1 c.2,← hx]at hk;exact hk
 ·refine Ygb _ _ _ _ c hi ?_;refine xx ?_;rw[Ybt _ _ c]at hk;exact ZO hk
theorem Zkj {bs:List Int}(v:Value)(n:Int)(hb:Ints h .u8 v bs)(h1 : -9223372036854775808≤n)(h2:n≤9223372036854775807)(hk:K (.int .i64 (if Zhz bs n then 0 else 60)) L h) :
  Zc prog 66 [v,.int .i64 n] L h K:=by
 have hbd:=hb.byte;obtain⟨a,cap,rfl,hn,hc,ha,hcs⟩:=hb.open;refine ZS func66 rfl (rs:=[_]) rfl rfl ZW (by kernel_rfl) rfl rfl ?_;refine xx ?_;unfold Zhz at hk;refine VI (fun c1=>?_) (fun c1=>?_)
 ·refine xx ?_;exact ZO (by simpa [show ¬(0≤n) by omega] using hk)
 refine xx ?_;refine VI (fun c2=>?_) (fun c2=>?_)
 ·refine xx ?_;exact ZO (by simpa [show ¬(n≤256) by omega] using hk)
 refine xx ?_;refine Zdq _ h1 h2 ?_;refine xx ?_;refine VI (fun c3=>?_) (fun c3=>?_)
 ·have hs:=Ybs n (by omega);have hk':K (.int .i64 (if (!(decide (n%8>0)&&decide (at0 bs (bs.length-1)/2 ^ (n%8).toNat≠0))) then 0 else 60)) L h:=by
   simpa [c3,show 0≤n by omega,show n≤256 by omega] using hk
  refine xx ?_;refine VI (fun c4=>?_) (fun c4=>?_)
  ·have hb2:=hbd (bs.length-1);have e1:min (n%8).toNat 8=(n%8).toNat:=by omega
   have e2:((bs.length:Int)-1).toNat=bs.length-1:=by omega
   simp -dsimp -implicitDefEqProofs (disch:=first|with_reducible assumption|omega) [go_sem,idx hcs,IntKind.bits,e1,e2];refine VI (fun c5=>?_) (fun c5=>?_)
   ·refine xx ?_;exact ZO (by simpa [c4,c5] using hk')
   ·refine xx ?_;exact ZO (by simpa [c4,c5] using hk')
  ·refine xx ?_;exact ZO (by simpa [c4] using hk')
 ·refine xx ?_;exact ZO (by simpa [c3] using hk)
theorem Wt (x y:Int)(h0:0≤x)(h1:x≤4294967295)(h2:0≤y)(h3:y≤4294967295):0≤x*y∧x*y≤18446744065119617025:=by
 constructor
 ·exact Int.mul_nonneg h0 h2
 ·exact Int.le_trans (Int.mul_le_mul h1 h3 h2 (by decide)) (by decide)
theorem Yrc (a b:Int)(h0:0≤a)(h2:0≤b) :
  a/4294967296*(b/4294967296)+(a/4294967296*(b%4294967296)+a%4294967296*(b%4294967296)/4294967296)/4294967296 +
   ((a/4294967296*(b%4294967296)+a%4294967296*(b%4294967296)/4294967296)%4294967296+a%4294967296*(b/4294967296))/4294967296=a*b/18446744073709551616:=by
 have ha:a=a/4294967296*4294967296+a%4294967296:=by omega
 have hb:b=b/4294967296*4294967296+b%4294967296:=by omega
 have e:a*b=a/4294967296*(b/4294967296)*18446744073709551616+(a/4294967296*(b%4294967296)+a%4294967296*(b/4294967296))*4294967296+a%4294967296*(b%4294967296):=by
  generalize a/4294967296=a1 at *
  generalize a%4294967296=a0 at *
  generalize b/4294967296=b1 at *
  generalize b%4294967296=b0 at *
  subst ha;subst hb;rw[Int.add_mul,Int.mul_add,Int.mul_add,Int.add_mul];have e1:a1*4294967296*(b1*4294967296)=a1*b1*18446744073709551616:=by
   rw[Int.mul_assoc,Int.mul_comm 4294967296 (b1*4294967296),Int.mul_assoc b1,← Int.mul_assoc a1];rfl
  have e2:a1*4294967296*b0=a1*b0*4294967296:=by rw[Int.mul_assoc,Int.mul_comm 4294967296 b0,← Int.mul_assoc]
  have e3:a0*(b1*4294967296)=a0*b1*4294967296:=by rw[Int.mul_assoc]
  rw[e1,e2,e3];omega
 have p1:=Int.mul_nonneg (show 0≤a%4294967296 by omega) (show 0≤b%4294967296 by omega);rw[e]
 generalize a/4294967296*(b/4294967296)=p11
 generalize a/4294967296*(b%4294967296)=p10
 generalize a%4294967296*(b/4294967296)=p01
 generalize a%4294967296*(b%4294967296)=p00 at *
 omega
theorem Zmd (a b:Int)(h0:0≤a)(h1:a≤18446744073709551615)(h2:0≤b)(h3:b≤18446744073709551615):0≤a*b/18446744073709551616∧a*b/18446744073709551616≤18446744073709551614:=by
 have p0:=Int.mul_nonneg h0 h2;have p1:a*b≤18446744073709551615*18446744073709551615:=Int.mul_le_mul h1 h3 h2 (by decide);omega
theorem Ztz (a b:Int)(h0:0≤a)(h1:a≤18446744073709551615)(h2:0≤b)(h3:b≤18446744073709551615)(hk:K (.tuple #[.int .u64 (a*b/18446744073709551616),.int .u64 (a*b%18446744073709551616)]) L h) :
  Zc prog 290 [.int .u64 a,.int .u64 b] L h K:=by
 have a0:=and_low32 a h0 (by omega);have b0:=and_low32 b h2 (by omega);have q00:=Wt (a%4294967296) (b%4294967296) (by omega) (by omega) (by omega) (by omega);have q10:=Wt (a/4294967296) (b%4294967296) (by omega) (by omega) (by omega) (by omega);have q01:=Wt (a%4294967296) (b/4294967296) (by omega) (by omega) (by omega) (by omega);have q11:=Wt (a/4294967296) (b/4294967296) (by omega) (by omega) (by omega) (by omega);have hh:=Yrc a b h0 h2;have hb:=Zmd a b h0 h1 h2 h3;rw[← hh]at hk hb;have t0:=and_low32 (a/4294967296*(b%4294967296)+a%4294967296*(b%4294967296)/4294967296) (by omega) (by omega);refine ZS func290 rfl (rs:=[_,_]) rfl rfl ZW (by kernel_rfl) rfl rfl ?_;simp -dsimp -implicitDefEqProofs (disch:=first|with_reducible assumption|omega) [go_sem,a0,b0,t0,IntKind.bits];rw[UB];exact ZO hk
theorem GX (a b:Int)(h0:0≤a)(h1:a≤18446744073709551615)(h2:0≤b)(h3:b≤18446744073709551615)(hk:K (.agg #[.int .u64 (a*b/18446744073709551616),.int .u64 (a*b%18446744073709551616)]) L h) :
  Zc prog 345 [.int .u64 a,.int .u64 b] L h K:=by
 refine ZS func345 rfl (rs:=[_]) rfl rfl ZW (by kernel_rfl) rfl rfl ?_;refine xx ?_;refine Z2 fun b1 n1 hb1=>?_;refine xx ?_;refine Ztz _ _ h0 h1 h2 h3 ?_;refine xx ?_;exact ZP (ZO hk)
theorem Zvh (a b c d:Int)(hk:K (.bool (decide (a<c∨a=c∧b<d))) L h):Zc prog 346 [.agg #[.int .u64 a,.int .u64 b],.agg #[.int .u64 c,.int .u64 d]] L h K:=by
 refine ZS func346 rfl (rs:=[_]) rfl rfl ZW (by kernel_rfl) rfl rfl ?_;refine xx ?_;refine Z2 fun b1 nb1 zb1=>?_;(try simp only[ZT]at nb1);refine xx ?_;refine Z2 fun b2 nb2 zb2=>?_;(try simp only[ZT]at nb2);refine xx ?_;by_cases c1:a<c
 ·refine xx ?_;exact ZP (ZP (ZO (by simpa [c1] using hk)))
 ·refine xx ?_;by_cases c2:a=c
  ·refine xx ?_;exact ZP (ZP (ZO (by simpa [c1,c2] using hk)))
  ·refine xx ?_;exact ZP (ZP (ZO (by simpa [c1,c2] using hk)))
theorem Zvk (a b c d:Int):decide (a*b/18446744073709551616<c*d/18446744073709551616∨a*b/18446744073709551616=c*d/18446744073709551616∧a*b%18446744073709551616<c*d%18446744073709551616)=decide (a*b<c*d):=by
 generalize a*b=x
 generalize c*d=y
 rw[decide_eq_decide];omega
theorem Zan (a b c d:Int)(ha:0≤a∧a≤18446744073709551615)(hb:0≤b∧b≤18446744073709551615)(hc:0≤c∧c≤18446744073709551615)(hd:0≤d∧d≤18446744073709551615)(hk:K (.bool (decide (a*b<c*d))) L h) :
  Zc prog 279 [.int .u64 a,.int .u64 b,.int .u64 c,.int .u64 d] L h K:=by
 refine ZS func279 rfl (rs:=[_]) rfl rfl ZW (by kernel_rfl) rfl rfl ?_;refine xx ?_;refine GX _ _ ha.1 ha.2 hb.1 hb.2 ?_;refine xx ?_;refine GX _ _ hc.1 hc.2 hd.1 hd.2 ?_;refine xx ?_;refine Zvh _ _ _ _ ?_;refine xx ?_;rw[← Zvk]at hk;exact ZO (by simpa using hk)
theorem Zzg (p a:Int)(hp:0≤p∧p≤18446744073709551615)(ha:0≤a∧a≤18446744073709551615)(hk:K (.bool (decide (0<a)&&decide (2*a<3*p))) L h) :
  Zc prog 273 [.int .u64 p,.int .u64 a] L h K:=by
 refine ZS func273 rfl (rs:=[_]) rfl rfl ZW (by kernel_rfl) rfl rfl ?_;refine xx ?_;by_cases c:0<a
 ·refine xx ?_;refine Zan _ _ _ _ (by omega) ha (by omega) hp ?_;refine xx ?_;exact ZO (by simpa [c] using hk)
 ·refine xx ?_;exact ZO (by simpa [c] using hk)
def IsCert (h:PH)(v:Value)(c:ZK):Prop :=
 ∃sv bv,v = .agg #[.int .i64 c.ep,.int .i64 c.mem,sv,bv]∧Ints h .u64 sv c.st∧Ints h .u8 bv c.bs ∧ -9223372036854775808≤c.ep∧c.ep≤9223372036854775807 ∧ -9223372036854775808≤c.mem∧c.mem≤9223372036854775807
theorem IsCert.up {h h':PH}(le:PH.le h h'){v:Value}{c:ZK}(hc:IsCert h v c):IsCert h' v c:=by
 obtain⟨s,b,e,h1,h2,h3⟩:=hc;exact⟨s,b,e,h1.up le,h2.up le,h3⟩
end Go.X
