/- Lemmas and contracts. Conditions: as each says. -/
import Derived.Test.YtllhopbilpdpkaaGreatQ19
import Derived.Test.YtllhopbilpdpkaaGreatQ21
set_option linter.unusedVariables false
set_option linter.unusedSimpArgs false
set_option maxHeartbeats 12800000
set_option maxRecDepth 20000
namespace Go.X
open Go.RowKit Go.Proofs Go.Bl Go.Proofs.Tryz
variable {L:Own} {h:PH} {K:PK}
theorem Yiy {v:Value}{n:Int}{k:Nat}{a:Option Addr}{m c:Nat}(hv:Nt h v n (nz n k))(e:v = .agg #[.slice a m c]):(0<m)↔n≠0:=by
 obtain⟨s,ds,rfl,hs,hd,hv,hl⟩:=hv;obtain⟨a',c',rfl,_⟩:=hs.open;have e2:ds.length=m:=by
  simp at e;exact e.2.1
 subst e2
 constructor
 ·intro h0 hn;rw[hn]at hl;simp [nz]at hl;rw[hl]at h0;exact Nat.lt_irrefl _ h0
 ·intro hn;by_cases c0:ds.length=0
  ·rw[List.length_eq_zero_iff]at c0;subst c0;exact absurd (hv.symm.trans rfl) hn
  ·omega
theorem Zui (a b c:Int)(ha:0≤a∧a≤18446744073709551615)(hb:0≤b∧b≤18446744073709551615)(hc:0≤c∧c≤18446744073709551615)(hk:∀h',PH.le h h'→K (.tuple #[.int .u64 (uqN a b c),.int .i64 (uqE a b c)]) L h'):Zb prog 74 [.int .u64 a,.int .u64 b,.int .u64 c] L h K:=by
 by_cases c0:c=0
 ·have e:uqE a b c=20:=by rw[uqE,if_pos c0]
  have hk:=hk h (PH.le_refl h);rw[uqN,e]at hk;refine ZS func74 rfl (rs:=[_,_]) rfl rfl ZX (by kernel_rfl) rfl rfl ?_;refine xx ?_;exact ZP hk
 ·have tail:∀ {h2:PH} {K':PK} {L':Own} (v:Value),PH.le h h2→Nt h2 v (uqQ a b c) 42→(∀h',PH.le h h'→K' (.tuple #[.int .u64 (uqN a b c),.int .i64 (uqE a b c)]) L' h')→Zb prog 190 [v] L' h2 K':=fun {h2 K' L'} v le hv hK=>by
   refine Yce v hv fun h3 l3=>?_;have h4:=hK h3 (le.trans l3);by_cases c1:uqQ a b c≤18446744073709551615
   ·have e:uqE a b c=0:=by rw[uqE,if_neg c0,if_pos c1]
    rw[uqN,e,if_pos rfl]at h4;rw[show Ygp (uqQ a b c)=true from decide_eq_true c1,Ybd,if_pos c1];exact h4
   ·have e:uqE a b c=10:=by rw[uqE,if_neg c0,if_neg c1]
    rw[uqN,e]at h4;rw[show Ygp (uqQ a b c)=false from decide_eq_false c1,Ybd,if_neg c1];exact h4
  refine ZS func74 rfl (rs:=[_,_]) rfl rfl ZX (by kernel_rfl) rfl rfl ?_;refine xx ?_;refine Zwb a b c ha hb ⟨by omega,hc.2⟩ fun h1 q r l1 nq nr=>?_;obtain⟨qa,qk,qc,rfl⟩:=nq.sl;obtain⟨ra,rk,rc,rfl⟩:=nr.sl;have hlen:=Yiy nr rfl;refine xx ?_;refine Z0 fun b8 nb8 zb8=>?_;(try simp only[ZT]at nb8);refine xx ?_;refine Z0 fun b9 nb9 zb9=>?_;(try simp only[ZT]at nb9);refine xx ?_;by_cases c2:a*b%c=0
  ·have hrk:¬ 0<rk:=fun x=>hlen.1 x c2;have q:uqQ a b c=a*b/c:=by rw[uqQ,if_pos c2]
   refine xx ?_;refine tail _ l1 (by rw[q];exact nq.more (by decide)) fun h3 l3=>?_;refine xx ?_;exact ZO (ZO (ZP (hk h3 l3)))
  ·have hrk:0<rk:=hlen.2 c2;have q:uqQ a b c=a*b/c+1:=by rw[uqQ,if_neg c2]
   refine xx ?_;refine Yj (.tkl 0 (.o1 1 (.o1 2 (.o2 3 (.fin) (.nil)) (.nil)) (.nil))) (by kernel_rfl) (by kernel_rfl) _ (Za.refl _ _) ?_;refine xx ?_;refine Zb.ap (Vu 1 (by decide) (by decide) fun h2 r2 l2 n2 ap=>?_);simp only[Ap]at ap;obtain⟨p9,p8,_⟩:=ap
   first
   | refine xkp (Za.forget l2) ?_
   | skip
   refine xx ?_;refine Zb.ap (Zgu _ _ (nq.up l2) n2 ⟨by decide,by decide⟩ fun h3 r3 l3 n3 ap=>?_);simp only[Ap]at ap;obtain⟨p93,p83,_⟩:=ap;obtain⟨sa,sk,sc,rfl⟩:=n3.sl
   first
   | refine xkp (Za.forget (l2.trans l3)) ?_
   | skip
   refine xx ?_;refine tail _ (l1.trans (l2.trans l3)) (by rw[q];exact n3.more (by decide)) fun h4 l4=>?_;refine xx ?_;exact ZO (ZO (ZP (hk h4 l4)))
def Zdx (k:Nat):Int:=if k<32 then 2 ^ (31-k) else 0
theorem Zyn {k:Nat}(hk:k<32):Zdx k/2=Zdx (k+1):=by
 have:∀k,k<32→Zdx k/2=Zdx (k+1):=by decide +kernel
 exact this k hk
theorem Yeu {k:Nat}(hk:k<32):1≤Zdx k∧Zdx k≤2147483648:=by
 have:∀k,k<32→1≤Zdx k∧Zdx k≤2147483648:=by decide +kernel
 exact this k hk
theorem Yeq (n:Int)(hn:0≤n∧n≤18446744073709551615)(hk:K (.int .u64 (Gi n)) L h):Zb prog 344 [.int .u64 n] L h K:=by
 refine ZS func344 rfl (rs:=[_]) rfl rfl ZX (by kernel_rfl) rfl rfl ?_;refine xx ?_;refine Wd (0:Nat) (fun k=>k≤32) (fun k=>[(4,.int .u64 (Zdx k)),(3,.int .u64 (rtK n k)),(0,.int .u64 n)]) (fun k=>32-k) ?_ ?_ ?_
 ·exact Nat.zero_le _
 ·simp [Ent,List.lookup,Y3,Zdx,rtK]
 intro k hk1;by_cases c1:k<32
 ·obtain⟨a1,a2,a3,a4⟩:=Yar hn k hk1;obtain⟨b1,b2⟩:=Yeu c1;have e:(2:Int) ^ (32-k)=2*Zdx k:=by
   rw[Zdx,if_pos c1,show 32-k=(31-k)+1 by omega,Int.pow_succ,Int.mul_comm]
  have hh:=Zyn c1;have hp:=WC (rtK n k+Zdx k) (rtK n k+Zdx k) (by omega) (by omega) (by omega) (by omega);have hs:rtK n (k+1)=if (rtK n k+Zdx k)*(rtK n k+Zdx k)≤n then rtK n k+Zdx k else rtK n k:=by rw[rtK,Zdx,if_pos c1]
  rw[e]at a2
  generalize Zdx k=b at *
  generalize rtK n k=r at *
  by_cases c2:(r+b)*(r+b)≤n
  ·rw[if_pos c2]at hs;simp -dsimp -implicitDefEqProofs (disch:=first|with_reducible assumption|omega) [go_sem,hh];exact⟨k+1,by omega,by omega,by simp [Ent,List.lookup,hs],Za.refl _ _⟩
  ·rw[if_neg c2]at hs;simp -dsimp -implicitDefEqProofs (disch:=first|with_reducible assumption|omega) [go_sem,hh];exact⟨k+1,by omega,by omega,by simp [Ent,List.lookup,hs],Za.refl _ _⟩
 ·have hkl:k=32:=by omega
  subst hkl;rw[show Zdx 32=0 from rfl];refine xx ?_;exact ZP hk
theorem Zjs (mode:Int)(hk:K (.bool (decide (mode=3∨mode=4))) L h):Zb prog 271 [.int .i64 mode] L h K:=by
 refine ZS func271 rfl (rs:=[_]) rfl rfl ZX (by kernel_rfl) rfl rfl ?_;by_cases c:mode=3
 ·rw[decide_eq_true (Or.inl c)]at hk;refine xx ?_;exact ZP hk
 ·rw[show decide (mode=3∨mode=4)=decide (mode=4) by apply decide_eq_decide.2;omega]at hk;refine xx ?_;exact ZP hk
theorem bud_e {p:Zd}{ac:Int}(h1:ac≠0)(h2:¬ 4611686018427387904<ac):Zhk p ac=dwN ac p.rate (1048576*Gi ac):=by
 rw[Zhk,if_neg];omega
theorem Zhs (p:Zd)(ok:Zj p)(hr:Yd p=true)(ac:Int)(ha:0≤ac∧ac≤18446744073709551615)(hk:K (.int .u64 (Zhk p ac)) L h):Zb prog 272 [WR p,.int .u64 ac] L h K:=by
 have ur:=ok.w p.rate (by simp [Ys]);refine ZS func272 rfl (rs:=[_]) rfl rfl ZX (by kernel_rfl) rfl rfl ?_;refine xx ?_;refine Z0 fun b1 nb1 zb1=>?_;(try simp only[ZT]at nb1);by_cases c1:ac=0
 ·rw[Zhk,if_pos (.inl c1)]at hk;refine xx ?_;exact ZO (ZP hk)
 by_cases c2:4611686018427387904<ac
 ·rw[Zhk,if_pos (.inr c2)]at hk;refine xx ?_;exact ZO (ZP hk)
 rw[bud_e c1 c2]at hk;have rp:=Yfd (n:=ac) (by omega);have rl:=(Zla (n:=ac) (by omega)).2.1;refine xx ?_;refine WY p ok ?_;rw[hr];refine xx ?_;refine Yj (.tk 0 (.tk 1 (.tk 3 (.tkl 2 (.o1 4 (.tk 5 (.o1 6 (.tk 7 (.tk 8 (.tk 9 (.tk 10 (.tk 11 (.fin)))))) (.nil))) (.nil)))))) (by kernel_rfl) (by kernel_rfl) _ (Za.refl _ _) ?_;refine xx ?_;refine Yeq ac ha ?_
 first
 | refine xkp (Za.refl _ _) ?_
 | skip
 refine xx ?_;refine G6 ac p.rate (1048576*Gi ac) ha ur (by omega) ?_
 first
 | refine xkp (Za.refl _ _) ?_
 | skip
 refine xx ?_;by_cases c3:dwE ac p.rate (1048576*Gi ac)=0
 ·refine xx ?_;exact ZO (ZP hk)
 ·rw[dwN,if_neg c3]at hk;refine xx ?_;exact ZO (ZP hk)
theorem Zkl {zs:List Int}(most:Int)(v:Value)(hz:Ints h .u64 v zs)(hm:most≤18446744073709551615)(hk:K (.bool (decide (tot zs≤most))) L h):Zb prog 295 [.int .u64 most,v] L h K:=by
 refine ZS func295 rfl (rs:=[_]) rfl rfl ZX (by kernel_rfl) rfl rfl ?_;refine xx ?_;refine Wq v hz ?_;by_cases c:tot zs≤18446744073709551615
 ·rw[YF c];refine xx ?_;exact ZP hk
 ·rw[decide_eq_false (show ¬tot zs≤most by omega)]at hk;rw[Wh c];refine xx ?_;exact ZP hk
theorem Yrk {p:Zd}(ok:Zj p){ac:Int}(ha:0≤ac∧ac≤18446744073709551615):0≤Zhk p ac∧Zhk p ac≤18446744073709551615:=by
 have ur:=ok.w p.rate (by simp [Ys]);unfold Zhk;split
 ·decide
 ·exact Ywe ha.1 ur.1 (by have:=(Zla ha).1;omega)
theorem Zym (p:Zd)(ok:Zj p)(hr:Yd p=true)(ac is most mode:Int)(ha:0≤ac∧ac≤18446744073709551615)(hi:0≤is∧is≤18446744073709551615)(hm:0≤most∧most≤18446744073709551615)(hk:∀h',PH.le h h'→K (.int .u64 (GY p ac is most mode)) L h') :
  Zb prog 196 [WR p,.int .u64 ac,.int .u64 is,.int .u64 most,.int .i64 mode] L h K:=by
 have bb:=Yrk ok ha;refine ZS func196 rfl (rs:=[_]) rfl rfl ZX (by kernel_rfl) rfl rfl ?_;refine xx ?_;refine Z0 fun b1 nb1 zb1=>?_;(try simp only[ZT]at nb1);refine xx ?_;refine Zhs p ok hr ac ha ?_;refine xx ?_;refine Zjs mode ?_;by_cases c1:mode=3∨mode=4
 ·have hk:=hk h (PH.le_refl _);rw[GY,if_pos (.inl c1)]at hk;rw[decide_eq_true c1];refine xx ?_;exact ZO (ZP hk)
 ·rw[decide_eq_false c1];refine xx ?_;refine Z0 fun b2 nb2 zb2=>?_;(try simp only[ZT]at nb2);refine xx ?_;refine Yc (sz:=1) (n:=2) (cap:=2) [] ⟨Nat.le_refl _,by decide⟩ rfl (by decide) zb2 fun h2 le2 s2 f2=>?_;refine Zkl (zs:=[is,Zhk p ac]) most _ ⟨s2,fun z hz=>?_⟩ hm.2 ?_
  ·simp only[List.mem_cons,List.not_mem_nil,or_false]at hz;rcases hz with rfl|rfl<;>assumption
  have hk:=hk h2 le2;rw[Zyv];simp only[List.nil_append];by_cases c2:is+Zhk p ac≤most
  ·rw[GY,if_neg (by omega)]at hk;rw[decide_eq_true c2];refine xx ?_;exact ZO (ZP hk)
  ·rw[GY,if_pos (.inr (by omega))]at hk;rw[decide_eq_false c2];refine xx ?_;exact ZO (ZP hk)
theorem Yux {a b:Int}(ha:0≤a∧a≤18446744073709551615)(hb:0≤b):0≤Y8 a b∧Y8 a b≤a:=by
 unfold Y8;split<;>omega
theorem Yfl (p:Zd)(ok:Zj p)(hr:Yd p=true)(m:Zc)(mo:Zg m)(n:Int)(hn:0≤n∧n≤18446744073709551615)(hk:K (.tuple #[Zdf (UE p m n).1,.int .u64 (UE p m n).2]) L h):Zb prog 198 [WR p,Zdf m,.int .u64 n] L h K:=by
 have ub:=mo.u m.bal (by simp);have uc:=ok.w p.cap (by simp [Ys]);have fb:=Yux uc ub.1;have fs:m.bal+min n (Y8 p.cap m.bal)≤18446744073709551615:=by unfold Y8 at *;split<;>omega
 unfold UE at hk;refine ZS func198 rfl (rs:=[_,_]) rfl rfl ZX (by kernel_rfl) rfl rfl ?_;refine xx ?_;refine Z0 fun b1 nb1 zb1=>?_;(try simp only[ZT]at nb1);refine xx ?_;refine Z0 fun b2 nb2 zb2=>?_;(try simp only[ZT]at nb2);refine xx ?_;refine Z0 fun b3 nb3 zb3=>?_;(try simp only[ZT]at nb3);refine xx ?_;refine WY p ok ?_;rw[hr];refine xx ?_;refine Zax p.cap m.bal uc ub ?_;refine xx ?_;refine Zhn n (Y8 p.cap m.bal) hn fb.1 ?_;refine xx ?_;exact ZO (ZO (ZO (ZP hk)))
theorem Yau {p:Zd}(ok:Zj p)(hr:Yd p=true){m:Zc}(mo:Zg m)(mode:Int):0≤Zdg p m mode∧Zdg p m mode≤18446744073709551615:=by
 have ue:=mo.u m.eff (by simp);have us:=mo.u m.score (by simp);have hs:=Z6 hr;have u1:=ok.w p.quot (by simp [Ys]);have u2:=ok.w p.quotEm (by simp [Ys]);unfold Zdg;split
 ·exact Ywl ue.1 us.1 u1.1
 ·split
  ·exact Ywl ue.1 us.1 u2.1
  ·exact Ywe ue.1 hs.2.2.2.2.1 (by decide)
theorem Zxj {p:Zd}(ok:Zj p)(hr:Yd p=true){m:Zc}(mo:Zg m)(mode:Int):0≤YY p m mode∧YY p m mode≤m.bal:=by
 have ub:=mo.u m.bal (by simp);have:=Yau ok hr mo mode;unfold YY;split<;>omega
abbrev absV (p:Zd)(m:Zc)(mode:Int):Value := .agg #[.int .u64 m.bal,.int .u64 m.eff,.int .u64 m.score,.int .i64 m.streak,.int .u64 p.inc,.int .u64 p.maxEff,.int .u64 p.floor,.int .u64 p.cap,.int .u64 p.up,.int .u64 p.down,.int .u64 p.bias,.int .u64 p.quot,.int .u64 p.biasEm,.int .u64 p.quotEm,.int .u64 p.recover,.int .u64 p.scoreCap,.int .u64 p.rate,.int .u64 p.bond,.int .i64 p.delay,.int .i64 p.streak,.int .i64 p.boost,.int .i64 p.absent,.int .i64 p.burn,.int .i64 p.churn,.int .i64 p.wait,.int .i64 p.poll,.int .i64 p.enact,.int .i64 p.quorum,.int .i64 mode]
theorem Zxb (p:Zd)(ok:Zj p)(hr:Yd p=true)(m:Zc)(mo:Zg m)(mode:Int)(hk:K (.int .u64 (YY p m mode)) L h):Zb prog 357 [absV p m mode] L h K:=by
 have ub:=mo.u m.bal (by simp);have ue:=mo.u m.eff (by simp);have us:=mo.u m.score (by simp);have hs:=Z6 hr;have u1:=ok.w p.quot (by simp [Ys]);have u2:=ok.w p.quotEm (by simp [Ys]);have bq:=Yau ok hr mo mode;unfold YY at hk;refine ZS func357 rfl (rs:=[_]) rfl rfl ZX (by kernel_rfl) rfl rfl ?_;refine xx ?_;refine Z0 fun b1 nb1 zb1=>?_;(try simp only[ZT]at nb1);refine xx ?_;by_cases c1:mode=3
 ·have e1:Zlz p m mode=uqE m.eff m.score p.quot:=by rw[Zlz,if_pos c1]
  have e2:Zdg p m mode=uqN m.eff m.score p.quot:=by rw[Zdg,if_pos c1]
  rw[e1,e2]at hk;refine xx ?_;refine Zoi m.eff m.score p.quot ue us u1 ?_;by_cases c2:uqE m.eff m.score p.quot=0
  ·rw[if_pos c2]at hk;refine xx ?_;exact ZO (ZP hk)
  ·rw[if_neg c2]at hk;refine xx ?_;exact ZO (ZP hk)
 ·by_cases c3:mode=4
  ·have e1:Zlz p m mode=uqE m.eff m.score p.quotEm:=by rw[Zlz,if_neg c1,if_pos c3]
   have e2:Zdg p m mode=uqN m.eff m.score p.quotEm:=by rw[Zdg,if_neg c1,if_pos c3]
   rw[e1,e2]at hk;refine xx ?_;refine Zoi m.eff m.score p.quotEm ue us u2 ?_;by_cases c2:uqE m.eff m.score p.quotEm=0
   ·rw[if_pos c2]at hk;refine xx ?_;exact ZO (ZP hk)
   ·rw[if_neg c2]at hk;refine xx ?_;exact ZO (ZP hk)
  ·have e1:Zlz p m mode=dwE m.eff p.absent 10000:=by rw[Zlz,if_neg c1,if_neg c3]
   have e2:Zdg p m mode=dwN m.eff p.absent 10000:=by rw[Zdg,if_neg c1,if_neg c3]
   rw[e1,e2]at hk;refine xx ?_;refine G6 m.eff p.absent 10000 ue (by omega) (by decide) ?_;by_cases c2:dwE m.eff p.absent 10000=0
   ·rw[if_pos c2]at hk;refine xx ?_;exact ZO (ZP hk)
   ·rw[if_neg c2]at hk;refine xx ?_;exact ZO (ZP hk)
theorem Yjb (p:Zd)(ok:Zj p)(hr:Yd p=true)(m:Zc)(mo:Zg m)(mode:Int)(hk:K (.int .u64 (YY p m mode)) L h):Zb prog 302 [WR p,Zdf m,.int .i64 mode] L h K:=by
 refine ZS func302 rfl (rs:=[_]) rfl rfl ZX (by kernel_rfl) rfl rfl ?_;refine xx ?_;refine Z0 fun b1 nb1 zb1=>?_;(try simp only[ZT]at nb1);refine xx ?_;refine Z0 fun b2 nb2 zb2=>?_;(try simp only[ZT]at nb2);refine xx ?_;refine WY p ok ?_;rw[hr];refine xx ?_;refine Zxb p ok hr m mo mode ?_;refine xx ?_;exact ZO (ZO (ZP hk))
theorem Yjt (n r:Int)(hn:0≤n∧n≤18446744073709551615)(hr:0≤r∧r≤10000)(hk:K (.tuple #[.int .u64 (dwN n r 10000),.int .u64 (n-dwN n r 10000),.int .i64 0]) L h):Zb prog 358 [.int .u64 n,.int .i64 r] L h K:=by
 have h1:n*r≤n*10000:=Int.mul_le_mul_of_nonneg_left hr.2 hn.1;have h0:=Int.mul_nonneg hn.1 hr.1;have e:dwE n r 10000=0:=by
  unfold dwE;rw[if_neg (by decide),if_pos];omega
 have b:0≤dwN n r 10000∧dwN n r 10000≤n:=by rw[dwN,if_pos e];omega
 refine ZS func358 rfl (rs:=[_,_,_]) rfl rfl ZX (by kernel_rfl) rfl rfl ?_;refine xx ?_;refine G6 n r 10000 hn (by omega) (by decide) ?_;rw[e];refine xx ?_;exact ZP hk
theorem Zsb (p:Zd)(ok:Zj p)(hr:Yd p=true)(n:Int)(hn:0≤n∧n≤18446744073709551615)(hk:K (.tuple #[.int .u64 (V6 p n),.int .u64 (n-V6 p n)]) L h):Zb prog 303 [WR p,.int .u64 n] L h K:=by
 have hs:=Z6 hr;unfold V6 at hk;refine ZS func303 rfl (rs:=[_,_]) rfl rfl ZX (by kernel_rfl) rfl rfl ?_;refine xx ?_;refine Z0 fun b1 nb1 zb1=>?_;(try simp only[ZT]at nb1);refine xx ?_;refine WY p ok ?_;rw[hr];refine xx ?_;refine Yjt n p.burn hn (by omega) ?_;refine xx ?_;exact ZO (ZP hk)
def Jy (p:Zd)(m:Zc)(mode:Int):Zc:={ m with bal:=m.bal-YY p m mode }
theorem Zvg (p:Zd)(ok:Zj p)(hr:Yd p=true)(m:Zc)(mo:Zg m)(mode:Int)(hk:K (.tuple #[Zdf (Jy p m mode),.int .u64 (V6 p (YY p m mode)),.int .u64 (YY p m mode-V6 p (YY p m mode))]) L h):Zb prog 199 [WR p,Zdf m,.int .i64 mode] L h K:=by
 have ub:=mo.u m.bal (by simp);have fb:=Zxj ok hr mo mode;unfold Jy at hk;refine ZS func199 rfl (rs:=[_,_,_]) rfl rfl ZX (by kernel_rfl) rfl rfl ?_;refine xx ?_;refine Z0 fun b1 nb1 zb1=>?_;(try simp only[ZT]at nb1);refine xx ?_;refine Z0 fun b2 nb2 zb2=>?_;(try simp only[ZT]at nb2);refine xx ?_;refine Z0 fun b3 nb3 zb3=>?_;(try simp only[ZT]at nb3);refine xx ?_;refine Yjb p ok hr m mo mode ?_;refine xx ?_;refine Zsb p ok hr (YY p m mode) (by omega) ?_;refine xx ?_;exact ZO (ZO (ZO (ZP hk)))
def sdC (m:Zc):List Value:=[.int .u64 m.bal,.int .u64 m.eff,.int .u64 m.score,.int .i64 m.streak]
theorem Zlw (m:Zc):(sdC m).length=4:=rfl
theorem Yyk {p:Zd}(hr:Yd p=true){m:Zc}(mo:Zg m):0≤YX p m∧YX p m≤71468255805440000:=by
 have hs:=Z6 hr;have hb:=Ybu hr;have ue:=mo.u m.eff (by simp);unfold YX;split
 ·decide
 ·have s0:0≤min (max m.streak 0) p.streak∧min (max m.streak 0) p.streak≤64:=by omega
  generalize min (max m.streak 0) p.streak=s at *
  have b1:=Int.mul_nonneg hs.2.2.1 s0.1;have b2:p.boost*s≤1000*64:=Int.mul_le_mul hs.2.2.2.1 s0.2 s0.1 (by decide);have b3:=Int.mul_nonneg ue.1 (show 0≤1000+p.boost*s by omega);have b4:m.eff*(1000+p.boost*s)≤1099511627776*65000:=Int.mul_le_mul (by omega) (by omega) (by omega) (by decide);exact⟨b3,by omega⟩
theorem Zlj (p:Zd)(ok:Zj p)(hr:Yd p=true)(m:Zc)(mo:Zg m)(hk:K (.int .u64 (YX p m)) L h):Zb prog 299 [WR p,Zdf m] L h K:=by
 have hs:=Z6 hr;have ue:=mo.u m.eff (by simp);have wb:=Yyk hr mo;refine ZS func299 rfl (rs:=[_]) rfl rfl ZX (by kernel_rfl) rfl rfl ?_;refine xx ?_;refine Z0 fun b1 nb1 zb1=>?_;(try simp only[ZT]at nb1);refine xx ?_;refine Z0 fun b2 nb2 zb2=>?_;(try simp only[ZT]at nb2);by_cases c:p.maxEff<m.eff
 ·rw[YX,if_pos c]at hk;refine xx ?_;exact ZO (ZO (ZP hk))
 ·rw[YX,if_neg c]at hk wb;have s0:0≤min (max m.streak 0) p.streak∧min (max m.streak 0) p.streak≤64:=by omega
  have b1:=Int.mul_nonneg hs.2.2.1 s0.1;have b2:p.boost*min (max m.streak 0) p.streak≤1000*64:=Int.mul_le_mul hs.2.2.2.1 s0.2 s0.1 (by decide);simp -dsimp -implicitDefEqProofs (disch:=first|with_reducible assumption|omega) [go_sem,YE];exact ZO (ZO (ZP hk))
theorem Yhj {zs:List Int}{B:Int}(hz:∀i,at0 zs i≤B):∀k:Nat,YK zs k≤k*B
 | 0=>by simp [YK]
 | k+1=>by
  have:=Yhj hz k;have:=hz k;rw[YK,Int.natCast_add,Int.add_mul];simp;omega
theorem Yxi {p:Zd}(hr:Yd p=true){l:List Zc}(hm:∀x∈l,Zg x)(hn:l.length≤128):Zkq (l.map (YX p))=0:=by
 have hz:∀i,at0 (l.map (YX p)) i≤71468255805440000:=fun i=>by
  by_cases c:i<(l.map (YX p)).length
  ·rw[← Ye c,List.getElem_map];exact(Yyk hr (hm _ (List.getElem_mem _))).2
  ·rw[UM (by omega)];decide
 have h1:=Yhj hz (l.map (YX p)).length;rw[Zkq,if_pos (by rw[List.length_map];omega),if_pos];rw[tot];rw[List.length_map]at h1 ⊢;omega
theorem Ykr (p:Zd)(ok:Zj p)(hr:Yd p=true)(m:Zc)(mo:Zg m)(b1 b7:Nat)(o:Option (Nat×Nat))(xs:List Value)(n17:b1≠b7)(ho:apB o b1)(hb:h b1=noC)
  (hk:K (.int .u64 (YX p m)) (⟨b7,72,sdC m,4⟩::oent 22 1 o xs (⟨b1,24,GL p,24⟩::L)) h) :
  Zb prog 298 [Zdf m,.pointer (some ⟨b1,0,none⟩)] (⟨b7,72,sdC m,4⟩::oent 22 1 o xs (⟨b1,24,GL p,24⟩::L)) h K:=by
 simp only[sdC]at hk ⊢;refine ZS func298 rfl (rs:=[_]) rfl rfl ZX (by kernel_rfl) rfl rfl ?_;refine xx ?_;refine Z0 fun b2 nb2 zb2=>?_;(try simp only[ZT]at nb2);have n2:=Yr nb2.2;simp only[ZT]at n2;simp -dsimp -implicitDefEqProofs (disch:=first|with_reducible assumption|omega) [go_sem,ZR ho];refine Zlj p ok hr m mo ?_;refine xx ?_;exact ZO (ZP hk)
theorem Zvm {l:List Zc}(p:Zd)(ok:Zj p)(hr:Yd p=true)(v:Value)(hd0:Zh sdC 4 h v l)(hm:∀x∈l,Zg x)(hn:l.length≤100000)(b1:Nat)
  (hk:∀h' r,PH.le h h'→Ints h' .u64 r (l.map (YX p))→K r (⟨b1,24,GL p,24⟩::L) h') :
  Zb prog 297 [.func (.func 298) #[] #[.pointer (some ⟨b1,0,none⟩)],v] (⟨b1,24,GL p,24⟩::L) h K:=by
 obtain⟨a,c,rfl,hc,hl,_,hd⟩:=hd0.open;refine Ya func297 rfl (rs:=[_]) rfl rfl ZX (by kernel_rfl) rfl rfl fun ap nd=>?_;simp only[Ap]at ap;have hb1:=ap.1;clear ap nd;refine xx ?_;refine Yu (γ:=Nat×Option (Nat×Nat)) (0,none) (fun s=>s.1≤l.length∧okO s.2 s.1∧apO s.2 (⟨b1,24,GL p,24⟩::L) h) (fun s=>[(10,.int .i64 s.1),(9,.int .i64 l.length),(8,.slice a l.length c),(5,ovs s.2 s.1),(0,.func (.func 298) #[] #[.pointer (some ⟨b1,0,none⟩)])])
  (fun s=>oent 22 1 s.2 (U7 (YX p) l s.1) (⟨b1,24,GL p,24⟩::L)) (fun _=>h) (fun s=>l.length-s.1) ?_ ?_ ?_ ?_
 ·exact⟨Nat.zero_le _,rfl,trivial⟩
 ·simp [Ent,List.lookup,Y3,ovs]
 ·exact Za.refl _ _
 rintro⟨k,o⟩ ⟨k1,k2,k3⟩;simp only at k1 k2 k3 ⊢;by_cases c1:k<l.length
 ·have hmem:gr ZQ l k∈l:=by rw[Z9 c1];exact List.getElem_mem c1
  have m1:apB o b1:=k3.head;simp -dsimp -implicitDefEqProofs (disch:=first|with_reducible assumption|omega) [go_sem,↓WQ ZQ (by decide) hd,sdC];refine Z0 fun b7 nb7 zb7=>?_;(try simp only[ZT]at nb7);have n7:=Yr nb7;simp only[ZT]at n7;simp -dsimp -implicitDefEqProofs (disch:=first|with_reducible assumption|omega) [go_sem,sdC];refine Ykr p ok hr (gr ZQ l k) (hm _ hmem) b1 b7 o _ n7.1 m1 hb1 ?_;simp only[sdC];refine xx ?_;refine Z0 fun b8 nb8 zb8=>?_;(try simp only[ZT]at nb8);refine xx ?_;refine Z3 (t:=25) (e:=22) (sz:=1) (bytes:=8) (by kernel_rfl) Ug rfl rfl rfl rfl (by decide) [_,_] _ o k (U7 (YX p) l k) k2 (WB k1) (Src.own List.mem_cons_self) (m:=1) (news:=[.int .u64 (YX p (gr ZQ l k))]) rfl (by intro u hu;simp only[List.mem_singleton]at hu;subst hu;rfl) (by simp [maxLen];omega) (by omega) ?_;intro o' j1 j2 j3;refine xx ?_;refine⟨k+1,o',⟨by omega,j1,ZZ (ZZ j2)⟩,by omega,by simp [Ent,List.lookup],?_⟩;rw[VL ZQ c1];exact(Za.tail _ _ _).trans (Za.tail _ _ _)
 ·have hkl:k=l.length:=by omega
  subst hkl;refine xx ?_;exact YR (n:=l.length) k2 (WB (Nat.le_refl _)) (by omega) k3 fun h' le sl=>ZP (hk h' _ le (J6 sl fun x hx=>by have:=Yyk hr (hm x hx);omega))
def Jf (p:Zd)(n:Int)(l:List Zc):List Int:=YN n (tot (l.map (YX p))) (l.map (YX p))
theorem V9 (p:Zd)(n:Int)(l:List Zc):(Jf p n l).length=l.length:=by simp [Jf,YN]
theorem Zit {p:Zd}(hr:Yd p=true){n:Int}(hn:0≤n){l:List Zc}(hm:∀x∈l,Zg x)(i:Nat):0≤at0 (Jf p n l) i∧at0 (Jf p n l) i≤n:=by
 have h0:∀i,0≤at0 (l.map (YX p)) i:=fun i=>by
  by_cases c:i<(l.map (YX p)).length
  ·rw[← Ye c,List.getElem_map];exact(Yyk hr (hm _ (List.getElem_mem _))).1
  ·rw[UM (by omega)];decide
 by_cases c:i<(l.map (YX p)).length
 ·unfold Jf YN;rw[Zal _ _ c];exact Yek hn (h0 i) (Yw h0 i)
 ·rw[UM (by rw[V9];simpa using c)];omega
theorem Znj {p:Zd}(hr:Yd p=true){n:Int}(hn:0≤n∧n≤18446744073709551615){l:List Zc}(hm:∀x∈l,Zg x){h:PH}{v:Value}(sl:Sl h v l.length 1 ((Jf p n l).map (.int .u64))):Ints h .u64 v (Jf p n l):=by
 refine⟨by rw[V9];exact sl,fun z hz=>?_⟩;obtain⟨i,hi,rfl⟩:=List.mem_iff_getElem.1 hz;have:=Zit hr hn.1 hm i;rw[Ye hi];rw[show IntKind.u64.min=0 by decide,show IntKind.u64.max=18446744073709551615 by decide];omega
theorem Zsy {l:List Zc}(p:Zd)(ok:Zj p)(hr:Yd p=true)(v:Value)(hd0:Zh sdC 4 h v l)(hm:∀x∈l,Zg x)(hn:l.length≤128)(n:Int)(hb:0≤n∧n≤18446744073709551615)
  (hk:∀h' r,PH.le h h'→Ints h' .u64 r (Jf p n l)→K (.tuple #[r,.int .u64 (n-tot (Jf p n l)),.int .i64 0]) L h') :
  Zb prog 197 [WR p,.int .u64 n,v] L h K:=by
 obtain⟨a,c,rfl,hc,hl,_,hd⟩:=hd0.open;have hw:=Yxi hr hm hn;refine ZS func197 rfl (rs:=[_,_,_]) rfl rfl ZX (by kernel_rfl) rfl rfl ?_;refine xx ?_;refine Z0 fun b1 nb1 zb1=>?_;(try simp only[ZT]at nb1);refine xx ?_;refine WY p ok ?_;rw[hr];refine xx ?_;refine Zb.ap (Zvm p ok hr _ hd0 hm (by omega) b1 fun h1 r1 l1 i1 ap=>?_);simp only[Ap]at ap;obtain⟨p1,_⟩:=ap;obtain⟨ra,rc,rfl,_⟩:=i1.open;rw[List.length_map]at i1;refine xx ?_;refine Zxv n hb _ i1 (fun e=>absurd hw e) fun _ o j1 j2=>?_;obtain⟨x,y,e,hxy⟩:=Yg j1;rw[e];refine xx ?_;have hlen:(l.map (YX p)).length=l.length:=List.length_map _;refine YR (n:=(l.map (YX p)).length) j1 (by simp [YN]) (by omega) j2 fun h' le sl=>ZO (ZP ?_);rw[e,hlen]at sl;exact hk h' _ (l1.trans le) (Znj hr hb hm sl)
end Go.X
