/- Lemmas and contracts. Conditions: as each says. -/
import Derived.Test.YtpdidilobgimcaaGreatQ18
import Derived.Test.YtpdidilobgimcaaGreatQ19
set_option linter.unusedVariables false
set_option linter.unusedSimpArgs false
set_option maxHeartbeats 12800000
set_option maxRecDepth 20000
namespace Go.X
open Go.RowKit Go.Proofs Go.Bl Go.Proofs.Tryz
variable {L:Own} {h:PH} {K:PK}
theorem Zvl (a b c:Int)(ha:0≤a∧a≤18446744073709551615)(hb:0≤b∧b≤18446744073709551615)(hc:0≤c∧c≤18446744073709551615)(hk:∀h',PH.le h h'→K (.tuple #[.int .u64 (dwN a b c),.int .i64 (dwE a b c)]) L h'):Zb prog 277 [.int .u64 a,.int .u64 b,.int .u64 c] L h K:=by
 by_cases c0:c=0
 ·have e:dwE a b c=20:=by rw[dwE,if_pos c0]
  have hk:=hk h (PH.le_refl h);rw[dwN,e]at hk;refine ZR func277 rfl (rs:=[_,_]) rfl rfl ZW (by kernel_rfl) rfl rfl ?_;refine xx ?_;exact ZP hk
 ·refine ZR func277 rfl (rs:=[_,_]) rfl rfl ZW (by kernel_rfl) rfl rfl ?_;refine xx ?_;refine Zfp a b c ha hb ⟨by omega,hc.2⟩ fun h1 q r l1 nq nr=>?_;obtain⟨qa,qk,qc,rfl⟩:=nq.sl;obtain⟨ra,rk,rc,rfl⟩:=nr.sl;refine xx ?_;refine Z0 fun b8 nb8 zb8=>?_;(try simp only[ZU]at nb8);refine xx ?_;refine Z0 fun b9 nb9 zb9=>?_;(try simp only[ZU]at nb9);refine xx ?_;refine Zkx _ nq fun h2 l2=>?_;have h3:=hk h2 (l1.trans l2);by_cases c1:a*b/c≤18446744073709551615
  ·have e:dwE a b c=0:=by rw[dwE,if_neg c0,if_pos c1]
   have e1:Zxr (a*b/c)=true:=decide_eq_true c1;have e2:Zne (a*b/c)=a*b/c:=by rw[Zne,if_pos c1]
   rw[dwN,e,if_pos rfl]at h3;rw[e1,e2];refine xx ?_;exact ZO (ZO (ZP h3))
  ·have e:dwE a b c=10:=by rw[dwE,if_neg c0,if_neg c1]
   have e1:Zxr (a*b/c)=false:=decide_eq_false c1;have e2:Zne (a*b/c)=0:=by rw[Zne,if_neg c1]
   rw[dwN,e]at h3;rw[e1,e2];refine xx ?_;exact ZO (ZO (ZP h3))
theorem Yho {v:Value}{n:Int}{k:Nat}{a:Option Addr}{m c:Nat}(hv:Nt h v n (nz n k))(e:v = .agg #[.slice a m c]):(0<m)↔n≠0:=by
 obtain⟨s,ds,rfl,hs,hd,hv,hl⟩:=hv;obtain⟨a',c',rfl,_⟩:=hs.open;have e2:ds.length=m:=by
  simp at e;exact e.2.1
 subst e2
 constructor
 ·intro h0 hn;rw[hn]at hl;simp [nz]at hl;rw[hl]at h0;exact Nat.lt_irrefl _ h0
 ·intro hn;by_cases c0:ds.length=0
  ·rw[List.length_eq_zero_iff]at c0;subst c0;exact absurd (hv.symm.trans rfl) hn
  ·omega
theorem Zvg (a b c:Int)(ha:0≤a∧a≤18446744073709551615)(hb:0≤b∧b≤18446744073709551615)(hc:0≤c∧c≤18446744073709551615)(hk:∀h',PH.le h h'→K (.tuple #[.int .u64 (uqN a b c),.int .i64 (uqE a b c)]) L h'):Zb prog 138 [.int .u64 a,.int .u64 b,.int .u64 c] L h K:=by
 by_cases c0:c=0
 ·have e:uqE a b c=20:=by rw[uqE,if_pos c0]
  have hk:=hk h (PH.le_refl h);rw[uqN,e]at hk;refine ZR func138 rfl (rs:=[_,_]) rfl rfl ZW (by kernel_rfl) rfl rfl ?_;refine xx ?_;exact ZP hk
 ·have tail:∀ {h2:PH} {K':PK} {L':Own} (v:Value),PH.le h h2→Nt h2 v (uqQ a b c) 42→(∀h',PH.le h h'→K' (.tuple #[.int .u64 (uqN a b c),.int .i64 (uqE a b c)]) L' h')→Zb prog 265 [v] L' h2 K':=fun {h2 K' L'} v le hv hK=>by
   refine Zkx v hv fun h3 l3=>?_;have h4:=hK h3 (le.trans l3);by_cases c1:uqQ a b c≤18446744073709551615
   ·have e:uqE a b c=0:=by rw[uqE,if_neg c0,if_pos c1]
    rw[uqN,e,if_pos rfl]at h4;rw[show Zxr (uqQ a b c)=true from decide_eq_true c1,Zne,if_pos c1];exact h4
   ·have e:uqE a b c=10:=by rw[uqE,if_neg c0,if_neg c1]
    rw[uqN,e]at h4;rw[show Zxr (uqQ a b c)=false from decide_eq_false c1,Zne,if_neg c1];exact h4
  refine ZR func138 rfl (rs:=[_,_]) rfl rfl ZW (by kernel_rfl) rfl rfl ?_;refine xx ?_;refine Zfp a b c ha hb ⟨by omega,hc.2⟩ fun h1 q r l1 nq nr=>?_;obtain⟨qa,qk,qc,rfl⟩:=nq.sl;obtain⟨ra,rk,rc,rfl⟩:=nr.sl;have hlen:=Yho nr rfl;refine xx ?_;refine Z0 fun b8 nb8 zb8=>?_;(try simp only[ZU]at nb8);refine xx ?_;refine Z0 fun b9 nb9 zb9=>?_;(try simp only[ZU]at nb9);refine xx ?_;by_cases c2:a*b%c=0
  ·have hrk:¬ 0<rk:=fun x=>hlen.1 x c2;have q:uqQ a b c=a*b/c:=by rw[uqQ,if_pos c2]
   refine xx ?_;refine tail _ l1 (by rw[q];exact nq.more (by decide)) fun h3 l3=>?_;refine xx ?_;exact ZO (ZO (ZP (hk h3 l3)))
  ·have hrk:0<rk:=hlen.2 c2;have q:uqQ a b c=a*b/c+1:=by rw[uqQ,if_neg c2]
   refine xx ?_;refine Ym (.tkl 0 (.o1 1 (.o1 2 (.o2 3 (.fin) (.nil)) (.nil)) (.nil))) (by kernel_rfl) (by kernel_rfl) _ (Za.refl _ _) ?_;refine xx ?_;refine Zb.ap (U6 1 (by decide) (by decide) fun h2 r2 l2 n2 ap=>?_);simp only[Ap]at ap;obtain⟨p9,p8,_⟩:=ap
   first
   | refine xkp (Za.forget l2) ?_
   | skip
   refine xx ?_;refine Zb.ap (Zzj _ _ (nq.up l2) n2 ⟨by decide,by decide⟩ fun h3 r3 l3 n3 ap=>?_);simp only[Ap]at ap;obtain⟨p93,p83,_⟩:=ap;obtain⟨sa,sk,sc,rfl⟩:=n3.sl
   first
   | refine xkp (Za.forget (l2.trans l3)) ?_
   | skip
   refine xx ?_;refine tail _ (l1.trans (l2.trans l3)) (by rw[q];exact n3.more (by decide)) fun h4 l4=>?_;refine xx ?_;exact ZO (ZO (ZP (hk h4 l4)))
def Zcf (k:Nat):Int:=if k<32 then 2 ^ (31-k) else 0
theorem Zta {k:Nat}(hk:k<32):Zcf k/2=Zcf (k+1):=by
 have:∀k,k<32→Zcf k/2=Zcf (k+1):=by decide +kernel
 exact this k hk
theorem Ybc {k:Nat}(hk:k<32):1≤Zcf k∧Zcf k≤2147483648:=by
 have:∀k,k<32→1≤Zcf k∧Zcf k≤2147483648:=by decide +kernel
 exact this k hk
theorem Zzz (n:Int)(hn:0≤n∧n≤18446744073709551615)(hk:K (.int .u64 (JI n)) L h):Zb prog 332 [.int .u64 n] L h K:=by
 refine ZR func332 rfl (rs:=[_]) rfl rfl ZW (by kernel_rfl) rfl rfl ?_;refine xx ?_;refine Vk (0:Nat) (fun k=>k≤32) (fun k=>[(4,.int .u64 (Zcf k)),(3,.int .u64 (rtK n k)),(0,.int .u64 n)]) (fun k=>32-k) ?_ ?_ ?_
 ·exact Nat.zero_le _
 ·simp [Ent,List.lookup,Wv,Zcf,rtK]
 intro k hk1;by_cases c1:k<32
 ·obtain⟨a1,a2,a3,a4⟩:=Zwo hn k hk1;obtain⟨b1,b2⟩:=Ybc c1;have e:(2:Int) ^ (32-k)=2*Zcf k:=by
   rw[Zcf,if_pos c1,show 32-k=(31-k)+1 by omega,Int.pow_succ,Int.mul_comm]
  have hh:=Zta c1;have hp:=Wu (rtK n k+Zcf k) (rtK n k+Zcf k) (by omega) (by omega) (by omega) (by omega);have hs:rtK n (k+1)=if (rtK n k+Zcf k)*(rtK n k+Zcf k)≤n then rtK n k+Zcf k else rtK n k:=by rw[rtK,Zcf,if_pos c1]
  rw[e]at a2
  generalize Zcf k=b at *
  generalize rtK n k=r at *
  by_cases c2:(r+b)*(r+b)≤n
  ·rw[if_pos c2]at hs;simp -dsimp -implicitDefEqProofs (disch:=first|with_reducible assumption|omega) [go_sem,hh];exact⟨k+1,by omega,by omega,by simp [Ent,List.lookup,hs],Za.refl _ _⟩
  ·rw[if_neg c2]at hs;simp -dsimp -implicitDefEqProofs (disch:=first|with_reducible assumption|omega) [go_sem,hh];exact⟨k+1,by omega,by omega,by simp [Ent,List.lookup,hs],Za.refl _ _⟩
 ·have hkl:k=32:=by omega
  subst hkl;rw[show Zcf 32=0 from rfl];refine xx ?_;exact ZP hk
theorem Zrg (mode:Int)(hk:K (.bool (decide (mode=3∨mode=4))) L h):Zb prog 248 [.int .i64 mode] L h K:=by
 refine ZR func248 rfl (rs:=[_]) rfl rfl ZW (by kernel_rfl) rfl rfl ?_;by_cases c:mode=3
 ·rw[decide_eq_true (Or.inl c)]at hk;refine xx ?_;exact ZP hk
 ·rw[show decide (mode=3∨mode=4)=decide (mode=4) by apply decide_eq_decide.2;omega]at hk;refine xx ?_;exact ZP hk
theorem bud_e {p:Zd}{ac:Int}(h1:ac≠0)(h2:¬ 4611686018427387904<ac):Zqf p ac=dwN ac p.rate (1048576*JI ac):=by
 rw[Zqf,if_neg];omega
theorem Zvs (p:Zd)(ok:Zh p)(hr:Yb p=true)(ac:Int)(ha:0≤ac∧ac≤18446744073709551615)(hk:K (.int .u64 (Zqf p ac)) L h):Zb prog 249 [W5 p,.int .u64 ac] L h K:=by
 have ur:=ok.w p.rate (by simp [YA]);refine ZR func249 rfl (rs:=[_]) rfl rfl ZW (by kernel_rfl) rfl rfl ?_;refine xx ?_;refine Z0 fun b1 nb1 zb1=>?_;(try simp only[ZU]at nb1);by_cases c1:ac=0
 ·rw[Zqf,if_pos (.inl c1)]at hk;refine xx ?_;exact ZO (ZP hk)
 by_cases c2:4611686018427387904<ac
 ·rw[Zqf,if_pos (.inr c2)]at hk;refine xx ?_;exact ZO (ZP hk)
 rw[bud_e c1 c2]at hk;have rp:=Zyi (n:=ac) (by omega);have rl:=(Zjp (n:=ac) (by omega)).2.1;refine xx ?_;refine WN p ok ?_;rw[hr];refine xx ?_;refine Ym (.tk 0 (.tk 1 (.tk 3 (.tkl 2 (.o1 4 (.tk 5 (.o1 6 (.tk 7 (.tk 8 (.tk 9 (.tk 10 (.tk 11 (.fin)))))) (.nil))) (.nil)))))) (by kernel_rfl) (by kernel_rfl) _ (Za.refl _ _) ?_;refine xx ?_;refine Zzz ac ha ?_
 first
 | refine xkp (Za.refl _ _) ?_
 | skip
 refine xx ?_;refine GJ ac p.rate (1048576*JI ac) ha ur (by omega) ?_
 first
 | refine xkp (Za.refl _ _) ?_
 | skip
 refine xx ?_;by_cases c3:dwE ac p.rate (1048576*JI ac)=0
 ·refine xx ?_;exact ZO (ZP hk)
 ·rw[dwN,if_neg c3]at hk;refine xx ?_;exact ZO (ZP hk)
theorem Zfz {zs:List Int}(most:Int)(v:Value)(hz:Ints h .u64 v zs)(hm:most≤18446744073709551615)(hk:K (.bool (decide (tot zs≤most))) L h):Zb prog 296 [.int .u64 most,v] L h K:=by
 refine ZR func296 rfl (rs:=[_]) rfl rfl ZW (by kernel_rfl) rfl rfl ?_;refine xx ?_;refine Ws v hz ?_;by_cases c:tot zs≤18446744073709551615
 ·rw[YC c];refine xx ?_;exact ZP hk
 ·rw[decide_eq_false (show ¬tot zs≤most by omega)]at hk;rw[Wh c];refine xx ?_;exact ZP hk
theorem Ymz {p:Zd}(ok:Zh p){ac:Int}(ha:0≤ac∧ac≤18446744073709551615):0≤Zqf p ac∧Zqf p ac≤18446744073709551615:=by
 have ur:=ok.w p.rate (by simp [YA]);unfold Zqf;split
 ·decide
 ·exact Yon ha.1 ur.1 (by have:=(Zjp ha).1;omega)
theorem Zsq (p:Zd)(ok:Zh p)(hr:Yb p=true)(ac is most mode:Int)(ha:0≤ac∧ac≤18446744073709551615)(hi:0≤is∧is≤18446744073709551615)(hm:0≤most∧most≤18446744073709551615)(hk:∀h',PH.le h h'→K (.int .u64 (Zja p ac is most mode)) L h') :
  Zb prog 193 [W5 p,.int .u64 ac,.int .u64 is,.int .u64 most,.int .i64 mode] L h K:=by
 have bb:=Ymz ok ha;refine ZR func193 rfl (rs:=[_]) rfl rfl ZW (by kernel_rfl) rfl rfl ?_;refine xx ?_;refine Z0 fun b1 nb1 zb1=>?_;(try simp only[ZU]at nb1);refine xx ?_;refine Zvs p ok hr ac ha ?_;refine xx ?_;refine Zrg mode ?_;by_cases c1:mode=3∨mode=4
 ·have hk:=hk h (PH.le_refl _);rw[Zja,if_pos (.inl c1)]at hk;rw[decide_eq_true c1];refine xx ?_;exact ZO (ZP hk)
 ·rw[decide_eq_false c1];refine xx ?_;refine Z0 fun b2 nb2 zb2=>?_;(try simp only[ZU]at nb2);refine xx ?_;refine YB (sz:=1) (n:=2) (cap:=2) [] ⟨Nat.le_refl _,by decide⟩ rfl (by decide) zb2 fun h2 le2 s2 f2=>?_;refine Zfz (zs:=[is,Zqf p ac]) most _ ⟨s2,fun z hz=>?_⟩ hm.2 ?_
  ·simp only[List.mem_cons,List.not_mem_nil,or_false]at hz;rcases hz with rfl|rfl<;>assumption
  have hk:=hk h2 le2;rw[Ztj];simp only[List.nil_append];by_cases c2:is+Zqf p ac≤most
  ·rw[Zja,if_neg (by omega)]at hk;rw[decide_eq_true c2];refine xx ?_;exact ZO (ZP hk)
  ·rw[Zja,if_pos (.inr (by omega))]at hk;rw[decide_eq_false c2];refine xx ?_;exact ZO (ZP hk)
theorem Ylb {a b:Int}(ha:0≤a∧a≤18446744073709551615)(hb:0≤b):0≤Y8 a b∧Y8 a b≤a:=by
 unfold Y8;split<;>omega
theorem Ybf (p:Zd)(ok:Zh p)(hr:Yb p=true)(m:Zc)(mo:Ze m)(n:Int)(hn:0≤n∧n≤18446744073709551615)(hk:K (.tuple #[Zbq (Ui p m n).1,.int .u64 (Ui p m n).2]) L h):Zb prog 197 [W5 p,Zbq m,.int .u64 n] L h K:=by
 have ub:=mo.u m.bal (by simp);have uc:=ok.w p.cap (by simp [YA]);have fb:=Ylb uc ub.1;have fs:m.bal+min n (Y8 p.cap m.bal)≤18446744073709551615:=by unfold Y8 at *;split<;>omega
 unfold Ui at hk;refine ZR func197 rfl (rs:=[_,_]) rfl rfl ZW (by kernel_rfl) rfl rfl ?_;refine xx ?_;refine Z0 fun b1 nb1 zb1=>?_;(try simp only[ZU]at nb1);refine xx ?_;refine Z0 fun b2 nb2 zb2=>?_;(try simp only[ZU]at nb2);refine xx ?_;refine Z0 fun b3 nb3 zb3=>?_;(try simp only[ZU]at nb3);refine xx ?_;refine WN p ok ?_;rw[hr];refine xx ?_;refine GM p.cap m.bal uc ub ?_;refine xx ?_;refine Zfv n (Y8 p.cap m.bal) hn fb.1 ?_;refine xx ?_;exact ZO (ZO (ZO (ZP hk)))
theorem Zjh {p:Zd}(ok:Zh p)(hr:Yb p=true){m:Zc}(mo:Ze m)(mode:Int):0≤W9 p m mode∧W9 p m mode≤18446744073709551615:=by
 have ue:=mo.u m.eff (by simp);have us:=mo.u m.score (by simp);have hs:=Ya hr;have u1:=ok.w p.quot (by simp [YA]);have u2:=ok.w p.quotEm (by simp [YA]);unfold W9;split
 ·exact Yoi ue.1 us.1 u1.1
 ·split
  ·exact Yoi ue.1 us.1 u2.1
  ·exact Yon ue.1 hs.2.2.2.2.1 (by decide)
theorem Zcv {p:Zd}(ok:Zh p)(hr:Yb p=true){m:Zc}(mo:Ze m)(mode:Int):0≤YI p m mode∧YI p m mode≤m.bal:=by
 have ub:=mo.u m.bal (by simp);have:=Zjh ok hr mo mode;unfold YI;split<;>omega
abbrev absV (p:Zd)(m:Zc)(mode:Int):Value := .agg #[.int .u64 m.bal,.int .u64 m.eff,.int .u64 m.score,.int .i64 m.streak,.int .u64 p.inc,.int .u64 p.maxEff,.int .u64 p.floor,.int .u64 p.cap,.int .u64 p.up,.int .u64 p.down,.int .u64 p.bias,.int .u64 p.quot,.int .u64 p.biasEm,.int .u64 p.quotEm,.int .u64 p.recover,.int .u64 p.scoreCap,.int .u64 p.rate,.int .u64 p.bond,.int .i64 p.delay,.int .i64 p.streak,.int .i64 p.boost,.int .i64 p.absent,.int .i64 p.burn,.int .i64 p.churn,.int .i64 p.wait,.int .i64 p.poll,.int .i64 p.enact,.int .i64 p.quorum,.int .i64 mode]
theorem Zvf (p:Zd)(ok:Zh p)(hr:Yb p=true)(m:Zc)(mo:Ze m)(mode:Int)(hk:K (.int .u64 (YI p m mode)) L h):Zb prog 341 [absV p m mode] L h K:=by
 have ub:=mo.u m.bal (by simp);have ue:=mo.u m.eff (by simp);have us:=mo.u m.score (by simp);have hs:=Ya hr;have u1:=ok.w p.quot (by simp [YA]);have u2:=ok.w p.quotEm (by simp [YA]);have bq:=Zjh ok hr mo mode;unfold YI at hk;refine ZR func341 rfl (rs:=[_]) rfl rfl ZW (by kernel_rfl) rfl rfl ?_;refine xx ?_;refine Z0 fun b1 nb1 zb1=>?_;(try simp only[ZU]at nb1);refine xx ?_;by_cases c1:mode=3
 ·have e1:Ji p m mode=uqE m.eff m.score p.quot:=by rw[Ji,if_pos c1]
  have e2:W9 p m mode=uqN m.eff m.score p.quot:=by rw[W9,if_pos c1]
  rw[e1,e2]at hk;refine xx ?_;refine Ycw m.eff m.score p.quot ue us u1 ?_;by_cases c2:uqE m.eff m.score p.quot=0
  ·rw[if_pos c2]at hk;refine xx ?_;exact ZO (ZP hk)
  ·rw[if_neg c2]at hk;refine xx ?_;exact ZO (ZP hk)
 ·by_cases c3:mode=4
  ·have e1:Ji p m mode=uqE m.eff m.score p.quotEm:=by rw[Ji,if_neg c1,if_pos c3]
   have e2:W9 p m mode=uqN m.eff m.score p.quotEm:=by rw[W9,if_neg c1,if_pos c3]
   rw[e1,e2]at hk;refine xx ?_;refine Ycw m.eff m.score p.quotEm ue us u2 ?_;by_cases c2:uqE m.eff m.score p.quotEm=0
   ·rw[if_pos c2]at hk;refine xx ?_;exact ZO (ZP hk)
   ·rw[if_neg c2]at hk;refine xx ?_;exact ZO (ZP hk)
  ·have e1:Ji p m mode=dwE m.eff p.absent 10000:=by rw[Ji,if_neg c1,if_neg c3]
   have e2:W9 p m mode=dwN m.eff p.absent 10000:=by rw[W9,if_neg c1,if_neg c3]
   rw[e1,e2]at hk;refine xx ?_;refine GJ m.eff p.absent 10000 ue (by omega) (by decide) ?_;by_cases c2:dwE m.eff p.absent 10000=0
   ·rw[if_pos c2]at hk;refine xx ?_;exact ZO (ZP hk)
   ·rw[if_neg c2]at hk;refine xx ?_;exact ZO (ZP hk)
theorem Ygb (p:Zd)(ok:Zh p)(hr:Yb p=true)(m:Zc)(mo:Ze m)(mode:Int)(hk:K (.int .u64 (YI p m mode)) L h):Zb prog 270 [W5 p,Zbq m,.int .i64 mode] L h K:=by
 refine ZR func270 rfl (rs:=[_]) rfl rfl ZW (by kernel_rfl) rfl rfl ?_;refine xx ?_;refine Z0 fun b1 nb1 zb1=>?_;(try simp only[ZU]at nb1);refine xx ?_;refine Z0 fun b2 nb2 zb2=>?_;(try simp only[ZU]at nb2);refine xx ?_;refine WN p ok ?_;rw[hr];refine xx ?_;refine Zvf p ok hr m mo mode ?_;refine xx ?_;exact ZO (ZO (ZP hk))
theorem Yhx (n r:Int)(hn:0≤n∧n≤18446744073709551615)(hr:0≤r∧r≤10000)(hk:K (.tuple #[.int .u64 (dwN n r 10000),.int .u64 (n-dwN n r 10000),.int .i64 0]) L h):Zb prog 342 [.int .u64 n,.int .i64 r] L h K:=by
 have h1:n*r≤n*10000:=Int.mul_le_mul_of_nonneg_left hr.2 hn.1;have h0:=Int.mul_nonneg hn.1 hr.1;have e:dwE n r 10000=0:=by
  unfold dwE;rw[if_neg (by decide),if_pos];omega
 have b:0≤dwN n r 10000∧dwN n r 10000≤n:=by rw[dwN,if_pos e];omega
 refine ZR func342 rfl (rs:=[_,_,_]) rfl rfl ZW (by kernel_rfl) rfl rfl ?_;refine xx ?_;refine GJ n r 10000 hn (by omega) (by decide) ?_;rw[e];refine xx ?_;exact ZP hk
theorem Znz (p:Zd)(ok:Zh p)(hr:Yb p=true)(n:Int)(hn:0≤n∧n≤18446744073709551615)(hk:K (.tuple #[.int .u64 (VC p n),.int .u64 (n-VC p n)]) L h):Zb prog 271 [W5 p,.int .u64 n] L h K:=by
 have hs:=Ya hr;unfold VC at hk;refine ZR func271 rfl (rs:=[_,_]) rfl rfl ZW (by kernel_rfl) rfl rfl ?_;refine xx ?_;refine Z0 fun b1 nb1 zb1=>?_;(try simp only[ZU]at nb1);refine xx ?_;refine WN p ok ?_;rw[hr];refine xx ?_;refine Yhx n p.burn hn (by omega) ?_;refine xx ?_;exact ZO (ZP hk)
def VN (p:Zd)(m:Zc)(mode:Int):Zc:={ m with bal:=m.bal-YI p m mode }
theorem Zfu (p:Zd)(ok:Zh p)(hr:Yb p=true)(m:Zc)(mo:Ze m)(mode:Int)(hk:K (.tuple #[Zbq (VN p m mode),.int .u64 (VC p (YI p m mode)),.int .u64 (YI p m mode-VC p (YI p m mode))]) L h):Zb prog 153 [W5 p,Zbq m,.int .i64 mode] L h K:=by
 have ub:=mo.u m.bal (by simp);have fb:=Zcv ok hr mo mode;unfold VN at hk;refine ZR func153 rfl (rs:=[_,_,_]) rfl rfl ZW (by kernel_rfl) rfl rfl ?_;refine xx ?_;refine Z0 fun b1 nb1 zb1=>?_;(try simp only[ZU]at nb1);refine xx ?_;refine Z0 fun b2 nb2 zb2=>?_;(try simp only[ZU]at nb2);refine xx ?_;refine Z0 fun b3 nb3 zb3=>?_;(try simp only[ZU]at nb3);refine xx ?_;refine Ygb p ok hr m mo mode ?_;refine xx ?_;refine Znz p ok hr (YI p m mode) (by omega) ?_;refine xx ?_;exact ZO (ZO (ZO (ZP hk)))
theorem Zpo (p:Zd)(ok:Zh p)(hr:Yb p=true)(m:Zc)(mo:Ze m)(mode:Int)(hk:∀h',PH.le h h'→K (.int .u64 (YI p m mode)) L h'):Zb prog 159 [W5 p,Zbq m,.int .i64 mode] L h K:=by
 have ub:=mo.u m.bal (by simp);have ue:=mo.u m.eff (by simp);have us:=mo.u m.score (by simp);have hs:=Ya hr;have u1:=ok.w p.quot (by simp [YA]);have u2:=ok.w p.quotEm (by simp [YA]);have bq:=Zjh ok hr mo mode;unfold YI at hk;refine ZR func159 rfl (rs:=[_]) rfl rfl ZW (by kernel_rfl) rfl rfl ?_;refine xx ?_;refine Z0 fun b1 nb1 zb1=>?_;(try simp only[ZU]at nb1);refine xx ?_;refine Z0 fun b2 nb2 zb2=>?_;(try simp only[ZU]at nb2);refine xx ?_;refine Zb.ap (Zvl m.eff p.absent 10000 ue (by omega) (by decide) fun h1 l1 ap=>?_);simp only[Ap]at ap;obtain⟨q2,q1,_⟩:=ap;by_cases c1:mode=3
 ·have e1:Ji p m mode=uqE m.eff m.score p.quot:=by rw[Ji,if_pos c1]
  have e2:W9 p m mode=uqN m.eff m.score p.quot:=by rw[W9,if_pos c1]
  rw[e1,e2]at hk;refine xx ?_;refine Zb.ap (Zvg m.eff m.score p.quot ue us u1 fun h2 l2 ap=>?_);simp only[Ap]at ap;obtain⟨q22,q21,_⟩:=ap;have hk:=hk h2 (l1.trans l2);by_cases c2:uqE m.eff m.score p.quot=0
  ·rw[if_pos c2]at hk;by_cases c4:m.bal<uqN m.eff m.score p.quot
   ·rw[Int.min_eq_right (by omega)]at hk;refine xx ?_;exact ZO (ZO (ZP hk))
   ·rw[Int.min_eq_left (by omega)]at hk;refine xx ?_;exact ZO (ZO (ZP hk))
  ·rw[if_neg c2]at hk;refine xx ?_;exact ZO (ZO (ZP hk))
 ·by_cases c3:mode=4
  ·have e1:Ji p m mode=uqE m.eff m.score p.quotEm:=by rw[Ji,if_neg c1,if_pos c3]
   have e2:W9 p m mode=uqN m.eff m.score p.quotEm:=by rw[W9,if_neg c1,if_pos c3]
   rw[e1,e2]at hk;refine xx ?_;refine Zb.ap (Zvg m.eff m.score p.quotEm ue us u2 fun h2 l2 ap=>?_);simp only[Ap]at ap;obtain⟨q22,q21,_⟩:=ap;have hk:=hk h2 (l1.trans l2);by_cases c2:uqE m.eff m.score p.quotEm=0
   ·rw[if_pos c2]at hk;by_cases c4:m.bal<uqN m.eff m.score p.quotEm
    ·rw[Int.min_eq_right (by omega)]at hk;refine xx ?_;exact ZO (ZO (ZP hk))
    ·rw[Int.min_eq_left (by omega)]at hk;refine xx ?_;exact ZO (ZO (ZP hk))
   ·rw[if_neg c2]at hk;refine xx ?_;exact ZO (ZO (ZP hk))
  ·have e1:Ji p m mode=dwE m.eff p.absent 10000:=by rw[Ji,if_neg c1,if_neg c3]
   have e2:W9 p m mode=dwN m.eff p.absent 10000:=by rw[W9,if_neg c1,if_neg c3]
   rw[e1,e2]at hk;have hk:=hk h1 l1;by_cases c2:dwE m.eff p.absent 10000=0
   ·rw[if_pos c2]at hk;by_cases c4:m.bal<dwN m.eff p.absent 10000
    ·rw[Int.min_eq_right (by omega)]at hk;refine xx ?_;exact ZO (ZO (ZP hk))
    ·rw[Int.min_eq_left (by omega)]at hk;refine xx ?_;exact ZO (ZO (ZP hk))
   ·rw[if_neg c2]at hk;refine xx ?_;exact ZO (ZO (ZP hk))
def sdC (m:Zc):List Value:=[.int .u64 m.bal,.int .u64 m.eff,.int .u64 m.score,.int .i64 m.streak]
theorem Zkt (m:Zc):(sdC m).length=4:=rfl
theorem Yti {p:Zd}(hr:Yb p=true){m:Zc}(mo:Ze m):0≤YS p m∧YS p m≤71468255805440000:=by
 have hs:=Ya hr;have hb:=GD hr;have ue:=mo.u m.eff (by simp);unfold YS;split
 ·decide
 ·have s0:0≤min (max m.streak 0) p.streak∧min (max m.streak 0) p.streak≤64:=by omega
  generalize min (max m.streak 0) p.streak=s at *
  have b1:=Int.mul_nonneg hs.2.2.1 s0.1;have b2:p.boost*s≤1000*64:=Int.mul_le_mul hs.2.2.2.1 s0.2 s0.1 (by decide);have b3:=Int.mul_nonneg ue.1 (show 0≤1000+p.boost*s by omega);have b4:m.eff*(1000+p.boost*s)≤1099511627776*65000:=Int.mul_le_mul (by omega) (by omega) (by omega) (by decide);exact⟨b3,by omega⟩
theorem Zjz (p:Zd)(ok:Zh p)(hr:Yb p=true)(m:Zc)(mo:Ze m)(hk:K (.int .u64 (YS p m)) L h):Zb prog 300 [W5 p,Zbq m] L h K:=by
 have hs:=Ya hr;have ue:=mo.u m.eff (by simp);have wb:=Yti hr mo;refine ZR func300 rfl (rs:=[_]) rfl rfl ZW (by kernel_rfl) rfl rfl ?_;refine xx ?_;refine Z0 fun b1 nb1 zb1=>?_;(try simp only[ZU]at nb1);refine xx ?_;refine Z0 fun b2 nb2 zb2=>?_;(try simp only[ZU]at nb2);by_cases c:p.maxEff<m.eff
 ·rw[YS,if_pos c]at hk;refine xx ?_;exact ZO (ZO (ZP hk))
 ·rw[YS,if_neg c]at hk wb;have s0:0≤min (max m.streak 0) p.streak∧min (max m.streak 0) p.streak≤64:=by omega
  have b1:=Int.mul_nonneg hs.2.2.1 s0.1;have b2:p.boost*min (max m.streak 0) p.streak≤1000*64:=Int.mul_le_mul hs.2.2.2.1 s0.2 s0.1 (by decide);simp -dsimp -implicitDefEqProofs (disch:=first|with_reducible assumption|omega) [go_sem,Yi];exact ZO (ZO (ZP hk))
theorem Ybq {zs:List Int}{B:Int}(hz:∀i,at0 zs i≤B):∀k:Nat,YF zs k≤k*B
 | 0=>by simp [YF]
 | k+1=>by
  have:=Ybq hz k;have:=hz k;rw[YF,Int.natCast_add,Int.add_mul];simp;omega
theorem Yng {p:Zd}(hr:Yb p=true){l:List Zc}(hm:∀x∈l,Ze x)(hn:l.length≤128):Zhw (l.map (YS p))=0:=by
 have hz:∀i,at0 (l.map (YS p)) i≤71468255805440000:=fun i=>by
  by_cases c:i<(l.map (YS p)).length
  ·rw[← Yh c,List.getElem_map];exact(Yti hr (hm _ (List.getElem_mem _))).2
  ·rw[Ua (by omega)];decide
 have h1:=Ybq hz (l.map (YS p)).length;rw[Zhw,if_pos (by rw[List.length_map];omega),if_pos];rw[tot];rw[List.length_map]at h1 ⊢;omega
theorem Yeb (p:Zd)(ok:Zh p)(hr:Yb p=true)(m:Zc)(mo:Ze m)(b1 b7:Nat)(o:Option (Nat×Nat))(xs:List Value)(n17:b1≠b7)(ho:apB o b1)(hb:h b1=noC)
  (hk:K (.int .u64 (YS p m)) (⟨b7,98,sdC m,4⟩::oent 22 1 o xs (⟨b1,24,Jm p,24⟩::L)) h) :
  Zb prog 299 [Zbq m,.pointer (some ⟨b1,0,none⟩)] (⟨b7,98,sdC m,4⟩::oent 22 1 o xs (⟨b1,24,Jm p,24⟩::L)) h K:=by
 simp only[sdC]at hk ⊢;refine ZR func299 rfl (rs:=[_]) rfl rfl ZW (by kernel_rfl) rfl rfl ?_;refine xx ?_;refine Z0 fun b2 nb2 zb2=>?_;(try simp only[ZU]at nb2);have n2:=Yt nb2.2;simp only[ZU]at n2;simp -dsimp -implicitDefEqProofs (disch:=first|with_reducible assumption|omega) [go_sem,ZQ ho];refine Zjz p ok hr m mo ?_;refine xx ?_;exact ZO (ZP hk)
theorem Ztk {l:List Zc}(p:Zd)(ok:Zh p)(hr:Yb p=true)(v:Value)(hd0:Zj sdC 4 h v l)(hm:∀x∈l,Ze x)(hn:l.length≤100000)(b1:Nat)
  (hk:∀h' r,PH.le h h'→Ints h' .u64 r (l.map (YS p))→K r (⟨b1,24,Jm p,24⟩::L) h') :
  Zb prog 298 [.func (.func 299) #[] #[.pointer (some ⟨b1,0,none⟩)],v] (⟨b1,24,Jm p,24⟩::L) h K:=by
 obtain⟨a,c,rfl,hc,hl,_,hd⟩:=hd0.open;refine Z5 func298 rfl (rs:=[_]) rfl rfl ZW (by kernel_rfl) rfl rfl fun ap nd=>?_;simp only[Ap]at ap;have hb1:=ap.1;clear ap nd;refine xx ?_;refine YJ (γ:=Nat×Option (Nat×Nat)) (0,none) (fun s=>s.1≤l.length∧okO s.2 s.1∧apO s.2 (⟨b1,24,Jm p,24⟩::L) h) (fun s=>[(10,.int .i64 s.1),(9,.int .i64 l.length),(8,.slice a l.length c),(5,ovs s.2 s.1),(0,.func (.func 299) #[] #[.pointer (some ⟨b1,0,none⟩)])])
  (fun s=>oent 22 1 s.2 (Ge (YS p) l s.1) (⟨b1,24,Jm p,24⟩::L)) (fun _=>h) (fun s=>l.length-s.1) ?_ ?_ ?_ ?_
 ·exact⟨Nat.zero_le _,rfl,trivial⟩
 ·simp [Ent,List.lookup,Wv,ovs]
 ·exact Za.refl _ _
 rintro⟨k,o⟩ ⟨k1,k2,k3⟩;simp only at k1 k2 k3 ⊢;by_cases c1:k<l.length
 ·have hmem:gr ZT l k∈l:=by rw[Yc c1];exact List.getElem_mem c1
  have m1:apB o b1:=k3.head;simp -dsimp -implicitDefEqProofs (disch:=first|with_reducible assumption|omega) [go_sem,↓Zci ZT (by decide) hd,sdC];refine Z0 fun b7 nb7 zb7=>?_;(try simp only[ZU]at nb7);have n7:=Yt nb7;simp only[ZU]at n7;simp -dsimp -implicitDefEqProofs (disch:=first|with_reducible assumption|omega) [go_sem,sdC];refine Yeb p ok hr (gr ZT l k) (hm _ hmem) b1 b7 o _ n7.1 m1 hb1 ?_;simp only[sdC];refine xx ?_;refine Z0 fun b8 nb8 zb8=>?_;(try simp only[ZU]at nb8);refine xx ?_;refine Z2 (t:=25) (e:=22) (sz:=1) (bytes:=8) (by kernel_rfl) Ux rfl rfl rfl rfl (by decide) [_,_] _ o k (Ge (YS p) l k) k2 (Vt k1) (Src.own List.mem_cons_self) (m:=1) (news:=[.int .u64 (YS p (gr ZT l k))]) rfl (by intro u hu;simp only[List.mem_singleton]at hu;subst hu;rfl) (by simp [maxLen];omega) (by omega) ?_;intro o' j1 j2 j3;refine xx ?_;refine⟨k+1,o',⟨by omega,j1,ZY (ZY j2)⟩,by omega,by simp [Ent,List.lookup],?_⟩;rw[JB ZT c1];exact(Za.tail _ _ _).trans (Za.tail _ _ _)
 ·have hkl:k=l.length:=by omega
  subst hkl;refine xx ?_;exact YT (n:=l.length) k2 (Vt (Nat.le_refl _)) (by omega) k3 fun h' le sl=>ZP (hk h' _ le (Zes sl fun x hx=>by have:=Yti hr (hm x hx);omega))
def UA (p:Zd)(n:Int)(l:List Zc):List Int:=YG n (tot (l.map (YS p))) (l.map (YS p))
theorem UO (p:Zd)(n:Int)(l:List Zc):(UA p n l).length=l.length:=by simp [UA,YG]
theorem Zgk {p:Zd}(hr:Yb p=true){n:Int}(hn:0≤n){l:List Zc}(hm:∀x∈l,Ze x)(i:Nat):0≤at0 (UA p n l) i∧at0 (UA p n l) i≤n:=by
 have h0:∀i,0≤at0 (l.map (YS p)) i:=fun i=>by
  by_cases c:i<(l.map (YS p)).length
  ·rw[← Yh c,List.getElem_map];exact(Yti hr (hm _ (List.getElem_mem _))).1
  ·rw[Ua (by omega)];decide
 by_cases c:i<(l.map (YS p)).length
 ·unfold UA YG;rw[GA _ _ c];exact Yad hn (h0 i) (Yk h0 i)
 ·rw[Ua (by rw[UO];simpa using c)];omega
theorem Zjb {p:Zd}(hr:Yb p=true){n:Int}(hn:0≤n∧n≤18446744073709551615){l:List Zc}(hm:∀x∈l,Ze x){h:PH}{v:Value}(sl:Sl h v l.length 1 ((UA p n l).map (.int .u64))):Ints h .u64 v (UA p n l):=by
 refine⟨by rw[UO];exact sl,fun z hz=>?_⟩;obtain⟨i,hi,rfl⟩:=List.mem_iff_getElem.1 hz;have:=Zgk hr hn.1 hm i;rw[Yh hi];rw[show IntKind.u64.min=0 by decide,show IntKind.u64.max=18446744073709551615 by decide];omega
theorem Zos {l:List Zc}(p:Zd)(ok:Zh p)(hr:Yb p=true)(v:Value)(hd0:Zj sdC 4 h v l)(hm:∀x∈l,Ze x)(hn:l.length≤128)(n:Int)(hb:0≤n∧n≤18446744073709551615)
  (hk:∀h' r,PH.le h h'→Ints h' .u64 r (UA p n l)→K (.tuple #[r,.int .u64 (n-tot (UA p n l)),.int .i64 0]) L h') :
  Zb prog 196 [W5 p,.int .u64 n,v] L h K:=by
 obtain⟨a,c,rfl,hc,hl,_,hd⟩:=hd0.open;have hw:=Yng hr hm hn;refine ZR func196 rfl (rs:=[_,_,_]) rfl rfl ZW (by kernel_rfl) rfl rfl ?_;refine xx ?_;refine Z0 fun b1 nb1 zb1=>?_;(try simp only[ZU]at nb1);refine xx ?_;refine WN p ok ?_;rw[hr];refine xx ?_;refine Zb.ap (Ztk p ok hr _ hd0 hm (by omega) b1 fun h1 r1 l1 i1 ap=>?_);simp only[Ap]at ap;obtain⟨p1,_⟩:=ap;obtain⟨ra,rc,rfl,_⟩:=i1.open;rw[List.length_map]at i1;refine xx ?_;refine Ztb n hb _ i1 (fun e=>absurd hw e) fun _ o j1 j2=>?_;obtain⟨x,y,e,hxy⟩:=Z8 j1;rw[e];refine xx ?_;have hlen:(l.map (YS p)).length=l.length:=List.length_map _;refine YT (n:=(l.map (YS p)).length) j1 (by simp [YG]) (by omega) j2 fun h' le sl=>ZO (ZP ?_);rw[e,hlen]at sl;exact hk h' _ (l1.trans le) (Zjb hr hb hm sl)
end Go.X
