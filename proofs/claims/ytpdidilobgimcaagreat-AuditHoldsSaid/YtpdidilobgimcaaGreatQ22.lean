/- Lemmas and contracts. Conditions: as each says. -/
import Derived.Test.YtpdidilobgimcaaGreatQ19
import Derived.Test.YtpdidilobgimcaaGreatQ21
set_option linter.unusedVariables false
set_option linter.unusedSimpArgs false
set_option maxHeartbeats 12800000
set_option maxRecDepth 20000
namespace Go.X
open Go.RowKit Go.Proofs Go.Bl Go.Proofs.Tryz
variable {L:Own} {h:PH} {K:PK}
theorem Zuw (a b c:Int)(ha:0≤a∧a≤18446744073709551615)(hb:0≤b∧b≤18446744073709551615)(hc:0≤c∧c≤18446744073709551615)(hk:∀h',PH.le h h'→K (.tuple #[.int .u64 (dwN a b c),.int .i64 (dwE a b c)]) L h'):Zb prog 277 [.int .u64 a,.int .u64 b,.int .u64 c] L h K:=by
 by_cases c0:c=0
 ·have e:dwE a b c=20:=by rw[dwE,if_pos c0]
  have hk:=hk h (PH.le_refl h);rw[dwN,e]at hk;refine ZS func277 rfl (rs:=[_,_]) rfl rfl ZY (by kernel_rfl) rfl rfl ?_;refine xx ?_;exact ZP hk
 ·refine ZS func277 rfl (rs:=[_,_]) rfl rfl ZY (by kernel_rfl) rfl rfl ?_;refine xx ?_;refine Zxn a b c ha hb ⟨by omega,hc.2⟩ fun h1 q r l1 nq nr=>?_;obtain⟨qa,qk,qc,rfl⟩:=nq.sl;obtain⟨ra,rk,rc,rfl⟩:=nr.sl;refine xx ?_;refine Z0 fun b8 nb8 zb8=>?_;(try simp only[ZT]at nb8);refine xx ?_;refine Z0 fun b9 nb9 zb9=>?_;(try simp only[ZT]at nb9);refine xx ?_;refine Ycp _ nq fun h2 l2=>?_;have h3:=hk h2 (l1.trans l2);by_cases c1:a*b/c≤18446744073709551615
  ·have e:dwE a b c=0:=by rw[dwE,if_neg c0,if_pos c1]
   have e1:Ybk (a*b/c)=true:=decide_eq_true c1;have e2:Zke (a*b/c)=a*b/c:=by rw[Zke,if_pos c1]
   rw[dwN,e,if_pos rfl]at h3;rw[e1,e2];refine xx ?_;exact ZO (ZO (ZP h3))
  ·have e:dwE a b c=10:=by rw[dwE,if_neg c0,if_neg c1]
   have e1:Ybk (a*b/c)=false:=decide_eq_false c1;have e2:Zke (a*b/c)=0:=by rw[Zke,if_neg c1]
   rw[dwN,e]at h3;rw[e1,e2];refine xx ?_;exact ZO (ZO (ZP h3))
def Zew (k:Nat):Int:=if k<32 then 2 ^ (31-k) else 0
theorem Zvi {k:Nat}(hk:k<32):Zew k/2=Zew (k+1):=by
 have:∀k,k<32→Zew k/2=Zew (k+1):=by decide +kernel
 exact this k hk
theorem Yei {k:Nat}(hk:k<32):1≤Zew k∧Zew k≤2147483648:=by
 have:∀k,k<32→1≤Zew k∧Zew k≤2147483648:=by decide +kernel
 exact this k hk
theorem Ycr (n:Int)(hn:0≤n∧n≤18446744073709551615)(hk:K (.int .u64 (Jb n)) L h):Zb prog 332 [.int .u64 n] L h K:=by
 refine ZS func332 rfl (rs:=[_]) rfl rfl ZY (by kernel_rfl) rfl rfl ?_;refine xx ?_;refine Wj (0:Nat) (fun k=>k≤32) (fun k=>[(4,.int .u64 (Zew k)),(3,.int .u64 (rtK n k)),(0,.int .u64 n)]) (fun k=>32-k) ?_ ?_ ?_
 ·exact Nat.zero_le _
 ·simp [Ent,List.lookup,Y5,Zew,rtK]
 intro k hk1;by_cases c1:k<32
 ·obtain⟨a1,a2,a3,a4⟩:=Zyi hn k hk1;obtain⟨b1,b2⟩:=Yei c1;have e:(2:Int) ^ (32-k)=2*Zew k:=by
   rw[Zew,if_pos c1,show 32-k=(31-k)+1 by omega,Int.pow_succ,Int.mul_comm]
  have hh:=Zvi c1;have hp:=WI (rtK n k+Zew k) (rtK n k+Zew k) (by omega) (by omega) (by omega) (by omega);have hs:rtK n (k+1)=if (rtK n k+Zew k)*(rtK n k+Zew k)≤n then rtK n k+Zew k else rtK n k:=by rw[rtK,Zew,if_pos c1]
  rw[e]at a2
  generalize Zew k=b at *
  generalize rtK n k=r at *
  by_cases c2:(r+b)*(r+b)≤n
  ·rw[if_pos c2]at hs;simp -dsimp -implicitDefEqProofs (disch:=first|with_reducible assumption|omega) [go_sem,hh];exact⟨k+1,by omega,by omega,by simp [Ent,List.lookup,hs],Za.refl _ _⟩
  ·rw[if_neg c2]at hs;simp -dsimp -implicitDefEqProofs (disch:=first|with_reducible assumption|omega) [go_sem,hh];exact⟨k+1,by omega,by omega,by simp [Ent,List.lookup,hs],Za.refl _ _⟩
 ·have hkl:k=32:=by omega
  subst hkl;rw[show Zew 32=0 from rfl];refine xx ?_;exact ZP hk
theorem Ztd (m:Int)(hm:0≤m∧m≤18446744073709551615)(hk:∀h' r,PH.le h h'→Nt h' r (m*m) 41→K r L h'):Zb prog 365 [.int .u64 m] L h K:=by
 refine ZS func365 rfl (rs:=[_]) rfl rfl ZY (by kernel_rfl) rfl rfl ?_;refine xx ?_;refine Z0 fun b1 nb1 zb1=>?_;(try simp only[ZT]at nb1);refine xx ?_;refine Wr _ hm.1 hm.2 fun h1 r1 l1 n1=>?_;refine xx ?_;refine Wr _ hm.1 hm.2 fun h2 r2 l2 n2=>?_;refine xx ?_;refine Zb.ap (JL _ _ (n1.up l2) n2 (by decide) fun h3 r3 l3 n3 ap=>?_);simp only[Ap]at ap;obtain⟨p1,_⟩:=ap;obtain⟨sa,sk,sc,rfl⟩:=n3.sl;refine xx ?_;exact ZO (ZP (hk h3 _ (l1.trans (l2.trans l3)) n3))
theorem Zwu (a b:Int):Gv a b≤0↔a≤b:=by
 unfold Gv;split
 ·constructor<;>omega
 ·split
  ·constructor<;>omega
  ·constructor<;>omega
theorem Zwy (n:Int)(hn:0≤n∧n≤18446744073709551615)(hk:∀h',PH.le h h'→K (.int .u64 (Jb n)) L h'):Zb prog 333 [.int .u64 n] L h K:=by
 refine ZS func333 rfl (rs:=[_]) rfl rfl ZY (by kernel_rfl) rfl rfl ?_;refine xx ?_;refine Yq (γ:=Int×Int×PH) (0,4294967296,h) (fun s=>0≤s.1∧s.1<s.2.1∧s.2.1≤4294967296∧s.1*s.1≤n∧n<s.2.1*s.2.1∧PH.le h s.2.2) (fun s=>[(4,.int .u64 s.2.1),(3,.int .u64 s.1),(0,.int .u64 n)]) (fun _=>L) (fun s=>s.2.2) (fun s=>(s.2.1-s.1).toNat) ?_ ?_ ?_ ?_
 ·exact⟨Int.le_refl _,show (0:Int)<4294967296 by decide,show (4294967296:Int)≤4294967296 by decide,by simpa using hn.1,by show n<4294967296*4294967296;omega,PH.le_refl _⟩
 ·simp [Ent,List.lookup,Y5]
 ·exact Za.refl _ _
 rintro⟨lo,hi,h1⟩ ⟨i1,i2,i3,i4,i5,i6⟩;simp only at i1 i2 i3 i4 i5 i6 ⊢;by_cases c1:1<hi-lo
 ·obtain⟨m,hm⟩:∃m,m=lo+(hi-lo)/2:=⟨_,rfl⟩
  have m1:lo<m∧m<hi:=by omega
  simp -dsimp -implicitDefEqProofs (disch:=first|with_reducible assumption|omega) [go_sem,← hm];refine Ztd m (by omega) fun h2 r2 l2 n2=>?_;refine xx ?_;refine Wr n hn.1 hn.2 fun h3 r3 l3 n3=>?_;refine xx ?_;refine UX _ _ (n2.up l3) n3 ?_;by_cases c2:m*m≤n
  ·have c3:=(Zwu (m*m) n).2 c2;refine xx ?_;exact⟨m,hi,h3,⟨by omega,by omega,i3,c2,i5,i6.trans (l2.trans l3)⟩,by omega,by simp [Ent,List.lookup],Za.refl _ _⟩
  ·have c3:¬Gv (m*m) n≤0:=fun x=>c2 ((Zwu _ _).1 x);refine xx ?_;exact⟨lo,m,h3,⟨i1,by omega,by omega,i4,by omega,i6.trans (l2.trans l3)⟩,by omega,by simp [Ent,List.lookup],Za.refl _ _⟩
 ·have e:hi=lo+1:=by omega
  rw[e]at i5;have hr:=Ydh hn i1 i4 i5;rw[hr];refine xx ?_;exact ZP (hk h1 i6)
theorem Zih (mode:Int)(hk:K (.bool (decide (mode=3∨mode=4))) L h):Zb prog 248 [.int .i64 mode] L h K:=by
 refine ZS func248 rfl (rs:=[_]) rfl rfl ZY (by kernel_rfl) rfl rfl ?_;by_cases c:mode=3
 ·rw[decide_eq_true (Or.inl c)]at hk;refine xx ?_;exact ZP hk
 ·rw[show decide (mode=3∨mode=4)=decide (mode=4) by apply decide_eq_decide.2;omega]at hk;refine xx ?_;exact ZP hk
theorem Zni (mode:Int)(hk:K (.bool (decide (mode=3∨mode=4))) L h):Zb prog 223 [.int .i64 mode] L h K:=by
 refine ZS func223 rfl (rs:=[_]) rfl rfl ZY (by kernel_rfl) rfl rfl ?_;by_cases c:mode=3
 ·rw[decide_eq_true (Or.inl c)]at hk;refine xx ?_;exact ZP hk
 ·rw[show decide (mode=3∨mode=4)=decide (mode=4) by apply decide_eq_decide.2;omega]at hk;refine xx ?_;exact ZP hk
theorem Yrh {p:Zd}{ac:Int}(h1:ac≠0)(h2:¬ 4611686018427387904<ac):Zdj p ac=dwN ac p.rate (1048576*Jb ac):=by
 rw[Zdj,if_neg];omega
theorem Ziy (p:Zd)(ok:Zj p)(hr:Yl p=true)(ac:Int)(ha:0≤ac∧ac≤18446744073709551615)(hk:K (.int .u64 (Zdj p ac)) L h):Zb prog 249 [Vp p,.int .u64 ac] L h K:=by
 have ur:=ok.w p.rate (by simp [Yy]);refine ZS func249 rfl (rs:=[_]) rfl rfl ZY (by kernel_rfl) rfl rfl ?_;refine xx ?_;refine Z0 fun b1 nb1 zb1=>?_;(try simp only[ZT]at nb1);by_cases c1:ac=0
 ·rw[Zdj,if_pos (.inl c1)]at hk;refine xx ?_;exact ZO (ZP hk)
 by_cases c2:4611686018427387904<ac
 ·rw[Zdj,if_pos (.inr c2)]at hk;refine xx ?_;exact ZO (ZP hk)
 rw[Yrh c1 c2]at hk;have rp:=Zor (n:=ac) (by omega);have rl:=(Zbu (n:=ac) (by omega)).2.1;refine xx ?_;refine W9 p ok ?_;rw[hr];refine xx ?_;refine Yi (.tk 0 (.tk 1 (.tk 3 (.tkl 2 (.o1 4 (.tk 5 (.o1 6 (.tk 7 (.tk 8 (.tk 9 (.tk 10 (.tk 11 (.fin)))))) (.nil))) (.nil)))))) (by kernel_rfl) (by kernel_rfl) _ (Za.refl _ _) ?_;refine xx ?_;refine Ycr ac ha ?_
 first
 | refine xkp (Za.refl _ _) ?_
 | skip
 refine xx ?_;refine Zaq ac p.rate (1048576*Jb ac) ha ur (by omega) ?_
 first
 | refine xkp (Za.refl _ _) ?_
 | skip
 refine xx ?_;by_cases c3:dwE ac p.rate (1048576*Jb ac)=0
 ·refine xx ?_;exact ZO (ZP hk)
 ·rw[dwN,if_neg c3]at hk;refine xx ?_;exact ZO (ZP hk)
theorem Zko (p:Zd)(ok:Zj p)(ac:Int)(ha:0≤ac∧ac≤18446744073709551615)(hk:∀h',PH.le h h'→K (.int .u64 (Zdj p ac)) L h'):Zb prog 253 [Vp p,.int .u64 ac] L h K:=by
 have ur:=ok.w p.rate (by simp [Yy]);refine ZS func253 rfl (rs:=[_]) rfl rfl ZY (by kernel_rfl) rfl rfl ?_;refine xx ?_;refine Z0 fun b1 nb1 zb1=>?_;(try simp only[ZT]at nb1);by_cases c1:ac=0
 ·have hk:=hk h (PH.le_refl _);rw[Zdj,if_pos (.inl c1)]at hk;refine xx ?_;exact ZO (ZP hk)
 by_cases c2:4611686018427387904<ac
 ·have hk:=hk h (PH.le_refl _);rw[Zdj,if_pos (.inr c2)]at hk;refine xx ?_;exact ZO (ZP hk)
 rw[Yrh c1 c2]at hk;have rp:=Zor (n:=ac) (by omega);have rl:=(Zbu (n:=ac) (by omega)).2.1;refine xx ?_;refine Yi (.tk 0 (.tk 1 (.tk 3 (.tkl 2 (.o1 4 (.tk 5 (.o1 6 (.tk 7 (.tk 8 (.tk 9 (.tk 10 (.tk 11 (.fin)))))) (.nil))) (.nil)))))) (by kernel_rfl) (by kernel_rfl) _ (Za.refl _ _) ?_;refine xx ?_;refine Zwy ac ha fun h1 l1=>?_
 first
 | refine xkp (Za.forget l1) ?_
 | skip
 refine xx ?_;refine Zuw ac p.rate (1048576*Jb ac) ha ur (by omega) fun h2 l2=>?_
 first
 | refine xkp (Za.forget (l1.trans l2)) ?_
 | skip
 refine xx ?_;exact ZO (ZP (hk h2 (l1.trans l2)))
theorem Zjz {zs:List Int}(most:Int)(v:Value)(hz:Ints h .u64 v zs)(hm:most≤18446744073709551615)(hk:K (.bool (decide (tot zs≤most))) L h):Zb prog 296 [.int .u64 most,v] L h K:=by
 refine ZS func296 rfl (rs:=[_]) rfl rfl ZY (by kernel_rfl) rfl rfl ?_;refine xx ?_;refine WK v hz ?_;by_cases c:tot zs≤18446744073709551615
 ·rw[YK c];refine xx ?_;exact ZP hk
 ·rw[decide_eq_false (show ¬tot zs≤most by omega)]at hk;rw[Wl c];refine xx ?_;exact ZP hk
theorem Yxz {p:Zd}(ok:Zj p){ac:Int}(ha:0≤ac∧ac≤18446744073709551615):0≤Zdj p ac∧Zdj p ac≤18446744073709551615:=by
 have ur:=ok.w p.rate (by simp [Yy]);unfold Zdj;split
 ·decide
 ·exact Yvh ha.1 ur.1 (by have:=(Zbu ha).1;omega)
theorem Zwa (p:Zd)(ok:Zj p)(hr:Yl p=true)(ac is most mode:Int)(ha:0≤ac∧ac≤18446744073709551615)(hi:0≤is∧is≤18446744073709551615)(hm:0≤most∧most≤18446744073709551615)(hk:∀h',PH.le h h'→K (.int .u64 (G8 p ac is most mode)) L h') :
  Zb prog 193 [Vp p,.int .u64 ac,.int .u64 is,.int .u64 most,.int .i64 mode] L h K:=by
 have bb:=Yxz ok ha;refine ZS func193 rfl (rs:=[_]) rfl rfl ZY (by kernel_rfl) rfl rfl ?_;refine xx ?_;refine Z0 fun b1 nb1 zb1=>?_;(try simp only[ZT]at nb1);refine xx ?_;refine Ziy p ok hr ac ha ?_;refine xx ?_;refine Zih mode ?_;by_cases c1:mode=3∨mode=4
 ·have hk:=hk h (PH.le_refl _);rw[G8,if_pos (.inl c1)]at hk;rw[decide_eq_true c1];refine xx ?_;exact ZO (ZP hk)
 ·rw[decide_eq_false c1];refine xx ?_;refine Z0 fun b2 nb2 zb2=>?_;(try simp only[ZT]at nb2);refine xx ?_;refine Yg (sz:=1) (n:=2) (cap:=2) [] ⟨Nat.le_refl _,by decide⟩ rfl (by decide) zb2 fun h2 le2 s2 f2=>?_;refine Zjz (zs:=[is,Zdj p ac]) most _ ⟨s2,fun z hz=>?_⟩ hm.2 ?_
  ·simp only[List.mem_cons,List.not_mem_nil,or_false]at hz;rcases hz with rfl|rfl<;>assumption
  have hk:=hk h2 le2;rw[Zwe];simp only[List.nil_append];by_cases c2:is+Zdj p ac≤most
  ·rw[G8,if_neg (by omega)]at hk;rw[decide_eq_true c2];refine xx ?_;exact ZO (ZP hk)
  ·rw[G8,if_pos (.inr (by omega))]at hk;rw[decide_eq_false c2];refine xx ?_;exact ZO (ZP hk)
theorem Yxm {a b:Int}(ha:0≤a∧a≤18446744073709551615)(hb:0≤b):0≤Wd a b∧Wd a b≤a:=by
 unfold Wd;split<;>omega
theorem Yfi (p:Zd)(ok:Zj p)(hr:Yl p=true)(m:Zc)(mo:Zh m)(n:Int)(hn:0≤n∧n≤18446744073709551615)(hk:K (.tuple #[Zjn (UD p m n).1,.int .u64 (UD p m n).2]) L h):Zb prog 197 [Vp p,Zjn m,.int .u64 n] L h K:=by
 have ub:=mo.u m.bal (by simp);have uc:=ok.w p.cap (by simp [Yy]);have fb:=Yxm uc ub.1;have fs:m.bal+min n (Wd p.cap m.bal)≤18446744073709551615:=by unfold Wd at *;split<;>omega
 unfold UD at hk;refine ZS func197 rfl (rs:=[_,_]) rfl rfl ZY (by kernel_rfl) rfl rfl ?_;refine xx ?_;refine Z0 fun b1 nb1 zb1=>?_;(try simp only[ZT]at nb1);refine xx ?_;refine Z0 fun b2 nb2 zb2=>?_;(try simp only[ZT]at nb2);refine xx ?_;refine Z0 fun b3 nb3 zb3=>?_;(try simp only[ZT]at nb3);refine xx ?_;refine W9 p ok ?_;rw[hr];refine xx ?_;refine Zcx p.cap m.bal uc ub ?_;refine xx ?_;refine Zio n (Wd p.cap m.bal) hn fb.1 ?_;refine xx ?_;exact ZO (ZO (ZO (ZP hk)))
theorem Zzs {p:Zd}(ok:Zj p)(hr:Yl p=true){m:Zc}(mo:Zh m)(mode:Int):0≤Zdh p m mode∧Zdh p m mode≤18446744073709551615:=by
 have ue:=mo.u m.eff (by simp);have us:=mo.u m.score (by simp);have hs:=Yh hr;have u1:=ok.w p.quot (by simp [Yy]);have u2:=ok.w p.quotEm (by simp [Yy]);unfold Zdh;split
 ·exact Yzi ue.1 us.1 u1.1
 ·split
  ·exact Yzi ue.1 us.1 u2.1
  ·exact Yvh ue.1 hs.2.2.2.2.1 (by decide)
theorem Zzi {p:Zd}(ok:Zj p)(hr:Yl p=true){m:Zc}(mo:Zh m)(mode:Int):0≤Y3 p m mode∧Y3 p m mode≤m.bal:=by
 have ub:=mo.u m.bal (by simp);have:=Zzs ok hr mo mode;unfold Y3;split<;>omega
abbrev absV (p:Zd)(m:Zc)(mode:Int):Value := .agg #[.int .u64 m.bal,.int .u64 m.eff,.int .u64 m.score,.int .i64 m.streak,.int .u64 p.inc,.int .u64 p.maxEff,.int .u64 p.floor,.int .u64 p.cap,.int .u64 p.up,.int .u64 p.down,.int .u64 p.bias,.int .u64 p.quot,.int .u64 p.biasEm,.int .u64 p.quotEm,.int .u64 p.recover,.int .u64 p.scoreCap,.int .u64 p.rate,.int .u64 p.bond,.int .i64 p.delay,.int .i64 p.streak,.int .i64 p.boost,.int .i64 p.absent,.int .i64 p.burn,.int .i64 p.churn,.int .i64 p.wait,.int .i64 p.poll,.int .i64 p.enact,.int .i64 p.quorum,.int .i64 mode]
theorem Zwj (p:Zd)(ok:Zj p)(hr:Yl p=true)(m:Zc)(mo:Zh m)(mode:Int)(hk:K (.int .u64 (Y3 p m mode)) L h):Zb prog 341 [absV p m mode] L h K:=by
 have ub:=mo.u m.bal (by simp);have ue:=mo.u m.eff (by simp);have us:=mo.u m.score (by simp);have hs:=Yh hr;have u1:=ok.w p.quot (by simp [Yy]);have u2:=ok.w p.quotEm (by simp [Yy]);have bq:=Zzs ok hr mo mode;unfold Y3 at hk;refine ZS func341 rfl (rs:=[_]) rfl rfl ZY (by kernel_rfl) rfl rfl ?_;refine xx ?_;refine Z0 fun b1 nb1 zb1=>?_;(try simp only[ZT]at nb1);refine xx ?_;by_cases c1:mode=3
 ·have e1:Zlf p m mode=uqE m.eff m.score p.quot:=by rw[Zlf,if_pos c1]
  have e2:Zdh p m mode=uqN m.eff m.score p.quot:=by rw[Zdh,if_pos c1]
  rw[e1,e2]at hk;refine xx ?_;refine Yhr m.eff m.score p.quot ue us u1 ?_;by_cases c2:uqE m.eff m.score p.quot=0
  ·rw[if_pos c2]at hk;refine xx ?_;exact ZO (ZP hk)
  ·rw[if_neg c2]at hk;refine xx ?_;exact ZO (ZP hk)
 ·by_cases c3:mode=4
  ·have e1:Zlf p m mode=uqE m.eff m.score p.quotEm:=by rw[Zlf,if_neg c1,if_pos c3]
   have e2:Zdh p m mode=uqN m.eff m.score p.quotEm:=by rw[Zdh,if_neg c1,if_pos c3]
   rw[e1,e2]at hk;refine xx ?_;refine Yhr m.eff m.score p.quotEm ue us u2 ?_;by_cases c2:uqE m.eff m.score p.quotEm=0
   ·rw[if_pos c2]at hk;refine xx ?_;exact ZO (ZP hk)
   ·rw[if_neg c2]at hk;refine xx ?_;exact ZO (ZP hk)
  ·have e1:Zlf p m mode=dwE m.eff p.absent 10000:=by rw[Zlf,if_neg c1,if_neg c3]
   have e2:Zdh p m mode=dwN m.eff p.absent 10000:=by rw[Zdh,if_neg c1,if_neg c3]
   rw[e1,e2]at hk;refine xx ?_;refine Zaq m.eff p.absent 10000 ue (by omega) (by decide) ?_;by_cases c2:dwE m.eff p.absent 10000=0
   ·rw[if_pos c2]at hk;refine xx ?_;exact ZO (ZP hk)
   ·rw[if_neg c2]at hk;refine xx ?_;exact ZO (ZP hk)
theorem Yjj (p:Zd)(ok:Zj p)(hr:Yl p=true)(m:Zc)(mo:Zh m)(mode:Int)(hk:K (.int .u64 (Y3 p m mode)) L h):Zb prog 270 [Vp p,Zjn m,.int .i64 mode] L h K:=by
 refine ZS func270 rfl (rs:=[_]) rfl rfl ZY (by kernel_rfl) rfl rfl ?_;refine xx ?_;refine Z0 fun b1 nb1 zb1=>?_;(try simp only[ZT]at nb1);refine xx ?_;refine Z0 fun b2 nb2 zb2=>?_;(try simp only[ZT]at nb2);refine xx ?_;refine W9 p ok ?_;rw[hr];refine xx ?_;refine Zwj p ok hr m mo mode ?_;refine xx ?_;exact ZO (ZO (ZP hk))
theorem Yjr (n r:Int)(hn:0≤n∧n≤18446744073709551615)(hr:0≤r∧r≤10000)(hk:K (.tuple #[.int .u64 (dwN n r 10000),.int .u64 (n-dwN n r 10000),.int .i64 0]) L h):Zb prog 342 [.int .u64 n,.int .i64 r] L h K:=by
 have h1:n*r≤n*10000:=Int.mul_le_mul_of_nonneg_left hr.2 hn.1;have h0:=Int.mul_nonneg hn.1 hr.1;have e:dwE n r 10000=0:=by
  unfold dwE;rw[if_neg (by decide),if_pos];omega
 have b:0≤dwN n r 10000∧dwN n r 10000≤n:=by rw[dwN,if_pos e];omega
 refine ZS func342 rfl (rs:=[_,_,_]) rfl rfl ZY (by kernel_rfl) rfl rfl ?_;refine xx ?_;refine Zaq n r 10000 hn (by omega) (by decide) ?_;rw[e];refine xx ?_;exact ZP hk
theorem Zrc (p:Zd)(ok:Zj p)(hr:Yl p=true)(n:Int)(hn:0≤n∧n≤18446744073709551615)(hk:K (.tuple #[.int .u64 (V8 p n),.int .u64 (n-V8 p n)]) L h):Zb prog 271 [Vp p,.int .u64 n] L h K:=by
 have hs:=Yh hr;unfold V8 at hk;refine ZS func271 rfl (rs:=[_,_]) rfl rfl ZY (by kernel_rfl) rfl rfl ?_;refine xx ?_;refine Z0 fun b1 nb1 zb1=>?_;(try simp only[ZT]at nb1);refine xx ?_;refine W9 p ok ?_;rw[hr];refine xx ?_;refine Yjr n p.burn hn (by omega) ?_;refine xx ?_;exact ZO (ZP hk)
def JB (p:Zd)(m:Zc)(mode:Int):Zc:={ m with bal:=m.bal-Y3 p m mode }
theorem Zxx (p:Zd)(ok:Zj p)(hr:Yl p=true)(m:Zc)(mo:Zh m)(mode:Int)(hk:K (.tuple #[Zjn (JB p m mode),.int .u64 (V8 p (Y3 p m mode)),.int .u64 (Y3 p m mode-V8 p (Y3 p m mode))]) L h):Zb prog 153 [Vp p,Zjn m,.int .i64 mode] L h K:=by
 have ub:=mo.u m.bal (by simp);have fb:=Zzi ok hr mo mode;unfold JB at hk;refine ZS func153 rfl (rs:=[_,_,_]) rfl rfl ZY (by kernel_rfl) rfl rfl ?_;refine xx ?_;refine Z0 fun b1 nb1 zb1=>?_;(try simp only[ZT]at nb1);refine xx ?_;refine Z0 fun b2 nb2 zb2=>?_;(try simp only[ZT]at nb2);refine xx ?_;refine Z0 fun b3 nb3 zb3=>?_;(try simp only[ZT]at nb3);refine xx ?_;refine Yjj p ok hr m mo mode ?_;refine xx ?_;refine Zrc p ok hr (Y3 p m mode) (by omega) ?_;refine xx ?_;exact ZO (ZO (ZO (ZP hk)))
def sdC (m:Zc):List Value:=[.int .u64 m.bal,.int .u64 m.eff,.int .u64 m.score,.int .i64 m.streak]
theorem Zmd (m:Zc):(sdC m).length=4:=rfl
theorem Yww {p:Zd}(hr:Yl p=true){m:Zc}(mo:Zh m):0≤Y0 p m∧Y0 p m≤71468255805440000:=by
 have hs:=Yh hr;have hb:=Ycw hr;have ue:=mo.u m.eff (by simp);unfold Y0;split
 ·decide
 ·have s0:0≤min (max m.streak 0) p.streak∧min (max m.streak 0) p.streak≤64:=by omega
  generalize min (max m.streak 0) p.streak=s at *
  have b1:=Int.mul_nonneg hs.2.2.1 s0.1;have b2:p.boost*s≤1000*64:=Int.mul_le_mul hs.2.2.2.1 s0.2 s0.1 (by decide);have b3:=Int.mul_nonneg ue.1 (show 0≤1000+p.boost*s by omega);have b4:m.eff*(1000+p.boost*s)≤1099511627776*65000:=Int.mul_le_mul (by omega) (by omega) (by omega) (by decide);exact⟨b3,by omega⟩
theorem Znb (p:Zd)(ok:Zj p)(hr:Yl p=true)(m:Zc)(mo:Zh m)(hk:K (.int .u64 (Y0 p m)) L h):Zb prog 300 [Vp p,Zjn m] L h K:=by
 have hs:=Yh hr;have ue:=mo.u m.eff (by simp);have wb:=Yww hr mo;refine ZS func300 rfl (rs:=[_]) rfl rfl ZY (by kernel_rfl) rfl rfl ?_;refine xx ?_;refine Z0 fun b1 nb1 zb1=>?_;(try simp only[ZT]at nb1);refine xx ?_;refine Z0 fun b2 nb2 zb2=>?_;(try simp only[ZT]at nb2);by_cases c:p.maxEff<m.eff
 ·rw[Y0,if_pos c]at hk;refine xx ?_;exact ZO (ZO (ZP hk))
 ·rw[Y0,if_neg c]at hk wb;have s0:0≤min (max m.streak 0) p.streak∧min (max m.streak 0) p.streak≤64:=by omega
  have b1:=Int.mul_nonneg hs.2.2.1 s0.1;have b2:p.boost*min (max m.streak 0) p.streak≤1000*64:=Int.mul_le_mul hs.2.2.2.1 s0.2 s0.1 (by decide);simp -dsimp -implicitDefEqProofs (disch:=first|with_reducible assumption|omega) [go_sem,YF];exact ZO (ZO (ZP hk))
theorem Ygw {zs:List Int}{B:Int}(hz:∀i,at0 zs i≤B):∀k:Nat,YL zs k≤k*B
 | 0=>by simp [YL]
 | k+1=>by
  have:=Ygw hz k;have:=hz k;rw[YL,Int.natCast_add,Int.add_mul];simp;omega
theorem Yxr {p:Zd}(hr:Yl p=true){l:List Zc}(hm:∀x∈l,Zh x)(hn:l.length≤128):Zkg (l.map (Y0 p))=0:=by
 have hz:∀i,at0 (l.map (Y0 p)) i≤71468255805440000:=fun i=>by
  by_cases c:i<(l.map (Y0 p)).length
  ·rw[← Yf c,List.getElem_map];exact(Yww hr (hm _ (List.getElem_mem _))).2
  ·rw[UT (by omega)];decide
 have h1:=Ygw hz (l.map (Y0 p)).length;rw[Zkg,if_pos (by rw[List.length_map];omega),if_pos];rw[tot];rw[List.length_map]at h1 ⊢;omega
theorem Ykf (p:Zd)(ok:Zj p)(hr:Yl p=true)(m:Zc)(mo:Zh m)(b1 b7:Nat)(o:Option (Nat×Nat))(xs:List Value)(n17:b1≠b7)(ho:apB o b1)(hb:h b1=noC)
  (hk:K (.int .u64 (Y0 p m)) (⟨b7,98,sdC m,4⟩::oent 22 1 o xs (⟨b1,24,GT p,24⟩::L)) h) :
  Zb prog 299 [Zjn m,.pointer (some ⟨b1,0,none⟩)] (⟨b7,98,sdC m,4⟩::oent 22 1 o xs (⟨b1,24,GT p,24⟩::L)) h K:=by
 simp only[sdC]at hk ⊢;refine ZS func299 rfl (rs:=[_]) rfl rfl ZY (by kernel_rfl) rfl rfl ?_;refine xx ?_;refine Z0 fun b2 nb2 zb2=>?_;(try simp only[ZT]at nb2);have n2:=Yr nb2.2;simp only[ZT]at n2;simp -dsimp -implicitDefEqProofs (disch:=first|with_reducible assumption|omega) [go_sem,ZQ ho];refine Znb p ok hr m mo ?_;refine xx ?_;exact ZO (ZP hk)
theorem Zxg {l:List Zc}(p:Zd)(ok:Zj p)(hr:Yl p=true)(v:Value)(hd0:Zg sdC 4 h v l)(hm:∀x∈l,Zh x)(hn:l.length≤100000)(b1:Nat)
  (hk:∀h' r,PH.le h h'→Ints h' .u64 r (l.map (Y0 p))→K r (⟨b1,24,GT p,24⟩::L) h') :
  Zb prog 298 [.func (.func 299) #[] #[.pointer (some ⟨b1,0,none⟩)],v] (⟨b1,24,GT p,24⟩::L) h K:=by
 obtain⟨a,c,rfl,hc,hl,_,hd⟩:=hd0.open;refine Z9 func298 rfl (rs:=[_]) rfl rfl ZY (by kernel_rfl) rfl rfl fun ap nd=>?_;simp only[Ap]at ap;have hb1:=ap.1;clear ap nd;refine xx ?_;refine Yq (γ:=Nat×Option (Nat×Nat)) (0,none) (fun s=>s.1≤l.length∧okO s.2 s.1∧apO s.2 (⟨b1,24,GT p,24⟩::L) h) (fun s=>[(10,.int .i64 s.1),(9,.int .i64 l.length),(8,.slice a l.length c),(5,ovs s.2 s.1),(0,.func (.func 299) #[] #[.pointer (some ⟨b1,0,none⟩)])])
  (fun s=>oent 22 1 s.2 (UZ (Y0 p) l s.1) (⟨b1,24,GT p,24⟩::L)) (fun _=>h) (fun s=>l.length-s.1) ?_ ?_ ?_ ?_
 ·exact⟨Nat.zero_le _,rfl,trivial⟩
 ·simp [Ent,List.lookup,Y5,ovs]
 ·exact Za.refl _ _
 rintro⟨k,o⟩ ⟨k1,k2,k3⟩;simp only at k1 k2 k3 ⊢;by_cases c1:k<l.length
 ·have hmem:gr ZR l k∈l:=by rw[Z7 c1];exact List.getElem_mem c1
  have m1:apB o b1:=k3.head;simp -dsimp -implicitDefEqProofs (disch:=first|with_reducible assumption|omega) [go_sem,↓WV ZR (by decide) hd,sdC];refine Z0 fun b7 nb7 zb7=>?_;(try simp only[ZT]at nb7);have n7:=Yr nb7;simp only[ZT]at n7;simp -dsimp -implicitDefEqProofs (disch:=first|with_reducible assumption|omega) [go_sem,sdC];refine Ykf p ok hr (gr ZR l k) (hm _ hmem) b1 b7 o _ n7.1 m1 hb1 ?_;simp only[sdC];refine xx ?_;refine Z0 fun b8 nb8 zb8=>?_;(try simp only[ZT]at nb8);refine xx ?_;refine Z3 (t:=25) (e:=22) (sz:=1) (bytes:=8) (by kernel_rfl) VZ rfl rfl rfl rfl (by decide) [_,_] _ o k (UZ (Y0 p) l k) k2 (WL k1) (Src.own List.mem_cons_self) (m:=1) (news:=[.int .u64 (Y0 p (gr ZR l k))]) rfl (by intro u hu;simp only[List.mem_singleton]at hu;subst hu;rfl) (by simp [maxLen];omega) (by omega) ?_;intro o' j1 j2 j3;refine xx ?_;refine⟨k+1,o',⟨by omega,j1,ZZ (ZZ j2)⟩,by omega,by simp [Ent,List.lookup],?_⟩;rw[VN ZR c1];exact(Za.tail _ _ _).trans (Za.tail _ _ _)
 ·have hkl:k=l.length:=by omega
  subst hkl;refine xx ?_;exact YR (n:=l.length) k2 (WL (Nat.le_refl _)) (by omega) k3 fun h' le sl=>ZP (hk h' _ le (Gc sl fun x hx=>by have:=Yww hr (hm x hx);omega))
def Jg (p:Zd)(n:Int)(l:List Zc):List Int:=YO n (tot (l.map (Y0 p))) (l.map (Y0 p))
theorem Uo (p:Zd)(n:Int)(l:List Zc):(Jg p n l).length=l.length:=by simp [Jg,YO]
theorem Zir {p:Zd}(hr:Yl p=true){n:Int}(hn:0≤n){l:List Zc}(hm:∀x∈l,Zh x)(i:Nat):0≤at0 (Jg p n l) i∧at0 (Jg p n l) i≤n:=by
 have h0:∀i,0≤at0 (l.map (Y0 p)) i:=fun i=>by
  by_cases c:i<(l.map (Y0 p)).length
  ·rw[← Yf c,List.getElem_map];exact(Yww hr (hm _ (List.getElem_mem _))).1
  ·rw[UT (by omega)];decide
 by_cases c:i<(l.map (Y0 p)).length
 ·unfold Jg YO;rw[Zai _ _ c];exact Yee hn (h0 i) (Yv h0 i)
 ·rw[UT (by rw[Uo];simpa using c)];omega
theorem Zmf {p:Zd}(hr:Yl p=true){n:Int}(hn:0≤n∧n≤18446744073709551615){l:List Zc}(hm:∀x∈l,Zh x){h:PH}{v:Value}(sl:Sl h v l.length 1 ((Jg p n l).map (.int .u64))):Ints h .u64 v (Jg p n l):=by
 refine⟨by rw[Uo];exact sl,fun z hz=>?_⟩;obtain⟨i,hi,rfl⟩:=List.mem_iff_getElem.1 hz;have:=Zir hr hn.1 hm i;rw[Yf hi];rw[show IntKind.u64.min=0 by decide,show IntKind.u64.max=18446744073709551615 by decide];omega
theorem Zsa {l:List Zc}(p:Zd)(ok:Zj p)(hr:Yl p=true)(v:Value)(hd0:Zg sdC 4 h v l)(hm:∀x∈l,Zh x)(hn:l.length≤128)(n:Int)(hb:0≤n∧n≤18446744073709551615)
  (hk:∀h' r,PH.le h h'→Ints h' .u64 r (Jg p n l)→K (.tuple #[r,.int .u64 (n-tot (Jg p n l)),.int .i64 0]) L h') :
  Zb prog 196 [Vp p,.int .u64 n,v] L h K:=by
 obtain⟨a,c,rfl,hc,hl,_,hd⟩:=hd0.open;have hw:=Yxr hr hm hn;refine ZS func196 rfl (rs:=[_,_,_]) rfl rfl ZY (by kernel_rfl) rfl rfl ?_;refine xx ?_;refine Z0 fun b1 nb1 zb1=>?_;(try simp only[ZT]at nb1);refine xx ?_;refine W9 p ok ?_;rw[hr];refine xx ?_;refine Zb.ap (Zxg p ok hr _ hd0 hm (by omega) b1 fun h1 r1 l1 i1 ap=>?_);simp only[Ap]at ap;obtain⟨p1,_⟩:=ap;obtain⟨ra,rc,rfl,_⟩:=i1.open;rw[List.length_map]at i1;refine xx ?_;refine Zvr n hb _ i1 (fun e=>absurd hw e) fun _ o j1 j2=>?_;obtain⟨x,y,e,hxy⟩:=Yd j1;rw[e];refine xx ?_;have hlen:(l.map (Y0 p)).length=l.length:=List.length_map _;refine YR (n:=(l.map (Y0 p)).length) j1 (by simp [YO]) (by omega) j2 fun h' le sl=>ZO (ZP ?_);rw[e,hlen]at sl;exact hk h' _ (l1.trans le) (Zmf hr hb hm sl)
end Go.X
