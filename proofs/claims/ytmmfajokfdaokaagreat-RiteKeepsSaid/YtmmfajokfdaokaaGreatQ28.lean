/- Lemmas and contracts. Conditions: as each says. -/
import Derived.Test.YtmmfajokfdaokaaGreatQ26
import Derived.Test.YtmmfajokfdaokaaGreatQ27
set_option linter.unusedVariables false
set_option linter.unusedSimpArgs false
set_option maxHeartbeats 12800000
set_option maxRecDepth 20000
namespace Go.X
open Go.RowKit Go.Proofs Go.Bl Go.Proofs.Tryz
variable {L:Own} {h:PH} {K:PK}
def Zfn (k:Nat):Int:=if k<32 then 2 ^ (31-k) else 0
theorem Zxj {k:Nat}(hk:k<32):Zfn k/2=Zfn (k+1):=by
 have:∀k,k<32→Zfn k/2=Zfn (k+1):=by decide +kernel
 exact this k hk
theorem Ygb {k:Nat}(hk:k<32):1≤Zfn k∧Zfn k≤2147483648:=by
 have:∀k,k<32→1≤Zfn k∧Zfn k≤2147483648:=by decide +kernel
 exact this k hk
theorem Yia (n:Int)(hn:0≤n∧n≤18446744073709551615)(hk:K (.int .u64 (GX n)) L h):Zb prog 323 [.int .u64 n] L h K:=by
 refine ZR func323 rfl (rs:=[_]) rfl rfl ZY (by kernel_rfl) rfl rfl ?_;refine xx ?_;refine Vj (0:Nat) (fun k=>k≤32) (fun k=>[(4,.int .u64 (Zfn k)),(3,.int .u64 (rtK n k)),(0,.int .u64 n)]) (fun k=>32-k) ?_ ?_ ?_
 ·exact Nat.zero_le _
 ·simp [Ent,List.lookup,WM,Zfn,rtK]
 intro k hk1;by_cases c1:k<32
 ·obtain⟨a1,a2,a3,a4⟩:=Ycm hn k hk1;obtain⟨b1,b2⟩:=Ygb c1;have e:(2:Int) ^ (32-k)=2*Zfn k:=by
   rw[Zfn,if_pos c1,show 32-k=(31-k)+1 by omega,Int.pow_succ,Int.mul_comm]
  have hh:=Zxj c1;have hp:=W4 (rtK n k+Zfn k) (rtK n k+Zfn k) (by omega) (by omega) (by omega) (by omega);have hs:rtK n (k+1)=if (rtK n k+Zfn k)*(rtK n k+Zfn k)≤n then rtK n k+Zfn k else rtK n k:=by rw[rtK,Zfn,if_pos c1]
  rw[e]at a2
  generalize Zfn k=b at *
  generalize rtK n k=r at *
  by_cases c2:(r+b)*(r+b)≤n
  ·rw[if_pos c2]at hs;simp -dsimp -implicitDefEqProofs (disch:=first|with_reducible assumption|omega) [go_sem,hh];exact⟨k+1,by omega,by omega,by simp [Ent,List.lookup,hs],Za.refl _ _⟩
  ·rw[if_neg c2]at hs;simp -dsimp -implicitDefEqProofs (disch:=first|with_reducible assumption|omega) [go_sem,hh];exact⟨k+1,by omega,by omega,by simp [Ent,List.lookup,hs],Za.refl _ _⟩
 ·have hkl:k=32:=by omega
  subst hkl;rw[show Zfn 32=0 from rfl];refine xx ?_;exact ZO hk
theorem Ydf (mode:Int)(hk:K (.bool (decide (mode=3∨mode=4))) L h):Zb prog 249 [.int .i64 mode] L h K:=by
 refine ZR func249 rfl (rs:=[_]) rfl rfl ZY (by kernel_rfl) rfl rfl ?_;by_cases c:mode=3
 ·rw[decide_eq_true (Or.inl c)]at hk;refine xx ?_;exact ZO hk
 ·rw[show decide (mode=3∨mode=4)=decide (mode=4) by apply decide_eq_decide.2;omega]at hk;refine xx ?_;exact ZO hk
theorem bud_e {p:Ze}{ac:Int}(h1:ac≠0)(h2:¬ 4611686018427387904<ac):Zwg p ac=dwN ac p.rate (1048576*GX ac):=by
 rw[Zwg,if_neg];omega
theorem Ybg (p:Ze)(ok:Zj p)(hr:Ym p=true)(ac:Int)(ha:0≤ac∧ac≤18446744073709551615)(hk:K (.int .u64 (Zwg p ac)) L h):Zb prog 248 [VQ p,.int .u64 ac] L h K:=by
 have ur:=ok.w p.rate (by simp [Yw]);refine ZR func248 rfl (rs:=[_]) rfl rfl ZY (by kernel_rfl) rfl rfl ?_;refine xx ?_;refine Z6 fun b1 nb1 zb1=>?_;(try simp only[ZU]at nb1);by_cases c1:ac=0
 ·rw[Zwg,if_pos (.inl c1)]at hk;refine xx ?_;exact ZP (ZO hk)
 by_cases c2:4611686018427387904<ac
 ·rw[Zwg,if_pos (.inr c2)]at hk;refine xx ?_;exact ZP (ZO hk)
 rw[bud_e c1 c2]at hk;have rp:=Ygi (n:=ac) (by omega);have rl:=(Zpa (n:=ac) (by omega)).2.1;refine xx ?_;refine Vc p ok ?_;rw[hr];refine xx ?_;refine Yr (.tk 0 (.tk 1 (.tk 3 (.tkl 2 (.o1 4 (.tk 5 (.o1 6 (.tk 7 (.tk 8 (.tk 9 (.tk 10 (.tk 11 (.fin)))))) (.nil))) (.nil)))))) (by kernel_rfl) (by kernel_rfl) _ (Za.refl _ _) ?_;refine xx ?_;refine Yia ac ha ?_
 first
 | refine xkp (Za.refl _ _) ?_
 | skip
 refine xx ?_;refine Zcf ac p.rate (1048576*GX ac) ha ur (by omega) ?_
 first
 | refine xkp (Za.refl _ _) ?_
 | skip
 refine xx ?_;by_cases c3:dwE ac p.rate (1048576*GX ac)=0
 ·refine xx ?_;exact ZP (ZO hk)
 ·rw[dwN,if_neg c3]at hk;refine xx ?_;exact ZP (ZO hk)
theorem Zlf {zs:List Int}(most:Int)(v:Value)(hz:Ints h .u64 v zs)(hm:most≤18446744073709551615)(hk:K (.bool (decide (tot zs≤most))) L h):Zb prog 250 [.int .u64 most,v] L h K:=by
 refine ZR func250 rfl (rs:=[_]) rfl rfl ZY (by kernel_rfl) rfl rfl ?_;refine xx ?_;refine WZ v hz ?_;by_cases c:tot zs≤18446744073709551615
 ·rw[YR c];refine xx ?_;exact ZO hk
 ·rw[decide_eq_false (show ¬tot zs≤most by omega)]at hk;rw[WG c];refine xx ?_;exact ZO hk
theorem Yvi {p:Ze}(ok:Zj p){ac:Int}(ha:0≤ac∧ac≤18446744073709551615):0≤Zwg p ac∧Zwg p ac≤18446744073709551615:=by
 have ur:=ok.w p.rate (by simp [Yw]);unfold Zwg;split
 ·decide
 ·exact Yxj ha.1 ur.1 (by have:=(Zpa ha).1;omega)
theorem Yaa (p:Ze)(ok:Zj p)(hr:Ym p=true)(ac is most mode:Int)(ha:0≤ac∧ac≤18446744073709551615)(hi:0≤is∧is≤18446744073709551615)(hm:0≤most∧most≤18446744073709551615)(hk:∀h',PH.le h h'→K (.int .u64 (Znx p ac is most mode)) L h') :
  Zb prog 143 [VQ p,.int .u64 ac,.int .u64 is,.int .u64 most,.int .i64 mode] L h K:=by
 have bb:=Yvi ok ha;refine ZR func143 rfl (rs:=[_]) rfl rfl ZY (by kernel_rfl) rfl rfl ?_;refine xx ?_;refine Z6 fun b1 nb1 zb1=>?_;(try simp only[ZU]at nb1);refine xx ?_;refine Ybg p ok hr ac ha ?_;refine xx ?_;refine Ydf mode ?_;by_cases c1:mode=3∨mode=4
 ·have hk:=hk h (PH.le_refl _);rw[Znx,if_pos (.inl c1)]at hk;rw[decide_eq_true c1];refine xx ?_;exact ZP (ZO hk)
 ·rw[decide_eq_false c1];refine xx ?_;refine Z6 fun b2 nb2 zb2=>?_;(try simp only[ZU]at nb2);refine xx ?_;refine Y0 (sz:=1) (n:=2) (cap:=2) [] ⟨Nat.le_refl _,by decide⟩ rfl (by decide) zb2 fun h2 le2 s2 f2=>?_;refine Zlf (zs:=[is,Zwg p ac]) most _ ⟨s2,fun z hz=>?_⟩ hm.2 ?_
  ·simp only[List.mem_cons,List.not_mem_nil,or_false]at hz;rcases hz with rfl|rfl<;>assumption
  have hk:=hk h2 le2;rw[Ydi];simp only[List.nil_append];by_cases c2:is+Zwg p ac≤most
  ·rw[Znx,if_neg (by omega)]at hk;rw[decide_eq_true c2];refine xx ?_;exact ZP (ZO hk)
  ·rw[Znx,if_pos (.inr (by omega))]at hk;rw[decide_eq_false c2];refine xx ?_;exact ZP (ZO hk)
theorem Ywv {a b:Int}(ha:0≤a∧a≤18446744073709551615)(hb:0≤b):0≤WH a b∧WH a b≤a:=by
 unfold WH;split<;>omega
theorem Yij (p:Ze)(ok:Zj p)(hr:Ym p=true)(m:Zc)(mo:Zg m)(n:Int)(hn:0≤n∧n≤18446744073709551615)(hk:K (.tuple #[Zsu (Jq p m n).1,.int .u64 (Jq p m n).2]) L h):Zb prog 147 [VQ p,Zsu m,.int .u64 n] L h K:=by
 have ub:=mo.u m.bal (by simp);have uc:=ok.w p.cap (by simp [Yw]);have fb:=Ywv uc ub.1;have fs:m.bal+min n (WH p.cap m.bal)≤18446744073709551615:=by unfold WH at *;split<;>omega
 unfold Jq at hk;refine ZR func147 rfl (rs:=[_,_]) rfl rfl ZY (by kernel_rfl) rfl rfl ?_;refine xx ?_;refine Z6 fun b1 nb1 zb1=>?_;(try simp only[ZU]at nb1);refine xx ?_;refine Z6 fun b2 nb2 zb2=>?_;(try simp only[ZU]at nb2);refine xx ?_;refine Z6 fun b3 nb3 zb3=>?_;(try simp only[ZU]at nb3);refine xx ?_;refine Vc p ok ?_;rw[hr];refine xx ?_;refine Zej p.cap m.bal uc ub ?_;refine xx ?_;refine Zln n (WH p.cap m.bal) hn fb.1 ?_;refine xx ?_;exact ZP (ZP (ZP (ZO hk)))
theorem Ydp {p:Ze}(ok:Zj p)(hr:Ym p=true){m:Zc}(mo:Zg m)(mode:Int):0≤Zfh p m mode∧Zfh p m mode≤18446744073709551615:=by
 have ue:=mo.u m.eff (by simp);have us:=mo.u m.score (by simp);have hs:=Ys hr;have u1:=ok.w p.quot (by simp [Yw]);have u2:=ok.w p.quotEm (by simp [Yw]);unfold Zfh;split
 ·exact Wch ue.1 us.1 u1.1
 ·split
  ·exact Wch ue.1 us.1 u2.1
  ·exact Yxj ue.1 hs.2.2.2.2.1 (by decide)
theorem Ydt {p:Ze}(ok:Zj p)(hr:Ym p=true){m:Zc}(mo:Zg m)(mode:Int):0≤Wl p m mode∧Wl p m mode≤m.bal:=by
 have ub:=mo.u m.bal (by simp);have:=Ydp ok hr mo mode;unfold Wl;split<;>omega
abbrev absV (p:Ze)(m:Zc)(mode:Int):Value := .agg #[.int .u64 m.bal,.int .u64 m.eff,.int .u64 m.score,.int .i64 m.streak,.int .u64 p.inc,.int .u64 p.maxEff,.int .u64 p.floor,.int .u64 p.cap,.int .u64 p.up,.int .u64 p.down,.int .u64 p.bias,.int .u64 p.quot,.int .u64 p.biasEm,.int .u64 p.quotEm,.int .u64 p.recover,.int .u64 p.scoreCap,.int .u64 p.rate,.int .u64 p.bond,.int .i64 p.delay,.int .i64 p.streak,.int .i64 p.boost,.int .i64 p.absent,.int .i64 p.burn,.int .i64 p.churn,.int .i64 p.wait,.int .i64 p.poll,.int .i64 p.enact,.int .i64 p.quorum,.int .i64 mode]
theorem Zzr (p:Ze)(ok:Zj p)(hr:Ym p=true)(m:Zc)(mo:Zg m)(mode:Int)(hk:K (.int .u64 (Wl p m mode)) L h):Zb prog 328 [absV p m mode] L h K:=by
 have ub:=mo.u m.bal (by simp);have ue:=mo.u m.eff (by simp);have us:=mo.u m.score (by simp);have hs:=Ys hr;have u1:=ok.w p.quot (by simp [Yw]);have u2:=ok.w p.quotEm (by simp [Yw]);have bq:=Ydp ok hr mo mode;unfold Wl at hk;refine ZR func328 rfl (rs:=[_]) rfl rfl ZY (by kernel_rfl) rfl rfl ?_;refine xx ?_;refine Z6 fun b1 nb1 zb1=>?_;(try simp only[ZU]at nb1);refine xx ?_;by_cases c1:mode=3
 ·have e1:Znb p m mode=uqE m.eff m.score p.quot:=by rw[Znb,if_pos c1]
  have e2:Zfh p m mode=uqN m.eff m.score p.quot:=by rw[Zfh,if_pos c1]
  rw[e1,e2]at hk;refine xx ?_;refine Ykl m.eff m.score p.quot ue us u1 ?_;by_cases c2:uqE m.eff m.score p.quot=0
  ·rw[if_pos c2]at hk;refine xx ?_;exact ZP (ZO hk)
  ·rw[if_neg c2]at hk;refine xx ?_;exact ZP (ZO hk)
 ·by_cases c3:mode=4
  ·have e1:Znb p m mode=uqE m.eff m.score p.quotEm:=by rw[Znb,if_neg c1,if_pos c3]
   have e2:Zfh p m mode=uqN m.eff m.score p.quotEm:=by rw[Zfh,if_neg c1,if_pos c3]
   rw[e1,e2]at hk;refine xx ?_;refine Ykl m.eff m.score p.quotEm ue us u2 ?_;by_cases c2:uqE m.eff m.score p.quotEm=0
   ·rw[if_pos c2]at hk;refine xx ?_;exact ZP (ZO hk)
   ·rw[if_neg c2]at hk;refine xx ?_;exact ZP (ZO hk)
  ·have e1:Znb p m mode=dwE m.eff p.absent 10000:=by rw[Znb,if_neg c1,if_neg c3]
   have e2:Zfh p m mode=dwN m.eff p.absent 10000:=by rw[Zfh,if_neg c1,if_neg c3]
   rw[e1,e2]at hk;refine xx ?_;refine Zcf m.eff p.absent 10000 ue (by omega) (by decide) ?_;by_cases c2:dwE m.eff p.absent 10000=0
   ·rw[if_pos c2]at hk;refine xx ?_;exact ZP (ZO hk)
   ·rw[if_neg c2]at hk;refine xx ?_;exact ZP (ZO hk)
theorem Yoq (p:Ze)(ok:Zj p)(hr:Ym p=true)(m:Zc)(mo:Zg m)(mode:Int)(hk:K (.int .u64 (Wl p m mode)) L h):Zb prog 258 [VQ p,Zsu m,.int .i64 mode] L h K:=by
 refine ZR func258 rfl (rs:=[_]) rfl rfl ZY (by kernel_rfl) rfl rfl ?_;refine xx ?_;refine Z6 fun b1 nb1 zb1=>?_;(try simp only[ZU]at nb1);refine xx ?_;refine Z6 fun b2 nb2 zb2=>?_;(try simp only[ZU]at nb2);refine xx ?_;refine Vc p ok ?_;rw[hr];refine xx ?_;refine Zzr p ok hr m mo mode ?_;refine xx ?_;exact ZP (ZP (ZO hk))
theorem Ypf (n r:Int)(hn:0≤n∧n≤18446744073709551615)(hr:0≤r∧r≤10000)(hk:K (.tuple #[.int .u64 (dwN n r 10000),.int .u64 (n-dwN n r 10000),.int .i64 0]) L h):Zb prog 329 [.int .u64 n,.int .i64 r] L h K:=by
 have h1:n*r≤n*10000:=Int.mul_le_mul_of_nonneg_left hr.2 hn.1;have h0:=Int.mul_nonneg hn.1 hr.1;have e:dwE n r 10000=0:=by
  unfold dwE;rw[if_neg (by decide),if_pos];omega
 have b:0≤dwN n r 10000∧dwN n r 10000≤n:=by rw[dwN,if_pos e];omega
 refine ZR func329 rfl (rs:=[_,_,_]) rfl rfl ZY (by kernel_rfl) rfl rfl ?_;refine xx ?_;refine Zcf n r 10000 hn (by omega) (by decide) ?_;rw[e];refine xx ?_;exact ZO hk
theorem Ztt (p:Ze)(ok:Zj p)(hr:Ym p=true)(n:Int)(hn:0≤n∧n≤18446744073709551615)(hk:K (.tuple #[.int .u64 (UD p n),.int .u64 (n-UD p n)]) L h):Zb prog 259 [VQ p,.int .u64 n] L h K:=by
 have hs:=Ys hr;unfold UD at hk;refine ZR func259 rfl (rs:=[_,_]) rfl rfl ZY (by kernel_rfl) rfl rfl ?_;refine xx ?_;refine Z6 fun b1 nb1 zb1=>?_;(try simp only[ZU]at nb1);refine xx ?_;refine Vc p ok ?_;rw[hr];refine xx ?_;refine Ypf n p.burn hn (by omega) ?_;refine xx ?_;exact ZP (ZO hk)
def Gf (p:Ze)(m:Zc)(mode:Int):Zc:={ m with bal:=m.bal-Wl p m mode }
theorem Yej (p:Ze)(ok:Zj p)(hr:Ym p=true)(m:Zc)(mo:Zg m)(mode:Int)(hk:K (.tuple #[Zsu (Gf p m mode),.int .u64 (UD p (Wl p m mode)),.int .u64 (Wl p m mode-UD p (Wl p m mode))]) L h):Zb prog 150 [VQ p,Zsu m,.int .i64 mode] L h K:=by
 have ub:=mo.u m.bal (by simp);have fb:=Ydt ok hr mo mode;unfold Gf at hk;refine ZR func150 rfl (rs:=[_,_,_]) rfl rfl ZY (by kernel_rfl) rfl rfl ?_;refine xx ?_;refine Z6 fun b1 nb1 zb1=>?_;(try simp only[ZU]at nb1);refine xx ?_;refine Z6 fun b2 nb2 zb2=>?_;(try simp only[ZU]at nb2);refine xx ?_;refine Z6 fun b3 nb3 zb3=>?_;(try simp only[ZU]at nb3);refine xx ?_;refine Yoq p ok hr m mo mode ?_;refine xx ?_;refine Ztt p ok hr (Wl p m mode) (by omega) ?_;refine xx ?_;exact ZP (ZP (ZP (ZO hk)))
def sdC (m:Zc):List Value:=[.int .u64 m.bal,.int .u64 m.eff,.int .u64 m.score,.int .i64 m.streak]
theorem Zol (m:Zc):(sdC m).length=4:=rfl
theorem Yws {p:Ze}(hr:Ym p=true){m:Zc}(mo:Zg m):0≤Wn p m∧Wn p m≤71468255805440000:=by
 have hs:=Ys hr;have hb:=Yhp hr;have ue:=mo.u m.eff (by simp);unfold Wn;split
 ·decide
 ·have s0:0≤min (max m.streak 0) p.streak∧min (max m.streak 0) p.streak≤64:=by omega
  generalize min (max m.streak 0) p.streak=s at *
  have b1:=Int.mul_nonneg hs.2.2.1 s0.1;have b2:p.boost*s≤1000*64:=Int.mul_le_mul hs.2.2.2.1 s0.2 s0.1 (by decide);have b3:=Int.mul_nonneg ue.1 (show 0≤1000+p.boost*s by omega);have b4:m.eff*(1000+p.boost*s)≤1099511627776*65000:=Int.mul_le_mul (by omega) (by omega) (by omega) (by decide);exact⟨b3,by omega⟩
theorem Zog (p:Ze)(ok:Zj p)(hr:Ym p=true)(m:Zc)(mo:Zg m)(hk:K (.int .u64 (Wn p m)) L h):Zb prog 254 [VQ p,Zsu m] L h K:=by
 have hs:=Ys hr;have ue:=mo.u m.eff (by simp);have wb:=Yws hr mo;refine ZR func254 rfl (rs:=[_]) rfl rfl ZY (by kernel_rfl) rfl rfl ?_;refine xx ?_;refine Z6 fun b1 nb1 zb1=>?_;(try simp only[ZU]at nb1);refine xx ?_;refine Z6 fun b2 nb2 zb2=>?_;(try simp only[ZU]at nb2);by_cases c:p.maxEff<m.eff
 ·rw[Wn,if_pos c]at hk;refine xx ?_;exact ZP (ZP (ZO hk))
 ·rw[Wn,if_neg c]at hk wb;have s0:0≤min (max m.streak 0) p.streak∧min (max m.streak 0) p.streak≤64:=by omega
  have b1:=Int.mul_nonneg hs.2.2.1 s0.1;have b2:p.boost*min (max m.streak 0) p.streak≤1000*64:=Int.mul_le_mul hs.2.2.2.1 s0.2 s0.1 (by decide);simp -dsimp -implicitDefEqProofs (disch:=first|with_reducible assumption|omega) [go_sem,Y6];exact ZP (ZP (ZO hk))
theorem Yku {zs:List Int}{B:Int}(hz:∀i,at0 zs i≤B):∀k:Nat,YP zs k≤k*B
 | 0=>by simp [YP]
 | k+1=>by
  have:=Yku hz k;have:=hz k;rw[YP,Int.natCast_add,Int.add_mul];simp;omega
theorem Waw {p:Ze}(hr:Ym p=true){l:List Zc}(hm:∀x∈l,Zg x)(hn:l.length≤128):Zmv (l.map (Wn p))=0:=by
 have hz:∀i,at0 (l.map (Wn p)) i≤71468255805440000:=fun i=>by
  by_cases c:i<(l.map (Wn p)).length
  ·rw[← Yx c,List.getElem_map];exact(Yws hr (hm _ (List.getElem_mem _))).2
  ·rw[Gk (by omega)];decide
 have h1:=Yku hz (l.map (Wn p)).length;rw[Zmv,if_pos (by rw[List.length_map];omega),if_pos];rw[tot];rw[List.length_map]at h1 ⊢;omega
theorem Yoa (p:Ze)(ok:Zj p)(hr:Ym p=true)(m:Zc)(mo:Zg m)(b1 b7:Nat)(o:Option (Nat×Nat))(xs:List Value)(n17:b1≠b7)(ho:apB o b1)(hb:h b1=noC)
  (hk:K (.int .u64 (Wn p m)) (⟨b7,71,sdC m,4⟩::oent 22 1 o xs (⟨b1,24,Jb p,24⟩::L)) h) :
  Zb prog 253 [Zsu m,.pointer (some ⟨b1,0,none⟩)] (⟨b7,71,sdC m,4⟩::oent 22 1 o xs (⟨b1,24,Jb p,24⟩::L)) h K:=by
 simp only[sdC]at hk ⊢;refine ZR func253 rfl (rs:=[_]) rfl rfl ZY (by kernel_rfl) rfl rfl ?_;refine xx ?_;refine Z6 fun b2 nb2 zb2=>?_;(try simp only[ZU]at nb2);have n2:=YN nb2.2;simp only[ZU]at n2;simp -dsimp -implicitDefEqProofs (disch:=first|with_reducible assumption|omega) [go_sem,ZQ ho];refine Zog p ok hr m mo ?_;refine xx ?_;exact ZP (ZO hk)
theorem Zyt {l:List Zc}(p:Ze)(ok:Zj p)(hr:Ym p=true)(v:Value)(hd0:Zh sdC 4 h v l)(hm:∀x∈l,Zg x)(hn:l.length≤100000)(b1:Nat)
  (hk:∀h' r,PH.le h h'→Ints h' .u64 r (l.map (Wn p))→K r (⟨b1,24,Jb p,24⟩::L) h') :
  Zb prog 252 [.func (.func 253) #[] #[.pointer (some ⟨b1,0,none⟩)],v] (⟨b1,24,Jb p,24⟩::L) h K:=by
 obtain⟨a,c,rfl,hc,hl,_,hd⟩:=hd0.open;refine Z4 func252 rfl (rs:=[_]) rfl rfl ZY (by kernel_rfl) rfl rfl fun ap nd=>?_;simp only[Ap]at ap;have hb1:=ap.1;clear ap nd;refine xx ?_;refine YZ (γ:=Nat×Option (Nat×Nat)) (0,none) (fun s=>s.1≤l.length∧okO s.2 s.1∧apO s.2 (⟨b1,24,Jb p,24⟩::L) h) (fun s=>[(10,.int .i64 s.1),(9,.int .i64 l.length),(8,.slice a l.length c),(5,ovs s.2 s.1),(0,.func (.func 253) #[] #[.pointer (some ⟨b1,0,none⟩)])])
  (fun s=>oent 22 1 s.2 (Zbc (Wn p) l s.1) (⟨b1,24,Jb p,24⟩::L)) (fun _=>h) (fun s=>l.length-s.1) ?_ ?_ ?_ ?_
 ·exact⟨Nat.zero_le _,rfl,trivial⟩
 ·simp [Ent,List.lookup,WM,ovs]
 ·exact Za.refl _ _
 rintro⟨k,o⟩ ⟨k1,k2,k3⟩;simp only at k1 k2 k3 ⊢;by_cases c1:k<l.length
 ·have hmem:gr ZS l k∈l:=by rw[Yl c1];exact List.getElem_mem c1
  have m1:apB o b1:=k3.head;simp -dsimp -implicitDefEqProofs (disch:=first|with_reducible assumption|omega) [go_sem,↓Zam ZS (by decide) hd,sdC];refine Z6 fun b7 nb7 zb7=>?_;(try simp only[ZU]at nb7);have n7:=YN nb7;simp only[ZU]at n7;simp -dsimp -implicitDefEqProofs (disch:=first|with_reducible assumption|omega) [go_sem,sdC];refine Yoa p ok hr (gr ZS l k) (hm _ hmem) b1 b7 o _ n7.1 m1 hb1 ?_;simp only[sdC];refine xx ?_;refine Z6 fun b8 nb8 zb8=>?_;(try simp only[ZU]at nb8);refine xx ?_;refine Z8 (t:=25) (e:=22) (sz:=1) (bytes:=8) (by kernel_rfl) U3 rfl rfl rfl rfl (by decide) [_,_] _ o k (Zbc (Wn p) l k) k2 (Ut k1) (Src.own List.mem_cons_self) (m:=1) (news:=[.int .u64 (Wn p (gr ZS l k))]) rfl (by intro u hu;simp only[List.mem_singleton]at hu;subst hu;rfl) (by simp [maxLen];omega) (by omega) ?_;intro o' j1 j2 j3;refine xx ?_;refine⟨k+1,o',⟨by omega,j1,Z2 (Z2 j2)⟩,by omega,by simp [Ent,List.lookup],?_⟩;rw[G7 ZS c1];exact(Za.tail _ _ _).trans (Za.tail _ _ _)
 ·have hkl:k=l.length:=by omega
  subst hkl;refine xx ?_;exact YE (n:=l.length) k2 (Ut (Nat.le_refl _)) (by omega) k3 fun h' le sl=>ZO (hk h' _ le (Zjn sl fun x hx=>by have:=Yws hr (hm x hx);omega))
def JC (p:Ze)(n:Int)(l:List Zc):List Int:=Y3 n (tot (l.map (Wn p))) (l.map (Wn p))
theorem JX (p:Ze)(n:Int)(l:List Zc):(JC p n l).length=l.length:=by simp [JC,Y3]
theorem Zka {p:Ze}(hr:Ym p=true){n:Int}(hn:0≤n){l:List Zc}(hm:∀x∈l,Zg x)(i:Nat):0≤at0 (JC p n l) i∧at0 (JC p n l) i≤n:=by
 have h0:∀i,0≤at0 (l.map (Wn p)) i:=fun i=>by
  by_cases c:i<(l.map (Wn p)).length
  ·rw[← Yx c,List.getElem_map];exact(Yws hr (hm _ (List.getElem_mem _))).1
  ·rw[Gk (by omega)];decide
 by_cases c:i<(l.map (Wn p)).length
 ·unfold JC Y3;rw[Zci _ _ c];exact Yfy hn (h0 i) (YC h0 i)
 ·rw[Gk (by rw[JX];simpa using c)];omega
theorem Zob {p:Ze}(hr:Ym p=true){n:Int}(hn:0≤n∧n≤18446744073709551615){l:List Zc}(hm:∀x∈l,Zg x){h:PH}{v:Value}(sl:Sl h v l.length 1 ((JC p n l).map (.int .u64))):Ints h .u64 v (JC p n l):=by
 refine⟨by rw[JX];exact sl,fun z hz=>?_⟩;obtain⟨i,hi,rfl⟩:=List.mem_iff_getElem.1 hz;have:=Zka hr hn.1 hm i;rw[Yx hi];rw[show IntKind.u64.min=0 by decide,show IntKind.u64.max=18446744073709551615 by decide];omega
theorem Zvf {l:List Zc}(p:Ze)(ok:Zj p)(hr:Ym p=true)(v:Value)(hd0:Zh sdC 4 h v l)(hm:∀x∈l,Zg x)(hn:l.length≤128)(n:Int)(hb:0≤n∧n≤18446744073709551615)
  (hk:∀h' r,PH.le h h'→Ints h' .u64 r (JC p n l)→K (.tuple #[r,.int .u64 (n-tot (JC p n l)),.int .i64 0]) L h') :
  Zb prog 146 [VQ p,.int .u64 n,v] L h K:=by
 obtain⟨a,c,rfl,hc,hl,_,hd⟩:=hd0.open;have hw:=Waw hr hm hn;refine ZR func146 rfl (rs:=[_,_,_]) rfl rfl ZY (by kernel_rfl) rfl rfl ?_;refine xx ?_;refine Z6 fun b1 nb1 zb1=>?_;(try simp only[ZU]at nb1);refine xx ?_;refine Vc p ok ?_;rw[hr];refine xx ?_;refine Zb.ap (Zyt p ok hr _ hd0 hm (by omega) b1 fun h1 r1 l1 i1 ap=>?_);simp only[Ap]at ap;obtain⟨p1,_⟩:=ap;obtain⟨ra,rc,rfl,_⟩:=i1.open;rw[List.length_map]at i1;refine xx ?_;refine Ycl n hb _ i1 (fun e=>absurd hw e) fun _ o j1 j2=>?_;obtain⟨x,y,e,hxy⟩:=Yh j1;rw[e];refine xx ?_;have hlen:(l.map (Wn p)).length=l.length:=List.length_map _;refine YE (n:=(l.map (Wn p)).length) j1 (by simp [Y3]) (by omega) j2 fun h' le sl=>ZP (ZO ?_);rw[e,hlen]at sl;exact hk h' _ (l1.trans le) (Zob hr hb hm sl)
end Go.X
