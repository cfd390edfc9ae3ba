/- Lemmas and contracts. Conditions: as each says. -/
import Derived.Test.YtllhopbilpdpkaaGreatQ14
import Derived.Test.YtllhopbilpdpkaaGreatQ15
set_option linter.unusedVariables false
set_option linter.unusedSimpArgs false
set_option maxHeartbeats 12800000
set_option maxRecDepth 20000
namespace Go.X
open Go.RowKit Go.Proofs Go.Bl Go.Proofs.Tryz
variable {L:Own} {h:PH} {K:PK}
def Zbx (k:Nat):Int:=if k<32 then 2 ^ (31-k) else 0
theorem Zsd {k:Nat}(hk:k<32):Zbx k/2=Zbx (k+1):=by
 have:∀k,k<32→Zbx k/2=Zbx (k+1):=by decide +kernel
 exact this k hk
theorem Zzt {k:Nat}(hk:k<32):1≤Zbx k∧Zbx k≤2147483648:=by
 have:∀k,k<32→1≤Zbx k∧Zbx k≤2147483648:=by decide +kernel
 exact this k hk
theorem Ybw (n:Int)(hn:0≤n∧n≤18446744073709551615)(hk:K (.int .u64 (JH n)) L h):Zc prog 344 [.int .u64 n] L h K:=by
 refine ZS func344 rfl (rs:=[_]) rfl rfl ZW (by kernel_rfl) rfl rfl ?_;refine xx ?_;refine WP (0:Nat) (fun k=>k≤32) (fun k=>[(4,.int .u64 (Zbx k)),(3,.int .u64 (rtK n k)),(0,.int .u64 n)]) (fun k=>32-k) ?_ ?_ ?_
 ·exact Nat.zero_le _
 ·simp [Ent,List.lookup,Wo,Zbx,rtK]
 intro k hk1;by_cases c1:k<32
 ·obtain⟨a1,a2,a3,a4⟩:=Zuu hn k hk1;obtain⟨b1,b2⟩:=Zzt c1;have e:(2:Int) ^ (32-k)=2*Zbx k:=by
   rw[Zbx,if_pos c1,show 32-k=(31-k)+1 by omega,Int.pow_succ,Int.mul_comm]
  have hh:=Zsd c1;have hp:=Wt (rtK n k+Zbx k) (rtK n k+Zbx k) (by omega) (by omega) (by omega) (by omega);have hs:rtK n (k+1)=if (rtK n k+Zbx k)*(rtK n k+Zbx k)≤n then rtK n k+Zbx k else rtK n k:=by rw[rtK,Zbx,if_pos c1]
  rw[e]at a2
  generalize Zbx k=b at *
  generalize rtK n k=r at *
  by_cases c2:(r+b)*(r+b)≤n
  ·rw[if_pos c2]at hs;simp -dsimp -implicitDefEqProofs (disch:=first|with_reducible assumption|omega) [go_sem,hh];exact⟨k+1,by omega,by omega,by simp [Ent,List.lookup,hs],Za.refl _ _⟩
  ·rw[if_neg c2]at hs;simp -dsimp -implicitDefEqProofs (disch:=first|with_reducible assumption|omega) [go_sem,hh];exact⟨k+1,by omega,by omega,by simp [Ent,List.lookup,hs],Za.refl _ _⟩
 ·have hkl:k=32:=by omega
  subst hkl;rw[show Zbx 32=0 from rfl];refine xx ?_;exact ZO hk
theorem Zsu (mode:Int)(hk:K (.bool (decide (mode=3∨mode=4))) L h):Zc prog 271 [.int .i64 mode] L h K:=by
 refine ZS func271 rfl (rs:=[_]) rfl rfl ZW (by kernel_rfl) rfl rfl ?_;by_cases c:mode=3
 ·rw[decide_eq_true (Or.inl c)]at hk;refine xx ?_;exact ZO hk
 ·rw[show decide (mode=3∨mode=4)=decide (mode=4) by apply decide_eq_decide.2;omega]at hk;refine xx ?_;exact ZO hk
theorem bud_e {p:Ze}{ac:Int}(h1:ac≠0)(h2:¬ 4611686018427387904<ac):Zmr p ac=dwN ac p.rate (1048576*JH ac):=by
 rw[Zmr,if_neg];omega
theorem Zvz (p:Ze)(ok:Zj p)(hr:YM p=true)(ac:Int)(ha:0≤ac∧ac≤18446744073709551615)(hk:K (.int .u64 (Zmr p ac)) L h):Zc prog 272 [Ud p,.int .u64 ac] L h K:=by
 have ur:=ok.w p.rate (by simp [YN]);refine ZS func272 rfl (rs:=[_]) rfl rfl ZW (by kernel_rfl) rfl rfl ?_;refine xx ?_;refine Z2 fun b1 nb1 zb1=>?_;(try simp only[ZT]at nb1);by_cases c1:ac=0
 ·rw[Zmr,if_pos (.inl c1)]at hk;refine xx ?_;exact ZP (ZO hk)
 by_cases c2:4611686018427387904<ac
 ·rw[Zmr,if_pos (.inr c2)]at hk;refine xx ?_;exact ZP (ZO hk)
 rw[bud_e c1 c2]at hk;have rp:=Yce (n:=ac) (by omega);have rl:=(Zji (n:=ac) (by omega)).2.1;refine xx ?_;refine WS p ok ?_;rw[hr];refine xx ?_;refine Yn (.tk 0 (.tk 1 (.tk 3 (.tkl 2 (.o1 4 (.tk 5 (.o1 6 (.tk 7 (.tk 8 (.tk 9 (.tk 10 (.tk 11 (.fin)))))) (.nil))) (.nil)))))) (by kernel_rfl) (by kernel_rfl) _ (Za.refl _ _) ?_;refine xx ?_;refine Ybw ac ha ?_
 first
 | refine xkp (Za.refl _ _) ?_
 | skip
 refine xx ?_;refine GA ac p.rate (1048576*JH ac) ha ur (by omega) ?_
 first
 | refine xkp (Za.refl _ _) ?_
 | skip
 refine xx ?_;by_cases c3:dwE ac p.rate (1048576*JH ac)=0
 ·refine xx ?_;exact ZP (ZO hk)
 ·rw[dwN,if_neg c3]at hk;refine xx ?_;exact ZP (ZO hk)
theorem Zfl {zs:List Int}(most:Int)(v:Value)(hz:Ints h .u64 v zs)(hm:most≤18446744073709551615)(hk:K (.bool (decide (tot zs≤most))) L h):Zc prog 295 [.int .u64 most,v] L h K:=by
 refine ZS func295 rfl (rs:=[_]) rfl rfl ZW (by kernel_rfl) rfl rfl ?_;refine xx ?_;refine Y1 v hz ?_;by_cases c:tot zs≤18446744073709551615
 ·rw[Yi c];refine xx ?_;exact ZO hk
 ·rw[decide_eq_false (show ¬tot zs≤most by omega)]at hk;rw[YD c];refine xx ?_;exact ZO hk
theorem Yig {p:Ze}(ok:Zj p){ac:Int}(ha:0≤ac∧ac≤18446744073709551615):0≤Zmr p ac∧Zmr p ac≤18446744073709551615:=by
 have ur:=ok.w p.rate (by simp [YN]);unfold Zmr;split
 ·decide
 ·exact Yoz ha.1 ur.1 (by have:=(Zji ha).1;omega)
theorem GK (p:Ze)(ok:Zj p)(hr:YM p=true)(ac is most mode:Int)(ha:0≤ac∧ac≤18446744073709551615)(hi:0≤is∧is≤18446744073709551615)(hm:0≤most∧most≤18446744073709551615)(hk:∀h',PH.le h h'→K (.int .u64 (JO p ac is most mode)) L h') :
  Zc prog 196 [Ud p,.int .u64 ac,.int .u64 is,.int .u64 most,.int .i64 mode] L h K:=by
 have bb:=Yig ok ha;refine ZS func196 rfl (rs:=[_]) rfl rfl ZW (by kernel_rfl) rfl rfl ?_;refine xx ?_;refine Z2 fun b1 nb1 zb1=>?_;(try simp only[ZT]at nb1);refine xx ?_;refine Zvz p ok hr ac ha ?_;refine xx ?_;refine Zsu mode ?_;by_cases c1:mode=3∨mode=4
 ·have hk:=hk h (PH.le_refl _);rw[JO,if_pos (.inl c1)]at hk;rw[decide_eq_true c1];refine xx ?_;exact ZP (ZO hk)
 ·rw[decide_eq_false c1];refine xx ?_;refine Z2 fun b2 nb2 zb2=>?_;(try simp only[ZT]at nb2);refine xx ?_;refine Wf (sz:=1) (n:=2) (cap:=2) [] ⟨Nat.le_refl _,by decide⟩ rfl (by decide) zb2 fun h2 le2 s2 f2=>?_;refine Zfl (zs:=[is,Zmr p ac]) most _ ⟨s2,fun z hz=>?_⟩ hm.2 ?_
  ·simp only[List.mem_cons,List.not_mem_nil,or_false]at hz;rcases hz with rfl|rfl<;>assumption
  have hk:=hk h2 le2;rw[Zss];simp only[List.nil_append];by_cases c2:is+Zmr p ac≤most
  ·rw[JO,if_neg (by omega)]at hk;rw[decide_eq_true c2];refine xx ?_;exact ZP (ZO hk)
  ·rw[JO,if_pos (.inr (by omega))]at hk;rw[decide_eq_false c2];refine xx ?_;exact ZP (ZO hk)
theorem Ysj {a b:Int}(ha:0≤a∧a≤18446744073709551615)(hb:0≤b):0≤Y2 a b∧Y2 a b≤a:=by
 unfold Y2;split<;>omega
theorem Zll (p:Ze)(ok:Zj p)(hr:YM p=true)(m:Zb)(mo:Zf m)(n:Int)(hn:0≤n∧n≤18446744073709551615)(hk:K (.tuple #[Zqe (VK p m n).1,.int .u64 (VK p m n).2]) L h):Zc prog 198 [Ud p,Zqe m,.int .u64 n] L h K:=by
 have ub:=mo.u m.bal (by simp);have uc:=ok.w p.cap (by simp [YN]);have fb:=Ysj uc ub.1;have fs:m.bal+min n (Y2 p.cap m.bal)≤18446744073709551615:=by unfold Y2 at *;split<;>omega
 unfold VK at hk;refine ZS func198 rfl (rs:=[_,_]) rfl rfl ZW (by kernel_rfl) rfl rfl ?_;refine xx ?_;refine Z2 fun b1 nb1 zb1=>?_;(try simp only[ZT]at nb1);refine xx ?_;refine Z2 fun b2 nb2 zb2=>?_;(try simp only[ZT]at nb2);refine xx ?_;refine Z2 fun b3 nb3 zb3=>?_;(try simp only[ZT]at nb3);refine xx ?_;refine WS p ok ?_;rw[hr];refine xx ?_;refine Zae p.cap m.bal uc ub ?_;refine xx ?_;refine Zgt n (Y2 p.cap m.bal) hn fb.1 ?_;refine xx ?_;exact ZP (ZP (ZP (ZO hk)))
theorem Zvl {p:Ze}(ok:Zj p)(hr:YM p=true){m:Zb}(mo:Zf m)(mode:Int):0≤Zbm p m mode∧Zbm p m mode≤18446744073709551615:=by
 have ue:=mo.u m.eff (by simp);have us:=mo.u m.score (by simp);have hs:=Z7 hr;have u1:=ok.w p.quot (by simp [YN]);have u2:=ok.w p.quotEm (by simp [YN]);unfold Zbm;split
 ·exact Ymc ue.1 us.1 u1.1
 ·split
  ·exact Ymc ue.1 us.1 u2.1
  ·exact Yoz ue.1 hs.2.2.2.2.1 (by decide)
theorem Zli {p:Ze}(ok:Zj p)(hr:YM p=true){m:Zb}(mo:Zf m)(mode:Int):0≤YR p m mode∧YR p m mode≤m.bal:=by
 have ub:=mo.u m.bal (by simp);have:=Zvl ok hr mo mode;unfold YR;split<;>omega
abbrev absV (p:Ze)(m:Zb)(mode:Int):Value := .agg #[.int .u64 m.bal,.int .u64 m.eff,.int .u64 m.score,.int .i64 m.streak,.int .u64 p.inc,.int .u64 p.maxEff,.int .u64 p.floor,.int .u64 p.cap,.int .u64 p.up,.int .u64 p.down,.int .u64 p.bias,.int .u64 p.quot,.int .u64 p.biasEm,.int .u64 p.quotEm,.int .u64 p.recover,.int .u64 p.scoreCap,.int .u64 p.rate,.int .u64 p.bond,.int .i64 p.delay,.int .i64 p.streak,.int .i64 p.boost,.int .i64 p.absent,.int .i64 p.burn,.int .i64 p.churn,.int .i64 p.wait,.int .i64 p.poll,.int .i64 p.enact,.int .i64 p.quorum,.int .i64 mode]
theorem Zuc (p:Ze)(ok:Zj p)(hr:YM p=true)(m:Zb)(mo:Zf m)(mode:Int)(hk:K (.int .u64 (YR p m mode)) L h):Zc prog 357 [absV p m mode] L h K:=by
 have ub:=mo.u m.bal (by simp);have ue:=mo.u m.eff (by simp);have us:=mo.u m.score (by simp);have hs:=Z7 hr;have u1:=ok.w p.quot (by simp [YN]);have u2:=ok.w p.quotEm (by simp [YN]);have bq:=Zvl ok hr mo mode;unfold YR at hk;refine ZS func357 rfl (rs:=[_]) rfl rfl ZW (by kernel_rfl) rfl rfl ?_;refine xx ?_;refine Z2 fun b1 nb1 zb1=>?_;(try simp only[ZT]at nb1);refine xx ?_;by_cases c1:mode=3
 ·have e1:Ziv p m mode=uqE m.eff m.score p.quot:=by rw[Ziv,if_pos c1]
  have e2:Zbm p m mode=uqN m.eff m.score p.quot:=by rw[Zbm,if_pos c1]
  rw[e1,e2]at hk;refine xx ?_;refine Yec m.eff m.score p.quot ue us u1 ?_;by_cases c2:uqE m.eff m.score p.quot=0
  ·rw[if_pos c2]at hk;refine xx ?_;exact ZP (ZO hk)
  ·rw[if_neg c2]at hk;refine xx ?_;exact ZP (ZO hk)
 ·by_cases c3:mode=4
  ·have e1:Ziv p m mode=uqE m.eff m.score p.quotEm:=by rw[Ziv,if_neg c1,if_pos c3]
   have e2:Zbm p m mode=uqN m.eff m.score p.quotEm:=by rw[Zbm,if_neg c1,if_pos c3]
   rw[e1,e2]at hk;refine xx ?_;refine Yec m.eff m.score p.quotEm ue us u2 ?_;by_cases c2:uqE m.eff m.score p.quotEm=0
   ·rw[if_pos c2]at hk;refine xx ?_;exact ZP (ZO hk)
   ·rw[if_neg c2]at hk;refine xx ?_;exact ZP (ZO hk)
  ·have e1:Ziv p m mode=dwE m.eff p.absent 10000:=by rw[Ziv,if_neg c1,if_neg c3]
   have e2:Zbm p m mode=dwN m.eff p.absent 10000:=by rw[Zbm,if_neg c1,if_neg c3]
   rw[e1,e2]at hk;refine xx ?_;refine GA m.eff p.absent 10000 ue (by omega) (by decide) ?_;by_cases c2:dwE m.eff p.absent 10000=0
   ·rw[if_pos c2]at hk;refine xx ?_;exact ZP (ZO hk)
   ·rw[if_neg c2]at hk;refine xx ?_;exact ZP (ZO hk)
theorem Yfm (p:Ze)(ok:Zj p)(hr:YM p=true)(m:Zb)(mo:Zf m)(mode:Int)(hk:K (.int .u64 (YR p m mode)) L h):Zc prog 302 [Ud p,Zqe m,.int .i64 mode] L h K:=by
 refine ZS func302 rfl (rs:=[_]) rfl rfl ZW (by kernel_rfl) rfl rfl ?_;refine xx ?_;refine Z2 fun b1 nb1 zb1=>?_;(try simp only[ZT]at nb1);refine xx ?_;refine Z2 fun b2 nb2 zb2=>?_;(try simp only[ZT]at nb2);refine xx ?_;refine WS p ok ?_;rw[hr];refine xx ?_;refine Zuc p ok hr m mo mode ?_;refine xx ?_;exact ZP (ZP (ZO hk))
theorem Yhs (n r:Int)(hn:0≤n∧n≤18446744073709551615)(hr:0≤r∧r≤10000)(hk:K (.tuple #[.int .u64 (dwN n r 10000),.int .u64 (n-dwN n r 10000),.int .i64 0]) L h):Zc prog 358 [.int .u64 n,.int .i64 r] L h K:=by
 have h1:n*r≤n*10000:=Int.mul_le_mul_of_nonneg_left hr.2 hn.1;have h0:=Int.mul_nonneg hn.1 hr.1;have e:dwE n r 10000=0:=by
  unfold dwE;rw[if_neg (by decide),if_pos];omega
 have b:0≤dwN n r 10000∧dwN n r 10000≤n:=by rw[dwN,if_pos e];omega
 refine ZS func358 rfl (rs:=[_,_,_]) rfl rfl ZW (by kernel_rfl) rfl rfl ?_;refine xx ?_;refine GA n r 10000 hn (by omega) (by decide) ?_;rw[e];refine xx ?_;exact ZO hk
theorem Zpi (p:Ze)(ok:Zj p)(hr:YM p=true)(n:Int)(hn:0≤n∧n≤18446744073709551615)(hk:K (.tuple #[.int .u64 (WQ p n),.int .u64 (n-WQ p n)]) L h):Zc prog 303 [Ud p,.int .u64 n] L h K:=by
 have hs:=Z7 hr;unfold WQ at hk;refine ZS func303 rfl (rs:=[_,_]) rfl rfl ZW (by kernel_rfl) rfl rfl ?_;refine xx ?_;refine Z2 fun b1 nb1 zb1=>?_;(try simp only[ZT]at nb1);refine xx ?_;refine WS p ok ?_;rw[hr];refine xx ?_;refine Yhs n p.burn hn (by omega) ?_;refine xx ?_;exact ZP (ZO hk)
def Ua (p:Ze)(m:Zb)(mode:Int):Zb:={ m with bal:=m.bal-YR p m mode }
theorem Zah (p:Ze)(ok:Zj p)(hr:YM p=true)(m:Zb)(mo:Zf m)(mode:Int)(hk:K (.tuple #[Zqe (Ua p m mode),.int .u64 (WQ p (YR p m mode)),.int .u64 (YR p m mode-WQ p (YR p m mode))]) L h):Zc prog 199 [Ud p,Zqe m,.int .i64 mode] L h K:=by
 have ub:=mo.u m.bal (by simp);have fb:=Zli ok hr mo mode;unfold Ua at hk;refine ZS func199 rfl (rs:=[_,_,_]) rfl rfl ZW (by kernel_rfl) rfl rfl ?_;refine xx ?_;refine Z2 fun b1 nb1 zb1=>?_;(try simp only[ZT]at nb1);refine xx ?_;refine Z2 fun b2 nb2 zb2=>?_;(try simp only[ZT]at nb2);refine xx ?_;refine Z2 fun b3 nb3 zb3=>?_;(try simp only[ZT]at nb3);refine xx ?_;refine Yfm p ok hr m mo mode ?_;refine xx ?_;refine Zpi p ok hr (YR p m mode) (by omega) ?_;refine xx ?_;exact ZP (ZP (ZP (ZO hk)))
def sdC (m:Zb):List Value:=[.int .u64 m.bal,.int .u64 m.eff,.int .u64 m.score,.int .i64 m.streak]
theorem YQ (m:Zb):(sdC m).length=4:=rfl
theorem Ypz {p:Ze}(hr:YM p=true){m:Zb}(mo:Zf m):0≤YX p m∧YX p m≤71468255805440000:=by
 have hs:=Z7 hr;have hb:=Zkv hr;have ue:=mo.u m.eff (by simp);unfold YX;split
 ·decide
 ·have s0:0≤min (max m.streak 0) p.streak∧min (max m.streak 0) p.streak≤64:=by omega
  generalize min (max m.streak 0) p.streak=s at *
  have b1:=Int.mul_nonneg hs.2.2.1 s0.1;have b2:p.boost*s≤1000*64:=Int.mul_le_mul hs.2.2.2.1 s0.2 s0.1 (by decide);have b3:=Int.mul_nonneg ue.1 (show 0≤1000+p.boost*s by omega);have b4:m.eff*(1000+p.boost*s)≤1099511627776*65000:=Int.mul_le_mul (by omega) (by omega) (by omega) (by decide);exact⟨b3,by omega⟩
theorem Zjp (p:Ze)(ok:Zj p)(hr:YM p=true)(m:Zb)(mo:Zf m)(hk:K (.int .u64 (YX p m)) L h):Zc prog 299 [Ud p,Zqe m] L h K:=by
 have hs:=Z7 hr;have ue:=mo.u m.eff (by simp);have wb:=Ypz hr mo;refine ZS func299 rfl (rs:=[_]) rfl rfl ZW (by kernel_rfl) rfl rfl ?_;refine xx ?_;refine Z2 fun b1 nb1 zb1=>?_;(try simp only[ZT]at nb1);refine xx ?_;refine Z2 fun b2 nb2 zb2=>?_;(try simp only[ZT]at nb2);by_cases c:p.maxEff<m.eff
 ·rw[YX,if_pos c]at hk;refine xx ?_;exact ZP (ZP (ZO hk))
 ·rw[YX,if_neg c]at hk wb;have s0:0≤min (max m.streak 0) p.streak∧min (max m.streak 0) p.streak≤64:=by omega
  have b1:=Int.mul_nonneg hs.2.2.1 s0.1;have b2:p.boost*min (max m.streak 0) p.streak≤1000*64:=Int.mul_le_mul hs.2.2.2.1 s0.2 s0.1 (by decide);simp -dsimp -implicitDefEqProofs (disch:=first|with_reducible assumption|omega) [go_sem,YK];exact ZP (ZP (ZO hk))
theorem Ztu {zs:List Int}{B:Int}(hz:∀i,at0 zs i≤B):∀k:Nat,Yy zs k≤k*B
 | 0=>by simp [Yy]
 | k+1=>by
  have:=Ztu hz k;have:=hz k;rw[Yy,Int.natCast_add,Int.add_mul];simp;omega
theorem Ymh {p:Ze}(hr:YM p=true){l:List Zb}(hm:∀x∈l,Zf x)(hn:l.length≤128):Zhy (l.map (YX p))=0:=by
 have hz:∀i,at0 (l.map (YX p)) i≤71468255805440000:=fun i=>by
  by_cases c:i<(l.map (YX p)).length
  ·rw[← Yf c,List.getElem_map];exact(Ypz hr (hm _ (List.getElem_mem _))).2
  ·rw[Gg (by omega)];decide
 have h1:=Ztu hz (l.map (YX p)).length;rw[Zhy,if_pos (by rw[List.length_map];omega),if_pos];rw[tot];rw[List.length_map]at h1 ⊢;omega
theorem Yie (p:Ze)(ok:Zj p)(hr:YM p=true)(m:Zb)(mo:Zf m)(b1 b7:Nat)(o:Option (Nat×Nat))(xs:List Value)(n17:b1≠b7)(ho:apB o b1)(hb:h b1=noC)
  (hk:K (.int .u64 (YX p m)) (⟨b7,72,sdC m,4⟩::oent 22 1 o xs (⟨b1,24,Zbs p,24⟩::L)) h) :
  Zc prog 298 [Zqe m,.pointer (some ⟨b1,0,none⟩)] (⟨b7,72,sdC m,4⟩::oent 22 1 o xs (⟨b1,24,Zbs p,24⟩::L)) h K:=by
 simp only[sdC]at hk ⊢;refine ZS func298 rfl (rs:=[_]) rfl rfl ZW (by kernel_rfl) rfl rfl ?_;refine xx ?_;refine Z2 fun b2 nb2 zb2=>?_;(try simp only[ZT]at nb2);have n2:=Ya nb2.2;simp only[ZT]at n2;simp -dsimp -implicitDefEqProofs (disch:=first|with_reducible assumption|omega) [go_sem,ZR ho];refine Zjp p ok hr m mo ?_;refine xx ?_;exact ZP (ZO hk)
theorem Zwa {l:List Zb}(p:Ze)(ok:Zj p)(hr:YM p=true)(v:Value)(hd0:Zh sdC 4 h v l)(hm:∀x∈l,Zf x)(hn:l.length≤100000)(b1:Nat)
  (hk:∀h' r,PH.le h h'→Ints h' .u64 r (l.map (YX p))→K r (⟨b1,24,Zbs p,24⟩::L) h') :
  Zc prog 297 [.func (.func 298) #[] #[.pointer (some ⟨b1,0,none⟩)],v] (⟨b1,24,Zbs p,24⟩::L) h K:=by
 obtain⟨a,c,rfl,hc,hl,_,hd⟩:=hd0.open;refine Z3 func297 rfl (rs:=[_]) rfl rfl ZW (by kernel_rfl) rfl rfl fun ap nd=>?_;simp only[Ap]at ap;have hb1:=ap.1;clear ap nd;refine xx ?_;refine YO (γ:=Nat×Option (Nat×Nat)) (0,none) (fun s=>s.1≤l.length∧okO s.2 s.1∧apO s.2 (⟨b1,24,Zbs p,24⟩::L) h) (fun s=>[(10,.int .i64 s.1),(9,.int .i64 l.length),(8,.slice a l.length c),(5,ovs s.2 s.1),(0,.func (.func 298) #[] #[.pointer (some ⟨b1,0,none⟩)])])
  (fun s=>oent 22 1 s.2 (Gh (YX p) l s.1) (⟨b1,24,Zbs p,24⟩::L)) (fun _=>h) (fun s=>l.length-s.1) ?_ ?_ ?_ ?_
 ·exact⟨Nat.zero_le _,rfl,trivial⟩
 ·simp [Ent,List.lookup,Wo,ovs]
 ·exact Za.refl _ _
 rintro⟨k,o⟩ ⟨k1,k2,k3⟩;simp only at k1 k2 k3 ⊢;by_cases c1:k<l.length
 ·have hmem:gr ZQ l k∈l:=by rw[Z8 c1];exact List.getElem_mem c1
  have m1:apB o b1:=k3.head;simp -dsimp -implicitDefEqProofs (disch:=first|with_reducible assumption|omega) [go_sem,↓Uw ZQ (by decide) hd,sdC];refine Z2 fun b7 nb7 zb7=>?_;(try simp only[ZT]at nb7);have n7:=Ya nb7;simp only[ZT]at n7;simp -dsimp -implicitDefEqProofs (disch:=first|with_reducible assumption|omega) [go_sem,sdC];refine Yie p ok hr (gr ZQ l k) (hm _ hmem) b1 b7 o _ n7.1 m1 hb1 ?_;simp only[sdC];refine xx ?_;refine Z2 fun b8 nb8 zb8=>?_;(try simp only[ZT]at nb8);refine xx ?_;refine Z4 (t:=25) (e:=22) (sz:=1) (bytes:=8) (by kernel_rfl) VB rfl rfl rfl rfl (by decide) [_,_] _ o k (Gh (YX p) l k) k2 (VE k1) (Src.own List.mem_cons_self) (m:=1) (news:=[.int .u64 (YX p (gr ZQ l k))]) rfl (by intro u hu;simp only[List.mem_singleton]at hu;subst hu;rfl) (by simp [maxLen];omega) (by omega) ?_;intro o' j1 j2 j3;refine xx ?_;refine⟨k+1,o',⟨by omega,j1,ZY (ZY j2)⟩,by omega,by simp [Ent,List.lookup],?_⟩;rw[JD ZQ c1];exact(Za.tail _ _ _).trans (Za.tail _ _ _)
 ·have hkl:k=l.length:=by omega
  subst hkl;refine xx ?_;exact Wh (n:=l.length) k2 (VE (Nat.le_refl _)) (by omega) k3 fun h' le sl=>ZO (hk h' _ le (Zhu sl fun x hx=>by have:=Ypz hr (hm x hx);omega))
def VL (p:Ze)(n:Int)(l:List Zb):List Int:=YG n (tot (l.map (YX p))) (l.map (YX p))
theorem Vs (p:Ze)(n:Int)(l:List Zb):(VL p n l).length=l.length:=by simp [VL,YG]
theorem G1 {p:Ze}(hr:YM p=true){n:Int}(hn:0≤n){l:List Zb}(hm:∀x∈l,Zf x)(i:Nat):0≤at0 (VL p n l) i∧at0 (VL p n l) i≤n:=by
 have h0:∀i,0≤at0 (l.map (YX p)) i:=fun i=>by
  by_cases c:i<(l.map (YX p)).length
  ·rw[← Yf c,List.getElem_map];exact(Ypz hr (hm _ (List.getElem_mem _))).1
  ·rw[Gg (by omega)];decide
 by_cases c:i<(l.map (YX p)).length
 ·unfold VL YG;rw[GJ _ _ c];exact Ybl hn (h0 i) (Yl h0 i)
 ·rw[Gg (by rw[Vs];simpa using c)];omega
theorem Zix {p:Ze}(hr:YM p=true){n:Int}(hn:0≤n∧n≤18446744073709551615){l:List Zb}(hm:∀x∈l,Zf x){h:PH}{v:Value}(sl:Sl h v l.length 1 ((VL p n l).map (.int .u64))):Ints h .u64 v (VL p n l):=by
 refine⟨by rw[Vs];exact sl,fun z hz=>?_⟩;obtain⟨i,hi,rfl⟩:=List.mem_iff_getElem.1 hz;have:=G1 hr hn.1 hm i;rw[Yf hi];rw[show IntKind.u64.min=0 by decide,show IntKind.u64.max=18446744073709551615 by decide];omega
theorem Gf {l:List Zb}(p:Ze)(ok:Zj p)(hr:YM p=true)(v:Value)(hd0:Zh sdC 4 h v l)(hm:∀x∈l,Zf x)(hn:l.length≤128)(n:Int)(hb:0≤n∧n≤18446744073709551615)
  (hk:∀h' r,PH.le h h'→Ints h' .u64 r (VL p n l)→K (.tuple #[r,.int .u64 (n-tot (VL p n l)),.int .i64 0]) L h') :
  Zc prog 197 [Ud p,.int .u64 n,v] L h K:=by
 obtain⟨a,c,rfl,hc,hl,_,hd⟩:=hd0.open;have hw:=Ymh hr hm hn;refine ZS func197 rfl (rs:=[_,_,_]) rfl rfl ZW (by kernel_rfl) rfl rfl ?_;refine xx ?_;refine Z2 fun b1 nb1 zb1=>?_;(try simp only[ZT]at nb1);refine xx ?_;refine WS p ok ?_;rw[hr];refine xx ?_;refine Zc.ap (Zwa p ok hr _ hd0 hm (by omega) b1 fun h1 r1 l1 i1 ap=>?_);simp only[Ap]at ap;obtain⟨p1,_⟩:=ap;obtain⟨ra,rc,rfl,_⟩:=i1.open;rw[List.length_map]at i1;refine xx ?_;refine Zvy n hb _ i1 (fun e=>absurd hw e) fun _ o j1 j2=>?_;obtain⟨x,y,e,hxy⟩:=Z9 j1;rw[e];refine xx ?_;have hlen:(l.map (YX p)).length=l.length:=List.length_map _;refine Wh (n:=(l.map (YX p)).length) j1 (by simp [YG]) (by omega) j2 fun h' le sl=>ZP (ZO ?_);rw[e,hlen]at sl;exact hk h' _ (l1.trans le) (Zix hr hb hm sl)
end Go.X
