/- Lemmas and contracts. Conditions: as each says. -/
import Derived.Test.YtpdidilobgimcaaGreatQ16
import Derived.Test.YtpdidilobgimcaaGreatQ17
set_option linter.unusedVariables false
set_option linter.unusedSimpArgs false
set_option maxHeartbeats 12800000
set_option maxRecDepth 20000
namespace Go.X
open Go.RowKit Go.Proofs Go.Bl Go.Proofs.Tryz
variable {L:Own} {h:PH} {K:PK}
def Zbt (k:Nat):Int:=if k<32 then 2 ^ (31-k) else 0
theorem Zrc {k:Nat}(hk:k<32):Zbt k/2=Zbt (k+1):=by
 have:∀k,k<32→Zbt k/2=Zbt (k+1):=by decide +kernel
 exact this k hk
theorem Yaa {k:Nat}(hk:k<32):1≤Zbt k∧Zbt k≤2147483648:=by
 have:∀k,k<32→1≤Zbt k∧Zbt k≤2147483648:=by decide +kernel
 exact this k hk
theorem Yaj (n:Int)(hn:0≤n∧n≤18446744073709551615)(hk:K (.int .u64 (Jr n)) L h):Zb prog 332 [.int .u64 n] L h K:=by
 refine ZT func332 rfl (rs:=[_]) rfl rfl ZW (by kernel_rfl) rfl rfl ?_;refine xx ?_;refine Wv (0:Nat) (fun k=>k≤32) (fun k=>[(4,.int .u64 (Zbt k)),(3,.int .u64 (rtK n k)),(0,.int .u64 n)]) (fun k=>32-k) ?_ ?_ ?_
 ·exact Nat.zero_le _
 ·simp [Ent,List.lookup,Wc,Zbt,rtK]
 intro k hk1;by_cases c1:k<32
 ·obtain⟨a1,a2,a3,a4⟩:=Zvb hn k hk1;obtain⟨b1,b2⟩:=Yaa c1;have e:(2:Int) ^ (32-k)=2*Zbt k:=by
   rw[Zbt,if_pos c1,show 32-k=(31-k)+1 by omega,Int.pow_succ,Int.mul_comm]
  have hh:=Zrc c1;have hp:=Wq (rtK n k+Zbt k) (rtK n k+Zbt k) (by omega) (by omega) (by omega) (by omega);have hs:rtK n (k+1)=if (rtK n k+Zbt k)*(rtK n k+Zbt k)≤n then rtK n k+Zbt k else rtK n k:=by rw[rtK,Zbt,if_pos c1]
  rw[e]at a2
  generalize Zbt k=b at *
  generalize rtK n k=r at *
  by_cases c2:(r+b)*(r+b)≤n
  ·rw[if_pos c2]at hs;simp -dsimp -implicitDefEqProofs (disch:=first|with_reducible assumption|omega) [go_sem,hh];exact⟨k+1,by omega,by omega,by simp [Ent,List.lookup,hs],Za.refl _ _⟩
  ·rw[if_neg c2]at hs;simp -dsimp -implicitDefEqProofs (disch:=first|with_reducible assumption|omega) [go_sem,hh];exact⟨k+1,by omega,by omega,by simp [Ent,List.lookup,hs],Za.refl _ _⟩
 ·have hkl:k=32:=by omega
  subst hkl;rw[show Zbt 32=0 from rfl];refine xx ?_;exact ZP hk
theorem Zth (mode:Int)(hk:K (.bool (decide (mode=3∨mode=4))) L h):Zb prog 248 [.int .i64 mode] L h K:=by
 refine ZT func248 rfl (rs:=[_]) rfl rfl ZW (by kernel_rfl) rfl rfl ?_;by_cases c:mode=3
 ·rw[decide_eq_true (Or.inl c)]at hk;refine xx ?_;exact ZP hk
 ·rw[show decide (mode=3∨mode=4)=decide (mode=4) by apply decide_eq_decide.2;omega]at hk;refine xx ?_;exact ZP hk
theorem bud_e {p:Zd}{ac:Int}(h1:ac≠0)(h2:¬ 4611686018427387904<ac):Zqa p ac=dwN ac p.rate (1048576*Jr ac):=by
 rw[Zqa,if_neg];omega
theorem Zrd (p:Zd)(ok:Zj p)(hr:YI p=true)(ac:Int)(ha:0≤ac∧ac≤18446744073709551615)(hk:K (.int .u64 (Zqa p ac)) L h):Zb prog 249 [Vt p,.int .u64 ac] L h K:=by
 have ur:=ok.w p.rate (by simp [YF]);refine ZT func249 rfl (rs:=[_]) rfl rfl ZW (by kernel_rfl) rfl rfl ?_;refine xx ?_;refine Z1 fun b1 nb1 zb1=>?_;(try simp only[ZU]at nb1);by_cases c1:ac=0
 ·rw[Zqa,if_pos (.inl c1)]at hk;refine xx ?_;exact ZO (ZP hk)
 by_cases c2:4611686018427387904<ac
 ·rw[Zqa,if_pos (.inr c2)]at hk;refine xx ?_;exact ZO (ZP hk)
 rw[bud_e c1 c2]at hk;have rp:=Zxk (n:=ac) (by omega);have rl:=(Zhv (n:=ac) (by omega)).2.1;refine xx ?_;refine WJ p ok ?_;rw[hr];refine xx ?_;refine Yn (.tk 0 (.tk 1 (.tk 3 (.tkl 2 (.o1 4 (.tk 5 (.o1 6 (.tk 7 (.tk 8 (.tk 9 (.tk 10 (.tk 11 (.fin)))))) (.nil))) (.nil)))))) (by kernel_rfl) (by kernel_rfl) _ (Za.refl _ _) ?_;refine xx ?_;refine Yaj ac ha ?_
 first
 | refine xkp (Za.refl _ _) ?_
 | skip
 refine xx ?_;refine Gj ac p.rate (1048576*Jr ac) ha ur (by omega) ?_
 first
 | refine xkp (Za.refl _ _) ?_
 | skip
 refine xx ?_;by_cases c3:dwE ac p.rate (1048576*Jr ac)=0
 ·refine xx ?_;exact ZO (ZP hk)
 ·rw[dwN,if_neg c3]at hk;refine xx ?_;exact ZO (ZP hk)
theorem Zgp {zs:List Int}(most:Int)(v:Value)(hz:Ints h .u64 v zs)(hm:most≤18446744073709551615)(hk:K (.bool (decide (tot zs≤most))) L h):Zb prog 296 [.int .u64 most,v] L h K:=by
 refine ZT func296 rfl (rs:=[_]) rfl rfl ZW (by kernel_rfl) rfl rfl ?_;refine xx ?_;refine Wo v hz ?_;by_cases c:tot zs≤18446744073709551615
 ·rw[YA c];refine xx ?_;exact ZP hk
 ·rw[decide_eq_false (show ¬tot zs≤most by omega)]at hk;rw[Wd c];refine xx ?_;exact ZP hk
theorem Yqt {p:Zd}(ok:Zj p){ac:Int}(ha:0≤ac∧ac≤18446744073709551615):0≤Zqa p ac∧Zqa p ac≤18446744073709551615:=by
 have ur:=ok.w p.rate (by simp [YF]);unfold Zqa;split
 ·decide
 ·exact Yrh ha.1 ur.1 (by have:=(Zhv ha).1;omega)
theorem Zrr (p:Zd)(ok:Zj p)(hr:YI p=true)(ac is most mode:Int)(ha:0≤ac∧ac≤18446744073709551615)(hi:0≤is∧is≤18446744073709551615)(hm:0≤most∧most≤18446744073709551615)(hk:∀h',PH.le h h'→K (.int .u64 (Zif p ac is most mode)) L h') :
  Zb prog 193 [Vt p,.int .u64 ac,.int .u64 is,.int .u64 most,.int .i64 mode] L h K:=by
 have bb:=Yqt ok ha;refine ZT func193 rfl (rs:=[_]) rfl rfl ZW (by kernel_rfl) rfl rfl ?_;refine xx ?_;refine Z1 fun b1 nb1 zb1=>?_;(try simp only[ZU]at nb1);refine xx ?_;refine Zrd p ok hr ac ha ?_;refine xx ?_;refine Zth mode ?_;by_cases c1:mode=3∨mode=4
 ·have hk:=hk h (PH.le_refl _);rw[Zif,if_pos (.inl c1)]at hk;rw[decide_eq_true c1];refine xx ?_;exact ZO (ZP hk)
 ·rw[decide_eq_false c1];refine xx ?_;refine Z1 fun b2 nb2 zb2=>?_;(try simp only[ZU]at nb2);refine xx ?_;refine YL (sz:=1) (n:=2) (cap:=2) [] ⟨Nat.le_refl _,by decide⟩ rfl (by decide) zb2 fun h2 le2 s2 f2=>?_;refine Zgp (zs:=[is,Zqa p ac]) most _ ⟨s2,fun z hz=>?_⟩ hm.2 ?_
  ·simp only[List.mem_cons,List.not_mem_nil,or_false]at hz;rcases hz with rfl|rfl<;>assumption
  have hk:=hk h2 le2;rw[Zwd];simp only[List.nil_append];by_cases c2:is+Zqa p ac≤most
  ·rw[Zif,if_neg (by omega)]at hk;rw[decide_eq_true c2];refine xx ?_;exact ZO (ZP hk)
  ·rw[Zif,if_pos (.inr (by omega))]at hk;rw[decide_eq_false c2];refine xx ?_;exact ZO (ZP hk)
theorem Ynr {a b:Int}(ha:0≤a∧a≤18446744073709551615)(hb:0≤b):0≤Y8 a b∧Y8 a b≤a:=by
 unfold Y8;split<;>omega
theorem Zyx (p:Zd)(ok:Zj p)(hr:YI p=true)(m:Zc)(mo:Zf m)(n:Int)(hn:0≤n∧n≤18446744073709551615)(hk:K (.tuple #[Znv (V9 p m n).1,.int .u64 (V9 p m n).2]) L h):Zb prog 197 [Vt p,Znv m,.int .u64 n] L h K:=by
 have ub:=mo.u m.bal (by simp);have uc:=ok.w p.cap (by simp [YF]);have fb:=Ynr uc ub.1;have fs:m.bal+min n (Y8 p.cap m.bal)≤18446744073709551615:=by unfold Y8 at *;split<;>omega
 unfold V9 at hk;refine ZT func197 rfl (rs:=[_,_]) rfl rfl ZW (by kernel_rfl) rfl rfl ?_;refine xx ?_;refine Z1 fun b1 nb1 zb1=>?_;(try simp only[ZU]at nb1);refine xx ?_;refine Z1 fun b2 nb2 zb2=>?_;(try simp only[ZU]at nb2);refine xx ?_;refine Z1 fun b3 nb3 zb3=>?_;(try simp only[ZU]at nb3);refine xx ?_;refine WJ p ok ?_;rw[hr];refine xx ?_;refine GU p.cap m.bal uc ub ?_;refine xx ?_;refine Zfm n (Y8 p.cap m.bal) hn fb.1 ?_;refine xx ?_;exact ZO (ZO (ZO (ZP hk)))
theorem Ztw {p:Zd}(ok:Zj p)(hr:YI p=true){m:Zc}(mo:Zf m)(mode:Int):0≤Zay p m mode∧Zay p m mode≤18446744073709551615:=by
 have ue:=mo.u m.eff (by simp);have us:=mo.u m.score (by simp);have hs:=Ye hr;have u1:=ok.w p.quot (by simp [YF]);have u2:=ok.w p.quotEm (by simp [YF]);unfold Zay;split
 ·exact Yku ue.1 us.1 u1.1
 ·split
  ·exact Yku ue.1 us.1 u2.1
  ·exact Yrh ue.1 hs.2.2.2.2.1 (by decide)
theorem Zrb {p:Zd}(ok:Zj p)(hr:YI p=true){m:Zc}(mo:Zf m)(mode:Int):0≤YS p m mode∧YS p m mode≤m.bal:=by
 have ub:=mo.u m.bal (by simp);have:=Ztw ok hr mo mode;unfold YS;split<;>omega
abbrev absV (p:Zd)(m:Zc)(mode:Int):Value := .agg #[.int .u64 m.bal,.int .u64 m.eff,.int .u64 m.score,.int .i64 m.streak,.int .u64 p.inc,.int .u64 p.maxEff,.int .u64 p.floor,.int .u64 p.cap,.int .u64 p.up,.int .u64 p.down,.int .u64 p.bias,.int .u64 p.quot,.int .u64 p.biasEm,.int .u64 p.quotEm,.int .u64 p.recover,.int .u64 p.scoreCap,.int .u64 p.rate,.int .u64 p.bond,.int .i64 p.delay,.int .i64 p.streak,.int .i64 p.boost,.int .i64 p.absent,.int .i64 p.burn,.int .i64 p.churn,.int .i64 p.wait,.int .i64 p.poll,.int .i64 p.enact,.int .i64 p.quorum,.int .i64 mode]
theorem Ztt (p:Zd)(ok:Zj p)(hr:YI p=true)(m:Zc)(mo:Zf m)(mode:Int)(hk:K (.int .u64 (YS p m mode)) L h):Zb prog 341 [absV p m mode] L h K:=by
 have ub:=mo.u m.bal (by simp);have ue:=mo.u m.eff (by simp);have us:=mo.u m.score (by simp);have hs:=Ye hr;have u1:=ok.w p.quot (by simp [YF]);have u2:=ok.w p.quotEm (by simp [YF]);have bq:=Ztw ok hr mo mode;unfold YS at hk;refine ZT func341 rfl (rs:=[_]) rfl rfl ZW (by kernel_rfl) rfl rfl ?_;refine xx ?_;refine Z1 fun b1 nb1 zb1=>?_;(try simp only[ZU]at nb1);refine xx ?_;by_cases c1:mode=3
 ·have e1:Zhn p m mode=uqE m.eff m.score p.quot:=by rw[Zhn,if_pos c1]
  have e2:Zay p m mode=uqN m.eff m.score p.quot:=by rw[Zay,if_pos c1]
  rw[e1,e2]at hk;refine xx ?_;refine Ybn m.eff m.score p.quot ue us u1 ?_;by_cases c2:uqE m.eff m.score p.quot=0
  ·rw[if_pos c2]at hk;refine xx ?_;exact ZO (ZP hk)
  ·rw[if_neg c2]at hk;refine xx ?_;exact ZO (ZP hk)
 ·by_cases c3:mode=4
  ·have e1:Zhn p m mode=uqE m.eff m.score p.quotEm:=by rw[Zhn,if_neg c1,if_pos c3]
   have e2:Zay p m mode=uqN m.eff m.score p.quotEm:=by rw[Zay,if_neg c1,if_pos c3]
   rw[e1,e2]at hk;refine xx ?_;refine Ybn m.eff m.score p.quotEm ue us u2 ?_;by_cases c2:uqE m.eff m.score p.quotEm=0
   ·rw[if_pos c2]at hk;refine xx ?_;exact ZO (ZP hk)
   ·rw[if_neg c2]at hk;refine xx ?_;exact ZO (ZP hk)
  ·have e1:Zhn p m mode=dwE m.eff p.absent 10000:=by rw[Zhn,if_neg c1,if_neg c3]
   have e2:Zay p m mode=dwN m.eff p.absent 10000:=by rw[Zay,if_neg c1,if_neg c3]
   rw[e1,e2]at hk;refine xx ?_;refine Gj m.eff p.absent 10000 ue (by omega) (by decide) ?_;by_cases c2:dwE m.eff p.absent 10000=0
   ·rw[if_pos c2]at hk;refine xx ?_;exact ZO (ZP hk)
   ·rw[if_neg c2]at hk;refine xx ?_;exact ZO (ZP hk)
theorem Yfu (p:Zd)(ok:Zj p)(hr:YI p=true)(m:Zc)(mo:Zf m)(mode:Int)(hk:K (.int .u64 (YS p m mode)) L h):Zb prog 270 [Vt p,Znv m,.int .i64 mode] L h K:=by
 refine ZT func270 rfl (rs:=[_]) rfl rfl ZW (by kernel_rfl) rfl rfl ?_;refine xx ?_;refine Z1 fun b1 nb1 zb1=>?_;(try simp only[ZU]at nb1);refine xx ?_;refine Z1 fun b2 nb2 zb2=>?_;(try simp only[ZU]at nb2);refine xx ?_;refine WJ p ok ?_;rw[hr];refine xx ?_;refine Ztt p ok hr m mo mode ?_;refine xx ?_;exact ZO (ZO (ZP hk))
theorem Ydn (n r:Int)(hn:0≤n∧n≤18446744073709551615)(hr:0≤r∧r≤10000)(hk:K (.tuple #[.int .u64 (dwN n r 10000),.int .u64 (n-dwN n r 10000),.int .i64 0]) L h):Zb prog 342 [.int .u64 n,.int .i64 r] L h K:=by
 have h1:n*r≤n*10000:=Int.mul_le_mul_of_nonneg_left hr.2 hn.1;have h0:=Int.mul_nonneg hn.1 hr.1;have e:dwE n r 10000=0:=by
  unfold dwE;rw[if_neg (by decide),if_pos];omega
 have b:0≤dwN n r 10000∧dwN n r 10000≤n:=by rw[dwN,if_pos e];omega
 refine ZT func342 rfl (rs:=[_,_,_]) rfl rfl ZW (by kernel_rfl) rfl rfl ?_;refine xx ?_;refine Gj n r 10000 hn (by omega) (by decide) ?_;rw[e];refine xx ?_;exact ZP hk
theorem Znd (p:Zd)(ok:Zj p)(hr:YI p=true)(n:Int)(hn:0≤n∧n≤18446744073709551615)(hk:K (.tuple #[.int .u64 (Vv p n),.int .u64 (n-Vv p n)]) L h):Zb prog 271 [Vt p,.int .u64 n] L h K:=by
 have hs:=Ye hr;unfold Vv at hk;refine ZT func271 rfl (rs:=[_,_]) rfl rfl ZW (by kernel_rfl) rfl rfl ?_;refine xx ?_;refine Z1 fun b1 nb1 zb1=>?_;(try simp only[ZU]at nb1);refine xx ?_;refine WJ p ok ?_;rw[hr];refine xx ?_;refine Ydn n p.burn hn (by omega) ?_;refine xx ?_;exact ZO (ZP hk)
def US (p:Zd)(m:Zc)(mode:Int):Zc:={ m with bal:=m.bal-YS p m mode }
theorem Zvc (p:Zd)(ok:Zj p)(hr:YI p=true)(m:Zc)(mo:Zf m)(mode:Int)(hk:K (.tuple #[Znv (US p m mode),.int .u64 (Vv p (YS p m mode)),.int .u64 (YS p m mode-Vv p (YS p m mode))]) L h):Zb prog 153 [Vt p,Znv m,.int .i64 mode] L h K:=by
 have ub:=mo.u m.bal (by simp);have fb:=Zrb ok hr mo mode;unfold US at hk;refine ZT func153 rfl (rs:=[_,_,_]) rfl rfl ZW (by kernel_rfl) rfl rfl ?_;refine xx ?_;refine Z1 fun b1 nb1 zb1=>?_;(try simp only[ZU]at nb1);refine xx ?_;refine Z1 fun b2 nb2 zb2=>?_;(try simp only[ZU]at nb2);refine xx ?_;refine Z1 fun b3 nb3 zb3=>?_;(try simp only[ZU]at nb3);refine xx ?_;refine Yfu p ok hr m mo mode ?_;refine xx ?_;refine Znd p ok hr (YS p m mode) (by omega) ?_;refine xx ?_;exact ZO (ZO (ZO (ZP hk)))
def sdC (m:Zc):List Value:=[.int .u64 m.bal,.int .u64 m.eff,.int .u64 m.score,.int .i64 m.streak]
theorem Zkg (m:Zc):(sdC m).length=4:=rfl
theorem Ylg {p:Zd}(hr:YI p=true){m:Zc}(mo:Zf m):0≤YU p m∧YU p m≤71468255805440000:=by
 have hs:=Ye hr;have hb:=Zzr hr;have ue:=mo.u m.eff (by simp);unfold YU;split
 ·decide
 ·have s0:0≤min (max m.streak 0) p.streak∧min (max m.streak 0) p.streak≤64:=by omega
  generalize min (max m.streak 0) p.streak=s at *
  have b1:=Int.mul_nonneg hs.2.2.1 s0.1;have b2:p.boost*s≤1000*64:=Int.mul_le_mul hs.2.2.2.1 s0.2 s0.1 (by decide);have b3:=Int.mul_nonneg ue.1 (show 0≤1000+p.boost*s by omega);have b4:m.eff*(1000+p.boost*s)≤1099511627776*65000:=Int.mul_le_mul (by omega) (by omega) (by omega) (by decide);exact⟨b3,by omega⟩
theorem Zhw (p:Zd)(ok:Zj p)(hr:YI p=true)(m:Zc)(mo:Zf m)(hk:K (.int .u64 (YU p m)) L h):Zb prog 300 [Vt p,Znv m] L h K:=by
 have hs:=Ye hr;have ue:=mo.u m.eff (by simp);have wb:=Ylg hr mo;refine ZT func300 rfl (rs:=[_]) rfl rfl ZW (by kernel_rfl) rfl rfl ?_;refine xx ?_;refine Z1 fun b1 nb1 zb1=>?_;(try simp only[ZU]at nb1);refine xx ?_;refine Z1 fun b2 nb2 zb2=>?_;(try simp only[ZU]at nb2);by_cases c:p.maxEff<m.eff
 ·rw[YU,if_pos c]at hk;refine xx ?_;exact ZO (ZO (ZP hk))
 ·rw[YU,if_neg c]at hk wb;have s0:0≤min (max m.streak 0) p.streak∧min (max m.streak 0) p.streak≤64:=by omega
  have b1:=Int.mul_nonneg hs.2.2.1 s0.1;have b2:p.boost*min (max m.streak 0) p.streak≤1000*64:=Int.mul_le_mul hs.2.2.2.1 s0.2 s0.1 (by decide);simp -dsimp -implicitDefEqProofs (disch:=first|with_reducible assumption|omega) [go_sem,YQ];exact ZO (ZO (ZP hk))
theorem Ybo {zs:List Int}{B:Int}(hz:∀i,at0 zs i≤B):∀k:Nat,YD zs k≤k*B
 | 0=>by simp [YD]
 | k+1=>by
  have:=Ybo hz k;have:=hz k;rw[YD,Int.natCast_add,Int.add_mul];simp;omega
theorem Ynu {p:Zd}(hr:YI p=true){l:List Zc}(hm:∀x∈l,Zf x)(hn:l.length≤128):Zhk (l.map (YU p))=0:=by
 have hz:∀i,at0 (l.map (YU p)) i≤71468255805440000:=fun i=>by
  by_cases c:i<(l.map (YU p)).length
  ·rw[← Yi c,List.getElem_map];exact(Ylg hr (hm _ (List.getElem_mem _))).2
  ·rw[GK (by omega)];decide
 have h1:=Ybo hz (l.map (YU p)).length;rw[Zhk,if_pos (by rw[List.length_map];omega),if_pos];rw[tot];rw[List.length_map]at h1 ⊢;omega
theorem Yem (p:Zd)(ok:Zj p)(hr:YI p=true)(m:Zc)(mo:Zf m)(b1 b7:Nat)(o:Option (Nat×Nat))(xs:List Value)(n17:b1≠b7)(ho:apB o b1)(hb:h b1=noC)
  (hk:K (.int .u64 (YU p m)) (⟨b7,98,sdC m,4⟩::oent 22 1 o xs (⟨b1,24,Zaw p,24⟩::L)) h) :
  Zb prog 299 [Znv m,.pointer (some ⟨b1,0,none⟩)] (⟨b7,98,sdC m,4⟩::oent 22 1 o xs (⟨b1,24,Zaw p,24⟩::L)) h K:=by
 simp only[sdC]at hk ⊢;refine ZT func299 rfl (rs:=[_]) rfl rfl ZW (by kernel_rfl) rfl rfl ?_;refine xx ?_;refine Z1 fun b2 nb2 zb2=>?_;(try simp only[ZU]at nb2);have n2:=Yu nb2.2;simp only[ZU]at n2;simp -dsimp -implicitDefEqProofs (disch:=first|with_reducible assumption|omega) [go_sem,ZQ ho];refine Zhw p ok hr m mo ?_;refine xx ?_;exact ZO (ZP hk)
theorem Zun {l:List Zc}(p:Zd)(ok:Zj p)(hr:YI p=true)(v:Value)(hd0:Zg sdC 4 h v l)(hm:∀x∈l,Zf x)(hn:l.length≤100000)(b1:Nat)
  (hk:∀h' r,PH.le h h'→Ints h' .u64 r (l.map (YU p))→K r (⟨b1,24,Zaw p,24⟩::L) h') :
  Zb prog 298 [.func (.func 299) #[] #[.pointer (some ⟨b1,0,none⟩)],v] (⟨b1,24,Zaw p,24⟩::L) h K:=by
 obtain⟨a,c,rfl,hc,hl,_,hd⟩:=hd0.open;refine Z6 func298 rfl (rs:=[_]) rfl rfl ZW (by kernel_rfl) rfl rfl fun ap nd=>?_;simp only[Ap]at ap;have hb1:=ap.1;clear ap nd;refine xx ?_;refine YP (γ:=Nat×Option (Nat×Nat)) (0,none) (fun s=>s.1≤l.length∧okO s.2 s.1∧apO s.2 (⟨b1,24,Zaw p,24⟩::L) h) (fun s=>[(10,.int .i64 s.1),(9,.int .i64 l.length),(8,.slice a l.length c),(5,ovs s.2 s.1),(0,.func (.func 299) #[] #[.pointer (some ⟨b1,0,none⟩)])])
  (fun s=>oent 22 1 s.2 (Gc (YU p) l s.1) (⟨b1,24,Zaw p,24⟩::L)) (fun _=>h) (fun s=>l.length-s.1) ?_ ?_ ?_ ?_
 ·exact⟨Nat.zero_le _,rfl,trivial⟩
 ·simp [Ent,List.lookup,Wc,ovs]
 ·exact Za.refl _ _
 rintro⟨k,o⟩ ⟨k1,k2,k3⟩;simp only at k1 k2 k3 ⊢;by_cases c1:k<l.length
 ·have hmem:gr ZR l k∈l:=by rw[Z5 c1];exact List.getElem_mem c1
  have m1:apB o b1:=k3.head;simp -dsimp -implicitDefEqProofs (disch:=first|with_reducible assumption|omega) [go_sem,↓Ut ZR (by decide) hd,sdC];refine Z1 fun b7 nb7 zb7=>?_;(try simp only[ZU]at nb7);have n7:=Yu nb7;simp only[ZU]at n7;simp -dsimp -implicitDefEqProofs (disch:=first|with_reducible assumption|omega) [go_sem,sdC];refine Yem p ok hr (gr ZR l k) (hm _ hmem) b1 b7 o _ n7.1 m1 hb1 ?_;simp only[sdC];refine xx ?_;refine Z1 fun b8 nb8 zb8=>?_;(try simp only[ZU]at nb8);refine xx ?_;refine Z3 (t:=25) (e:=22) (sz:=1) (bytes:=8) (by kernel_rfl) Uc rfl rfl rfl rfl (by decide) [_,_] _ o k (Gc (YU p) l k) k2 (Vm k1) (Src.own List.mem_cons_self) (m:=1) (news:=[.int .u64 (YU p (gr ZR l k))]) rfl (by intro u hu;simp only[List.mem_singleton]at hu;subst hu;rfl) (by simp [maxLen];omega) (by omega) ?_;intro o' j1 j2 j3;refine xx ?_;refine⟨k+1,o',⟨by omega,j1,ZZ (ZZ j2)⟩,by omega,by simp [Ent,List.lookup],?_⟩;rw[Ju ZR c1];exact(Za.tail _ _ _).trans (Za.tail _ _ _)
 ·have hkl:k=l.length:=by omega
  subst hkl;refine xx ?_;exact YG (n:=l.length) k2 (Vm (Nat.le_refl _)) (by omega) k3 fun h' le sl=>ZP (hk h' _ le (Zgo sl fun x hx=>by have:=Ylg hr (hm x hx);omega))
def Um (p:Zd)(n:Int)(l:List Zc):List Int:=YC n (tot (l.map (YU p))) (l.map (YU p))
theorem UJ (p:Zd)(n:Int)(l:List Zc):(Um p n l).length=l.length:=by simp [Um,YC]
theorem Zgf {p:Zd}(hr:YI p=true){n:Int}(hn:0≤n){l:List Zc}(hm:∀x∈l,Zf x)(i:Nat):0≤at0 (Um p n l) i∧at0 (Um p n l) i≤n:=by
 have h0:∀i,0≤at0 (l.map (YU p)) i:=fun i=>by
  by_cases c:i<(l.map (YU p)).length
  ·rw[← Yi c,List.getElem_map];exact(Ylg hr (hm _ (List.getElem_mem _))).1
  ·rw[GK (by omega)];decide
 by_cases c:i<(l.map (YU p)).length
 ·unfold Um YC;rw[Gx _ _ c];exact Zxp hn (h0 i) (Yl h0 i)
 ·rw[GK (by rw[UJ];simpa using c)];omega
theorem Zia {p:Zd}(hr:YI p=true){n:Int}(hn:0≤n∧n≤18446744073709551615){l:List Zc}(hm:∀x∈l,Zf x){h:PH}{v:Value}(sl:Sl h v l.length 1 ((Um p n l).map (.int .u64))):Ints h .u64 v (Um p n l):=by
 refine⟨by rw[UJ];exact sl,fun z hz=>?_⟩;obtain⟨i,hi,rfl⟩:=List.mem_iff_getElem.1 hz;have:=Zgf hr hn.1 hm i;rw[Yi hi];rw[show IntKind.u64.min=0 by decide,show IntKind.u64.max=18446744073709551615 by decide];omega
theorem Zoc {l:List Zc}(p:Zd)(ok:Zj p)(hr:YI p=true)(v:Value)(hd0:Zg sdC 4 h v l)(hm:∀x∈l,Zf x)(hn:l.length≤128)(n:Int)(hb:0≤n∧n≤18446744073709551615)
  (hk:∀h' r,PH.le h h'→Ints h' .u64 r (Um p n l)→K (.tuple #[r,.int .u64 (n-tot (Um p n l)),.int .i64 0]) L h') :
  Zb prog 196 [Vt p,.int .u64 n,v] L h K:=by
 obtain⟨a,c,rfl,hc,hl,_,hd⟩:=hd0.open;have hw:=Ynu hr hm hn;refine ZT func196 rfl (rs:=[_,_,_]) rfl rfl ZW (by kernel_rfl) rfl rfl ?_;refine xx ?_;refine Z1 fun b1 nb1 zb1=>?_;(try simp only[ZU]at nb1);refine xx ?_;refine WJ p ok ?_;rw[hr];refine xx ?_;refine Zb.ap (Zun p ok hr _ hd0 hm (by omega) b1 fun h1 r1 l1 i1 ap=>?_);simp only[Ap]at ap;obtain⟨p1,_⟩:=ap;obtain⟨ra,rc,rfl,_⟩:=i1.open;rw[List.length_map]at i1;refine xx ?_;refine Zwm n hb _ i1 (fun e=>absurd hw e) fun _ o j1 j2=>?_;obtain⟨x,y,e,hxy⟩:=Z9 j1;rw[e];refine xx ?_;have hlen:(l.map (YU p)).length=l.length:=List.length_map _;refine YG (n:=(l.map (YU p)).length) j1 (by simp [YC]) (by omega) j2 fun h' le sl=>ZO (ZP ?_);rw[e,hlen]at sl;exact hk h' _ (l1.trans le) (Zia hr hb hm sl)
end Go.X
