/- Lemmas and contracts. Conditions: as each says. -/
import Derived.Test.YtllhopbilpdpkaaGreatQ22
import Derived.Test.YtllhopbilpdpkaaGreatQ23
set_option linter.unusedVariables false
set_option linter.unusedSimpArgs false
set_option maxHeartbeats 12800000
set_option maxRecDepth 20000
namespace Go.X
open Go.RowKit Go.Proofs Go.Bl Go.Proofs.Tryz
variable {L:Own} {h:PH} {K:PK}
def Wo (p:Ze)(m:Zc):Zc×Bool :=
 if m.status=1/\p.floor<m.bal/\m.bal<=p.cap then ({ m with status:=2,eff:=Wi p m.bal,ak:=0 },true) else (m,false)
theorem Ztk (p:Ze)(ok:Zj p)(hr:Yo p=true)(m:Zc)(mo:Zf m)(hk:K (.tuple #[Zeu (Wo p m).1,.bool (Wo p m).2]) L h):Zb prog 218 [WS p,Zeu m] L h K:=by
 have hb:0<=m.bal/\m.bal<=18446744073709551615:=mo.u _ qj;refine eF func218 ?_;refine xx ?_;refine ZY fun b1 nb1 zb1=>?_;(try simp only[ZS]at nb1);refine xx ?_;refine ZY fun b2 nb2 zb2=>?_;(try simp only[ZS]at nb2);refine xx ?_;refine ZY fun b3 nb3 zb3=>?_;(try simp only[ZS]at nb3);refine xx ?_;refine Vg p ok ?_;rw[if_pos hr];refine xx ?_;by_cases c1:m.status=1
 ·by_cases c2:m.bal<=p.floor
  ·rw[Wo,if_neg qf]at hk;refine xx ?_;exact ZO (ZO (ZO (ZP hk)))
  ·by_cases c3:m.bal<=p.cap
   ·rw[Wo,if_pos ⟨c1,qf,c3⟩]at hk;refine xx ?_;refine G0 p ok m.bal hb ?_;rw[if_pos hr];refine xx ?_;exact ZO (ZO (ZO (ZP hk)))
   ·rw[Wo,if_neg qf]at hk;refine xx ?_;exact ZO (ZO (ZO (ZP hk)))
 ·rw[Wo,if_neg qf]at hk;refine xx ?_;exact ZO (ZO (ZO (ZP hk)))
def V5 (m:Zc)(r:Int):Zc:={ m with status:=r,bal:=0,eff:=0,ak:=0 }
theorem Yab (m:Zc)(r:Int)(hk:K (.tuple #[Zeu (V5 m r),.int .u64 m.bal]) L h):Zb prog 313 [Zeu m,.int .i64 r] L h K:=by
 refine eF func313 ?_;refine xx ?_;refine ZY fun b2 nb2 zb2=>?_;(try simp only[ZS]at nb2);refine xx ?_;refine ZY fun b4 nb4 zb4=>?_;(try simp only[ZS]at nb4);refine xx ?_;exact ZO (ZO (ZP hk))
def YS (p:Ze)(m:Zc)(a:Int):Int:=min a (Wf p.cap m.bal)
def Ur (p:Ze)(m:Zc)(a:Int):Zc :=
 if 0<m.bal+YS p m a/\(m.status=4\/m.status=5) then { m with bal:=m.bal+YS p m a,status:=1,eff:=0 } else { m with bal:=m.bal+YS p m a }
theorem Zdc (p:Ze)(ok:Zj p)(hr:Yo p=true)(m:Zc)(mo:Zf m)(a:Int)(ha:0<=a/\a<=18446744073709551615)(hs:m.bal+a<=18446744073709551615)(hk:K (.tuple #[Zeu (Ur p m a),.int .u64 (a-YS p m a)]) L h):Zb prog 315 [WS p,Zeu m,.int .u64 a] L h K:=by
 have hb:0<=m.bal/\m.bal<=18446744073709551615:=mo.u _ qj;have hc:0<=p.cap/\p.cap<=18446744073709551615:=ok.w _ qB;refine eF func315 ?_;refine xx ?_;refine ZY fun b1 nb1 zb1=>?_;(try simp only[ZS]at nb1);refine xx ?_;refine ZY fun b2 nb2 zb2=>?_;(try simp only[ZS]at nb2);refine xx ?_;refine ZY fun b3 nb3 zb3=>?_;(try simp only[ZS]at nb3);refine xx ?_;refine Vg p ok ?_;rw[if_pos hr];refine xx ?_;refine Zdn p.cap m.bal hc hb ?_;refine xx ?_;have hf:0<=Wf p.cap m.bal:=by unfold Wf;split<;>omega
 refine Zkw a _ ha hf ?_;have e1:min a (Wf p.cap m.bal)=YS p m a:=rfl;rw[e1];have h1:0<=YS p m a/\YS p m a<=a:=by unfold YS;omega
 unfold Ur at hk;obtain⟨t,ht⟩:∃t,t=YS p m a:=⟨_,rfl⟩
 rw[<- ht]at hk h1 ⊢;refine xx ?_;by_cases c1:0<m.bal+t
 ·by_cases c2:m.status=4
  ·rw[if_pos ⟨c1,Or.inl c2⟩]at hk;refine xx ?_;exact ZO (ZO (ZO (ZP hk)))
  ·by_cases c3:m.status=5
   ·rw[if_pos ⟨c1,Or.inr c3⟩]at hk;refine xx ?_;exact ZO (ZO (ZO (ZP hk)))
   ·rw[if_neg (fun e=>e.2.elim c2 c3)]at hk;refine xx ?_;exact ZO (ZO (ZO (ZP hk)))
 ·rw[if_neg (fun e=>c1 e.1)]at hk;refine xx ?_;exact ZO (ZO (ZO (ZP hk)))
def Zzk (s:Zg)(a:Int):Prop:=tot [s.gen,s.aB,a]<=min s.most 4611686018427387904/\s.an+a<=18446744073709551615
def Znp (s:Zg)(a:Int):Zg:={ s with aB:=s.aB+a,an:=s.an+a }
def zStV:Value := .agg #[.int .u64 0,.int .u64 0,.int .u64 0,.int .u64 0,.int .u64 0,.int .u64 0,.int .u64 0,.int .u64 0,.int .u64 0,.int .u64 0,.int .u64 0,.int .u64 0,.int .u64 0,.int .u64 0,.int .i64 0,.int .i64 0,.int .i64 0,.int .i64 0,.int .i64 0,.int .i64 0,.int .i64 0,.int .i64 0,.int .i64 0,.int .i64 0,.int .u64 0,.int .u64 0,.int .u64 0,.int .u64 0,.int .u64 0,.int .i64 0,.int .i64 0,.bool false,.slice none 0 0,.slice none 0 0,.slice none 0 0,.slice none 0 0,.slice none 0 0,.slice none 0 0,.slice none 0 0,.slice none 0 0,.slice none 0 0]
def Yjy (v:SV):Prop:=v.p.oneCell'=true/\v.m.oneCell'=true/\v.e.oneCell'=true/\v.x.oneCell'=true/\v.o.oneCell'=true/\v.d.oneCell'=true/\v.t.oneCell'=true/\v.k.oneCell'=true/\v.r.oneCell'=true
theorem Yap {s:Zg}(v:SV)(hv:Yjy v)(ok:ZB s)(a:Int)(ha:0<=a/\a<=18446744073709551615)
  (hk:Zzk s a->∀h',PH.le h h'->K (.tuple #[stV (Znp s a) v,.int .i64 0]) L h') (hno:¬Zzk s a->∀h',PH.le h h'->K (.tuple #[zStV,.int .i64 210]) L h'):Zb prog 207 [stV s v,.int .u64 a] L h K:=by
 have h1:0<=s.most/\s.most<=18446744073709551615:=ok.u _ qj;have h2:0<=s.gen/\s.gen<=18446744073709551615:=ok.u _ qj;have h3:0<=s.aB/\s.aB<=18446744073709551615:=ok.u _ qj;have h4:0<=s.an/\s.an<=18446744073709551615:=ok.u _ qj;unfold Zzk at hk hno;unfold zStV at hno;refine eF func207 ?_;refine xx ?_;refine ZY fun b2 nb2 zb2=>?_;(try simp only[ZS]at nb2);refine xx ?_;refine ZY fun b4 nb4 zb4=>?_;(try simp only[ZS]at nb4);have n4:=nb4.1;clear nb4;refine xx ?_;refine ZY fun b9 nb9 zb9=>?_;(try simp only[ZS]at nb9);refine xx ?_;refine UA (e:=22) (sz:=1) (o:=some (b9,3)) (n:=3) [] (show 3<=3/\3<=maxLen from qh) rfl qh (fun h5 le5 sl5=>?_) ⟨f176,func176,qE,rfl⟩
 have it:Ints h5 .u64 (ovs (some (b9,3)) 3) [s.gen,s.aB,a]:=⟨sl5,fun z hz=>by
  rw[show IntKind.u64.min=0 from qh,show IntKind.u64.max=18446744073709551615 from qh];simp only[List.mem_cons,List.not_mem_nil,or_false]at hz;rcases hz with rfl|rfl|rfl
  ·exact h2
  ·exact h3
  ·exact ha⟩
 refine Zb.ap (Zdx _ _ it qf fun ap=>?_);simp only[Ap,List.nil_append]at ap;obtain⟨a4,a2,_⟩:=ap;by_cases c1:tot [s.gen,s.aB,a]<=min s.most 4611686018427387904
 ·rw[decide_eq_true c1];refine xx ?_;refine WV _ _ h4 ha ?_;by_cases c2:s.an+a<=18446744073709551615
  ·rw[YR c2];have hm:tot [s.gen,s.aB,a]=s.gen+s.aB+a:=by simp [tot,YE,at0]
   have hk:=hk ⟨c1,c2⟩ h5 le5;unfold Znp at hk;refine xx ?_;exact⟨hv,ZO (ZO (ZP hk))⟩
  ·rw[Wy c2];refine xx ?_;exact ZO (ZO (ZP (hno (fun e=>c2 e.2) h5 le5)))
 ·rw[decide_eq_false c1];refine xx ?_;exact ZO (ZO (ZP (hno (fun e=>c1 e.1) h5 le5)))
def Yii (s:Zg)(a:Int):Prop:=a<=s.an/\s.aG+a<=18446744073709551615
def Zmv (s:Zg)(a:Int):Zg:={ s with aG:=s.aG+a,an:=s.an-a }
theorem Yag {s:Zg}(v:SV)(hv:Yjy v)(ok:ZB s)(a:Int)(ha:0<=a/\a<=18446744073709551615)(hgo:Yii s a)
  (hk:K (.tuple #[stV (Zmv s a) v,.int .i64 0]) L h):Zb prog 211 [stV s v,.int .u64 a] L h K:=by
 have h3:0<=s.aG/\s.aG<=18446744073709551615:=ok.u _ qj;have h4:0<=s.an/\s.an<=18446744073709551615:=ok.u _ qj;obtain⟨c1,c2⟩:=hgo;unfold Zmv at hk;refine eF func211 ?_;refine xx ?_;refine ZY fun b2 nb2 zb2=>?_;(try simp only[ZS]at nb2);refine xx ?_;refine ZY fun b4 nb4 zb4=>?_;(try simp only[ZS]at nb4);have n4:=nb4.1;clear nb4;refine xx ?_;refine Zoz _ _ h4 ha ?_;rw[if_pos c1];refine xx ?_;refine WV _ _ h3 ha ?_;rw[YR c2];refine xx ?_;exact⟨hv,ZO (ZO (ZP hk))⟩
end Go.X
