/- Lemmas and contracts. Conditions: as each says. -/
import Derived.Test.YtllhopbilpdpkaaGreatQ16
import Derived.Test.YtllhopbilpdpkaaGreatQ17
set_option linter.unusedVariables false
set_option linter.unusedSimpArgs false
set_option maxHeartbeats 12800000
set_option maxRecDepth 20000
namespace Go.X
open Go.RowKit Go.Proofs Go.Bl Go.Proofs.Tryz
variable {L:Own} {h:PH} {K:PK}
def WU (p:Ze)(m:Zb):Zb×Bool :=
 if m.status=1∧p.floor<m.bal∧m.bal≤p.cap then ({ m with status:=2,eff:=Wi p m.bal,streak:=0 },true) else (m,false)
theorem Znu (p:Ze)(ok:Zj p)(hr:YM p=true)(m:Zb)(mo:Zf m)(hk:K (.tuple #[Zym (WU p m).1,.bool (WU p m).2]) L h):Zc prog 218 [Ud p,Zym m] L h K:=by
 have hb:0≤m.bal∧m.bal≤18446744073709551615:=mo.u _ (by simp);refine ZS func218 rfl (rs:=[_,_]) rfl rfl ZW (by kernel_rfl) rfl rfl ?_;refine xx ?_;refine Z2 fun b1 nb1 zb1=>?_;(try simp only[ZT]at nb1);refine xx ?_;refine Z2 fun b2 nb2 zb2=>?_;(try simp only[ZT]at nb2);refine xx ?_;refine Z2 fun b3 nb3 zb3=>?_;(try simp only[ZT]at nb3);refine xx ?_;refine WS p ok ?_;rw[if_pos hr];refine xx ?_;by_cases c1:m.status=1
 ·by_cases c2:m.bal≤p.floor
  ·rw[WU,if_neg (by omega)]at hk;refine xx ?_;exact ZP (ZP (ZP (ZO hk)))
  ·by_cases c3:m.bal≤p.cap
   ·rw[WU,if_pos ⟨c1,by omega,c3⟩]at hk;refine xx ?_;refine JZ p ok m.bal hb ?_;rw[if_pos hr];refine xx ?_;exact ZP (ZP (ZP (ZO hk)))
   ·rw[WU,if_neg (by omega)]at hk;refine xx ?_;exact ZP (ZP (ZP (ZO hk)))
 ·rw[WU,if_neg (by omega)]at hk;refine xx ?_;exact ZP (ZP (ZP (ZO hk)))
def Ga (m:Zb)(r:Int):Zb:={ m with status:=r,bal:=0,eff:=0,streak:=0 }
theorem Zuv (m:Zb)(r:Int)(hk:K (.tuple #[Zym (Ga m r),.int .u64 m.bal]) L h):Zc prog 313 [Zym m,.int .i64 r] L h K:=by
 refine ZS func313 rfl (rs:=[_,_]) rfl rfl ZW (by kernel_rfl) rfl rfl ?_;refine xx ?_;refine Z2 fun b2 nb2 zb2=>?_;(try simp only[ZT]at nb2);refine xx ?_;refine Z2 fun b4 nb4 zb4=>?_;(try simp only[ZT]at nb4);refine xx ?_;exact ZP (ZP (ZO hk))
def Wn (p:Ze)(m:Zb)(a:Int):Int:=min a (Y2 p.cap m.bal)
def UE (p:Ze)(m:Zb)(a:Int):Zb :=
 if 0<m.bal+Wn p m a∧(m.status=4∨m.status=5) then { m with bal:=m.bal+Wn p m a,status:=1,eff:=0 } else { m with bal:=m.bal+Wn p m a }
theorem Zar (p:Ze)(ok:Zj p)(hr:YM p=true)(m:Zb)(mo:Zf m)(a:Int)(ha:0≤a∧a≤18446744073709551615)(hs:m.bal+a≤18446744073709551615)(hk:K (.tuple #[Zym (UE p m a),.int .u64 (a-Wn p m a)]) L h):Zc prog 315 [Ud p,Zym m,.int .u64 a] L h K:=by
 have hb:0≤m.bal∧m.bal≤18446744073709551615:=mo.u _ (by simp);have hc:0≤p.cap∧p.cap≤18446744073709551615:=ok.w _ (by simp [YN]);refine ZS func315 rfl (rs:=[_,_]) rfl rfl ZW (by kernel_rfl) rfl rfl ?_;refine xx ?_;refine Z2 fun b1 nb1 zb1=>?_;(try simp only[ZT]at nb1);refine xx ?_;refine Z2 fun b2 nb2 zb2=>?_;(try simp only[ZT]at nb2);refine xx ?_;refine Z2 fun b3 nb3 zb3=>?_;(try simp only[ZT]at nb3);refine xx ?_;refine WS p ok ?_;rw[if_pos hr];refine xx ?_;refine Zae p.cap m.bal hc hb ?_;refine xx ?_;have hf:0≤Y2 p.cap m.bal:=by unfold Y2;split<;>omega
 refine Zgt a _ ha hf ?_;have e1:min a (Y2 p.cap m.bal)=Wn p m a:=rfl;rw[e1];have h1:0≤Wn p m a∧Wn p m a≤a:=by unfold Wn;omega
 unfold UE at hk;obtain⟨t,ht⟩:∃t,t=Wn p m a:=⟨_,rfl⟩
 rw[← ht]at hk h1 ⊢;refine xx ?_;by_cases c1:0<m.bal+t
 ·by_cases c2:m.status=4
  ·rw[if_pos ⟨c1,Or.inl c2⟩]at hk;refine xx ?_;exact ZP (ZP (ZP (ZO hk)))
  ·by_cases c3:m.status=5
   ·rw[if_pos ⟨c1,Or.inr c3⟩]at hk;refine xx ?_;exact ZP (ZP (ZP (ZO hk)))
   ·rw[if_neg (fun e=>e.2.elim c2 c3)]at hk;refine xx ?_;exact ZP (ZP (ZP (ZO hk)))
 ·rw[if_neg (fun e=>c1 e.1)]at hk;refine xx ?_;exact ZP (ZP (ZP (ZO hk)))
def Zru (s:Zd)(a:Int):Prop:=tot [s.gen,s.mint,a]≤min s.most 4611686018427387904∧s.treas+a≤18446744073709551615
def Zjh (s:Zd)(a:Int):Zd:={ s with mint:=s.mint+a,treas:=s.treas+a }
def zStV:Value := .agg #[.int .u64 0,.int .u64 0,.int .u64 0,.int .u64 0,.int .u64 0,.int .u64 0,.int .u64 0,.int .u64 0,.int .u64 0,.int .u64 0,.int .u64 0,.int .u64 0,.int .u64 0,.int .u64 0,.int .i64 0,.int .i64 0,.int .i64 0,.int .i64 0,.int .i64 0,.int .i64 0,.int .i64 0,.int .i64 0,.int .i64 0,.int .i64 0,.int .u64 0,.int .u64 0,.int .u64 0,.int .u64 0,.int .u64 0,.int .i64 0,.int .i64 0,.bool false,.slice none 0 0,.slice none 0 0,.slice none 0 0,.slice none 0 0,.slice none 0 0,.slice none 0 0,.slice none 0 0,.slice none 0 0,.slice none 0 0]
def Yit (v:SV):Prop:=v.p.oneCell'=true∧v.m.oneCell'=true∧v.e.oneCell'=true∧v.x.oneCell'=true∧v.o.oneCell'=true∧v.d.oneCell'=true∧v.t.oneCell'=true∧v.k.oneCell'=true∧v.r.oneCell'=true
theorem Zvm {s:Zd}(v:SV)(hv:Yit v)(ok:ZA s)(a:Int)(ha:0≤a∧a≤18446744073709551615)
  (hk:Zru s a→∀h',PH.le h h'→K (.tuple #[stV (Zjh s a) v,.int .i64 0]) L h') (hno:¬Zru s a→∀h',PH.le h h'→K (.tuple #[zStV,.int .i64 210]) L h'):Zc prog 207 [stV s v,.int .u64 a] L h K:=by
 have h1:0≤s.most∧s.most≤18446744073709551615:=ok.u _ (by simp);have h2:0≤s.gen∧s.gen≤18446744073709551615:=ok.u _ (by simp);have h3:0≤s.mint∧s.mint≤18446744073709551615:=ok.u _ (by simp);have h4:0≤s.treas∧s.treas≤18446744073709551615:=ok.u _ (by simp);unfold Zru at hk hno;unfold zStV at hno;refine ZS func207 rfl (rs:=[_,_]) rfl rfl ZW (by kernel_rfl) rfl rfl ?_;refine xx ?_;refine Z2 fun b2 nb2 zb2=>?_;(try simp only[ZT]at nb2);refine xx ?_;refine Z2 fun b4 nb4 zb4=>?_;(try simp only[ZT]at nb4);have n4:=nb4.1;clear nb4;refine xx ?_;refine Z2 fun b9 nb9 zb9=>?_;(try simp only[ZT]at nb9);refine xx ?_;refine Wa (e:=22) (sz:=1) (o:=some (b9,3)) (n:=3) [] (show 3≤3∧3≤maxLen by decide) rfl (by decide) (fun h5 le5 sl5=>?_) ⟨f176,func176,by decide +kernel,rfl⟩
 have it:Ints h5 .u64 (ovs (some (b9,3)) 3) [s.gen,s.mint,a]:=⟨sl5,fun z hz=>by
  rw[show IntKind.u64.min=0 by decide,show IntKind.u64.max=18446744073709551615 by decide];simp only[List.mem_cons,List.not_mem_nil,or_false]at hz;rcases hz with rfl|rfl|rfl
  ·exact h2
  ·exact h3
  ·exact ha⟩
 refine Zc.ap (G9 _ _ it (by omega) fun ap=>?_);simp only[Ap,List.nil_append]at ap;obtain⟨a4,a2,_⟩:=ap;by_cases c1:tot [s.gen,s.mint,a]≤min s.most 4611686018427387904
 ·rw[decide_eq_true c1];refine xx ?_;refine WI _ _ h4 ha ?_;by_cases c2:s.treas+a≤18446744073709551615
  ·rw[Yi c2];have hm:tot [s.gen,s.mint,a]=s.gen+s.mint+a:=by simp [tot,Yy,at0]
   have hk:=hk ⟨c1,c2⟩ h5 le5;unfold Zjh at hk;refine xx ?_;exact⟨hv,ZP (ZP (ZO hk))⟩
  ·rw[YD c2];refine xx ?_;exact ZP (ZP (ZO (hno (fun e=>c2 e.2) h5 le5)))
 ·rw[decide_eq_false c1];refine xx ?_;exact ZP (ZP (ZO (hno (fun e=>c1 e.1) h5 le5)))
def Yea (s:Zd)(a:Int):Prop:=a≤s.treas∧s.burn+a≤18446744073709551615
def Ztg (s:Zd)(a:Int):Zd:={ s with burn:=s.burn+a,treas:=s.treas-a }
theorem Zrg {s:Zd}(v:SV)(hv:Yit v)(ok:ZA s)(a:Int)(ha:0≤a∧a≤18446744073709551615)(hgo:Yea s a)
  (hk:K (.tuple #[stV (Ztg s a) v,.int .i64 0]) L h):Zc prog 211 [stV s v,.int .u64 a] L h K:=by
 have h3:0≤s.burn∧s.burn≤18446744073709551615:=ok.u _ (by simp);have h4:0≤s.treas∧s.treas≤18446744073709551615:=ok.u _ (by simp);obtain⟨c1,c2⟩:=hgo;unfold Ztg at hk;refine ZS func211 rfl (rs:=[_,_]) rfl rfl ZW (by kernel_rfl) rfl rfl ?_;refine xx ?_;refine Z2 fun b2 nb2 zb2=>?_;(try simp only[ZT]at nb2);refine xx ?_;refine Z2 fun b4 nb4 zb4=>?_;(try simp only[ZT]at nb4);have n4:=nb4.1;clear nb4;refine xx ?_;refine Zld _ _ h4 ha ?_;rw[if_pos c1];refine xx ?_;refine WI _ _ h3 ha ?_;rw[Yi c2];refine xx ?_;exact⟨hv,ZP (ZP (ZO hk))⟩
end Go.X
