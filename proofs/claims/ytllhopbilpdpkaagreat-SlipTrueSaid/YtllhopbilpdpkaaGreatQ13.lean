/- Lemmas and contracts. Conditions: as each says. -/
import Derived.Shelf.Spec.BitsCarry
import Derived.Test.YtllhopbilpdpkaaGreatQ12
set_option linter.unusedVariables false
set_option linter.unusedSimpArgs false
set_option maxHeartbeats 12800000
set_option maxRecDepth 20000
namespace Go.X
open Go.RowKit
section
variable {P:Program} {L:Own} {h:PH} {E:Env} {K:PK} {l:Nat} {rec:LoopState→Option Code→Obj}
@[go_sem ↓] theorem Ybj:Zxo l rec K .normal E L h=Yjq K true l (rec .ready none) L h:=rfl
@[go_sem ↓] theorem Yjg (p:Tmp)(ps:List Tmp)(v:Value)(vs:List Value):Zbg (p::ps) (v::vs) E=Zbg ps vs ((p,v)::E):=rfl
@[go_sem ↓] theorem Ysg (vs:List Value):Zbg [] vs E=E:=by cases vs<;>rfl
theorem Zvp {v:Bool}{o:Obj}{L':Own}{h':PH}(hd:Za L h L' h')(hk:K (.bool v) (Zkh l o::L') h'):Yjq K v l o L h:=⟨L',h',hd,hk⟩
end
theorem Yrr {P:Program}(hm:P.follows .mixedOrders=true){l D fn:Nat}{tmps:Array Value}{ps:List Tmp}{assign body:Code}{E:Env}{args:List Value}{L:Own}{h:PH}{K:PK}
  (he:∀i v,E.lookup i=some v→tmps.getD i undef=v) (hp:(ps.toArray.all fun p=>decide (p<tmps.size))=true) (ha:wfC tmps.size assign=true) (hb:wfC tmps.size body=true)
  (na:VS assign=true) (nb:VS body=true) (hl:ps.length=args.length)
  (hx:xC P assign (thn (xC P body (Zxo l (Gv fn tmps ps.toArray assign body D) K)) fun _ _ _ _=>False) (Zbg ps args E) L h) :
  YSpec P l args (Zkh l (Gv fn tmps ps.toArray assign body D .ready none)::L) h K:=by
 refine Zjj hm he hp ha hb na nb (by simpa using hl) ?_;have key:∀Q1 Q2:J2,Q1=Q2→xC P assign Q2 (Zbg ps args E) L h→xC P assign Q1 (Zbg ps args E) L h:=fun _ _ e hx=>e ▸ hx;refine key _ _ ?_ hx
 funext e E1 L1 h1
 cases e<;>rfl
theorem YSpec.apn {P:Program}{l:Nat}{args:List Value}{L:Own}{h:PH}{K:PK}(hs:YSpec P l args L h fun v L' h'=>Ap L' h'→Nd L'→K v L' h'):YSpec P l args L h K :=
 ⟨trivial,fun W hg=>by
  obtain⟨fn,tmps,assign,body,hy,hR⟩:=hs.2 W hg
  exact⟨fn,tmps,assign,body,hy,hR.mono fun _ _ ⟨r,L',h',e,k,st⟩=>⟨r,L',h',e,k (Ap.of st.1.apart) (Nd.of st.1.nodup),st⟩⟩⟩
theorem Ap.app {h:PH}:∀ {A B:Own},Ap (A++B) h→Ap A h∧Ap B h
 | [],_,hb=>⟨trivial,hb⟩
 | _::_,_,ha=>⟨⟨ha.1,(Ap.app ha.2).1⟩,(Ap.app ha.2).2⟩
theorem Zhq {A B:Own}:(B++A).Perm (A++B):=List.perm_append_comm
@[go_sem ↓] theorem Yjs {Q:J2}{E:Env}{L:Own}{h:PH}:Yfk Q E L h none=Q .normal E L h:=rfl
theorem Ymm {P:Program}{gf:Nat}{lb:Array Value}{ps:Array Tmp}{assign body:Code}{Q:J2}{E:Env}{L:Own}{h:PH}(hc:V9 P gf)
  (hs:∀(l D fn:Nat) (tmps:Array Value),(∀i v,E.lookup i=some v→tmps.getD i undef=v)→(ps.all fun p=>decide (p<tmps.size))=true→wfC tmps.size assign=true→wfC tmps.size body=true→ZT l L→h l=noC →
   Zc P gf (.func (.yield l) #[] #[]::lb.toList) (Zkh l (Gv fn tmps ps assign body D .ready none)::L) h fun _ L' h' =>
    ∃st jump L1,L'=Zkh l (Gv fn tmps ps assign body D st jump)::L1∧st ≠ .busy∧Yfk Q E L1 h' jump):Zvc P (.func (.func gf) #[] lb) ps assign body Q E L h :=
 ⟨gf,lb,rfl,hc,hs⟩
theorem Znb {e sz:Nat}(o:Option (Nat×Nat))(xs:List Value)(A B:Own):oent e sz o xs A++B=oent e sz o xs (A++B):=by
 cases o<;>rfl
theorem Zcn {b:Nat}:∀ {A B:Own},ZT b (A++B)→ZT b A
 | [],_,_=>trivial
 | _::_,_,h=>⟨h.1,Zcn h.2⟩
theorem Zzb {o:Option (Nat×Nat)}{A B:Own}{h:PH}(ha:apO o (A++B) h):apO o A h:=by
 cases o with
 | none=>trivial
 | some p=>exact⟨Zcn ha.1,ha.2⟩
theorem Ya {b e sz:Nat}{o:Option (Nat×Nat)}{xs:List Value}{L:Own}(ha:ZT b (oent e sz o xs L)):ZT b L:=by
 cases o with
 | none=>exact ha
 | some p=>exact ha.2
theorem GC {h:PH}{o:Option (Nat×Nat)}{xs:List Value}{b:Nat}(hb:apB o b)(hh:h b=noC):Gn h o xs b=noC:=by
 cases o with
 | none=>exact hh
 | some p =>
  have:p.1≠b:=hb
  funext i
  simp only[Gn,pub,if_neg (Ne.symm this),hh]
open Go.RowKit Go.Proofs Go.Bl Go.Proofs.Tryz
variable {L:Own} {h:PH} {K:PK}
theorem Zcj {e sz:Nat}(o:Option (Nat×Nat))(xs:List Value)(M:Own):oent e sz o xs M=oent e sz o xs []++M:=by
 cases o<;>rfl
theorem Y9 {e sz:Nat}{o o2:Option (Nat×Nat)}{xs:List Value}{M:Own}{h:PH}(ha:apO o (oent e sz o2 xs M) h):apO o M h:=by
 cases o with
 | none=>trivial
 | some p=>exact⟨Ya ha.1,ha.2⟩
theorem Zdn {e sz e2 sz2:Nat}{o1 o2:Option (Nat×Nat)}{cs1 cs2:List Value}{M:Own}{h:PH}(h1:apO o1 M h)(h2:apO o2 (oent e sz o1 cs1 []++M) h):apO o1 (oent e2 sz2 o2 cs2 M) h∧apO o2 M h:=by
 cases o1 with
 | none=>exact⟨trivial,h2⟩
 | some p =>
  cases o2 with
  | none=>exact⟨h1,trivial⟩
  | some q =>
   have:p.1≠q.1:=h2.1.1;exact⟨⟨⟨fun e=>this e.symm,h1.1⟩,h1.2⟩,⟨h2.1.2,h2.2⟩⟩
theorem GP {xs:List Int}(v:Value)(hx:Ints h .u64 v xs)(hl:xs.length≤100000)(hk:∀o,okO o xs.length→apO o L h→K (ovs o xs.length) (oent 22 1 o (xs.map (.int .u64)) L) h):Zc prog 98 [v] L h K:=by
 have ox:=hx.open;obtain⟨a,ca,rfl,hna,hca,h0,hcx⟩:=ox;refine ZS func98 rfl (rs:=[_]) rfl rfl ZW (by kernel_rfl) rfl rfl ?_;refine xx ?_
 cases ha:a.isNone with
 | true =>
  have ha':a=none:=by simpa using ha
  subst ha';have hl0:xs.length=0:=by have:=h0 rfl;omega
  have hx':xs=[]:=List.eq_nil_of_length_eq_zero hl0;subst hx';refine xx ?_;exact ZO (hk none rfl trivial)
 | false =>
  refine xx ?_;refine Z2 fun b1 nb1 zb1=>?_;(try simp only[ZT]at nb1);refine xx ?_;refine Z4 (t:=25) (e:=22) (sz:=1) (bytes:=8) (z:=[.int .u64 0]) (by kernel_rfl) VB rfl rfl rfl rfl (by decide) [] L (some (b1,0)) 0 [] ⟨Nat.le_refl _,Nat.zero_le _⟩ rfl (Src.known hx.1) (by simp) (JF _ _) (by simp [maxLen];omega) (by omega) ?_;intro o' j1 j2 j3;simp only[Nat.zero_add,List.nil_append]at j1 j2 ⊢;refine xx ?_;exact ZO (hk o' j1 j2)
theorem JZ (p:Ze)(ok:Zj p)(b:Int)(hb:0≤b∧b≤18446744073709551615)(hk:K (.int .u64 (if YM p then Wi p b else 0)) L h):Zc prog 228 [Ud p,.int .u64 b] L h K:=by
 refine ZS func228 rfl (rs:=[_]) rfl rfl ZW (by kernel_rfl) rfl rfl ?_;refine xx ?_;refine Z2 fun b1 nb1 zb1=>?_;(try simp only[ZT]at nb1);refine xx ?_;refine U4 p ok ?_;refine xx ?_;refine Z2 fun b2 nb2 zb2=>?_;(try simp only[ZT]at nb2);refine xx ?_
 cases hr:YM p with
 | false =>
  rw[hr]at hk;refine xx ?_;exact ZP (ZP (ZO hk))
 | true =>
  rw[hr]at hk;refine xx ?_;refine Zhk p b (J6 hr) hb ?_;refine xx ?_;exact ZP (ZP (ZO hk))
structure ZE where
 own:Int
 bal:Int
def WB:ZE:=⟨0,0⟩
def Yum (f:ZE):List Value:=[.int .i64 f.own,.int .u64 f.bal]
theorem Ybk (f:ZE):(Yum f).length=2:=rfl
structure Yyz (f:ZE):Prop where
 o : -9223372036854775808≤f.own∧f.own≤9223372036854775807
 b:0≤f.bal∧f.bal≤18446744073709551615
structure Zz where
 par:Ze
 most:Int
 purses:List Int
 founders:List ZE
abbrev genC (g:Zz)(pv fv:Value):List Value:=[.int .u64 g.par.inc,.int .u64 g.par.maxEff,.int .u64 g.par.floor,.int .u64 g.par.cap,.int .u64 g.par.up,.int .u64 g.par.down,.int .u64 g.par.bias,.int .u64 g.par.quot,.int .u64 g.par.biasEm,.int .u64 g.par.quotEm,.int .u64 g.par.recover,.int .u64 g.par.scoreCap,.int .u64 g.par.rate,.int .u64 g.par.bond,.int .i64 g.par.delay,.int .i64 g.par.streak,.int .i64 g.par.boost,.int .i64 g.par.absent,.int .i64 g.par.burn,.int .i64 g.par.churn,.int .i64 g.par.wait,.int .i64 g.par.poll,.int .i64 g.par.enact,.int .i64 g.par.quorum,.int .u64 g.most,pv,fv]
abbrev genV (g:Zz)(pv fv:Value):Value := .agg #[.int .u64 g.par.inc,.int .u64 g.par.maxEff,.int .u64 g.par.floor,.int .u64 g.par.cap,.int .u64 g.par.up,.int .u64 g.par.down,.int .u64 g.par.bias,.int .u64 g.par.quot,.int .u64 g.par.biasEm,.int .u64 g.par.quotEm,.int .u64 g.par.recover,.int .u64 g.par.scoreCap,.int .u64 g.par.rate,.int .u64 g.par.bond,.int .i64 g.par.delay,.int .i64 g.par.streak,.int .i64 g.par.boost,.int .i64 g.par.absent,.int .i64 g.par.burn,.int .i64 g.par.churn,.int .i64 g.par.wait,.int .i64 g.par.poll,.int .i64 g.par.enact,.int .i64 g.par.quorum,.int .u64 g.most,pv,fv]
structure ZJ (h:PH)(pv fv:Value)(g:Zz):Prop where
 ok:Zj g.par
 m:0≤g.most∧g.most≤18446744073709551615
 p:Ints h .u64 pv g.purses
 f:Zh Yum 2 h fv g.founders
 fo:∀x∈g.founders,Yyz x
theorem ZJ.up {h h':PH}(le:PH.le h h'){pv fv:Value}{g:Zz}(hg:ZJ h pv fv g):ZJ h' pv fv g:=⟨hg.ok,hg.m,hg.p.up le,hg.f.up le,hg.fo⟩
def Zyp (g:Zz)(f:ZE):Bool:=wi f.own 0 ((g.purses.length:Int)-1)&&decide (g.par.floor<f.bal)&&decide (f.bal≤g.par.cap)
def Zob (p:Ze)(f:ZE):Zb:=⟨f.bal,Wi p f.bal,0,0,f.own,2⟩
def Uq (g:Zz):List Int:=g.purses++g.founders.map ZE.bal
def Znd (g:Zz):Bool:=YM g.par&&decide (g.most≤4611686018427387904)&&wi g.purses.length 1 64&&decide (g.founders.length≤128)&&g.founders.all (Zyp g)&&decide (tot (Uq g)≤g.most)
def Yng (g:Zz):Zd:=⟨g.par,g.most,tot (Uq g),0,0,0,0,0,false,g.purses,g.founders.map (Zob g.par),[],[],[],[],[],List.replicate 16 0,[]⟩
def newR (g:Zz):Zd:=if Znd g then Yng g else Zbq
theorem Zid (p:Ze)(ok:Zj p)(hr:YM p=true)(f:ZE)(fo:Yyz f)(hk:K (Zym (Zob p f)) L h):Zc prog 152 [Ud p,.agg #[.int .i64 f.own,.int .u64 f.bal]] L h K:=by
 have fb:=fo.b;refine ZS func152 rfl (rs:=[_]) rfl rfl ZW (by kernel_rfl) rfl rfl ?_;refine xx ?_;refine Z2 fun b1 nb1 zb1=>?_;(try simp only[ZT]at nb1);refine xx ?_;refine Z2 fun b2 nb2 zb2=>?_;(try simp only[ZT]at nb2);refine xx ?_;refine Z2 fun b3 nb3 zb3=>?_;(try simp only[ZT]at nb3);refine xx ?_;refine Yn (.tk 0 (.tk 3 (.tk 7 (.tkl 1 (.tkl 2 (.tkl 4 (.tkl 8 (.o1 5 (.tk 6 (.tk 9 (.o2 10 (.fin) (.nil)))) (.nil))))))))) (by kernel_rfl) (by kernel_rfl) _ (Za.refl _ _) ?_;refine xx ?_;refine JZ p ok f.bal fb ?_;rw[hr];refine xx ?_;exact ZP (ZP (ZP (ZO hk)))
theorem Zua (hk:∀h' v,PH.le h h'→Ints h' .u8 v (List.replicate 16 0)→K v L h'):Zc prog 154 [] L h K:=by
 refine ZS func154 rfl (rs:=[_]) rfl rfl ZW (by kernel_rfl) rfl rfl ?_;refine xx ?_;refine Zdq _ (by decide) (by decide) ?_;rw[show Zgx 128=16 by decide];refine xx ?_;refine Zei (e:=5) (z:=.int .u8 0) (by kernel_rfl) Yno rfl rfl .i64 .i64 16 (by decide) (by decide) (by decide) ?_;refine Z2 fun b1 nb1 zb1=>?_;(try simp only[ZT]at nb1);refine xx ?_;exact⟨L,_,WZ b1 _ _ _ [] _ h (by decide),hk _ _ (Zhm zb1 _) (Zpy (n:=16) (Vy (o:=some (b1,16)) ⟨Nat.le_refl _,by simp [maxLen]⟩ rfl (by decide)))⟩
def Zqr (g:Zz)(k:Nat):List Value:=((g.founders.take k).map (Zob g.par)).flatMap Yv
def Zqw (g:Zz)(k:Nat):List Value:=(g.purses++(g.founders.take k).map ZE.bal).map (.int .u64)
theorem Ybi {g:Zz}{k:Nat}(hk:k≤g.founders.length):(Zqr g k).length=k*6:=by
 rw[Zqr,Z0 Yg];simp [hk]
theorem Ycc {g:Zz}{k:Nat}(hk:k≤g.founders.length):(Zqw g k).length=(g.purses.length+k)*1:=by simp [Zqw,hk]
theorem Zwz {g:Zz}{k:Nat}(hk:k<g.founders.length):Zqr g (k+1)=Zqr g k++Yv (Zob g.par (gr WB g.founders k)):=by
 rw[Zqr,List.take_succ_eq_append_getElem hk,Z8 hk,Zqr,List.map_append,List.flatMap_append];simp only[List.map_cons,List.map_nil,List.flatMap_cons,List.flatMap_nil,List.append_nil]
theorem Zxc {g:Zz}{k:Nat}(hk:k<g.founders.length):Zqw g (k+1)=Zqw g k++[.int .u64 (gr WB g.founders k).bal]:=by
 rw[Zqw,List.take_succ_eq_append_getElem hk,Z8 hk,Zqw,List.map_append (f:=ZE.bal),← List.append_assoc,List.map_append]
 rfl
theorem Zap {p:Ze}(h1:1≤p.inc)(hp:Zj p){b:Int}(hb:0≤b∧b≤18446744073709551615):0≤Wi p b∧Wi p b≤18446744073709551615:=by
 have hm:=hp.w p.maxEff (by simp [YN]);have h2:=Int.emod_nonneg b (show p.inc≠0 by omega);have h3:=Int.emod_lt_of_pos b (show 0<p.inc by omega);have h4:b%p.inc≤b:=by
  have h5:=Int.ediv_nonneg hb.1 (show 0≤p.inc by omega);have h6:=Int.mul_nonneg (show 0≤p.inc by omega) h5;rw[Int.emod_def];omega
 unfold Wi;omega
theorem Zty (q y1 y0:Int):q*(y1*4294967296+y0)=q*y1*4294967296+q*y0:=by
 rw[Int.mul_add,← Int.mul_assoc]
structure Kn (v u y1 y0 q r:Int):Prop where
 sum:q*y1+r=v
 q0:0≤q
 q1:q≤4294967297
 r0:0≤r
 up:(v*4294967296+u)/(y1*4294967296+y0)≤q
structure KnH (v u y1 y0:Int):Prop where
 hv:0≤v
 hu:0≤u∧u<4294967296
 h1:2147483648≤y1∧y1<4294967296
 h0:0≤y0∧y0<4294967296
 lt:v<y1*4294967296+y0
theorem Zvt {v u y1 y0:Int}(H:KnH v u y1 y0):Kn v u y1 y0 (v/y1) (v-v/y1*y1):=by
 obtain⟨v0,u0,h1,h0,lt⟩:=H;have e:=Int.ediv_mul_add_emod v y1;have m0:=Int.emod_nonneg v (show y1≠0 by omega);have m1:=Int.emod_lt_of_pos v (show 0<y1 by omega);have q0:0≤v/y1:=Int.ediv_nonneg v0 (by omega);refine⟨by omega,q0,?_,by omega,?_⟩
 ·have:v/y1<4294967298:=Int.ediv_lt_of_lt_mul (by omega) (by omega);omega
 ·refine Int.le_ediv_of_mul_le (by omega) ?_
  generalize hq:(v*4294967296+u)/(y1*4294967296+y0)=q
  have qn:0≤q:=by rw[← hq];exact Int.ediv_nonneg (by omega) (by omega)
  have a:=Int.ediv_mul_le (v*4294967296+u) (show y1*4294967296+y0≠0 by omega);rw[hq,Zty]at a;have b:=Int.mul_nonneg qn h0.1;omega
theorem Zak {v u y1 y0 q r:Int}(H:KnH v u y1 y0)(k:Kn v u y1 y0 q r)(c:q*y0≤4294967296*r+u):q=(v*4294967296+u)/(y1*4294967296+y0):=by
 obtain⟨v0,u0,h1,h0,lt⟩:=H;refine Int.le_antisymm (Int.le_ediv_of_mul_le (by omega) ?_) k.up;rw[Zty];have:=k.sum;omega
theorem Gt {v u y1 y0 q r:Int}(H:KnH v u y1 y0)(k:Kn v u y1 y0 q r)(hq:q≤4294967296)(hr:4294967296≤r):q=(v*4294967296+u)/(y1*4294967296+y0):=by
 refine Zak H k ?_;have:=Int.mul_le_mul_of_nonneg_right hq H.h0.1;have:=H.h0;have:=H.hu;omega
theorem Zfh {v u y1 y0 q r:Int}(H:KnH v u y1 y0)(k:Kn v u y1 y0 q r)(c:4294967296≤q∨4294967296*r+u<q*y0):Kn v u y1 y0 (q-1) (r+y1)∧1≤q:=by
 obtain⟨v0,u0,h1,h0,lt⟩:=H;obtain⟨s,q0,q1,r0,up⟩:=k;have hq0:0≤(v*4294967296+u)/(y1*4294967296+y0):=Int.ediv_nonneg (by omega) (by omega);have hlt:(v*4294967296+u)/(y1*4294967296+y0)<q:=by
  rcases c with c|c
  ·refine Int.lt_of_lt_of_le (Int.ediv_lt_of_lt_mul (b:=4294967296) (by omega) (by omega)) c
  ·refine Int.ediv_lt_of_lt_mul (by omega) ?_;rw[Zty];omega
 refine⟨⟨?_,by omega,by omega,by omega,by omega⟩,by omega⟩;rw[Int.sub_mul,Int.one_mul];omega
theorem Yse (v u1 u0 y:Int)(hy:0<y)(h0:0≤u0)(h0':u0<4294967296):((v*4294967296+u1)*4294967296+u0)/y=(v*4294967296+u1)/y*4294967296+((v*4294967296+u1)%y*4294967296+u0)/y ∧
  ((v*4294967296+u1)*4294967296+u0)%y=((v*4294967296+u1)%y*4294967296+u0)%y:=by
 have e:=Int.ediv_mul_add_emod (v*4294967296+u1) y
 generalize (v*4294967296+u1)/y=q1 at *
 generalize (v*4294967296+u1)%y=r1 at *
 rw[← e];have e2:(q1*y+r1)*4294967296+u0=(r1*4294967296+u0)+(q1*4294967296)*y:=by
  rw[Int.add_mul,Int.mul_assoc,Int.mul_comm y,← Int.mul_assoc];omega
 rw[e2,Int.add_mul_ediv_right _ _ (by omega),Int.add_mul_emod_self_right];exact⟨Int.add_comm _ _,rfl⟩
theorem Yfg (n y s:Int)(hs:0<s):n*s/(y*s)=n/y∧n*s%(y*s)/s=n%y:=by
 refine⟨by rw[Int.mul_ediv_mul_of_pos_left _ _ hs],?_⟩;rw[Int.mul_comm n,Int.mul_comm y,Int.mul_emod_mul_of_pos _ _ hs,Int.mul_ediv_cancel_left _ (by omega)]
theorem kn_or (a b s:Nat)(hs:s≤64)(hb:b<2 ^ s):(a*2 ^ s) ||| b=a*2 ^ s+b:=by
 rw[Nat.mul_comm];exact(Nat.two_pow_add_eq_or_of_lt hb a).symm
theorem Ygp (y:Int)(n:Nat)(hn:1≤n∧n≤64)(h1:2 ^ (n-1)≤y)(h2:y<2 ^ n):9223372036854775808≤y*2 ^ (64-n)∧y*2 ^ (64-n)<18446744073709551616:=by
 have p:(0:Int)<2 ^ (64-n):=Int.pow_pos (by decide);have e1:(2:Int) ^ (n-1)*2 ^ (64-n)=9223372036854775808:=by
  rw[← Int.pow_add,show n-1+(64-n)=63 by omega];decide
 have e2:(2:Int) ^ n*2 ^ (64-n)=18446744073709551616:=by
  rw[← Int.pow_add,show n+(64-n)=64 by omega];decide
 have h3:=Int.mul_le_mul_of_nonneg_right h1 (Int.le_of_lt p);have h4:=Int.mul_lt_mul_of_pos_right h2 p;omega
def bl (j:Nat):Nat:=if j=0 then 0 else Nat.log2 j+1
theorem Zbd:∀ j,j<256→1≤j→1≤bl j∧bl j≤8∧(2:Int) ^ (bl j-1)≤(j:Int)∧(j:Int)<2 ^ bl j:=by decide +kernel
theorem Yhn {x t:Int}(c:Nat)(hc:c≤56)(ht:t=x/2 ^ c)(h:1≤t∧t≤255):(1≤c+bl t.toNat∧c+bl t.toNat≤64)∧2 ^ (c+bl t.toNat-1)≤x∧x<2 ^ (c+bl t.toNat):=by
 obtain⟨b1,b2,b3,b4⟩:=Zbd t.toNat (by omega) (by omega);rw[Int.toNat_of_nonneg (by omega)]at b3 b4
 generalize bl t.toNat=n at *
 have p:(0:Int)<2 ^ c:=Int.pow_pos (by decide);have d:=Int.ediv_mul_add_emod x (2 ^ c);have m0:=Int.emod_nonneg x (show (2:Int) ^ c≠0 by omega);have m1:=Int.emod_lt_of_pos x p;rw[← ht]at d;refine⟨by omega,?_,?_⟩
 ·rw[show c+n-1=(n-1)+c by omega,Int.pow_add];have:=Int.mul_le_mul_of_nonneg_right b3 (Int.le_of_lt p);omega
 ·rw[show c+n=n+c by omega,Int.pow_add];have h1:t+1≤2 ^ n:=b4;have:=Int.mul_le_mul_of_nonneg_right h1 (Int.le_of_lt p);rw[Int.add_mul,Int.one_mul]at this;omega
theorem UI {P:Program}{t:Nat}(ht:P.underlying t=some .string)(S:ByteArray)(k:IntKind)(i:Int)(hi:0≤i∧i≤255)(hS:((List.range 256).all fun j=>S[j]? == some (UInt8.ofNat (bl j)))=true)(K:Value→Prop)(tk:Zk K) :
  xIx P t (.string S) (.int k i) K tk=K (.int .u8 (bl i.toNat:Nat)):=by
 have h1:=List.all_eq_true.1 hS i.toNat (List.mem_range.2 (by omega));have h2:S[i.toNat]?=some (UInt8.ofNat (bl i.toNat)):=by simpa using h1
 have h3:(UInt8.ofNat (bl i.toNat)).toNat=bl i.toNat:=by
  by_cases c:i.toNat=0
  ·rw[c];rfl
  ·have:=(Zbd i.toNat (by omega) (by omega)).2.1;rw[UInt8.toNat_ofNat'];omega
 refine Yw (fun W=>?_) K;simp [Instr.index,asIntOf,underlying,ht,hi.1,h2,h3,go_sem]
theorem Zra (x:Int)(hx:1≤x∧x≤18446744073709551615)(hk:∀n:Nat,1≤n∧n≤64→2 ^ (n-1)≤x→x<2 ^ n→K (.int .i64 n) L h):Zc prog 387 [.int .u64 x] L h K:=by
 have e:∀(c:Nat) (t:Int),c≤56→t=x/2 ^ c→1≤t∧t≤255→K (.int .i64 ((c:Int)+(bl t.toNat:Nat))) L h:=fun c t hc ht h1=>by
  obtain⟨a,b,d⟩:=Yhn c hc ht h1;have:=hk _ a b d
  rwa [Int.natCast_add]at this
 refine ZS func387 rfl (rs:=[_]) rfl rfl ZW (by kernel_rfl) rfl rfl ?_;by_cases c1:4294967296≤x
 ·by_cases c2:65536≤x/4294967296
  ·by_cases c3:256≤x/4294967296/65536
   ·have b8:=(Zbd (x/4294967296/65536/256).toNat (by omega) (by omega)).2.1;have:=e 56 (x/4294967296/65536/256) (by decide) (by omega) (by omega);simp -dsimp -implicitDefEqProofs (disch:=first|with_reducible assumption|omega) [go_sem,IntKind.bits];rw[UI (by kernel_rfl) _ _ _ (by omega) (by decide +kernel)];refine xx ?_;exact ZO this
   ·have b8:=(Zbd (x/4294967296/65536).toNat (by omega) (by omega)).2.1;have:=e 48 (x/4294967296/65536) (by decide) (by omega) (by omega);simp -dsimp -implicitDefEqProofs (disch:=first|with_reducible assumption|omega) [go_sem,IntKind.bits];rw[UI (by kernel_rfl) _ _ _ (by omega) (by decide +kernel)];refine xx ?_;exact ZO this
  ·by_cases c3:256≤x/4294967296
   ·have b8:=(Zbd (x/4294967296/256).toNat (by omega) (by omega)).2.1;have:=e 40 (x/4294967296/256) (by decide) (by omega) (by omega);simp -dsimp -implicitDefEqProofs (disch:=first|with_reducible assumption|omega) [go_sem,IntKind.bits];rw[UI (by kernel_rfl) _ _ _ (by omega) (by decide +kernel)];refine xx ?_;exact ZO this
   ·have b8:=(Zbd (x/4294967296).toNat (by omega) (by omega)).2.1;have:=e 32 (x/4294967296) (by decide) (by omega) (by omega);simp -dsimp -implicitDefEqProofs (disch:=first|with_reducible assumption|omega) [go_sem,IntKind.bits];rw[UI (by kernel_rfl) _ _ _ (by omega) (by decide +kernel)];refine xx ?_;exact ZO this
 ·by_cases c2:65536≤x
  ·by_cases c3:256≤x/65536
   ·have b8:=(Zbd (x/65536/256).toNat (by omega) (by omega)).2.1;have:=e 24 (x/65536/256) (by decide) (by omega) (by omega);simp -dsimp -implicitDefEqProofs (disch:=first|with_reducible assumption|omega) [go_sem,IntKind.bits];rw[UI (by kernel_rfl) _ _ _ (by omega) (by decide +kernel)];refine xx ?_;exact ZO this
   ·have b8:=(Zbd (x/65536).toNat (by omega) (by omega)).2.1;have:=e 16 (x/65536) (by decide) (by omega) (by omega);simp -dsimp -implicitDefEqProofs (disch:=first|with_reducible assumption|omega) [go_sem,IntKind.bits];rw[UI (by kernel_rfl) _ _ _ (by omega) (by decide +kernel)];refine xx ?_;exact ZO this
  ·by_cases c3:256≤x
   ·have b8:=(Zbd (x/256).toNat (by omega) (by omega)).2.1;have:=e 8 (x/256) (by decide) (by omega) (by omega);simp -dsimp -implicitDefEqProofs (disch:=first|with_reducible assumption|omega) [go_sem,IntKind.bits];rw[UI (by kernel_rfl) _ _ _ (by omega) (by decide +kernel)];refine xx ?_;exact ZO this
   ·have b8:=(Zbd x.toNat (by omega) (by omega)).2.1;have:=e 0 x (by decide) (by simp) (by omega);simp only[Int.natCast_zero,Int.cast_ofNat_Int,Int.zero_add]at this;simp -dsimp -implicitDefEqProofs (disch:=first|with_reducible assumption|omega) [go_sem,IntKind.bits];rw[UI (by kernel_rfl) _ _ _ (by omega) (by decide +kernel)];refine xx ?_;exact ZO this
theorem Ysq (a b:Int)(s:Nat)(hs:s≤63)(ha:0≤a)(hb:0≤b∧b<2 ^ s)(hab:a*2 ^ s+b≤18446744073709551615):bits .or .u64 (a*2 ^ s) b=a*2 ^ s+b:=by
 obtain⟨x,rfl⟩:=Int.eq_ofNat_of_zero_le ha;obtain⟨y,rfl⟩:=Int.eq_ofNat_of_zero_le hb.1;have hy:y<2 ^ s:=by exact_mod_cast hb.2
 have e:(x:Int)*2 ^ s=((x*2 ^ s:Nat):Int):=by push_cast;rfl
 have k:=kn_or x y s (by omega) hy;rw[e]at hab ⊢
 generalize x*2 ^ s=z at *
 rw[u64_or_nat z y (by omega) (by omega),k,Int.natCast_add]
theorem Yrx (x:Int)(hx:1≤x∧x≤18446744073709551615)(hk:∀n:Nat,1≤n∧n≤64→2 ^ (n-1)≤x→x<2 ^ n→K (.int .i64 (64-n)) L h):Zc prog 385 [.int .u64 x] L h K:=by
 refine ZS func385 rfl (rs:=[_]) rfl rfl ZW (by kernel_rfl) rfl rfl ?_;refine xx ?_;refine Zra x hx fun n hn h1 h2=>?_;have:=hk n hn h1 h2;refine xx ?_;exact ZO this
theorem Zuk (x u q y r:Int)(e:q*y+r=x*4294967296+u)(hr:0≤r∧r≤18446744073709551615):IntKind.u64.wrap (IntKind.u64.wrap (IntKind.u64.wrap (x*4294967296)+u)-IntKind.u64.wrap (q*y))=r:=by
 simp only[UB]
 generalize q*y=z at *
 omega
theorem Ztq (a b S T:Int)(hS:1≤S)(hT:1≤T)(hST:S*T=18446744073709551616)(hb:0≤b∧b≤18446744073709551615):0≤b/T∧b/T<S∧(a*18446744073709551616+b)*S=(a*S+b/T)*18446744073709551616+b*S%18446744073709551616:=by
 have h0:=Int.ediv_nonneg hb.1 (show 0≤T by omega);have h1:b/T<S:=Int.ediv_lt_of_lt_mul (by omega) (by omega);have d:=Int.ediv_mul_add_emod b T;have m0:=Int.emod_nonneg b (show T≠0 by omega);have m1:=Int.emod_lt_of_pos b (show 0<T by omega);have e:b*S=b/T*18446744073709551616+b%T*S:=by
  rw[← hST,← Int.mul_assoc,Int.mul_right_comm,← Int.add_mul,d]
 have l0:=Int.mul_nonneg m0 (show 0≤S by omega);have l1:b%T*S<18446744073709551616:=by
  rw[← hST,Int.mul_comm S T];exact Int.mul_lt_mul_of_pos_right m1 (by omega)
 refine⟨h0,h1,?_⟩;rw[Int.add_mul,Int.add_mul,e,Int.mul_right_comm]
 generalize b%T*S=z at *
 generalize b/T=w at *
 generalize a*S=x at *
 omega
theorem Zsj (a b c:Int)(ha:1≤a∧a<c)(hb:0≤b∧b≤18446744073709551615)(hc:c≤18446744073709551615)(hk:K (.tuple #[.int .u64 ((a*18446744073709551616+b)/c),.int .u64 ((a*18446744073709551616+b)%c)]) L h):Zc prog 383 [.int .u64 a,.int .u64 b,.int .u64 c] L h K:=by
 refine ZS func383 rfl (rs:=[_,_]) rfl rfl ZW (by kernel_rfl) rfl rfl ?_;refine xx ?_;refine Yrx c (by omega) fun n hn g1 g2=>?_;obtain⟨hy1,hy2⟩:=Ygp c n hn g1 g2;obtain⟨s,hs⟩:∃s,s=64-n:=⟨_,rfl⟩
 obtain⟨S,hS⟩:∃S,S=(2:Int) ^ s:=⟨_,rfl⟩
 obtain⟨T,hT⟩:∃T,T=(2:Int) ^ n:=⟨_,rfl⟩
 have hS1:1≤S:=by rw[hS];exact Int.pow_pos (by decide)
 have hT1:1≤T:=by rw[hT];exact Int.pow_pos (by decide)
 have hST:S*T=18446744073709551616:=by
  rw[hS,hT,← Int.pow_add,show s+n=64 by omega];decide
 rw[← hs,← hS]at hy1 hy2;obtain⟨w0,w1,hN⟩:=Ztq a b S T hS1 hT1 hST hb;obtain⟨w,hw⟩:∃w,w=b/T:=⟨_,rfl⟩
 rw[← hw]at w0 w1 hN;have haS:a*S+w<c*S:=by
  have:(a+1)*S≤c*S:=Int.mul_le_mul_of_nonneg_right (by omega) (by omega);rw[Int.add_mul]at this;omega
 have ha0:=Int.mul_nonneg (show 0≤a by omega) (show 0≤S by omega);have hor:bits .or .u64 (a*S) w=a*S+w:=by
  rw[hS]at w1 haS hy2 ⊢;exact Ysq a w s (by omega) (by omega) ⟨w0,w1⟩ (by omega)
 obtain⟨e3,e4⟩:=Yfg (a*18446744073709551616+b) c S (by omega);rw[hN]at e3 e4;rw[← e3,← e4]at hk;have hbS:=Int.mul_nonneg hb.1 (show 0≤S by omega);obtain⟨u,hu⟩:∃u,u=b*S%18446744073709551616:=⟨_,rfl⟩
 rw[← hu]at hk;have hu1:0≤u∧u<18446744073709551616:=by omega
 obtain⟨y,hy⟩:∃y,y=c*S:=⟨_,rfl⟩
 rw[← hy]at hy1 hy2 haS hk;obtain⟨v,hv⟩:∃v,v=a*S+w:=⟨_,rfl⟩
 rw[← hv]at haS hor hk;have hv0:1≤v:=by
  have:=Int.mul_le_mul_of_nonneg_right (show 1≤a by omega) (show 0≤S by omega);omega
 have hy32:=and_low32 y (by omega) hy2;have hu32:=and_low32 u hu1.1 hu1.2;have huw:IntKind.u64.wrap (b*S)=u:=by rw[UB,hu]
 have has:a*S≤18446744073709551615:=by omega
 clear hN e3 e4 hbS hST hT1 g1 g2;have e5:((64:Int)-(64-n)).toNat=n:=by omega
 obtain⟨y1,hy1'⟩:∃y1,y1=y/4294967296:=⟨_,rfl⟩
 obtain⟨y0,hy0'⟩:∃y0,y0=y%4294967296:=⟨_,rfl⟩
 obtain⟨u1,hu1'⟩:∃u1,u1=u/4294967296:=⟨_,rfl⟩
 obtain⟨u0,hu0'⟩:∃u0,u0=u%4294967296:=⟨_,rfl⟩
 have hyy:y1*4294967296+y0=y:=by omega
 have hu1b:0≤u1∧u1≤4294967295:=by omega
 have hu0b:0≤u0∧u0≤4294967295:=by omega
 have hy1b:2147483648≤y1∧y1≤4294967295:=by omega
 have hy0b:0≤y0∧y0≤4294967295:=by omega
 have H1:KnH v u1 y1 y0:=⟨by omega,by omega,by omega,by omega,by omega⟩
 have I1:=Zvt H1;have I1q:=I1.q1;have I1n:=I1.q0;have I1r:=I1.r0;have I1p:0≤v/y1*y1:=Int.mul_nonneg I1n (by omega);have I1s:v-v/y1*y1<4294967296:=by
  have d:=Int.ediv_mul_add_emod v y1;have m1:=Int.emod_lt_of_pos v (show 0<y1 by omega);omega
 obtain⟨two1,two2⟩:=Yse v u1 u0 y (by omega) hu0b.1 (by omega);rw[show v*18446744073709551616+u=(v*4294967296+u1)*4294967296+u0 by omega,two1,two2]at hk;obtain⟨D1,hD1⟩:∃D,D=(v*4294967296+u1)/y:=⟨_,rfl⟩
 obtain⟨R1,hR1⟩:∃R,R=(v*4294967296+u1)%y:=⟨_,rfl⟩
 have dR1:D1*y+R1=v*4294967296+u1:=by rw[hD1,hR1];exact Int.ediv_mul_add_emod _ _
 have bR1:0≤R1∧R1<y:=by rw[hR1];exact⟨Int.emod_nonneg _ (by omega),Int.emod_lt_of_pos _ (by omega)⟩
 have bD1:0≤D1∧D1≤4294967295:=by
  rw[hD1];refine⟨Int.ediv_nonneg (by omega) (by omega),?_⟩;have:(v*4294967296+u1)/y<4294967296:=Int.ediv_lt_of_lt_mul (by omega) (by omega);omega
 rw[← hD1,← hR1]at hk;obtain⟨D2,hD2⟩:∃D,D=(R1*4294967296+u0)/y:=⟨_,rfl⟩
 obtain⟨R2,hR2⟩:∃R,R=(R1*4294967296+u0)%y:=⟨_,rfl⟩
 have dR2:D2*y+R2=R1*4294967296+u0:=by rw[hD2,hR2];exact Int.ediv_mul_add_emod _ _
 have bR2:0≤R2∧R2<y:=by rw[hR2];exact⟨Int.emod_nonneg _ (by omega),Int.emod_lt_of_pos _ (by omega)⟩
 have bD2:0≤D2∧D2≤4294967295:=by
  rw[hD2];refine⟨Int.ediv_nonneg (by omega) (by omega),?_⟩;have:(R1*4294967296+u0)/y<4294967296:=Int.ediv_lt_of_lt_mul (by omega) (by omega);omega
 rw[← hD2,← hR2]at hk;have H2:KnH R1 u0 y1 y0:=⟨by omega,by omega,by omega,by omega,by omega⟩
 have I2:=Zvt H2;have I2q:=I2.q1;have I2n:=I2.q0;have I2r:=I2.r0;have I2p:0≤R1/y1*y1:=Int.mul_nonneg I2n (by omega);have I2s:R1-R1/y1*y1<4294967296:=by
  have d:=Int.ediv_mul_add_emod R1 y1;have m1:=Int.emod_lt_of_pos R1 (show 0<y1 by omega);omega
 have W1:=Zuk v u1 D1 y R1 dR1 (by omega);have W2:=Zuk R1 u0 D2 y R2 dR2 (by omega);simp -dsimp -implicitDefEqProofs (disch:=first|with_reducible assumption|omega) [go_sem,IntKind.bits,← hs,← hS,e5,← hT,← hw,← hy,hor,huw,hy32,hu32,← hy1',← hy0',← hu1',← hu0'];clear hor hw ha0 has huw hu hv w0 w1 hy32 hu32 two1 two2;clear hb ha hc hu1 hv0 hu1' hu0' hy1' hy0' hy hy1;refine WP (γ:=Int×Int) (v/y1,v-v/y1*y1) (fun s=>Kn v u1 y1 y0 s.1 s.2∧s.2<4294967296) (fun s=>[(15,.int .u64 s.1),(16,.int .u64 s.2),(2,.int .u64 y),(8,.int .u64 (64-n)),(9,.int .u64 y1),(10,.int .u64 y0),(11,.int .u64 v),(13,.int .u64 u1),(14,.int .u64 u0)]) (fun s=>s.1.toNat) ?_ ?_ ?_
 ·exact⟨I1,I1s⟩
 ·simp [Ent,List.lookup]
 rintro⟨q,r⟩ ⟨k,hr⟩;simp only at k hr ⊢;have kq:=k.q0;have kq1:=k.q1;have kr:=k.r0;by_cases c1:q<4294967296
 ·have hp:=Wt q y0 kq (by omega) hy0b.1 hy0b.2;by_cases c2:4294967296*r+u1<q*y0
  ·obtain⟨k2,hq1⟩:=Zfh H1 k (.inr c2);by_cases c3:4294967296≤r+y1
   ·have hq:=Gt H1 k2 (by omega) c3;rw[hyy,← hD1]at hq;refine xx ?_;simp only[hq,W1];simp -dsimp -implicitDefEqProofs (disch:=first|with_reducible assumption|omega) [go_sem,hq,W1];clear k kq kq1 kr hq;refine WP (γ:=Int×Int) (R1/y1,R1-R1/y1*y1) (fun s=>Kn R1 u0 y1 y0 s.1 s.2∧s.2<4294967296) (fun s=>[(18,.int .u64 s.1),(16,.int .u64 s.2),(2,.int .u64 y),(8,.int .u64 (64-n)),(9,.int .u64 y1),(10,.int .u64 y0),(14,.int .u64 u0),(15,.int .u64 D1),(17,.int .u64 R1)]) (fun s=>s.1.toNat) ?_ ?_ ?_
    ·exact⟨I2,I2s⟩
    ·simp [Ent,List.lookup]
    rintro⟨q,r⟩ ⟨k,hr⟩;simp only at k hr ⊢;have kq:=k.q0;have kq1:=k.q1;have kr:=k.r0;by_cases c1:q<4294967296
    ·have hp:=Wt q y0 kq (by omega) hy0b.1 hy0b.2;by_cases c2:4294967296*r+u0<q*y0
     ·obtain⟨k2,hq1⟩:=Zfh H2 k (.inr c2);by_cases c3:4294967296≤r+y1
      ·have hq:=Gt H2 k2 (by omega) c3;rw[hyy,← hD2]at hq;refine xx ?_;simp only[hq,W2,← hs,← hS];exact ZO hk
      ·refine xx ?_;exact⟨q-1,r+y1,⟨k2,by omega⟩,by omega,by simp [Ent,List.lookup],Za.refl _ _⟩
     ·have hq:=Zak H2 k (by omega);rw[hyy,← hD2]at hq;refine xx ?_;simp only[hq,W2,← hs,← hS];exact ZO hk
    ·obtain⟨k2,hq1⟩:=Zfh H2 k (.inl (by omega));by_cases c3:4294967296≤r+y1
     ·have hq:=Gt H2 k2 (by omega) c3;rw[hyy,← hD2]at hq;refine xx ?_;simp only[hq,W2,← hs,← hS];exact ZO hk
     ·refine xx ?_;exact⟨q-1,r+y1,⟨k2,by omega⟩,by omega,by simp [Ent,List.lookup],Za.refl _ _⟩
   ·refine xx ?_;exact⟨q-1,r+y1,⟨k2,by omega⟩,by omega,by simp [Ent,List.lookup],Za.refl _ _⟩
  ·have hq:=Zak H1 k (by omega);rw[hyy,← hD1]at hq;refine xx ?_;simp only[hq,W1];simp -dsimp -implicitDefEqProofs (disch:=first|with_reducible assumption|omega) [go_sem,hq,W1];clear k kq kq1 kr hq;refine WP (γ:=Int×Int) (R1/y1,R1-R1/y1*y1) (fun s=>Kn R1 u0 y1 y0 s.1 s.2∧s.2<4294967296) (fun s=>[(18,.int .u64 s.1),(16,.int .u64 s.2),(2,.int .u64 y),(8,.int .u64 (64-n)),(9,.int .u64 y1),(10,.int .u64 y0),(14,.int .u64 u0),(15,.int .u64 D1),(17,.int .u64 R1)]) (fun s=>s.1.toNat) ?_ ?_ ?_
   ·exact⟨I2,I2s⟩
   ·simp [Ent,List.lookup]
   rintro⟨q,r⟩ ⟨k,hr⟩;simp only at k hr ⊢;have kq:=k.q0;have kq1:=k.q1;have kr:=k.r0;by_cases c1:q<4294967296
   ·have hp:=Wt q y0 kq (by omega) hy0b.1 hy0b.2;by_cases c2:4294967296*r+u0<q*y0
    ·obtain⟨k2,hq1⟩:=Zfh H2 k (.inr c2);by_cases c3:4294967296≤r+y1
     ·have hq:=Gt H2 k2 (by omega) c3;rw[hyy,← hD2]at hq;refine xx ?_;simp only[hq,W2,← hs,← hS];exact ZO hk
     ·refine xx ?_;exact⟨q-1,r+y1,⟨k2,by omega⟩,by omega,by simp [Ent,List.lookup],Za.refl _ _⟩
    ·have hq:=Zak H2 k (by omega);rw[hyy,← hD2]at hq;refine xx ?_;simp only[hq,W2,← hs,← hS];exact ZO hk
   ·obtain⟨k2,hq1⟩:=Zfh H2 k (.inl (by omega));by_cases c3:4294967296≤r+y1
    ·have hq:=Gt H2 k2 (by omega) c3;rw[hyy,← hD2]at hq;refine xx ?_;simp only[hq,W2,← hs,← hS];exact ZO hk
    ·refine xx ?_;exact⟨q-1,r+y1,⟨k2,by omega⟩,by omega,by simp [Ent,List.lookup],Za.refl _ _⟩
 ·obtain⟨k2,hq1⟩:=Zfh H1 k (.inl (by omega));by_cases c3:4294967296≤r+y1
  ·have hq:=Gt H1 k2 (by omega) c3;rw[hyy,← hD1]at hq;refine xx ?_;simp only[hq,W1];simp -dsimp -implicitDefEqProofs (disch:=first|with_reducible assumption|omega) [go_sem,hq,W1];clear k kq kq1 kr hq;refine WP (γ:=Int×Int) (R1/y1,R1-R1/y1*y1) (fun s=>Kn R1 u0 y1 y0 s.1 s.2∧s.2<4294967296) (fun s=>[(18,.int .u64 s.1),(16,.int .u64 s.2),(2,.int .u64 y),(8,.int .u64 (64-n)),(9,.int .u64 y1),(10,.int .u64 y0),(14,.int .u64 u0),(15,.int .u64 D1),(17,.int .u64 R1)]) (fun s=>s.1.toNat) ?_ ?_ ?_
   ·exact⟨I2,I2s⟩
   ·simp [Ent,List.lookup]
   rintro⟨q,r⟩ ⟨k,hr⟩;simp only at k hr ⊢;have kq:=k.q0;have kq1:=k.q1;have kr:=k.r0;by_cases c1:q<4294967296
   ·have hp:=Wt q y0 kq (by omega) hy0b.1 hy0b.2;by_cases c2:4294967296*r+u0<q*y0
    ·obtain⟨k2,hq1⟩:=Zfh H2 k (.inr c2);by_cases c3:4294967296≤r+y1
     ·have hq:=Gt H2 k2 (by omega) c3;rw[hyy,← hD2]at hq;refine xx ?_;simp only[hq,W2,← hs,← hS];exact ZO hk
     ·refine xx ?_;exact⟨q-1,r+y1,⟨k2,by omega⟩,by omega,by simp [Ent,List.lookup],Za.refl _ _⟩
    ·have hq:=Zak H2 k (by omega);rw[hyy,← hD2]at hq;refine xx ?_;simp only[hq,W2,← hs,← hS];exact ZO hk
   ·obtain⟨k2,hq1⟩:=Zfh H2 k (.inl (by omega));by_cases c3:4294967296≤r+y1
    ·have hq:=Gt H2 k2 (by omega) c3;rw[hyy,← hD2]at hq;refine xx ?_;simp only[hq,W2,← hs,← hS];exact ZO hk
    ·refine xx ?_;exact⟨q-1,r+y1,⟨k2,by omega⟩,by omega,by simp [Ent,List.lookup],Za.refl _ _⟩
  ·refine xx ?_;exact⟨q-1,r+y1,⟨k2,by omega⟩,by omega,by simp [Ent,List.lookup],Za.refl _ _⟩
def dwE (a b c:Int):Int:=if c=0 then 20 else if a*b/c≤18446744073709551615 then 0 else 10
def dwN (a b c:Int):Int:=if dwE a b c=0 then a*b/c else 0
def uqQ (a b c:Int):Int:=if a*b%c=0 then a*b/c else a*b/c+1
def uqE (a b c:Int):Int:=if c=0 then 20 else if uqQ a b c≤18446744073709551615 then 0 else 10
def uqN (a b c:Int):Int:=if uqE a b c=0 then uqQ a b c else 0
theorem Yoz {a b c:Int}(ha:0≤a)(hb:0≤b)(hc:0≤c):0≤dwN a b c∧dwN a b c≤18446744073709551615:=by
 have:=Int.ediv_nonneg (Int.mul_nonneg ha hb) hc;by_cases e:dwE a b c=0
 ·rw[dwN,if_pos e];unfold dwE at e;refine⟨this,Int.not_lt.1 fun c2=>?_⟩;split at e
  ·cases e
  ·rw[if_neg (by omega)]at e
   cases e
 ·rw[dwN,if_neg e];decide
theorem Ymc {a b c:Int}(ha:0≤a)(hb:0≤b)(hc:0≤c):0≤uqN a b c∧uqN a b c≤18446744073709551615:=by
 have:=Int.ediv_nonneg (Int.mul_nonneg ha hb) hc;have h2:0≤uqQ a b c:=by unfold uqQ;split<;>omega
 by_cases e:uqE a b c=0
 ·rw[uqN,if_pos e];unfold uqE at e;refine⟨h2,Int.not_lt.1 fun c2=>?_⟩;split at e
  ·cases e
  ·rw[if_neg (by omega)]at e
   cases e
 ·rw[uqN,if_neg e];decide
theorem Zit (b c:Int)(hb:0≤b∧b≤18446744073709551615)(hc:1≤c∧c≤18446744073709551615)(hk:K (.tuple #[.int .u64 (b/c),.int .u64 (b%c)]) L h):Zc prog 383 [.int .u64 0,.int .u64 b,.int .u64 c] L h K:=by
 have h1:=Int.ediv_nonneg hb.1 (show 0≤c by omega);have h2:b/c≤b:=Int.ediv_le_self _ hb.1;have h3:=Int.emod_nonneg b (show c≠0 by omega);have h4:=Int.emod_lt_of_pos b (show 0<c by omega);refine ZS func383 rfl (rs:=[_,_]) rfl rfl ZW (by kernel_rfl) rfl rfl ?_;refine xx ?_;refine Yn (.tk 0 (.tk 1 (.tk 2 (.tk 3 (.tk 4 (.tk 5 (.tk 6 (.tk 7 (.fin))))))))) (by kernel_rfl) (by kernel_rfl) _ (Za.refl _ _) ?_;refine xx ?_;exact ZO hk
def rsN (a b c:Int):Int:=if dwE a b c=0 then a*b%c else 0
theorem Yfo {t x w:Int}(ht:0≤t)(hx:0≤x)(hxw:x≤w)(htm:t≤18446744073709551615)(hw:0<w):dwN t x w=t*x/w∧dwE t x w=0:=by
 have h1:t*x≤t*w:=Int.mul_le_mul_of_nonneg_left hxw ht;have h2:t*x/w≤t*w/w:=Int.ediv_le_ediv hw h1;rw[Int.mul_ediv_cancel _ (by omega)]at h2;have e:dwE t x w=0:=by rw[dwE,if_neg (by omega),if_pos (by omega)]
 exact⟨by rw[dwN,if_pos e],e⟩
theorem Zxk (a b c:Int)(ha:0≤a∧a<c)(hb:0≤b∧b≤18446744073709551615)(hc:c≤18446744073709551615)(hk:K (.tuple #[.int .u64 ((a*18446744073709551616+b)/c),.int .u64 ((a*18446744073709551616+b)%c)]) L h):Zc prog 383 [.int .u64 a,.int .u64 b,.int .u64 c] L h K:=by
 by_cases e:a=0
 ·subst e;simp only[Int.zero_mul,Int.zero_add]at hk;exact Zit b c hb ⟨by omega,hc⟩ hk
 ·exact Zsj a b c ⟨by omega,ha.2⟩ hb hc hk
theorem Ypd (n c:Int)(hn:0≤n∧n/18446744073709551616≤18446744073709551615)(hc:1≤c∧c≤18446744073709551615)(hk:K (if n/c≤18446744073709551615 then .tuple #[.int .u64 (n/c),.int .u64 (n%c),.bool true] else .tuple #[.int .u64 0,.int .u64 0,.bool false]) L h) :
  Zc prog 376 [.agg #[.int .u64 (n/18446744073709551616),.int .u64 (n%18446744073709551616)],.int .u64 c] L h K:=by
 have e0:n/18446744073709551616*18446744073709551616+n%18446744073709551616=n:=by omega
 refine ZS func376 rfl (rs:=[_,_,_]) rfl rfl ZW (by kernel_rfl) rfl rfl ?_;refine xx ?_;refine Z2 fun b2 nb2 zb2=>?_;(try simp only[ZT]at nb2);refine xx ?_;by_cases c1:c≤n/18446744073709551616
 ·have:¬n/c≤18446744073709551615:=fun x=>by
   have h1:18446744073709551616≤n/c:=Int.le_ediv_of_mul_le (by omega) (by omega);omega
  rw[if_neg this]at hk;refine xx ?_;exact ZP (ZO hk)
 ·have:n/c<18446744073709551616:=Int.ediv_lt_of_lt_mul (by omega) (by omega);rw[if_pos (by omega)]at hk;refine xx ?_;refine Zxk _ _ c ⟨by omega,by omega⟩ (by omega) hc.2 ?_;rw[e0];refine xx ?_;exact ZP (ZO hk)
theorem Zwd (a b c:Int)(ha:0≤a∧a≤18446744073709551615)(hb:0≤b∧b≤18446744073709551615)(hc:0≤c∧c≤18446744073709551615)(hk:K (.tuple #[.int .u64 (dwN a b c),.int .u64 (rsN a b c),.int .i64 (dwE a b c)]) L h) :
  Zc prog 351 [.agg #[.int .u64 (a*b/18446744073709551616),.int .u64 (a*b%18446744073709551616),.int .u64 c]] L h K:=by
 have hi:=Zmd a b ha.1 ha.2 hb.1 hb.2;refine ZS func351 rfl (rs:=[_,_,_]) rfl rfl ZW (by kernel_rfl) rfl rfl ?_;refine xx ?_;refine Z2 fun b1 nb1 zb1=>?_;(try simp only[ZT]at nb1);refine xx ?_;by_cases c0:c=0
 ·have e:dwE a b c=20:=by rw[dwE,if_pos c0]
  rw[dwN,rsN,e]at hk;refine xx ?_;exact ZP (ZO hk)
 ·refine xx ?_;refine Ypd (a*b) c ⟨Int.mul_nonneg ha.1 hb.1,by omega⟩ ⟨by omega,hc.2⟩ ?_;by_cases c1:a*b/c≤18446744073709551615
  ·have e:dwE a b c=0:=by rw[dwE,if_neg c0,if_pos c1]
   rw[dwN,rsN,e,if_pos rfl,if_pos rfl]at hk;rw[if_pos c1];refine xx ?_;exact ZP (ZO hk)
  ·have e:dwE a b c=10:=by rw[dwE,if_neg c0,if_neg c1]
   rw[dwN,rsN,e]at hk;rw[if_neg c1];refine xx ?_;exact ZP (ZO hk)
theorem Zff (a b c:Int)(ha:0≤a∧a≤18446744073709551615)(hb:0≤b∧b≤18446744073709551615)(hc:0≤c∧c≤18446744073709551615)(hk:K (.tuple #[.int .u64 (dwN a b c),.int .u64 (rsN a b c),.int .i64 (dwE a b c)]) L h) :
  Zc prog 289 [.int .u64 a,.int .u64 b,.int .u64 c] L h K:=by
 refine ZS func289 rfl (rs:=[_,_,_]) rfl rfl ZW (by kernel_rfl) rfl rfl ?_;refine xx ?_;refine GX a b ha.1 ha.2 hb.1 hb.2 ?_;refine xx ?_;refine Zwd a b c ha hb hc ?_;refine xx ?_;exact ZO hk
theorem GA (a b c:Int)(ha:0≤a∧a≤18446744073709551615)(hb:0≤b∧b≤18446744073709551615)(hc:0≤c∧c≤18446744073709551615)(hk:K (.tuple #[.int .u64 (dwN a b c),.int .i64 (dwE a b c)]) L h) :
  Zc prog 343 [.int .u64 a,.int .u64 b,.int .u64 c] L h K:=by
 refine ZS func343 rfl (rs:=[_,_]) rfl rfl ZW (by kernel_rfl) rfl rfl ?_;refine xx ?_;refine Zff a b c ha hb hc ?_;refine xx ?_;exact ZO hk
theorem Yec (a b c:Int)(ha:0≤a∧a≤18446744073709551615)(hb:0≤b∧b≤18446744073709551615)(hc:0≤c∧c≤18446744073709551615)(hk:K (.tuple #[.int .u64 (uqN a b c),.int .i64 (uqE a b c)]) L h) :
  Zc prog 185 [.int .u64 a,.int .u64 b,.int .u64 c] L h K:=by
 refine ZS func185 rfl (rs:=[_,_]) rfl rfl ZW (by kernel_rfl) rfl rfl ?_;refine xx ?_;refine Zff a b c ha hb hc ?_;by_cases c0:c=0
 ·have e:dwE a b c=20:=by rw[dwE,if_pos c0]
  have e2:uqE a b c=20:=by rw[uqE,if_pos c0]
  rw[uqN,e2]at hk;rw[dwN,rsN,e];refine xx ?_;exact ZO hk
 ·have hq:=Int.ediv_nonneg (Int.mul_nonneg ha.1 hb.1) hc.1;by_cases c1:a*b/c≤18446744073709551615
  ·have e:dwE a b c=0:=by rw[dwE,if_neg c0,if_pos c1]
   rw[dwN,rsN,e,if_pos rfl,if_pos rfl];by_cases c2:a*b%c=0
   ·have q:uqQ a b c=a*b/c:=by rw[uqQ,if_pos c2]
    have e2:uqE a b c=0:=by rw[uqE,if_neg c0,q,if_pos c1]
    rw[uqN,e2,if_pos rfl,q]at hk;refine xx ?_;exact ZO hk
   ·have q:uqQ a b c=a*b/c+1:=by rw[uqQ,if_neg c2]
    by_cases c3:a*b/c=18446744073709551615
    ·have e2:uqE a b c=10:=by rw[uqE,if_neg c0,q,if_neg (by omega)]
     rw[uqN,e2]at hk;refine xx ?_;exact ZO hk
    ·have e2:uqE a b c=0:=by rw[uqE,if_neg c0,q,if_pos (by omega)]
     rw[uqN,e2,if_pos rfl,q]at hk;refine xx ?_;exact ZO hk
  ·have e:dwE a b c=10:=by rw[dwE,if_neg c0,if_neg c1]
   have e2:uqE a b c=10:=by
    rw[uqE,if_neg c0,if_neg];unfold uqQ;split<;>omega
   rw[uqN,e2]at hk;rw[dwN,rsN,e];refine xx ?_;exact ZO hk
def rtK (n:Int):Nat→Int
 | 0=>0
 | k+1=>if (rtK n k+2 ^ (31-k))*(rtK n k+2 ^ (31-k))≤n then rtK n k+2 ^ (31-k) else rtK n k
def JH (n:Int):Int:=rtK n 32
theorem Zuu {n:Int}(hn:0≤n∧n≤18446744073709551615):∀k,k≤32→0≤rtK n k∧rtK n k+2 ^ (32-k)≤4294967296∧rtK n k*rtK n k≤n∧n<(rtK n k+2 ^ (32-k))*(rtK n k+2 ^ (32-k))
 | 0,_=>by
  refine⟨Int.le_refl _,by simp [rtK],by simpa [rtK] using hn.1,?_⟩;simp only[rtK];have:((0:Int)+2 ^ (32-0))*(0+2 ^ (32-0))=18446744073709551616:=by decide
  omega
 | k+1,hk=>by
  obtain⟨a1,a2,a3,a4⟩:=Zuu hn k (by omega);have e:(2:Int) ^ (32-k)=2*2 ^ (31-k):=by
   rw[show 32-k=(31-k)+1 by omega,Int.pow_succ,Int.mul_comm]
  have e2:32-(k+1)=31-k:=by omega
  have hb:(1:Int)≤2 ^ (31-k):=Int.pow_pos (by decide);rw[e]at a2 a4;rw[e2];simp only[rtK]
  generalize (2:Int) ^ (31-k)=b at *
  split
  ·rename_i c;have:rtK n k+b+b=rtK n k+2*b:=by omega
   rw[this];exact⟨by omega,by omega,c,a4⟩
  ·rename_i c;exact⟨a1,by omega,a3,by omega⟩
theorem Zji {n:Int}(hn:0≤n∧n≤18446744073709551615):0≤JH n∧JH n≤4294967295∧JH n*JH n≤n∧n<(JH n+1)*(JH n+1):=by
 obtain⟨a1,a2,a3,a4⟩:=Zuu hn 32 (Nat.le_refl _);simp only[Nat.sub_self,Int.pow_zero]at a2 a4;exact⟨a1,by unfold JH;omega,a3,a4⟩
theorem Yce {n:Int}(hn:1≤n∧n≤18446744073709551615):1≤JH n:=by
 obtain⟨a1,_,a3,a4⟩:=Zji (n:=n) ⟨by omega,hn.2⟩;apply Int.not_lt.1;intro c;have e:JH n=0:=by omega
 rw[e]at a4;omega
def Gw (a by' most:Int):Int:=min (a+by') most
def Y2 (a by':Int):Int:=if by'≤a then a-by' else 0
def Vc (p:Ze)(m:Zb)(there:Bool)(mode:Int):Zb :=
 if there then { m with streak:=(if max m.streak 0<p.streak then max m.streak 0+1 else p.streak),score:=Y2 m.score p.recover }
 else { m with streak:=0,score:=(if mode=3 then Gw m.score p.bias p.scoreCap else if mode=4 then Gw m.score p.biasEm p.scoreCap else m.score) }
def VJ (calm pr ac:Int):Int×Bool:=if 0<ac∧2*ac<3*pr then (0,true) else (min (max calm 0) 1073741823+1,false)
def Zqb (delay calm:Int)(em:Bool):Int:=if em then 4 else if delay<calm then 3 else if 0<calm then 2 else 1
def Zmr (p:Ze)(ac:Int):Int:=if ac=0∨4611686018427387904<ac then 0 else dwN ac p.rate (1048576*JH ac)
def JO (p:Ze)(ac issued most mode:Int):Int:=if (mode=3∨mode=4)∨most<issued+Zmr p ac then 0 else Zmr p ac
def YX (p:Ze)(m:Zb):Int:=if p.maxEff<m.eff then 0 else m.eff*(1000+p.boost*min (max m.streak 0) p.streak)
def VK (p:Ze)(m:Zb)(n:Int):Zb×Int:=({ m with bal:=m.bal+min n (Y2 p.cap m.bal) },n-min n (Y2 p.cap m.bal))
def Ziv (p:Ze)(m:Zb)(mode:Int):Int:=if mode=3 then uqE m.eff m.score p.quot else if mode=4 then uqE m.eff m.score p.quotEm else dwE m.eff p.absent 10000
def Zbm (p:Ze)(m:Zb)(mode:Int):Int:=if mode=3 then uqN m.eff m.score p.quot else if mode=4 then uqN m.eff m.score p.quotEm else dwN m.eff p.absent 10000
def YR (p:Ze)(m:Zb)(mode:Int):Int:=if Ziv p m mode=0 then min (Zbm p m mode) m.bal else m.bal
def WQ (p:Ze)(n:Int):Int:=dwN n p.burn 10000
theorem Zvb {p:Ze}{n:Int}(hn:0≤n∧n≤18446744073709551615)(hb:0≤p.burn∧p.burn≤10000):0≤WQ p n∧WQ p n≤n∧dwE n p.burn 10000=0:=by
 have h1:n*p.burn≤n*10000:=Int.mul_le_mul_of_nonneg_left hb.2 hn.1;have h0:=Int.mul_nonneg hn.1 hb.1;have e:dwE n p.burn 10000=0:=by
  unfold dwE;rw[if_neg (by decide),if_pos];omega
 unfold WQ dwN;rw[if_pos e];omega
open Go.RowKit
theorem Yge {P:Program}{t ty e sz:Nat}{ti:TI}(ht:P.underlying t=some (.slice e))(hti:tI P e=some ti)(hz1:ti.size=sz){L:Own}{h:PH}{K:PK}{b o n cap m:Nat}{src:Value}{news:List Value}
  (hs:Src L h src m news) (hnl:news.length=m*sz) (hmn:m≤n) (hk:Zai L b o news fun L'=>K (.int .i64 m) L' h) :
  Zez P (Builtin.copy_ #[t,t] ty #[.slice (some ⟨b,o,none⟩) n cap,src]) L h K:=by
 intro W hg;obtain⟨L',W',hK,hrun,hgd,hkp,hm,hbm⟩:=Vr (P:=P) hg hk;obtain⟨i,d,zv,g1,g2,g3,rfl⟩:=WT hti;simp only at hz1;refine⟨.int .i64 m,L',h,W',?_,hK,⟨hgd,Zt.mono hkp (fun x hx=>by simp at hx;subst hx;exact hbm),fun x hx=>Or.inl (by rw[← hm];exact List.mem_map_of_mem hx)⟩⟩;have hmin:Nat.min m n=m:=Nat.min_eq_left hmn;rcases hs with⟨rfl,rfl,rfl⟩ | ⟨a,c,rfl,hcells⟩
 ·simp [Builtin.copy_,run_underlying ht,Builtin.lenOf,Builtin.firstCells,sizeOf,typeInfo,g1,hrun,goInt]
 ·have hl:=run_loadCells_list (P:=P) W a news (hcells W hg);rw[hnl,← hz1]at hl;simp [Builtin.copy_,run_underlying ht,Builtin.lenOf,Builtin.firstCells,sizeOf,typeInfo,g1,hmin,hl,hrun,goInt]
def NeB (a b:Nat):Prop:=a≠b
theorem NeB.symm {a b:Nat}(h:NeB a b):NeB b a:=Ne.symm h
section
variable {L:Own} {K:Value→Prop}
@[go_sem ↓] theorem Yfi (b b' ty o c:Nat)(cs:List Value)(hne:NeB b' b):Zal (⟨b',ty,cs,c⟩::L) b o K=Zal L b o K:=Zcd b b' ty o c cs hne
@[go_sem ↓] theorem Yjr (b b' ty o c:Nat)(cs vs:List Value)(K:Own→Prop)(hne:NeB b' b)(t:Zk K):Zai (⟨b',ty,cs,c⟩::L) b o vs K t=Zai L b o vs fun L'=>K (⟨b',ty,cs,c⟩::L'):=Zgd b b' ty o c cs vs K hne
end
open Go.RowKit Go.Proofs Go.Bl Go.Proofs.Tryz
variable {L:Own} {h:PH} {K:PK}
theorem Zxi (x y:Nat)(hk:K (.tuple #[.int .u64 (((x+18446744073709551616-y)%18446744073709551616:Nat):Int),.int .u64 ((if x<y then 1 else 0:Nat):Int)]) L h):Zc prog 363 [.int .u64 x,.int .u64 y,.int .u64 0] L h K :=
 Zc.extern (fun W=>by
  show (callFunc 363 #[.int .u64 x,.int .u64 y,.int .u64 ((0:Nat):Int)]).run prog W=_;rw[run_callFunc_extern func363 (by kernel_rfl) (by kernel_rfl) (by kernel_rfl) (e:=sub64Entry) (by kernel_rfl),run_sub64 x y 0 (by decide)]
  rfl) hk
theorem Zld (x y:Int)(hx:0≤x∧x≤18446744073709551615)(hy:0≤y∧y≤18446744073709551615)(hk:K (if y≤x then .tuple #[.int .u64 (x-y),.int .i64 0] else .tuple #[.int .u64 0,.int .i64 11]) L h):Zc prog 309 [.int .u64 x,.int .u64 y] L h K:=by
 obtain⟨m,rfl⟩:=Int.eq_ofNat_of_zero_le hx.1;obtain⟨n,rfl⟩:=Int.eq_ofNat_of_zero_le hy.1;refine ZS func309 rfl (rs:=[_,_]) rfl rfl ZW (by kernel_rfl) rfl rfl ?_;refine xx ?_;refine Zxi m n ?_;by_cases c:(n:Int)≤m
 ·rw[if_pos c]at hk;have e1:(((m+18446744073709551616-n)%18446744073709551616:Nat):Int)=m-n:=by omega
  rw[e1,if_neg (by omega)];refine xx ?_;exact ZO hk
 ·rw[if_neg c]at hk;rw[if_pos (by omega)];refine xx ?_;exact ZO hk
theorem Nt.sl {v:Value}{n:Int}{m:Nat}(hs:Nt h v n m):∃a k c,v = .agg #[.slice a k c]:=by
 obtain⟨s,ds,rfl,b,_⟩:=hs;obtain⟨a,c,rfl,_⟩:=b.open;exact⟨a,_,c,rfl⟩
theorem Zgy {P:Program}{T:Nat}{ks:List IntKind}(ht:P.underlying T=some (.struct (P.fieldsOf T)))(hp:P.stoodInHeld T=false)(hg:P.eqGuardType P.depth T=false)(hok:okF P (P.fieldsOf T).toList 0 ks=true)(ps qs:List Int)(ha:ps.length=ks.length)(hb:qs.length=ks.length)
  (x y:Operand) (K:Value→Prop) (t:Zk K):Jc P .neq T x y (.agg (List.zipWith Value.int ks ps).toArray) (.agg (List.zipWith Value.int ks qs).toArray) K t=K (.bool (!decide (ps=qs))) :=
 Yw (fun W=>by
  simp only[Sem.run_bind,run_eqGuard_agg W .neq T x y _ _ hg,Result.andThen_ok,run_neq_struct,Jm ht hp hok ps qs ha hb W]) K
theorem Zac:∀ (A l:List Int),A.Nodup→(∀x∈A,x∈l)→l.length=A.length→l.Perm A
 | [],l,_,_,hl=>by
  have:l=[]:=List.eq_nil_of_length_eq_zero (by simpa using hl);subst this;exact List.Perm.refl _
 | a::A,l,hn,hs,hl=>by
  obtain⟨l1,l2,rfl⟩:=List.append_of_mem (hs a (by simp));have hn':=List.nodup_cons.1 hn
  have ih:=Zac A (l1++l2) hn'.2 (fun x hx=>by
   have:=hs x (by simp [hx]);rcases List.mem_append.1 this with h|h
   ·exact List.mem_append.2 (Or.inl h)
   ·rcases List.mem_cons.1 h with h|h
    ·subst h;exact absurd hx hn'.1
    ·exact List.mem_append.2 (Or.inr h)) (by simp at hl ⊢;omega)
  exact List.perm_middle.trans (ih.cons a)
def Zqy (s:Zd)(st:Int):Nat→List Int
 | 0=>[]
 | k+1=>Zqy s st k++if (gr ZQ s.members k).status=st then [(k:Int)] else []
theorem Zdo (s:Zd)(st:Int):∀k,(Zqy s st k).length=Zly s.members st k
 | 0=>rfl
 | k+1=>by simp only[Zqy,Zly,List.length_append,Zdo s st k];split<;>simp
theorem UX (s:Zd)(st:Int):∀(k:Nat) (x:Int),x∈Zqy s st k↔∃j:Nat,j<k∧x=j∧(gr ZQ s.members j).status=st
 | 0,x=>by simp [Zqy]
 | k+1,x=>by
  simp only[Zqy,List.mem_append,UX s st k x]
  constructor
  ·rintro(⟨j,h1,h2,h3⟩ | h)
   ·exact⟨j,by omega,h2,h3⟩
   ·split at h
    ·rename_i c;exact⟨k,by omega,by simpa using h,c⟩
    ·cases h
  ·rintro⟨j,h1,h2,h3⟩;by_cases e:j=k
   ·subst e;right;rw[if_pos h3];simpa using h2
   ·exact .inl ⟨j,by omega,h2,h3⟩
theorem UY (s:Zd)(st:Int):∀k,(Zqy s st k).Nodup
 | 0=>List.nodup_nil
 | k+1=>by
  simp only[Zqy];refine List.nodup_append.2 ⟨UY s st k,by split<;>simp,fun a ha b hb=>?_⟩;obtain⟨j,h1,h2,_⟩:=(UX s st k a).1 ha;split at hb
  ·have:b=(k:Int):=by simpa using hb
   omega
  ·cases hb
def Zof (s:Zd)(l:List Int)(st:Int)(i:Nat):Bool:=wi (at0 l i) 0 ((s.members.length:Int)-1)&&decide ((gr ZQ s.members (at0 l i).toNat).status=st) && !decide (at0 l i∈l.take i)
theorem Ge {s:Zd}{l:List Int}{st:Int}:∀(n:Nat),n≤l.length→(∀i,i<n→Zof s l st i=true)→(l.take n).Nodup
 | 0,_,_=>by simp
 | n+1,hn,hq=>by
  rw[List.take_succ_eq_append_getElem (by omega)];refine List.nodup_append.2 ⟨Ge n (by omega) (fun i hi=>hq i (by omega)),by simp,fun a ha b hb=>?_⟩;have:=hq n (by omega);simp only[Zof,Bool.and_eq_true,Bool.not_eq_true',decide_eq_false_iff_not]at this;have hb':b=at0 l n:=by rw[← Yf (by omega)];simpa using hb
  intro e;rw[hb']at e;exact this.2 (e ▸ ha)
theorem row_iff {s:Zd}{l:List Int}{st:Int}:Zqi s l st=true↔(∀i,i<l.length→Zof s l st i=true)∧(∀j,j<s.members.length→(gr ZQ s.members j).status=st→(j:Int)∈l):=by
 constructor
 ·intro h;simp only[Zqi,Bool.and_eq_true,decide_eq_true_eq]at h;obtain⟨h1,h2⟩:=h;have hall:∀j,j<s.members.length→(gr ZQ s.members j).status=st→(j:Int)∈l:=fun j hj hst=>by
   rw[Ycw,List.all_eq_true]at h1;have:=h1 j (List.mem_range.2 hj)
   simpa [hst] using this
  have hp:l.Perm (Zqy s st s.members.length):=Zac _ _ (UY s st _) (fun x hx=>by
   obtain⟨j,j1,rfl,j3⟩:=(UX s st _ x).1 hx
   exact hall j j1 j3) (by rw[Zdo];exact h2)
  refine⟨fun i hi=>?_,hall⟩;have hx:at0 l i∈l:=by rw[← Yf hi];exact List.getElem_mem hi
  obtain⟨j,j1,j2,j3⟩:=(UX s st _ _).1 (hp.mem_iff.1 hx);have hnd:l.Nodup:=hp.nodup_iff.2 (UY s st _);simp only[Zof,Bool.and_eq_true,wi_iff,decide_eq_true_eq,Bool.not_eq_true',decide_eq_false_iff_not];refine⟨⟨by omega,by rw[j2];simpa using j3⟩,fun hm=>?_⟩;obtain⟨m,hm1,hm2⟩:=List.mem_iff_getElem.1 hm;simp only[List.length_take]at hm1;rw[List.getElem_take]at hm2;exact(List.pairwise_iff_getElem.1 hnd m i (by omega) hi (by omega)) (by rw[Yf (by omega),Yf hi];rw[Yf (by omega)]at hm2;exact hm2)
 ·rintro⟨h1,h2⟩;have hnd:=Ge l.length (Nat.le_refl _) h1;rw[List.take_length]at hnd;have hp:(Zqy s st s.members.length).Perm l:=by
   have hsub:∀x∈l,x∈Zqy s st s.members.length:=fun x hx=>by
    obtain⟨i,hi,rfl⟩:=List.mem_iff_getElem.1 hx;have:=h1 i hi;simp only[Zof,Bool.and_eq_true,wi_iff,decide_eq_true_eq]at this;obtain⟨⟨⟨a,b⟩,c⟩,_⟩:=this;rw[Yf hi];exact(UX s st _ _).2 ⟨(at0 l i).toNat,by omega,by omega,c⟩
   have hsub2:∀x∈Zqy s st s.members.length,x∈l:=fun x hx=>by
    obtain⟨j,j1,rfl,j3⟩:=(UX s st _ x).1 hx;exact h2 j j1 j3
   exact(List.perm_ext_iff_of_nodup (UY s st _) hnd).2 fun x=>⟨hsub2 x,hsub x⟩
  simp only[Zqi,Bool.and_eq_true,decide_eq_true_eq];exact⟨G8 h2,by rw[← hp.length_eq,Zdo]⟩
end Go.X
