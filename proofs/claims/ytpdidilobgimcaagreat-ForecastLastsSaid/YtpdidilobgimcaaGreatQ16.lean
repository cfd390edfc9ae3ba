/- Lemmas and contracts. Conditions: as each says. -/
import Derived.Test.YtpdidilobgimcaaGreatQ15
set_option linter.unusedVariables false
set_option linter.unusedSimpArgs false
set_option maxHeartbeats 12800000
set_option maxRecDepth 20000
namespace Go.X
open Go.RowKit Go.Proofs Go.Bl Go.Proofs.Tryz
variable {L:Own} {h:PH} {K:PK}
theorem Zbt {e sz:Nat}(o:Option (Nat×Nat))(xs:List Value)(M:Own):oent e sz o xs M=oent e sz o xs []++M:=by
 cases o<;>rfl
theorem YP {e sz:Nat}{o o2:Option (Nat×Nat)}{xs:List Value}{M:Own}{h:PH}(ha:apO o (oent e sz o2 xs M) h):apO o M h:=by
 cases o with
 | none=>trivial
 | some p=>exact⟨Yt ha.1,ha.2⟩
theorem Zeb {e sz e2 sz2:Nat}{o1 o2:Option (Nat×Nat)}{cs1 cs2:List Value}{M:Own}{h:PH}(h1:apO o1 M h)(h2:apO o2 (oent e sz o1 cs1 []++M) h):apO o1 (oent e2 sz2 o2 cs2 M) h∧apO o2 M h:=by
 cases o1 with
 | none=>exact⟨trivial,h2⟩
 | some p =>
  cases o2 with
  | none=>exact⟨h1,trivial⟩
  | some q =>
   have:p.1≠q.1:=h2.1.1;exact⟨⟨⟨fun e=>this e.symm,h1.1⟩,h1.2⟩,⟨h2.1.2,h2.2⟩⟩
theorem Zij {xs:List Int}(v:Value)(hx:Ints h .u64 v xs)(hl:xs.length≤100000)(hk:∀o,okO o xs.length→apO o L h→K (ovs o xs.length) (oent 22 1 o (xs.map (.int .u64)) L) h):Zb prog 79 [v] L h K:=by
 have ox:=hx.open;obtain⟨a,ca,rfl,hna,hca,h0,hcx⟩:=ox;refine ZR func79 rfl (rs:=[_]) rfl rfl ZW (by kernel_rfl) rfl rfl ?_;refine xx ?_
 cases ha:a.isNone with
 | true =>
  have ha':a=none:=by simpa using ha
  subst ha';have hl0:xs.length=0:=by have:=h0 rfl;omega
  have hx':xs=[]:=List.eq_nil_of_length_eq_zero hl0;subst hx';refine xx ?_;exact ZP (hk none rfl trivial)
 | false =>
  refine xx ?_;refine Z0 fun b1 nb1 zb1=>?_;(try simp only[ZU]at nb1);refine xx ?_;refine Z2 (t:=25) (e:=22) (sz:=1) (bytes:=8) (z:=[.int .u64 0]) (by kernel_rfl) Ux rfl rfl rfl rfl (by decide) [] L (some (b1,0)) 0 [] ⟨Nat.le_refl _,Nat.zero_le _⟩ rfl (Src.known hx.1) (by simp) (Vu _ _) (by simp [maxLen];omega) (by omega) ?_;intro o' j1 j2 j3;simp only[Nat.zero_add,List.nil_append]at j1 j2 ⊢;refine xx ?_;exact ZP (hk o' j1 j2)
theorem J3 (p:Zd)(ok:Zh p)(b:Int)(hb:0≤b∧b≤18446744073709551615)(hk:K (.int .u64 (if Yb p then YX p b else 0)) L h):Zb prog 216 [W5 p,.int .u64 b] L h K:=by
 refine ZR func216 rfl (rs:=[_]) rfl rfl ZW (by kernel_rfl) rfl rfl ?_;refine xx ?_;refine Z0 fun b1 nb1 zb1=>?_;(try simp only[ZU]at nb1);refine xx ?_;refine UP p ok ?_;refine xx ?_;refine Z0 fun b2 nb2 zb2=>?_;(try simp only[ZU]at nb2);refine xx ?_
 cases hr:Yb p with
 | false =>
  rw[hr]at hk;refine xx ?_;exact ZO (ZO (ZP hk))
 | true =>
  rw[hr]at hk;refine xx ?_;refine Zgq p b (Jf hr) hb ?_;refine xx ?_;exact ZO (ZO (ZP hk))
structure ZC where
 own:Int
 bal:Int
def Wz:ZC:=⟨0,0⟩
def Yxv (f:ZC):List Value:=[.int .i64 f.own,.int .u64 f.bal]
theorem Zxw (f:ZC):(Yxv f).length=2:=rfl
structure Yyj (f:ZC):Prop where
 o : -9223372036854775808≤f.own∧f.own≤9223372036854775807
 b:0≤f.bal∧f.bal≤18446744073709551615
structure Zz where
 par:Zd
 most:Int
 purses:List Int
 founders:List ZC
abbrev genC (g:Zz)(pv fv:Value):List Value:=[.int .u64 g.par.inc,.int .u64 g.par.maxEff,.int .u64 g.par.floor,.int .u64 g.par.cap,.int .u64 g.par.up,.int .u64 g.par.down,.int .u64 g.par.bias,.int .u64 g.par.quot,.int .u64 g.par.biasEm,.int .u64 g.par.quotEm,.int .u64 g.par.recover,.int .u64 g.par.scoreCap,.int .u64 g.par.rate,.int .u64 g.par.bond,.int .i64 g.par.delay,.int .i64 g.par.streak,.int .i64 g.par.boost,.int .i64 g.par.absent,.int .i64 g.par.burn,.int .i64 g.par.churn,.int .i64 g.par.wait,.int .i64 g.par.poll,.int .i64 g.par.enact,.int .i64 g.par.quorum,.int .u64 g.most,pv,fv]
abbrev genV (g:Zz)(pv fv:Value):Value := .agg #[.int .u64 g.par.inc,.int .u64 g.par.maxEff,.int .u64 g.par.floor,.int .u64 g.par.cap,.int .u64 g.par.up,.int .u64 g.par.down,.int .u64 g.par.bias,.int .u64 g.par.quot,.int .u64 g.par.biasEm,.int .u64 g.par.quotEm,.int .u64 g.par.recover,.int .u64 g.par.scoreCap,.int .u64 g.par.rate,.int .u64 g.par.bond,.int .i64 g.par.delay,.int .i64 g.par.streak,.int .i64 g.par.boost,.int .i64 g.par.absent,.int .i64 g.par.burn,.int .i64 g.par.churn,.int .i64 g.par.wait,.int .i64 g.par.poll,.int .i64 g.par.enact,.int .i64 g.par.quorum,.int .u64 g.most,pv,fv]
structure ZG (h:PH)(pv fv:Value)(g:Zz):Prop where
 ok:Zh g.par
 m:0≤g.most∧g.most≤18446744073709551615
 p:Ints h .u64 pv g.purses
 f:Zj Yxv 2 h fv g.founders
 fo:∀x∈g.founders,Yyj x
theorem ZG.up {h h':PH}(le:PH.le h h'){pv fv:Value}{g:Zz}(hg:ZG h pv fv g):ZG h' pv fv g:=⟨hg.ok,hg.m,hg.p.up le,hg.f.up le,hg.fo⟩
def Zxq (g:Zz)(f:ZC):Bool:=wi f.own 0 ((g.purses.length:Int)-1)&&decide (g.par.floor<f.bal)&&decide (f.bal≤g.par.cap)
def Zuv (p:Zd)(f:ZC):Zc:=⟨f.bal,YX p f.bal,0,0,f.own,2⟩
def Vq (g:Zz):List Int:=g.purses++g.founders.map ZC.bal
def Zna (g:Zz):Bool:=Yb g.par&&decide (g.most≤4611686018427387904)&&wi g.purses.length 1 64&&decide (g.founders.length≤128)&&g.founders.all (Zxq g)&&decide (tot (Vq g)≤g.most)
def Ycl (g:Zz):Zf:=⟨g.par,g.most,tot (Vq g),0,0,0,0,0,false,g.purses,g.founders.map (Zuv g.par),[],[],[],[],[],List.replicate 16 0,[]⟩
def Ydj (g:Zz):Zf:=if Zna g then Ycl g else VL
theorem Zkr (p:Zd)(ok:Zh p)(hr:Yb p=true)(f:ZC)(fo:Yyj f)(hk:K (Zxf (Zuv p f)) L h):Zb prog 164 [W5 p,.agg #[.int .i64 f.own,.int .u64 f.bal]] L h K:=by
 have fb:=fo.b;refine ZR func164 rfl (rs:=[_]) rfl rfl ZW (by kernel_rfl) rfl rfl ?_;refine xx ?_;refine Z0 fun b1 nb1 zb1=>?_;(try simp only[ZU]at nb1);refine xx ?_;refine Z0 fun b2 nb2 zb2=>?_;(try simp only[ZU]at nb2);refine xx ?_;refine Z0 fun b3 nb3 zb3=>?_;(try simp only[ZU]at nb3);refine xx ?_;refine Ym (.tk 0 (.tk 3 (.tk 7 (.tkl 1 (.tkl 2 (.tkl 4 (.tkl 8 (.o1 5 (.tk 6 (.tk 9 (.o2 10 (.fin) (.nil)))) (.nil))))))))) (by kernel_rfl) (by kernel_rfl) _ (Za.refl _ _) ?_;refine xx ?_;refine J3 p ok f.bal fb ?_;rw[hr];refine xx ?_;exact ZO (ZO (ZO (ZP hk)))
theorem Zfh (hk:∀h' v,PH.le h h'→Ints h' .u8 v (List.replicate 16 0)→K v L h'):Zb prog 166 [] L h K:=by
 refine ZR func166 rfl (rs:=[_]) rfl rfl ZW (by kernel_rfl) rfl rfl ?_;refine xx ?_;refine Znd _ (by decide) (by decide) ?_;rw[show Zdm 128=16 by decide];refine xx ?_;refine GK (e:=5) (z:=.int .u8 0) (by kernel_rfl) Ynr rfl rfl .i64 .i64 16 (by decide) (by decide) (by decide) ?_;refine Z0 fun b1 nb1 zb1=>?_;(try simp only[ZU]at nb1);refine xx ?_;exact⟨L,_,WV b1 _ _ _ [] _ h (by decide),hk _ _ (Zfg zb1 _) (Zox (n:=16) (Vc (o:=some (b1,16)) ⟨Nat.le_refl _,by simp [maxLen]⟩ rfl (by decide)))⟩
def Zqc (g:Zz)(k:Nat):List Value:=((g.founders.take k).map (Zuv g.par)).flatMap YE
def Zqi (g:Zz)(k:Nat):List Value:=(g.purses++(g.founders.take k).map ZC.bal).map (.int .u64)
theorem Ybd {g:Zz}{k:Nat}(hk:k≤g.founders.length):(Zqc g k).length=k*6:=by
 rw[Zqc,Z1 Z9];simp [hk]
theorem Zzk {g:Zz}{k:Nat}(hk:k≤g.founders.length):(Zqi g k).length=(g.purses.length+k)*1:=by simp [Zqi,hk]
theorem Zus {g:Zz}{k:Nat}(hk:k<g.founders.length):Zqc g (k+1)=Zqc g k++YE (Zuv g.par (gr Wz g.founders k)):=by
 rw[Zqc,List.take_succ_eq_append_getElem hk,Yc hk,Zqc,List.map_append,List.flatMap_append];simp only[List.map_cons,List.map_nil,List.flatMap_cons,List.flatMap_nil,List.append_nil]
theorem Zwf {g:Zz}{k:Nat}(hk:k<g.founders.length):Zqi g (k+1)=Zqi g k++[.int .u64 (gr Wz g.founders k).bal]:=by
 rw[Zqi,List.take_succ_eq_append_getElem hk,Yc hk,Zqi,List.map_append (f:=ZC.bal),← List.append_assoc,List.map_append]
 rfl
theorem UH {p:Zd}(h1:1≤p.inc)(hp:Zh p){b:Int}(hb:0≤b∧b≤18446744073709551615):0≤YX p b∧YX p b≤18446744073709551615:=by
 have hm:=hp.w p.maxEff (by simp [YA]);have h2:=Int.emod_nonneg b (show p.inc≠0 by omega);have h3:=Int.emod_lt_of_pos b (show 0<p.inc by omega);have h4:b%p.inc≤b:=by
  have h5:=Int.ediv_nonneg hb.1 (show 0≤p.inc by omega);have h6:=Int.mul_nonneg (show 0≤p.inc by omega) h5;rw[Int.emod_def];omega
 unfold YX;omega
theorem Yhm {p:Zd}(h1:1≤p.inc)(hp:Zh p){f:ZC}(fo:Yyj f):Ze (Zuv p f):=by
 have hw:=UH h1 hp fo.b;have hb:=fo.b;have ho:=fo.o;refine⟨fun z hz=>?_,fun z hz=>?_⟩
 ·simp only[Zuv,List.mem_cons,List.not_mem_nil,or_false]at hz;rcases hz with rfl|rfl|rfl
  ·exact hb
  ·exact hw
  ·decide
 ·simp only[Zuv,List.mem_cons,List.not_mem_nil,or_false]at hz;rcases hz with rfl|rfl|rfl
  ·decide
  ·exact ho
  ·decide
theorem Yfj {g:Zz}(pv fv:Value)(hg:ZG h pv fv g)(np:g.purses.length≤1000)(hk:∀h' u,PH.le h h'→Zp h' u (Ydj g)→K (.tuple #[stV (Ydj g) u,.int .i64 (if Zna g then 0 else 240)]) L h'):Zb prog 57 [genV g pv fv] L h K:=by
 have no:Zna g=false→∀h',PH.le h h'→K (.tuple #[stV VL Zjg,.int .i64 240]) L h':=fun e h' le=>by
  have:=hk h' Zjg le (by rw[Ydj,e];exact Zeu h');rw[Ydj,e]at this;exact this
 have ok:=hg.ok;have gm:=hg.m;have hp:=hg.p;have hpw:=hp.word;obtain⟨pa,pc,rfl,_⟩:=hp.open;have hf:=hg.f;obtain⟨fa,fc,rfl,_,hfl,_,hfd⟩:=hf.open;refine ZR func57 rfl (rs:=[_,_]) rfl rfl ZW (by kernel_rfl) rfl rfl ?_;refine xx ?_;refine Z0 fun b1 nb1 zb1=>?_;(try simp only[ZU]at nb1);refine xx ?_;refine Z0 fun b2 nb2 zb2=>?_;(try simp only[ZU]at nb2);refine xx ?_;refine WN g.par ok ?_
 cases q1:Yb g.par with
 | false =>
  have:=no (by simp only[Zna,q1,Bool.false_and]) h (PH.le_refl h);refine xx ?_;exact ZO (ZO (ZP this))
 | true =>
 by_cases q2:4611686018427387904<g.most
 ·have:=no (by simp only[Zna,decide_eq_false (p:=g.most≤4611686018427387904) (by omega),Bool.and_false,Bool.false_and]) h (PH.le_refl h);refine xx ?_;exact ZO (ZO (ZP this))
 refine xx ?_;refine Um _ _ _ ?_
 cases q3:wi g.purses.length 1 64 with
 | false =>
  have:=no (by simp only[Zna,q3,Bool.and_false,Bool.false_and]) h (PH.le_refl h);refine xx ?_;exact ZO (ZO (ZP this))
 | true =>
 have q3':=wi_iff.1 q3;by_cases q4:128<g.founders.length
 ·have:=no (by simp only[Zna,decide_eq_false (p:=g.founders.length≤128) (by omega),Bool.and_false,Bool.false_and]) h (PH.le_refl h);refine xx ?_;exact ZO (ZO (ZP this))
 refine xx ?_;refine Zij _ hp (by omega) fun o0 k0 a0=>?_;have m1:apB o0 b1:=(ZY a0).head;have e0:g.purses.map (.int .u64)=Zqi g 0:=by simp [Zqi]
 rw[e0];simp -dsimp -implicitDefEqProofs (disch:=first|with_reducible assumption|omega) [go_sem,ZQ m1];refine YJ (γ:=Nat×Option (Nat×Nat)×Option (Nat×Nat)) (0,o0,none)
  (fun q=>q.1≤g.founders.length∧okO q.2.1 (g.purses.length+q.1)∧okO q.2.2 q.1∧apO q.2.1 (oent 100 6 q.2.2 (Zqc g q.1) (⟨b2,34,stC VL Zjg,41⟩::⟨b1,122,genC g (.slice pa g.purses.length pc) (.slice fa g.founders.length fc),27⟩::L)) h∧apO q.2.2 (⟨b2,34,stC VL Zjg,41⟩::⟨b1,122,genC g (.slice pa g.purses.length pc) (.slice fa g.founders.length fc),27⟩::L) h∧∀j,j<q.1→Zxq g (gr Wz g.founders j)=true)
  (fun q=>[(39,.int .i64 q.1),(38,.int .i64 g.founders.length),(37,.slice fa g.founders.length fc),(4,ovs q.2.1 (g.purses.length+q.1)),(5,ovs q.2.2 q.1),(1,.pointer (some ⟨b1,0,none⟩)),(2,.pointer (some ⟨b2,0,none⟩))])
  (fun q=>oent 22 1 q.2.1 (Zqi g q.1) (oent 100 6 q.2.2 (Zqc g q.1) (⟨b2,34,stC VL Zjg,41⟩::⟨b1,122,genC g (.slice pa g.purses.length pc) (.slice fa g.founders.length fc),27⟩::L))) (fun _=>h) (fun q=>g.founders.length-q.1) ?_ ?_ ?_ ?_
 ·exact⟨Nat.zero_le _,k0,rfl,a0,trivial,fun j hj=>by simp only at hj;omega⟩
 ·simp [Ent,List.lookup,Wv,ovs]
 ·exact Za.refl _ _
 rintro⟨k,o1,o2⟩ ⟨i1,i2,i3,i4,i5,i6⟩;simp only at i1 i2 i3 i4 i5 i6 ⊢;have i4':=YP i4;have m1b:apB o1 b1:=(ZY i4').head;have m1a:apB o1 b2:=i4'.head;have m2b:apB o2 b1:=(ZY i5).head;have m2a:apB o2 b2:=i5.head;by_cases c1:k<g.founders.length
 ·have hfo:=hg.fo (gr Wz g.founders k) (by rw[Yc c1];exact List.getElem_mem c1);have hfb:=hfo.b;have bad:Zxq g (gr Wz g.founders k)=false→K (.tuple #[stV VL Zjg,.int .i64 240]) L h:=fun e=>no (by simp only[Zna,YY Wz (Zxq g) g.founders c1 e,Bool.and_false,Bool.false_and]) h (PH.le_refl h);simp -dsimp -implicitDefEqProofs (disch:=first|with_reducible assumption|omega) [go_sem,↓Zci Wz (by decide) hfd,Yxv];refine Z0 fun b7 nb7 zb7=>?_;(try simp only[ZU]at nb7);have n7:=Yt (Yt nb7);simp only[ZU]at n7;obtain⟨n72,n71,_⟩:=n7;simp -dsimp -implicitDefEqProofs (disch:=first|with_reducible assumption|omega) [go_sem,Yxv,ZQ m1b,ZQ m2b];refine Um _ _ _ ?_
  cases q5:wi (gr Wz g.founders k).own 0 ((g.purses.length:Int)-1) with
  | false =>
   have:=bad (by simp only[Zxq,q5,Bool.false_and]);simp -dsimp -implicitDefEqProofs (disch:=first|with_reducible assumption|omega) [go_sem,ZS m1a,ZS m2a,ZQ m1a,ZQ m2a];exact ZO (Wr (Wr (ZO (ZO (ZP this)))))
  | true =>
  by_cases q6:(gr Wz g.founders k).bal≤g.par.floor
  ·have:=bad (by simp only[Zxq,decide_eq_false (p:=g.par.floor<(gr Wz g.founders k).bal) (by omega),Bool.and_false,Bool.false_and]);simp -dsimp -implicitDefEqProofs (disch:=first|with_reducible assumption|omega) [go_sem,ZS m1a,ZS m2a,ZQ m1a,ZQ m2a,ZQ m1b,ZQ m2b];exact ZO (Wr (Wr (ZO (ZO (ZP this)))))
  by_cases q7:g.par.cap<(gr Wz g.founders k).bal
  ·have:=bad (by simp only[Zxq,decide_eq_false (p:=(gr Wz g.founders k).bal≤g.par.cap) (by omega),Bool.and_false]);simp -dsimp -implicitDefEqProofs (disch:=first|with_reducible assumption|omega) [go_sem,ZS m1a,ZS m2a,ZQ m1a,ZQ m2a,ZQ m1b,ZQ m2b];exact ZO (Wr (Wr (ZO (ZO (ZP this)))))
  have yes:Zxq g (gr Wz g.founders k)=true:=by
   simp only[Zxq,q5,Bool.true_and,Bool.and_eq_true,decide_eq_true_eq];omega
  simp -dsimp -implicitDefEqProofs (disch:=first|with_reducible assumption|omega) [go_sem,ZQ m1a,ZQ m2a,ZQ m1b,ZQ m2b];refine Z0 fun b8 nb8 zb8=>?_;(try simp only[ZU]at nb8);have n8:=Yt (Yt nb8.2);simp only[ZU]at n8;obtain⟨n82,n81,_⟩:=n8;refine xx ?_;refine Z2 (t:=25) (e:=22) (sz:=1) (bytes:=8) (by kernel_rfl) Ux rfl rfl rfl rfl (by decide) [_,_] _ o1 (g.purses.length+k) (Zqi g k) i2 (Zzk i1) (Src.own List.mem_cons_self) (m:=1) (news:=[.int .u64 (gr Wz g.founders k).bal]) rfl (by intro u hu;simp only[List.mem_singleton]at hu;subst hu;rfl) (by simp [maxLen];omega) (by omega) ?_;intro o1' j1 j2 j3;have j4:=ZY (ZY j2);have j4':=YP j4;have m1b':apB o1' b1:=(ZY j4').head;have m1a':apB o1' b2:=j4'.head;simp -dsimp -implicitDefEqProofs (disch:=first|with_reducible assumption|omega) [go_sem,ZQ m1b',ZQ m2b];refine Zkr g.par ok q1 _ hfo ?_;refine xx ?_;refine Z0 fun b9 nb9 zb9=>?_;(try simp only[ZU]at nb9);refine xx ?_;rw[Zbt (e:=22) o1'];refine Z2 (t:=26) (e:=100) (sz:=6) (bytes:=48) (by kernel_rfl) Zlw rfl rfl rfl rfl (by decide) (_::_::_::oent 22 1 o1' _ []) _ o2 k (Zqc g k) i3 (Ybd i1) (Src.own List.mem_cons_self) (m:=1) (news:=YE (Zuv g.par (gr Wz g.founders k))) rfl (by intro u hu;simp only[YE,List.mem_cons,List.not_mem_nil,or_false]at hu;rcases hu with rfl|rfl|rfl|rfl|rfl|rfl<;>rfl) (by simp [maxLen];omega) (by omega) ?_;intro o2' l1 l2 l3;have l4:=ZY (ZY (ZY l2));have l5:=Zeb (e2:=100) (sz2:=6) (cs2:=Zqc g (k+1)) j4' l4;refine xx ?_;refine⟨k+1,o1',o2',⟨by omega,by rw[← Nat.add_assoc];exact j1,l1,l5.1,l5.2,fun j hj=>?_⟩,by omega,by simp [Ent,List.lookup,Nat.add_assoc],?_⟩
  ·by_cases e:j=k
   ·subst e;exact yes
   ·exact i6 j (by omega)
  ·rw[Zus c1,Zwf c1,← Zbt];exact(Za.tail _ _ _).trans ((Za.tail _ _ _).trans (Za.tail _ _ _))
 ·have hkl:k=g.founders.length:=by omega
  subst hkl;have fall:=Zbv Wz (Zxq g) g.founders i6;have eA:Zqi g g.founders.length=(Vq g).map (.int .u64):=by simp [Zqi,Vq]
  have lA:(Vq g).length=g.purses.length+g.founders.length:=by simp [Vq]
  obtain⟨ma,mc,em,_⟩:=Z8 i3;rw[eA,em];refine xx ?_;refine WL (n:=g.purses.length+g.founders.length) i2 (by simp [lA]) (by omega) i4 fun h1 le1 sl1=>?_
  have iA:Ints h1 .u64 (ovs o1 (g.purses.length+g.founders.length)) (Vq g):=⟨by rw[lA];exact sl1,fun z hz=>by
   rw[show IntKind.u64.min=0 by decide,show IntKind.u64.max=18446744073709551615 by decide];rcases List.mem_append.1 hz with hz|hz
   ·have:=hp.2 z hz
    rwa [show IntKind.u64.min=0 by decide,show IntKind.u64.max=18446744073709551615 by decide]at this
   ·obtain⟨f,hf1,rfl⟩:=List.mem_map.1 hz
    exact(hg.fo f hf1).b⟩
  refine Zb.ap (Ws _ iA fun ap=>?_);have i5':=GC i5 ap;have ap2:=Ap.oent ap;simp only[Ap]at ap2;obtain⟨p2,p1,_⟩:=ap2;have no1:Zna g=false→K (.tuple #[stV VL Zjg,.int .i64 240]) L h1:=fun e=>no e h1 le1;by_cases c2:tot (Vq g)≤18446744073709551615
  ·rw[YC c2];by_cases c3:g.most<tot (Vq g)
   ·have:=no1 (by simp only[Zna,decide_eq_false (p:=tot (Vq g)≤g.most) (by omega),Bool.and_false]);simp -dsimp -implicitDefEqProofs (disch:=first|with_reducible assumption|omega) [go_sem,ZS m2a,ZQ m2a,ZQ m2b];exact Wr (ZO (ZO (ZP this)))
   have yes:Zna g=true:=by
    simp only[Zna,q1,q3,fall,Bool.true_and,Bool.and_true,Bool.and_eq_true,decide_eq_true_eq];omega
   simp -dsimp -implicitDefEqProofs (disch:=first|with_reducible assumption|omega) [go_sem,ZS m2a,ZQ m2a,ZQ m2b];refine Ym (.tk 0 (.tk 2 (.tk 4 (.tk 5 (.tk 8 (.tkl 1 (.tkl 3 (.tkl 6 (.o1 7 (.o1 9 (.tk 10 (.o2 11 (.tk 12 (.fin)) (.nil))) (.nil)) (.nil)))))))))) (by kernel_rfl) (by kernel_rfl) _ (Za.refl _ _) ?_;simp -dsimp -implicitDefEqProofs (disch:=first|with_reducible assumption|omega) [go_sem,ZS m2a,ZQ m2a,ZQ m2b];refine Zb.ap (Ja _ (hp.up le1) (by omega) fun h2 r2 le2 ir2 ap=>?_);have i5'':=GC i5' ap;have ap2:=Ap.oent ap;simp only[Ap]at ap2;obtain⟨s2,s1,_⟩:=ap2;obtain⟨ra2,rc2,rfl,_⟩:=ir2.open;refine xkp (Za.forget le2) ?_;simp -dsimp -implicitDefEqProofs (disch:=first|with_reducible assumption|omega) [go_sem,ZS m2a,ZQ m2a,ZQ m2b];refine Zb.ap (Zfh fun h3 r3 le3 ir3 ap=>?_);have i5''':=GC i5'' ap;have ap2:=Ap.oent ap;simp only[Ap]at ap2;obtain⟨u2,u1,_⟩:=ap2;obtain⟨ra3,rc3,rfl,_⟩:=ir3.open;refine xkp (Za.forget (le2.trans le3)) ?_;simp -dsimp -implicitDefEqProofs (disch:=first|with_reducible assumption|omega) [go_sem,ZS m2a,ZQ m2a,ZQ m2b];have eK:Zqc g g.founders.length=(g.founders.map (Zuv g.par)).flatMap YE:=by simp [Zqc]
   have lK:(g.founders.map (Zuv g.par)).length=g.founders.length:=by simp
   have eR:Ydj g=Ycl g:=by rw[Ydj,yes];rfl
   rw[eR,yes]at hk;rw[eK];refine YT (e:=100) (n:=g.founders.length) i3 (by rw[Z1 Z9,lK]) (by omega) i5''' fun h4 le4 sl4=>?_;rw[em]at sl4;have hz0:0≤tot (Vq g):=Yy fun i=>by
    rcases Nat.lt_or_ge i (Vq g).length with hi|hi
    ·rw[← Yh hi];have:=iA.2 _ (List.getElem_mem hi);rw[show IntKind.u64.min=0 by decide]at this;exact this.1
    ·simp [at0,List.getD_eq_getElem?_getD,List.getElem?_eq_none hi]
   have hS:Zp h4 ⟨.slice ra2 g.purses.length rc2,.slice ma g.founders.length mc,.slice none 0 0,.slice none 0 0,.slice none 0 0,.slice none 0 0,.slice none 0 0,.slice ra3 (List.replicate 16 (0:Int)).length rc3,.slice none 0 0⟩ (Ycl g):=by
    refine⟨⟨ok,fun z hz=>?_,fun z hz=>?_⟩,ir2.up (le3.trans le4),⟨Z9,by rw[Ycl,lK];exact sl4⟩,fun x hx=>?_,YO h4 .i64,YO h4 .i64,Zj.nil V5 h4,(fun x hx=>by cases hx),Zj.nil Yn h4,(fun x hx=>by cases hx),⟨[],Zj.nil Z6 h4,rfl,fun x hx=>by cases hx⟩,ir3.up le4,⟨[],Znl h4,rfl⟩⟩
    ·simp only[Ycl,List.mem_cons,List.not_mem_nil,or_false]at hz;omega
    ·simp only[Ycl,List.mem_cons,List.not_mem_nil,or_false]at hz;omega
    ·obtain⟨f,hf1,rfl⟩:=List.mem_map.1 hx;exact Yhm (Jf q1) ok (hg.fo f hf1)
   exact ZO (ZO (ZP (hk h4 _ ((le1.trans le2).trans (le3.trans le4)) hS)))
  ·rw[Wh c2];have:=no1 (by simp only[Zna,decide_eq_false (p:=tot (Vq g)≤g.most) (by omega),Bool.and_false]);simp -dsimp -implicitDefEqProofs (disch:=first|with_reducible assumption|omega) [go_sem,ZS m2a,ZQ m2a,ZQ m2b];exact Wr (ZO (ZO (ZP this)))
theorem Uo {α:Type}{f:α→List Value}(h1:∀a,∀u∈f a,u.oneCell'=true)(l:List α):∀u∈l.flatMap f,u.oneCell'=true:=fun u hu=>by
 obtain⟨a,_,hb⟩:=List.mem_flatMap.1 hu;exact h1 a u hb
theorem Zlu (m:Zc):∀u∈YE m,u.oneCell'=true:=fun u hu=>by
 simp only[YE,List.mem_cons,List.not_mem_nil,or_false]at hu;rcases hu with rfl|rfl|rfl|rfl|rfl|rfl<;>rfl
theorem Zxu (m:Zn):∀u∈Zbb m,u.oneCell'=true:=fun u hu=>by
 simp only[Zbb,List.mem_cons,List.not_mem_nil,or_false]at hu;rcases hu with rfl|rfl|rfl|rfl<;>rfl
theorem JL (m:Zg):∀u∈Yx m,u.oneCell'=true:=fun u hu=>by
 simp only[Yx,List.mem_cons,List.not_mem_nil,or_false]at hu;rcases hu with rfl|rfl|rfl<;>rfl
theorem Zah {v:Value}{h:PH}{k:IntKind}{xs:List Int}(hx:Ints h k v xs):v.oneCell'=true:=by
 obtain⟨a,c,rfl,_⟩:=hx.open
 rfl
theorem Yaq {h:PH}{q:QM}(hq:Zu h q):∀u∈Wk q,u.oneCell'=true:=fun u hu=>by
 have h1:=Zah hq.y;have h2:=Zah hq.n;simp only[Wk,Jm,List.mem_cons,List.mem_append,List.not_mem_nil,or_false]at hu;rcases hu with rfl|rfl|hu|hu
 ·rfl
 ·rfl
 ·obtain rfl|rfl|rfl|rfl|rfl|rfl|rfl|rfl|rfl|rfl|rfl|rfl|rfl|rfl|rfl|rfl|rfl|rfl|rfl|rfl|rfl|rfl|rfl|rfl:=hu<;>rfl
 ·rcases hu with rfl|rfl|rfl|rfl|rfl|rfl|rfl
  ·rfl
  ·rfl
  ·rfl
  ·rfl
  ·rfl
  ·exact h1
  ·exact h2
theorem Zbs {l:List Zc}(v:Value)(hv:Zj YE 6 h v l)(hl:l.length≤1000)(hk:∀o,okO o l.length→apO o L h→K (ovs o l.length) (oent 100 6 o (l.flatMap YE) L) h):Zb prog 80 [v] L h K:=by
 have hx:=hv;obtain⟨a,ca,rfl,hna,hca,h0,_⟩:=hx.open;refine ZR func80 rfl (rs:=[_]) rfl rfl ZW (by kernel_rfl) rfl rfl ?_;refine xx ?_
 cases ha:a.isNone with
 | true =>
  have ha':a=none:=by simpa using ha
  subst ha';have hl0:l.length=0:=by have:=h0 rfl;omega
  have hx':l=[]:=List.eq_nil_of_length_eq_zero hl0;subst hx';refine xx ?_;exact ZP (hk none rfl trivial)
 | false =>
  refine xx ?_;refine Z0 fun b1 nb1 zb1=>?_;(try simp only[ZU]at nb1);refine xx ?_;refine Z2 (t:=26) (e:=100) (sz:=6) (bytes:=48) (by kernel_rfl) Zlw rfl rfl rfl rfl (by decide) [] L (some (b1,0)) 0 [] ⟨Nat.le_refl _,Nat.zero_le _⟩ rfl (Src.known hx.s) (news:=l.flatMap YE) (Z1 Z9 l) (Uo Zlu l) (by simp [maxLen];omega) (by omega) ?_;intro o' j1 j2 j3;simp only[Nat.zero_add,List.nil_append]at j1 j2 ⊢;refine xx ?_;exact ZP (hk o' j1 j2)
theorem Zpz {l:List Int}(v:Value)(hv:Ints h .i64 v l)(hl:l.length≤1000)(hk:∀h' r,PH.le h h'→Ints h' .i64 r l→K r L h'):Zb prog 81 [v] L h K:=by
 have hx:=hv;obtain⟨a,ca,rfl,hna,hca,h0,_⟩:=hx.open;refine ZR func81 rfl (rs:=[_]) rfl rfl ZW (by kernel_rfl) rfl rfl ?_;refine xx ?_
 cases ha:a.isNone with
 | true =>
  have ha':a=none:=by simpa using ha
  subst ha';have hl0:l.length=0:=by have:=h0 rfl;omega
  have hx':l=[]:=List.eq_nil_of_length_eq_zero hl0;subst hx';refine xx ?_;exact ZP (hk h _ (PH.le_refl h) (YO h .i64))
 | false =>
  refine xx ?_;refine Z0 fun b1 nb1 zb1=>?_;(try simp only[ZU]at nb1);refine xx ?_;refine Z2 (t:=27) (e:=3) (sz:=1) (bytes:=8) (by kernel_rfl) JM rfl rfl rfl rfl (by decide) [] L (some (b1,0)) 0 [] ⟨Nat.le_refl _,Nat.zero_le _⟩ rfl (Src.known hx.1) (news:=l.map (Value.int .i64)) (by simp) (Vu _ _) (by simp [maxLen];omega) (by omega) ?_;intro o' j1 j2 j3;simp only[Nat.zero_add,List.nil_append]at j1 j2 ⊢;refine xx ?_;exact YT (e:=3) (sz:=1) (n:=l.length) j1 (by simp) (by omega) j2 fun h' le sl=>ZP (hk h' _ le ⟨sl,hx.2⟩)
theorem JO {l:List Int}(v:Value)(hv:Ints h .i64 v l)(hl:l.length≤1000)(hk:∀o,okO o l.length→apO o L h→K (ovs o l.length) (oent 3 1 o (l.map (.int .i64)) L) h):Zb prog 81 [v] L h K:=by
 have hx:=hv;obtain⟨a,ca,rfl,hna,hca,h0,_⟩:=hx.open;refine ZR func81 rfl (rs:=[_]) rfl rfl ZW (by kernel_rfl) rfl rfl ?_;refine xx ?_
 cases ha:a.isNone with
 | true =>
  have ha':a=none:=by simpa using ha
  subst ha';have hl0:l.length=0:=by have:=h0 rfl;omega
  have hx':l=[]:=List.eq_nil_of_length_eq_zero hl0;subst hx';refine xx ?_;exact ZP (hk none rfl trivial)
 | false =>
  refine xx ?_;refine Z0 fun b1 nb1 zb1=>?_;(try simp only[ZU]at nb1);refine xx ?_;refine Z2 (t:=27) (e:=3) (sz:=1) (bytes:=8) (by kernel_rfl) JM rfl rfl rfl rfl (by decide) [] L (some (b1,0)) 0 [] ⟨Nat.le_refl _,Nat.zero_le _⟩ rfl (Src.known hx.1) (news:=l.map (Value.int .i64)) (by simp) (Vu _ _) (by simp [maxLen];omega) (by omega) ?_;intro o' j1 j2 j3;simp only[Nat.zero_add,List.nil_append]at j1 j2 ⊢;refine xx ?_;exact ZP (hk o' j1 j2)
theorem Zca {l:List Zn}(v:Value)(hv:Zj Zbb 4 h v l)(hl:l.length≤1000)(hk:∀h' r,PH.le h h'→Zj Zbb 4 h' r l→K r L h'):Zb prog 82 [v] L h K:=by
 have hx:=hv;obtain⟨a,ca,rfl,hna,hca,h0,_⟩:=hx.open;refine ZR func82 rfl (rs:=[_]) rfl rfl ZW (by kernel_rfl) rfl rfl ?_;refine xx ?_
 cases ha:a.isNone with
 | true =>
  have ha':a=none:=by simpa using ha
  subst ha';have hl0:l.length=0:=by have:=h0 rfl;omega
  have hx':l=[]:=List.eq_nil_of_length_eq_zero hl0;subst hx';refine xx ?_;exact ZP (hk h _ (PH.le_refl h) (Zj.nil V5 h))
 | false =>
  refine xx ?_;refine Z0 fun b1 nb1 zb1=>?_;(try simp only[ZU]at nb1);refine xx ?_;refine Z2 (t:=28) (e:=153) (sz:=4) (bytes:=32) (by kernel_rfl) Zcn rfl rfl rfl rfl (by decide) [] L (some (b1,0)) 0 [] ⟨Nat.le_refl _,Nat.zero_le _⟩ rfl (Src.known hx.s) (news:=l.flatMap Zbb) (Z1 V5 l) (Uo Zxu l) (by simp [maxLen];omega) (by omega) ?_;intro o' j1 j2 j3;simp only[Nat.zero_add,List.nil_append]at j1 j2 ⊢;refine xx ?_;exact YT (e:=153) (sz:=4) (n:=l.length) j1 (Z1 V5 l) (by omega) j2 fun h' le sl=>ZP (hk h' _ le (Zj.pub hx.len sl))
theorem JV {l:List Zg}(v:Value)(hv:Zj Yx 3 h v l)(hl:l.length≤34000)(hk:∀h' r,PH.le h h'→Zj Yx 3 h' r l→K r L h'):Zb prog 83 [v] L h K:=by
 have hx:=hv;obtain⟨a,ca,rfl,hna,hca,h0,_⟩:=hx.open;refine ZR func83 rfl (rs:=[_]) rfl rfl ZW (by kernel_rfl) rfl rfl ?_;refine xx ?_
 cases ha:a.isNone with
 | true =>
  have ha':a=none:=by simpa using ha
  subst ha';have hl0:l.length=0:=by have:=h0 rfl;omega
  have hx':l=[]:=List.eq_nil_of_length_eq_zero hl0;subst hx';refine xx ?_;exact ZP (hk h _ (PH.le_refl h) (Zj.nil Yn h))
 | false =>
  refine xx ?_;refine Z0 fun b1 nb1 zb1=>?_;(try simp only[ZU]at nb1);refine xx ?_;refine Z2 (t:=29) (e:=156) (sz:=3) (bytes:=24) (by kernel_rfl) Ud rfl rfl rfl rfl (by decide) [] L (some (b1,0)) 0 [] ⟨Nat.le_refl _,Nat.zero_le _⟩ rfl (Src.known hx.s) (news:=l.flatMap Yx) (Z1 Yn l) (Uo JL l) (by simp [maxLen];omega) (by omega) ?_;intro o' j1 j2 j3;simp only[Nat.zero_add,List.nil_append]at j1 j2 ⊢;refine xx ?_;exact YT (e:=156) (sz:=3) (n:=l.length) j1 (Z1 Yn l) (by omega) j2 fun h' le sl=>ZP (hk h' _ le (Zj.pub hx.len sl))
theorem JU {l:List QM}(v:Value)(hv:Zj Wk 33 h v l)(hm:∀x∈l,Zu h x)(hl:l.length≤1000)(hk:∀o,okO o l.length→apO o L h→K (ovs o l.length) (oent 125 33 o (l.flatMap Wk) L) h):Zb prog 84 [v] L h K:=by
 have hx:=hv;obtain⟨a,ca,rfl,hna,hca,h0,_⟩:=hx.open;refine ZR func84 rfl (rs:=[_]) rfl rfl ZW (by kernel_rfl) rfl rfl ?_;refine xx ?_
 cases ha:a.isNone with
 | true =>
  have ha':a=none:=by simpa using ha
  subst ha';have hl0:l.length=0:=by have:=h0 rfl;omega
  have hx':l=[]:=List.eq_nil_of_length_eq_zero hl0;subst hx';refine xx ?_;exact ZP (hk none rfl trivial)
 | false =>
  refine xx ?_;refine Z0 fun b1 nb1 zb1=>?_;(try simp only[ZU]at nb1);refine xx ?_;refine Z2 (t:=30) (e:=125) (sz:=33) (bytes:=296) (by kernel_rfl) Ycp rfl rfl rfl rfl (by decide) [] L (some (b1,0)) 0 [] ⟨Nat.le_refl _,Nat.zero_le _⟩ rfl (Src.known hx.s) (news:=l.flatMap Wk) (Z1 Z6 l) (fun u hu=>by obtain⟨a,hq,hb⟩:=List.mem_flatMap.1 hu;exact Yaq (hm a hq) u hb) (by simp [maxLen];omega) (by omega) ?_;intro o' j1 j2 j3;simp only[Nat.zero_add,List.nil_append]at j1 j2 ⊢;refine xx ?_;exact ZP (hk o' j1 j2)
theorem Zct {l:List QS}(v:Value)(hv:Zw h v l)(hl:l.length≤1000)(hk:∀o,okO o l.length→apO o L h→K (ovs o l.length) (oent 31 1 o (vsL l) L) h):Zb prog 86 [v] L h K:=by
 have hx:=hv;obtain⟨a,ca,rfl,hna,hca,h0,_⟩:=hx.open;refine ZR func86 rfl (rs:=[_]) rfl rfl ZW (by kernel_rfl) rfl rfl ?_;refine xx ?_
 cases ha:a.isNone with
 | true =>
  have ha':a=none:=by simpa using ha
  subst ha';have hl0:l.length=0:=by have:=h0 rfl;omega
  have hx':l=[]:=List.eq_nil_of_length_eq_zero hl0;subst hx';refine xx ?_;exact ZP (hk none rfl trivial)
 | false =>
  refine xx ?_;refine Z0 fun b1 nb1 zb1=>?_;(try simp only[ZU]at nb1);refine xx ?_;refine Z2 (t:=32) (e:=31) (sz:=1) (bytes:=24) (by kernel_rfl) Yfo rfl rfl rfl rfl (by decide) [] L (some (b1,0)) 0 [] ⟨Nat.le_refl _,Nat.zero_le _⟩ rfl (Src.known hx.s) (news:=vsL l) (by simp [vsL]) (fun u hu=>by obtain⟨q,hq,rfl⟩:=List.mem_map.1 hu;exact Zah (hv.d q hq)) (by simp [maxLen];omega) (by omega) ?_;intro o' j1 j2 j3;simp only[Nat.zero_add,List.nil_append]at j1 j2 ⊢;refine xx ?_;exact ZP (hk o' j1 j2)
theorem Yif {i j w m m':Nat}(hm:m<w)(hm':m'<w)(hij:i≠j):i*w+m≠j*w+m':=fun e=>by
 rcases Nat.lt_or_gt_of_ne hij with c|c
 ·have:=Nat.mul_le_mul_right w (show i+1≤j from c);rw[Nat.succ_mul]at this;omega
 ·have:=Nat.mul_le_mul_right w (show j+1≤i from c);rw[Nat.succ_mul]at this;omega
theorem WA {i n w m:Nat}(hi:i<n)(hm:m<w):i*w+m<n*w:=by
 have:=Nat.mul_le_mul_right w (show i+1≤n from hi);rw[Nat.succ_mul]at this;omega
theorem Wd {α:Type}{f:α→List Value}{w:Nat}(hf:∀a,(f a).length=w)(z:α)(l:List α){i m:Nat}(hi:i<l.length)(hm:m<w){u:Value}{a':α}(ha:f a'=(f (gr z l i)).set m u):(l.flatMap f).set (i*w+m) u=(l.set i a').flatMap f:=by
 apply List.ext_getElem?;intro n;obtain⟨j,m',rfl,hm'⟩:∃j m',n=j*w+m'∧m'<w:=⟨n/w,n%w,by rw[Nat.mul_comm,Nat.div_add_mod],Nat.mod_lt _ (by omega)⟩
 rw[UB hf _ j m' hm',List.getElem?_set,UB hf _ j m' hm',List.getElem?_set];by_cases e:i=j
 ·subst e;have hll:i*w+m<(l.flatMap f).length:=by rw[Z1 hf];exact WA hi hm
  rw[if_pos rfl,if_pos hi];show _=(f a')[m']?;rw[ha,List.getElem?_set,Yc hi];by_cases e2:m=m'
  ·subst e2;rw[if_pos rfl,if_pos hll,if_pos rfl,if_pos (by rw[hf];exact hm)]
  ·rw[if_neg (by omega),if_neg e2,List.getElem?_eq_getElem hi]
   rfl
 ·rw[if_neg (Yif hm hm' e),if_neg e]
theorem Yq {α:Type}{f:α→List Value}{w:Nat}(hf:∀a,(f a).length=w)(z:α)(l:List α){i m:Nat}(hi:i<l.length)(hm:m<w){u:Value}(hu:(f (gr z l i))[m]?=some u)(K:Value→Prop)(t:Zo K):VE (l.flatMap f) (i*w+m) K t=K u :=
 Zkf (by rw[UB hf l i m hm,List.getElem?_eq_getElem hi,← Yc (z:=z) hi];exact hu)
theorem Z3 {e sz:Nat}(o:Option (Nat×Nat))(xs:List Value){L L':Own}(hp:L.Perm L'):(oent e sz o xs L).Perm (oent e sz o xs L'):=by
 cases o with
 | none=>exact hp
 | some p=>exact List.Perm.cons _ hp
theorem Zpq {e sz e2 sz2:Nat}{o o2:Option (Nat×Nat)}{xs ys:List Value}{x y:Zl}{L:Own}{h:PH}:Za (oent e sz o xs (oent e2 sz2 o2 ys (x::y::L))) h (oent e sz o xs (oent e2 sz2 o2 ys L)) h:=by
 have p1:(x::y::oent e sz o xs (oent e2 sz2 o2 ys L)).Perm (oent e sz o xs (x::y::oent e2 sz2 o2 ys L)):=Ye [x,y];have p2:=Z3 (e:=e) (sz:=sz) o xs (Ye (e:=e2) (sz:=sz2) (o:=o2) (xs:=ys) [x,y] (L:=L));exact(Za.perm h (p1.trans p2).symm).trans ((Za.tail _ _ _).trans (Za.tail _ _ _))
def Ydb (h:PH)(q:List QS):Prop:=∀p∈q,Ints h .u8 p.1 p.2
def Wn (h:PH)(q:List QM):Prop:=∀x∈q,Zu h x
def noMX (s:Zf):Zf:={ s with members:=[],exit:=[] }
structure Zv (s:Zf):Prop where
 p:s.purses.length≤1000
 m:s.members.length≤1000
 e:s.entry.length≤1000
 x:s.exit.length≤1000
 o:s.pool.length≤1000
 d:s.dues.length≤34000
 t:s.motions.length≤1000
 k:s.marks.length≤1000
 r:s.ring.length≤1000
 v:∀m∈s.motions,m.yes.length≤1000∧m.no.length≤1000
 b:∀b∈s.ring,b.length≤1000
abbrev setM (u:SV)(m:Value):SV:=⟨u.p,m,u.e,u.x,u.o,u.d,u.t,u.k,u.r⟩
abbrev Yfm (u:SV)(m x:Value):SV:=⟨u.p,m,u.e,x,u.o,u.d,u.t,u.k,u.r⟩
theorem Zux {s:Zf}(v:SV)(hs:Zp h v s)(few:Zv s)
    (hk:∀(h':PH) (u:SV) (o ox:Option (Nat×Nat)),PH.le h h'→okO o s.members.length→okO ox s.exit.length→Zp h' (Yfm u (.slice none 0 0) (.slice none 0 0)) (noMX s)→K (stV s (Yfm u (ovs o s.members.length) (ovs ox s.exit.length))) (oent 3 1 ox (s.exit.map (.int .i64)) (oent 100 6 o (s.members.flatMap YE) L)) h'):Zb prog 21 [stV s v] L h K:=by
  obtain⟨pa,pc,ma,mc,ea,ec,xa,xc,oa,oc,da,dc,ta,tc,ka,kc,ra,rc,rfl⟩:=hs.slices;have fm:=few.m;have fp:=few.p;have fe:=few.e;have fx:=few.x;have fo:=few.o;have fd:=few.d;have ft:=few.t;have fk:=few.k;have fr:=few.r;obtain⟨ql,q1,q2,q3⟩:=hs.t;obtain⟨rl,r1,r2⟩:=hs.r;have q1':Zj Wk 33 h (.slice ta s.motions.length tc) ql:=q1;have r1':Zw h (.slice ra s.ring.length rc) rl:=r1;have hql:ql.length=s.motions.length:=by rw[← q2,List.length_map]
  have hrl:rl.length=s.ring.length:=by rw[← r2];simp [xsL]
  refine ZR func21 rfl (rs:=[_]) rfl rfl ZW (by kernel_rfl) rfl rfl ?_;refine xx ?_;refine Z0 fun b1 nb1 zb1=>?_;(try simp only[ZU]at nb1);refine xx ?_;refine Z0 fun b2 nb2 zb2=>?_;(try simp only[ZU]at nb2);refine xx ?_;refine Zb.ap (Ja _ hs.p (by omega) fun h1 v1 le1 i1 ap=>?_);simp only[Ap]at ap;obtain⟨a12,a11,_⟩:=ap;obtain⟨pa1,pc1,rfl,_⟩:=i1.open;refine xx ?_;refine Zbs _ (hs.m.up le1) (by omega) fun om ok1 am1=>?_;have m2:apB om b2:=am1.head;have m1:apB om b1:=(ZY am1).head;simp -dsimp -implicitDefEqProofs (disch:=first|with_reducible assumption|omega) [go_sem,ZS m1,ZQ m1];refine Ym (.tk 0 (.tk 3 (.tkl 1 (.tkl 4 (.o1 2 (.tk 6 (.o1 5 (.o2 7 (.tk 8 (.o2 9 (.fin) (.nil))) (.nil)) (.nil))) (.nil)))))) (by kernel_rfl) (by kernel_rfl) _ (Za.refl _ _) ?_;simp -dsimp -implicitDefEqProofs (disch:=first|with_reducible assumption|omega) [go_sem,ZS m1,ZQ m1];refine Zb.ap (Zpz _ (hs.e.up le1) (by omega) fun h2 v2 le2 i2 ap=>?_);obtain⟨a22,a21,_⟩:=Ap.oent ap;obtain⟨ea1,ec1,rfl,_⟩:=i2.open;refine xkp (Za.forget le2) ?_;simp -dsimp -implicitDefEqProofs (disch:=first|with_reducible assumption|omega) [go_sem,ZS m1,ZQ m1];refine JO _ (hs.x.up (le1.trans le2)) (by omega) fun ox okx amx=>?_;have amx0:=YP amx;have x2:apB ox b2:=amx0.head;have x1:apB ox b1:=(ZY amx0).head;obtain⟨xa1,xc1,exx,_⟩:=Z8 okx;rw[exx]
  first
  | refine xkp ((Za.oent _ _ _ _ _ _).trans (Za.forget le2)) ?_
  | refine xkp (Za.oent _ _ _ _ _ _) ?_
  | skip
  simp -dsimp -implicitDefEqProofs (disch:=first|with_reducible assumption|omega) [go_sem,ZS x1,ZQ x1,ZS m1,ZQ m1];refine Ym (.tk 0 (.tk 3 (.tkl 1 (.tkl 4 (.o1 2 (.tk 6 (.o1 5 (.o2 7 (.tk 8 (.o2 9 (.fin) (.nil))) (.nil)) (.nil))) (.nil)))))) (by kernel_rfl) (by kernel_rfl) _ (Za.refl _ _) ?_;simp -dsimp -implicitDefEqProofs (disch:=first|with_reducible assumption|omega) [go_sem,ZS x1,ZQ x1,ZS m1,ZQ m1];have le13:=le1.trans le2;refine Zb.ap (Zca _ (hs.o.up le13) (by omega) fun h4 v4 le4 i4 ap=>?_);obtain⟨a42,a41,_⟩:=Ap.oent (Ap.oent ap);obtain⟨oa1,oc1,rfl,_⟩:=i4.open;refine xkp (Za.forget le4) ?_;simp -dsimp -implicitDefEqProofs (disch:=first|with_reducible assumption|omega) [go_sem,ZS x1,ZQ x1,ZS m1,ZQ m1];have le14:=le13.trans le4;refine Zb.ap (JV _ (hs.d.up le14) (by omega) fun h5 v5 le5 i5 ap=>?_);obtain⟨a52,a51,_⟩:=Ap.oent (Ap.oent ap);obtain⟨da1,dc1,rfl,_⟩:=i5.open
  first
  | refine xkp (Za.forget (le4.trans le5)) ?_
  | skip
  simp -dsimp -implicitDefEqProofs (disch:=first|with_reducible assumption|omega) [go_sem,ZS x1,ZQ x1,ZS m1,ZQ m1];have le15:=le14.trans le5;refine JU _ (q1'.up le15) (fun x hx=>(q3 x hx).up le15) (by omega) fun ot ok2 at0'=>?_;rw[hql]at ok2 ⊢;have at1:=YP (YP at0');have t2:apB ot b2:=at1.head;have t1:apB ot b1:=(ZY at1).head
  replace at1:=ZY (ZY at1)
  simp -dsimp -implicitDefEqProofs (disch:=first|with_reducible assumption|omega) [go_sem,ZS t1,ZQ t1,ZS x1,ZQ x1,ZS m1,ZQ m1];obtain⟨mta,mtc,emt,_⟩:=Z8 ok2;rw[emt];refine xx ?_;obtain⟨vv,hvv⟩:∃vv:SV,vv=⟨.slice pa1 s.purses.length pc1,ovs om s.members.length,.slice ea1 s.entry.length ec1,.slice xa1 s.exit.length xc1,.slice oa1 s.pool.length oc1,.slice da1 s.dues.length dc1,.slice mta s.motions.length mtc,.slice ka s.marks.length kc,.slice ra s.ring.length rc⟩:=⟨_,rfl⟩
  refine YJ (γ:=Nat×List QM×PH) (0,ql,h5)
    (fun q=>q.1≤s.motions.length∧q.2.1.map (fun x=>x.2.2)=s.motions∧Wn q.2.2 q.2.1∧PH.le h5 q.2.2∧q.2.2 b2=noC∧q.2.2 b1=noC∧apO ot L q.2.2)
    (fun q=>[(36,.int .i64 q.1),(35,.int .i64 s.motions.length),(1,.pointer (some ⟨b1,0,none⟩)),(2,.pointer (some ⟨b2,0,none⟩))])
    (fun q=>oent 125 33 ot (q.2.1.flatMap Wk) (oent 3 1 ox (s.exit.map (.int .i64)) (oent 100 6 om (s.members.flatMap YE) (⟨b2,34,stC VL Zjg,41⟩::⟨b1,34,stC s vv,41⟩::L)))) (fun q=>q.2.2) (fun q=>s.motions.length-q.1) ?_ ?_ ?_ ?_
  · exact⟨Nat.zero_le _,q2,fun x hx=>(q3 x hx).up le15,PH.le_refl _,a52,a51,at1⟩
  · simp [Ent,List.lookup,Wv]
  · subst hvv;exact Za.refl _ _
  rintro⟨k,ql',h6⟩ ⟨k1,k2,k3,k4,k5,k6,k8⟩;simp only at k1 k2 k3 k4 k5 k6 k8 ⊢;have hql':ql'.length=s.motions.length:=by rw[← k2,List.length_map]
  subst hvv;by_cases c1:k<s.motions.length
  · obtain ⟨bt,cap,rfl⟩ : ∃ bt cap,ot = some (bt,cap) := by
      cases ot with
      | none=>have:s.motions.length=0:=ok2;omega
      | some p=>exact⟨_,_,rfl⟩
    simp only[ovs,Value.slice.injEq]at emt;obtain⟨rfl,_,rfl⟩:=emt;have hbt:h6 bt=noC:=k8.2;have n21:bt≠b2:=t2;have n11:bt≠b1:=t1;obtain⟨qk,hqk⟩:∃qk,qk=gr Z4 ql' k:=⟨_,rfl⟩
    have hmem:qk∈ql':=by rw[hqk,Yc (by omega)];exact List.getElem_mem _
    have hmk:Zu h6 qk:=k3 qk hmem;have hmdm:qk.2.2∈s.motions:=by rw[← k2];exact List.mem_map.2 ⟨qk,hmem,rfl⟩
    obtain⟨vy,vn,md⟩:=qk;have hy:=hmk.y;have hn:=hmk.n;simp only at hy hn;obtain⟨ya,yc,rfl,_⟩:=hy.open;obtain⟨na,nc,rfl,_⟩:=hn.open;simp only at hmdm;have fv:=few.v md hmdm;have g31:∀(K:Value→Prop) (t:Zo K),VE (ql'.flatMap Wk) (k*33+31) K t=K (.slice ya md.yes.length yc):=fun K t=>Yq Z6 Z4 ql' (by omega) (by decide) (by rw[← hqk];rfl) K t;have g32:∀(K:Value→Prop) (t:Zo K),VE (ql'.flatMap Wk) (k*33+32) K t=K (.slice na md.no.length nc):=fun K t=>Yq Z6 Z4 ql' (by omega) (by decide) (by rw[← hqk];rfl) K t;have hfl:(ql'.flatMap Wk).length=s.motions.length*33:=by rw[Z1 Z6,hql']
    rw[Z7];simp -dsimp -implicitDefEqProofs (disch:=first|with_reducible assumption|omega) [go_sem,ZS x1,ZQ x1,ZS m1,ZQ m1];refine Ym (.tk 0 (.tk 2 (.tk 3 (.tk 5 (.tk 6 (.tk 8 (.tk 13 (.tk 15 (.tkl 1 (.tkl 7 (.tk 9 (.tk 10 (.tkl 11 (.o1 4 (.o1 12 (.o1 14 (.tk 16 (.tk 17 (.tkl 18 (.o1 19 (.tk 20 (.tk 21 (.o2 22 (.tk 23 (.tk 24 (.o2 25 (.fin) (.nil)))) (.nil)))) (.nil))))) (.nil)) (.o1 14 (.tk 16 (.tk 17 (.tkl 18 (.o1 12 (.o1 19 (.tk 20 (.tk 21 (.o2 22 (.tk 23 (.tk 24 (.o2 25 (.fin) (.nil)))) (.nil)))) (.nil)) (.nil))))) (.nil))) (.o1 12 (.o1 4 (.o1 14 (.tk 16 (.tk 17 (.tkl 18 (.o1 19 (.tk 20 (.tk 21 (.o2 22 (.tk 23 (.tk 24 (.o2 25 (.fin) (.nil)))) (.nil)))) (.nil))))) (.nil)) (.o1 14 (.tk 16 (.tk 17 (.tkl 18 (.o1 4 (.o1 19 (.tk 20 (.tk 21 (.o2 22 (.tk 23 (.tk 24 (.o2 25 (.fin) (.nil)))) (.nil)))) (.nil)) (.o1 19 (.tk 20 (.tk 21 (.o1 4 (.o2 22 (.tk 23 (.tk 24 (.o2 25 (.fin) (.nil)))) (.nil)) (.o2 22 (.o1 4 (.tk 23 (.tk 24 (.o2 25 (.fin) (.nil)))) (.nil)) (.nil))))) (.nil)))))) (.nil))) (.o1 14 (.tk 16 (.tk 17 (.tkl 18 (.o1 4 (.o1 12 (.o1 19 (.tk 20 (.tk 21 (.o2 22 (.tk 23 (.tk 24 (.o2 25 (.fin) (.nil)))) (.nil)))) (.nil)) (.nil)) (.o1 12 (.o1 4 (.o1 19 (.tk 20 (.tk 21 (.o2 22 (.tk 23 (.tk 24 (.o2 25 (.fin) (.nil)))) (.nil)))) (.nil)) (.o1 19 (.tk 20 (.tk 21 (.o1 4 (.o2 22 (.tk 23 (.tk 24 (.o2 25 (.fin) (.nil)))) (.nil)) (.o2 22 (.o1 4 (.tk 23 (.tk 24 (.o2 25 (.fin) (.nil)))) (.nil)) (.nil))))) (.nil))) (.nil)))))) (.nil))))))))))))))))) (by kernel_rfl) (by kernel_rfl) _ (Za.refl _ _) ?_;simp -dsimp -implicitDefEqProofs (disch:=first|with_reducible assumption|omega) [go_sem,ZS x1,ZQ x1,ZS m1,ZQ m1,g31,g32]
    have hset:∀a ac b bc,((ql'.flatMap Wk).set (k*33+31) (.slice a md.yes.length ac)).set (k*33+32) (.slice b md.no.length bc)=(ql'.set k (.slice a md.yes.length ac,.slice b md.no.length bc,md)).flatMap Wk:=fun a ac b bc=>by
      rw[Wd Z6 Z4 ql' (i:=k) (m:=31) (a':=(.slice a md.yes.length ac,.slice na md.no.length nc,md)) (by omega) (by decide) (by rw[← hqk];rfl)];rw[Wd Z6 Z4 _ (i:=k) (m:=32) (a':=(.slice a md.yes.length ac,.slice b md.no.length bc,md)) (by rw[List.length_set];omega) (by decide) (by rw[Yc (by rw[List.length_set];omega),List.getElem_set_self];rfl),List.set_set]
    have hmd:s.motions[k]?=some md:=by
      rw[← k2,List.getElem?_map,List.getElem?_eq_getElem (by omega),← Yc (z:=Z4) (by omega),← hqk]
      rfl
    have hmap:∀(a b:Value),(ql'.set k (a,b,md)).map (fun x=>x.2.2)=s.motions:=fun a b=>by
      rw[List.map_set,k2];apply List.ext_getElem?;intro n;rw[List.getElem?_set];split
      · rename_i e;subst e
        first
        | exact hmd.symm
        | (split
           · exact hmd.symm
           · rw[List.getElem?_eq_none (by omega)])
      · rfl
    repeat' first
      | refine Yf ?_ ?_
      | simp -dsimp -implicitDefEqProofs (disch:=first|with_reducible assumption|omega) [go_sem,ZS x1,ZQ x1,ZS m1,ZQ m1,g31,g32]
    all_goals
      refine Zb.ap (Wg _ hy (by omega) fun h7 v7 le7 i7 ap=>?_);obtain⟨y1,y2⟩:=ap;obtain⟨y3,y4,_⟩:=Ap.oent (Ap.oent y2);obtain⟨wa,wc,rfl,_⟩:=i7.open
      first
      | refine xkp (Za.forget le7) ?_
      | skip
    repeat' first
      | refine Yf ?_ ?_
      | simp -dsimp -implicitDefEqProofs (disch:=first|with_reducible assumption|omega) [go_sem,ZS x1,ZQ x1,ZS m1,ZQ m1,g31,g32]
      | refine xkp (Za.forget le7) ?_
    all_goals
      refine Zb.ap (Wg _ (hn.up le7) (by omega) fun h8 v8 le8 i8 ap=>?_);obtain⟨z1,z2⟩:=ap;obtain⟨z3,z4,_⟩:=Ap.oent (Ap.oent z2);obtain⟨ua,uc,rfl,_⟩:=i8.open
      first
      | refine xkp (Za.forget (le7.trans le8)) ?_
      | skip
    repeat' first
      | refine Yf ?_ ?_
      | simp -dsimp -implicitDefEqProofs (disch:=first|with_reducible assumption|omega) [go_sem,ZS x1,ZQ x1,ZS m1,ZQ m1,g31,g32]
      | refine xkp (Za.forget (le7.trans le8)) ?_
    all_goals
      have hsum:(ql'.map fun a=>(Wk a).length).sum=s.motions.length*33:=by rw[← List.length_flatMap,hfl]
      have hk33:=WA (n:=s.motions.length) (w:=33) c1 (m:=32) (by decide);refine⟨by omega,by omega,k+1,ql'.set k (.slice wa md.yes.length wc,.slice ua md.no.length uc,md),h8,⟨by omega,hmap _ _,fun x hx=>?_,k4.trans (le7.trans le8),z3,z4,⟨k8.1,z1⟩⟩,by omega,by simp [Ent,List.lookup],?_⟩
      · rcases List.mem_or_eq_of_mem_set hx with hx|rfl
        · exact(k3 x hx).up (le7.trans le8)
        · exact⟨i7.up le8,i8,hmk.ok⟩
      · rw[hset];exact Za.refl _ _
  have hkl:k=s.motions.length:=by omega
  subst hkl;simp -dsimp -implicitDefEqProofs (disch:=first|with_reducible assumption|omega) [go_sem,ZS t1,ZQ t1,ZS x1,ZQ x1,ZS m1,ZQ m1];refine WL (e:=125) (sz:=33) (n:=s.motions.length) ok2 (by rw[Z1 Z6,hql']) (by omega) k8 fun h7 le7 sl7=>?_;have le17:PH.le h h7:=(le15.trans k4).trans le7;have kq2:=k2;have kq4:=k4;refine Zb.ap (Wg _ (hs.k.up le17) (by omega) fun h8 v8 le8 i8 ap=>?_);obtain⟨a82,a81,_⟩:=Ap.oent (Ap.oent ap);obtain⟨ka1,kc1,rfl,_⟩:=i8.open;have rmot:Zj Wk 33 h8 (.slice mta s.motions.length mtc) ql':=by
    have:=Zj.pub (f:=Wk) (w:=33) (l:=ql') (o:=ot) Z6 (by rw[hql'];exact sl7);rw[hql',emt]at this;exact this.up le8
  have imot:Wn h8 ql':=fun x hx=>(k3 x hx).up (le7.trans le8);have le18:=le17.trans le8;simp -dsimp -implicitDefEqProofs (disch:=first|with_reducible assumption|omega) [go_sem,ZS x1,ZQ x1,ZS m1,ZQ m1];refine Zct _ (r1'.up le18) (by omega) fun orr ok3 ar=>?_;rw[hrl]at ok3 ⊢;have ar1:=YP (YP ar);have rb2:apB orr b2:=ar1.head;have rb1:apB orr b1:=(ZY ar1).head
  replace ar1:=ZY (ZY ar1)
  simp -dsimp -implicitDefEqProofs (disch:=first|with_reducible assumption|omega) [go_sem,ZS rb1,ZQ rb1,ZS x1,ZQ x1,ZS m1,ZQ m1];obtain⟨rta,rtc,ert,_⟩:=Z8 ok3;rw[ert];refine xx ?_;refine YJ (γ:=Nat×List QS×PH) (0,rl,h8)
    (fun q=>q.1≤s.ring.length∧xsL q.2.1=s.ring∧Ydb q.2.2 q.2.1∧PH.le h8 q.2.2∧q.2.2 b2=noC∧q.2.2 b1=noC∧apO orr L q.2.2)
    (fun q=>[(75,.int .i64 q.1),(74,.int .i64 s.ring.length),(1,.pointer (some ⟨b1,0,none⟩)),(2,.pointer (some ⟨b2,0,none⟩))])
    (fun q=>oent 31 1 orr (vsL q.2.1) (oent 3 1 ox (s.exit.map (.int .i64)) (oent 100 6 om (s.members.flatMap YE) (⟨b2,34,stC VL Zjg,41⟩::⟨b1,34,stC s ⟨.slice pa1 s.purses.length pc1,ovs om s.members.length,.slice ea1 s.entry.length ec1,.slice xa1 s.exit.length xc1,.slice oa1 s.pool.length oc1,.slice da1 s.dues.length dc1,.slice mta s.motions.length mtc,.slice ka1 s.marks.length kc1,.slice rta s.ring.length rtc⟩,41⟩::L)))) (fun q=>q.2.2) (fun q=>s.ring.length-q.1) ?_ ?_ ?_ ?_
  · exact⟨Nat.zero_le _,r2,fun x hx=>(r1'.d x hx).up le18,PH.le_refl _,a82,a81,ar1⟩
  · simp [Ent,List.lookup,Wv]
  · exact Za.refl _ _
  rintro⟨k,rl',h9⟩ ⟨k1,k2,k3,k4,k5,k6,k8⟩;simp only at k1 k2 k3 k4 k5 k6 k8 ⊢;have hrl':rl'.length=s.ring.length:=by rw[← k2];simp [xsL]
  by_cases c2:k<s.ring.length
  · obtain ⟨bt,cap,rfl⟩ : ∃ bt cap,orr = some (bt,cap) := by
      cases orr with
      | none=>have:s.ring.length=0:=ok3;omega
      | some p=>exact⟨_,_,rfl⟩
    simp only[ovs,Value.slice.injEq]at ert;obtain⟨rfl,_,rfl⟩:=ert;have hbt:h9 bt=noC:=k8.2;have n21:bt≠b2:=rb2;have n11:bt≠b1:=rb1;obtain⟨qk,hqk⟩:∃qk,qk=gs rl' k:=⟨_,rfl⟩
    have hmem:qk∈rl':=by rw[hqk,Zba (by omega)];exact List.getElem_mem _
    have hy:=k3 qk hmem;have hbm:qk.2∈s.ring:=by rw[← k2];exact List.mem_map.2 ⟨qk,hmem,rfl⟩
    have fv:=few.b _ hbm;obtain⟨vy,by'⟩:=qk;simp only at hy hbm fv;obtain⟨ya,yc,rfl,_⟩:=hy.open;have g1:∀(K:Value→Prop) (t:Zo K),VE (vsL rl') k K t=K (.slice ya by'.length yc):=fun K t=>Zkf (by rw[vsL,List.getElem?_map,List.getElem?_eq_getElem (by omega),← Zba (by omega),← hqk];rfl);have hfl:(vsL rl').length=s.ring.length:=by simp [vsL,hrl']
    rw[Z7];simp -dsimp -implicitDefEqProofs (disch:=first|with_reducible assumption|omega) [go_sem,ZS x1,ZQ x1,ZS m1,ZQ m1];refine Ym (.tk 0 (.tk 2 (.tk 3 (.tk 5 (.tkl 1 (.tkl 4 (.tk 6 (.tkl 7 (.o1 8 (.tk 9 (.o2 10 (.fin) (.nil))) (.nil)))))))))) (by kernel_rfl) (by kernel_rfl) _ (Za.refl _ _) ?_;simp -dsimp -implicitDefEqProofs (disch:=first|with_reducible assumption|omega) [go_sem,ZS x1,ZQ x1,ZS m1,ZQ m1,g1]
    repeat' first
      | refine Yf ?_ ?_
      | simp -dsimp -implicitDefEqProofs (disch:=first|with_reducible assumption|omega) [go_sem,ZS x1,ZQ x1,ZS m1,ZQ m1,g1]
    all_goals
      refine Zb.ap (Wg _ hy (by omega) fun h10 v10 le10 i10 ap=>?_);obtain⟨y1,y2⟩:=ap;obtain⟨y3,y4,_⟩:=Ap.oent (Ap.oent y2);obtain⟨wa,wc,rfl,_⟩:=i10.open
      first
      | refine xkp (Za.forget le10) ?_
      | skip
    repeat' first
      | refine Yf ?_ ?_
      | simp -dsimp -implicitDefEqProofs (disch:=first|with_reducible assumption|omega) [go_sem,ZS x1,ZQ x1,ZS m1,ZQ m1,g1]
      | refine xkp (Za.forget le10) ?_
    all_goals
      refine⟨by rw[hfl];exact c2,k+1,rl'.set k (.slice wa by'.length wc,by'),h10,⟨by omega,?_,fun x hx=>?_,k4.trans le10,y3,y4,⟨k8.1,y1⟩⟩,by omega,by simp [Ent,List.lookup],?_⟩
      · rw[← k2,xsL,xsL,List.map_set];apply List.ext_getElem?;intro n;rw[List.getElem?_set];split
        · rename_i e;subst e;have:(rl'.map (fun x:QS=>x.2))[k]?=some by':=by
            rw[List.getElem?_map,List.getElem?_eq_getElem (by omega),← Zba (by omega),← hqk];rfl
          first
          | exact this.symm
          | (split
             · exact this.symm
             · rename_i hh;exfalso;apply hh;simp;omega)
        · rfl
      · rcases List.mem_or_eq_of_mem_set hx with hx|rfl
        · exact(k3 x hx).up le10
        · exact i10
      · rw[vsL,vsL,List.map_set,Z7,Nat.mul_one];exact Za.refl _ _
  have hkl:k=s.ring.length:=by omega
  subst hkl;simp -dsimp -implicitDefEqProofs (disch:=first|with_reducible assumption|omega) [go_sem,ZS rb1,ZQ rb1,ZS rb2,ZQ rb2,ZS x1,ZQ x1,ZS m1,ZQ m1,ZS x2,ZQ x2,ZS m2,ZQ m2];have le10:=Wa (h:=h9) k8 (vsL rl');have sl10:=Vc (h:=h9) (sz:=1) (n:=s.ring.length) (o:=orr) (xs:=vsL rl') ok3 (by simp [vsL,hrl']) (by omega);have le8':PH.le h8 (Jq h9 orr (vsL rl')):=k4.trans le10;have hst:Zw (Jq h9 orr (vsL rl')) (.slice rta s.ring.length rtc) rl':=by
    rw[← ert];rw[← hrl']at sl10 ⊢;exact Zlk sl10 fun p hp=>(k3 p hp).up le10
  have le5':=kq4.trans (le7.trans (le8.trans le8'));have le4':=le5.trans le5';have le2':=le4.trans le4';have hS:Zp (Jq h9 orr (vsL rl')) (Yfm ⟨.slice pa1 s.purses.length pc1,.slice none 0 0,.slice ea1 s.entry.length ec1,.slice xa1 s.exit.length xc1,.slice oa1 s.pool.length oc1,.slice da1 s.dues.length dc1,.slice mta s.motions.length mtc,.slice ka1 s.marks.length kc1,.slice rta s.ring.length rtc⟩ (.slice none 0 0) (.slice none 0 0)) (noMX s) :=
    { ok:=⟨hs.ok.p,hs.ok.u,hs.ok.n⟩,p:=i1.up (le2.trans le2'),m:=Zj.nil Z9 _,mo:=(fun x hx=>by cases hx),e:=i2.up le2',x:=YO _ .i64,o:=i4.up le4',oo:=hs.oo,d:=i5.up le5',dd:=hs.dd,t:=⟨ql',rmot.up le8',kq2,fun x hx=>(imot x hx).up le8'⟩,k:=i8.up le8',r:=⟨rl',hst,k2⟩ }
  exact⟨_,_,(Y1 orr (vsL rl') _ h9 (by decide)).trans Zpq,by rw[← exx];exact hk _ ⟨.slice pa1 s.purses.length pc1,.slice none 0 0,.slice ea1 s.entry.length ec1,.slice none 0 0,.slice oa1 s.pool.length oc1,.slice da1 s.dues.length dc1,.slice mta s.motions.length mtc,.slice ka1 s.marks.length kc1,.slice rta s.ring.length rtc⟩ om ox (le18.trans le8') ok1 okx hS⟩
open Go.RowKit
theorem Ygm {P:Program}{t ty e sz:Nat}{ti:TI}(ht:P.underlying t=some (.slice e))(hti:tI P e=some ti)(hz1:ti.size=sz){L:Own}{h:PH}{K:PK}{b o n cap m:Nat}{src:Value}{news:List Value}
  (hs:Src L h src m news) (hnl:news.length=m*sz) (hmn:m≤n) (hk:G4 L b o news fun L'=>K (.int .i64 m) L' h) :
  Zep P (Builtin.copy_ #[t,t] ty #[.slice (some ⟨b,o,none⟩) n cap,src]) L h K:=by
 intro W hg;obtain⟨L',W',hK,hrun,hgd,hkp,hm,hbm⟩:=Ve (P:=P) hg hk;obtain⟨i,d,zv,g1,g2,g3,rfl⟩:=WO hti;simp only at hz1;refine⟨.int .i64 m,L',h,W',?_,hK,⟨hgd,Zs.mono hkp (fun x hx=>by simp at hx;subst hx;exact hbm),fun x hx=>Or.inl (by rw[← hm];exact List.mem_map_of_mem hx)⟩⟩;have hmin:Nat.min m n=m:=Nat.min_eq_left hmn;rcases hs with⟨rfl,rfl,rfl⟩ | ⟨a,c,rfl,hcells⟩
 ·simp [Builtin.copy_,run_underlying ht,Builtin.lenOf,Builtin.firstCells,sizeOf,typeInfo,g1,hrun,goInt]
 ·have hl:=run_loadCells_list (P:=P) W a news (hcells W hg);rw[hnl,← hz1]at hl;simp [Builtin.copy_,run_underlying ht,Builtin.lenOf,Builtin.firstCells,sizeOf,typeInfo,g1,hmin,hl,hrun,goInt]
def NeB (a b:Nat):Prop:=a≠b
theorem NeB.symm {a b:Nat}(h:NeB a b):NeB b a:=Ne.symm h
section
variable {L:Own} {K:Value→Prop}
@[go_sem ↓] theorem Yfa (b b' ty o c:Nat)(cs:List Value)(hne:NeB b' b):G9 (⟨b',ty,cs,c⟩::L) b o K=G9 L b o K:=Zcm b b' ty o c cs hne
@[go_sem ↓] theorem Yjp (b b' ty o c:Nat)(cs vs:List Value)(K:Own→Prop)(hne:NeB b' b)(t:Zo K):G4 (⟨b',ty,cs,c⟩::L) b o vs K t=G4 L b o vs fun L'=>K (⟨b',ty,cs,c⟩::L'):=Zfm b b' ty o c cs vs K hne
end
end Go.X
