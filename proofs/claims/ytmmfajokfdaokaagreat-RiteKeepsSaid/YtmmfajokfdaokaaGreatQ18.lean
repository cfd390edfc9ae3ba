/- Lemmas and contracts. Conditions: as each says. -/
import Derived.Test.YtmmfajokfdaokaaGreatQ14
import Derived.Test.YtmmfajokfdaokaaGreatQ17
set_option linter.unusedVariables false
set_option linter.unusedSimpArgs false
set_option maxHeartbeats 12800000
set_option maxRecDepth 20000
namespace Go.X
open Go.RowKit Go.Proofs Go.Bl Go.Proofs.Tryz
variable {L:Own} {h:PH} {K:PK}
theorem Zhb {e sz:Nat}(o:Option (Nat×Nat))(xs:List Value)(M:Own):oent e sz o xs M=oent e sz o xs []++M:=by
 cases o<;>rfl
theorem Wf {e sz:Nat}{o o2:Option (Nat×Nat)}{xs:List Value}{M:Own}{h:PH}(ha:apO o (oent e sz o2 xs M) h):apO o M h:=by
 cases o with
 | none=>trivial
 | some p=>exact⟨YN ha.1,ha.2⟩
theorem Zis {e sz e2 sz2:Nat}{o1 o2:Option (Nat×Nat)}{cs1 cs2:List Value}{M:Own}{h:PH}(h1:apO o1 M h)(h2:apO o2 (oent e sz o1 cs1 []++M) h):apO o1 (oent e2 sz2 o2 cs2 M) h∧apO o2 M h:=by
 cases o1 with
 | none=>exact⟨trivial,h2⟩
 | some p =>
  cases o2 with
  | none=>exact⟨h1,trivial⟩
  | some q =>
   have:p.1≠q.1:=h2.1.1;exact⟨⟨⟨fun e=>this e.symm,h1.1⟩,h1.2⟩,⟨h2.1.2,h2.2⟩⟩
theorem Zon {xs:List Int}(v:Value)(hx:Ints h .u64 v xs)(hl:xs.length≤100000)(hk:∀o,okO o xs.length→apO o L h→K (ovs o xs.length) (oent 22 1 o (xs.map (.int .u64)) L) h):Zb prog 38 [v] L h K:=by
 have ox:=hx.open;obtain⟨a,ca,rfl,hna,hca,h0,hcx⟩:=ox;refine ZR func38 rfl (rs:=[_]) rfl rfl ZY (by kernel_rfl) rfl rfl ?_;refine xx ?_
 cases ha:a.isNone with
 | true =>
  have ha':a=none:=by simpa using ha
  subst ha';have hl0:xs.length=0:=by have:=h0 rfl;omega
  have hx':xs=[]:=List.eq_nil_of_length_eq_zero hl0;subst hx';refine xx ?_;exact ZO (hk none rfl trivial)
 | false =>
  refine xx ?_;refine Z6 fun b1 nb1 zb1=>?_;(try simp only[ZU]at nb1);refine xx ?_;refine Z8 (t:=25) (e:=22) (sz:=1) (bytes:=8) (z:=[.int .u64 0]) (by kernel_rfl) U3 rfl rfl rfl rfl (by decide) [] L (some (b1,0)) 0 [] ⟨Nat.le_refl _,Nat.zero_le _⟩ rfl (Src.known hx.1) (by simp) (WC _ _) (by simp [maxLen];omega) (by omega) ?_;intro o' j1 j2 j3;simp only[Nat.zero_add,List.nil_append]at j1 j2 ⊢;refine xx ?_;exact ZO (hk o' j1 j2)
theorem Zar (p:Ze)(ok:Zj p)(b:Int)(hb:0≤b∧b≤18446744073709551615)(hk:K (.int .u64 (if Ym p then WW p b else 0)) L h):Zb prog 118 [VQ p,.int .u64 b] L h K:=by
 refine ZR func118 rfl (rs:=[_]) rfl rfl ZY (by kernel_rfl) rfl rfl ?_;refine xx ?_;refine Z6 fun b1 nb1 zb1=>?_;(try simp only[ZU]at nb1);refine xx ?_;refine JZ p ok ?_;refine xx ?_;refine Z6 fun b2 nb2 zb2=>?_;(try simp only[ZU]at nb2);refine xx ?_
 cases hr:Ym p with
 | false =>
  rw[hr]at hk;refine xx ?_;exact ZP (ZP (ZO hk))
 | true =>
  rw[hr]at hk;refine xx ?_;refine Zmf p b (Gn hr) hb ?_;refine xx ?_;exact ZP (ZP (ZO hk))
structure ZB where
 own:Int
 bal:Int
def WU:ZB:=⟨0,0⟩
def Wdt (f:ZB):List Value:=[.int .i64 f.own,.int .u64 f.bal]
theorem Zrs (f:ZB):(Wdt f).length=2:=rfl
structure Wjt (f:ZB):Prop where
 o : -9223372036854775808≤f.own∧f.own≤9223372036854775807
 b:0≤f.bal∧f.bal≤18446744073709551615
structure ZA where
 par:Ze
 most:Int
 purses:List Int
 founders:List ZB
abbrev War (g:ZA)(pv fv:Value):List Value:=[.int .u64 g.par.inc,.int .u64 g.par.maxEff,.int .u64 g.par.floor,.int .u64 g.par.cap,.int .u64 g.par.up,.int .u64 g.par.down,.int .u64 g.par.bias,.int .u64 g.par.quot,.int .u64 g.par.biasEm,.int .u64 g.par.quotEm,.int .u64 g.par.recover,.int .u64 g.par.scoreCap,.int .u64 g.par.rate,.int .u64 g.par.bond,.int .i64 g.par.delay,.int .i64 g.par.streak,.int .i64 g.par.boost,.int .i64 g.par.absent,.int .i64 g.par.burn,.int .i64 g.par.churn,.int .i64 g.par.wait,.int .i64 g.par.poll,.int .i64 g.par.enact,.int .i64 g.par.quorum,.int .u64 g.most,pv,fv]
abbrev Ytd (g:ZA)(pv fv:Value):Value := .agg #[.int .u64 g.par.inc,.int .u64 g.par.maxEff,.int .u64 g.par.floor,.int .u64 g.par.cap,.int .u64 g.par.up,.int .u64 g.par.down,.int .u64 g.par.bias,.int .u64 g.par.quot,.int .u64 g.par.biasEm,.int .u64 g.par.quotEm,.int .u64 g.par.recover,.int .u64 g.par.scoreCap,.int .u64 g.par.rate,.int .u64 g.par.bond,.int .i64 g.par.delay,.int .i64 g.par.streak,.int .i64 g.par.boost,.int .i64 g.par.absent,.int .i64 g.par.burn,.int .i64 g.par.churn,.int .i64 g.par.wait,.int .i64 g.par.poll,.int .i64 g.par.enact,.int .i64 g.par.quorum,.int .u64 g.most,pv,fv]
structure ZD (h:PH)(pv fv:Value)(g:ZA):Prop where
 ok:Zj g.par
 m:0≤g.most∧g.most≤18446744073709551615
 p:Ints h .u64 pv g.purses
 f:Zh Wdt 2 h fv g.founders
 fo:∀x∈g.founders,Wjt x
theorem ZD.up {h h':PH}(le:PH.le h h'){pv fv:Value}{g:ZA}(hg:ZD h pv fv g):ZD h' pv fv g:=⟨hg.ok,hg.m,hg.p.up le,hg.f.up le,hg.fo⟩
def Zxq (g:ZA)(f:ZB):Bool:=wi f.own 0 ((g.purses.length:Int)-1)&&decide (g.par.floor<f.bal)&&decide (f.bal≤g.par.cap)
def Zez (p:Ze)(f:ZB):Zc:=⟨f.bal,WW p f.bal,0,0,f.own,2⟩
def VN (g:ZA):List Int:=g.purses++g.founders.map ZB.bal
def Zjg (g:ZA):Bool:=Ym g.par&&decide (g.most≤4611686018427387904)&&wi g.purses.length 1 64&&decide (g.founders.length≤128)&&g.founders.all (Zxq g)&&decide (tot (VN g)≤g.most)
def Zjb (g:ZA):Zf:=⟨g.par,g.most,tot (VN g),0,0,0,0,0,false,g.purses,g.founders.map (Zez g.par),[],[],[],[],[],List.replicate 16 0,[]⟩
def Yev (g:ZA):Zf:=if Zjg g then Zjb g else Ui
theorem Zpt (p:Ze)(ok:Zj p)(hr:Ym p=true)(f:ZB)(fo:Wjt f)(hk:K (Yeu (Zez p f)) L h):Zb prog 39 [VQ p,.agg #[.int .i64 f.own,.int .u64 f.bal]] L h K:=by
 have fb:=fo.b;refine ZR func39 rfl (rs:=[_]) rfl rfl ZY (by kernel_rfl) rfl rfl ?_;refine xx ?_;refine Z6 fun b1 nb1 zb1=>?_;(try simp only[ZU]at nb1);refine xx ?_;refine Z6 fun b2 nb2 zb2=>?_;(try simp only[ZU]at nb2);refine xx ?_;refine Z6 fun b3 nb3 zb3=>?_;(try simp only[ZU]at nb3);refine xx ?_;refine Yr (.tk 0 (.tk 3 (.tk 7 (.tkl 1 (.tkl 2 (.tkl 4 (.tkl 8 (.o1 5 (.tk 6 (.tk 9 (.o2 10 (.fin) (.nil)))) (.nil))))))))) (by kernel_rfl) (by kernel_rfl) _ (Za.refl _ _) ?_;refine xx ?_;refine Zar p ok f.bal fb ?_;rw[hr];refine xx ?_;exact ZP (ZP (ZP (ZO hk)))
theorem Zmo (hk:∀h' v,PH.le h h'→Ints h' .u8 v (List.replicate 16 0)→K v L h'):Zb prog 41 [] L h K:=by
 refine ZR func41 rfl (rs:=[_]) rfl rfl ZY (by kernel_rfl) rfl rfl ?_;refine xx ?_;refine Zcc _ (by decide) (by decide) ?_;rw[show G9 128=16 by decide];refine xx ?_;refine J5 (e:=5) (z:=.int .u8 0) (by kernel_rfl) Zmw rfl rfl .i64 .i64 16 (by decide) (by decide) (by decide) ?_;refine Z6 fun b1 nb1 zb1=>?_;(try simp only[ZU]at nb1);refine xx ?_;exact⟨L,_,Vy b1 _ _ _ [] _ h (by decide),hk _ _ (Zkv zb1 _) (UJ (n:=16) (Vt (o:=some (b1,16)) ⟨Nat.le_refl _,by simp [maxLen]⟩ rfl (by decide)))⟩
def Zvz (g:ZA)(k:Nat):List Value:=((g.founders.take k).map (Zez g.par)).flatMap YK
def Zwb (g:ZA)(k:Nat):List Value:=(g.purses++(g.founders.take k).map ZB.bal).map (.int .u64)
theorem Yil {g:ZA}{k:Nat}(hk:k≤g.founders.length):(Zvz g k).length=k*6:=by
 rw[Zvz,Z3 Yb];simp [hk]
theorem Yib {g:ZA}{k:Nat}(hk:k≤g.founders.length):(Zwb g k).length=(g.purses.length+k)*1:=by simp [Zwb,hk]
theorem Zzx {g:ZA}{k:Nat}(hk:k<g.founders.length):Zvz g (k+1)=Zvz g k++YK (Zez g.par (gr WU g.founders k)):=by
 rw[Zvz,List.take_succ_eq_append_getElem hk,Yl hk,Zvz,List.map_append,List.flatMap_append];simp only[List.map_cons,List.map_nil,List.flatMap_cons,List.flatMap_nil,List.append_nil]
theorem Ydk {g:ZA}{k:Nat}(hk:k<g.founders.length):Zwb g (k+1)=Zwb g k++[.int .u64 (gr WU g.founders k).bal]:=by
 rw[Zwb,List.take_succ_eq_append_getElem hk,Yl hk,Zwb,List.map_append (f:=ZB.bal),← List.append_assoc,List.map_append]
 rfl
theorem GK {p:Ze}(h1:1≤p.inc)(hp:Zj p){b:Int}(hb:0≤b∧b≤18446744073709551615):0≤WW p b∧WW p b≤18446744073709551615:=by
 have hm:=hp.w p.maxEff (by simp [Yw]);have h2:=Int.emod_nonneg b (show p.inc≠0 by omega);have h3:=Int.emod_lt_of_pos b (show 0<p.inc by omega);have h4:b%p.inc≤b:=by
  have h5:=Int.ediv_nonneg hb.1 (show 0≤p.inc by omega);have h6:=Int.mul_nonneg (show 0≤p.inc by omega) h5;rw[Int.emod_def];omega
 unfold WW;omega
theorem Ypj {p:Ze}(h1:1≤p.inc)(hp:Zj p){f:ZB}(fo:Wjt f):Zg (Zez p f):=by
 have hw:=GK h1 hp fo.b;have hb:=fo.b;have ho:=fo.o;refine⟨fun z hz=>?_,fun z hz=>?_⟩
 ·simp only[Zez,List.mem_cons,List.not_mem_nil,or_false]at hz;rcases hz with rfl|rfl|rfl
  ·exact hb
  ·exact hw
  ·decide
 ·simp only[Zez,List.mem_cons,List.not_mem_nil,or_false]at hz;rcases hz with rfl|rfl|rfl
  ·decide
  ·exact ho
  ·decide
theorem Zyp {g:ZA}(pv fv:Value)(hg:ZD h pv fv g)(np:g.purses.length≤1000)(hk:∀h' u,PH.le h h'→Zs h' u (Yev g)→K (.tuple #[stV (Yev g) u,.int .i64 (if Zjg g then 0 else 240)]) L h'):Zb prog 11 [Ytd g pv fv] L h K:=by
 have no:Zjg g=false→∀h',PH.le h h'→K (.tuple #[stV Ui Zge,.int .i64 240]) L h':=fun e h' le=>by
  have:=hk h' Zge le (by rw[Yev,e];exact V5 h');rw[Yev,e]at this;exact this
 have ok:=hg.ok;have gm:=hg.m;have hp:=hg.p;have hpw:=hp.word;obtain⟨pa,pc,rfl,_⟩:=hp.open;have hf:=hg.f;obtain⟨fa,fc,rfl,_,hfl,_,hfd⟩:=hf.open;refine ZR func11 rfl (rs:=[_,_]) rfl rfl ZY (by kernel_rfl) rfl rfl ?_;refine xx ?_;refine Z6 fun b1 nb1 zb1=>?_;(try simp only[ZU]at nb1);refine xx ?_;refine Z6 fun b2 nb2 zb2=>?_;(try simp only[ZU]at nb2);refine xx ?_;refine Vc g.par ok ?_
 cases q1:Ym g.par with
 | false =>
  have:=no (by simp only[Zjg,q1,Bool.false_and]) h (PH.le_refl h);refine xx ?_;exact ZP (ZP (ZO this))
 | true =>
 by_cases q2:4611686018427387904<g.most
 ·have:=no (by simp only[Zjg,decide_eq_false (p:=g.most≤4611686018427387904) (by omega),Bool.and_false,Bool.false_and]) h (PH.le_refl h);refine xx ?_;exact ZP (ZP (ZO this))
 refine xx ?_;refine JI _ _ _ ?_
 cases q3:wi g.purses.length 1 64 with
 | false =>
  have:=no (by simp only[Zjg,q3,Bool.and_false,Bool.false_and]) h (PH.le_refl h);refine xx ?_;exact ZP (ZP (ZO this))
 | true =>
 have q3':=wi_iff.1 q3;by_cases q4:128<g.founders.length
 ·have:=no (by simp only[Zjg,decide_eq_false (p:=g.founders.length≤128) (by omega),Bool.and_false,Bool.false_and]) h (PH.le_refl h);refine xx ?_;exact ZP (ZP (ZO this))
 refine xx ?_;refine Zon _ hp (by omega) fun o0 k0 a0=>?_;have m1:apB o0 b1:=(Z2 a0).head;have e0:g.purses.map (.int .u64)=Zwb g 0:=by simp [Zwb]
 rw[e0];simp -dsimp -implicitDefEqProofs (disch:=first|with_reducible assumption|omega) [go_sem,ZQ m1];refine YZ (γ:=Nat×Option (Nat×Nat)×Option (Nat×Nat)) (0,o0,none)
  (fun q=>q.1≤g.founders.length∧okO q.2.1 (g.purses.length+q.1)∧okO q.2.2 q.1∧apO q.2.1 (oent 73 6 q.2.2 (Zvz g q.1) (⟨b2,39,stC Ui Zge,41⟩::⟨b1,28,War g (.slice pa g.purses.length pc) (.slice fa g.founders.length fc),27⟩::L)) h∧apO q.2.2 (⟨b2,39,stC Ui Zge,41⟩::⟨b1,28,War g (.slice pa g.purses.length pc) (.slice fa g.founders.length fc),27⟩::L) h∧∀j,j<q.1→Zxq g (gr WU g.founders j)=true)
  (fun q=>[(39,.int .i64 q.1),(38,.int .i64 g.founders.length),(37,.slice fa g.founders.length fc),(4,ovs q.2.1 (g.purses.length+q.1)),(5,ovs q.2.2 q.1),(1,.pointer (some ⟨b1,0,none⟩)),(2,.pointer (some ⟨b2,0,none⟩))])
  (fun q=>oent 22 1 q.2.1 (Zwb g q.1) (oent 73 6 q.2.2 (Zvz g q.1) (⟨b2,39,stC Ui Zge,41⟩::⟨b1,28,War g (.slice pa g.purses.length pc) (.slice fa g.founders.length fc),27⟩::L))) (fun _=>h) (fun q=>g.founders.length-q.1) ?_ ?_ ?_ ?_
 ·exact⟨Nat.zero_le _,k0,rfl,a0,trivial,fun j hj=>by simp only at hj;omega⟩
 ·simp [Ent,List.lookup,WM,ovs]
 ·exact Za.refl _ _
 rintro⟨k,o1,o2⟩ ⟨i1,i2,i3,i4,i5,i6⟩;simp only at i1 i2 i3 i4 i5 i6 ⊢;have i4':=Wf i4;have m1b:apB o1 b1:=(Z2 i4').head;have m1a:apB o1 b2:=i4'.head;have m2b:apB o2 b1:=(Z2 i5).head;have m2a:apB o2 b2:=i5.head;by_cases c1:k<g.founders.length
 ·have hfo:=hg.fo (gr WU g.founders k) (by rw[Yl c1];exact List.getElem_mem c1);have hfb:=hfo.b;have bad:Zxq g (gr WU g.founders k)=false→K (.tuple #[stV Ui Zge,.int .i64 240]) L h:=fun e=>no (by simp only[Zjg,Wz WU (Zxq g) g.founders c1 e,Bool.and_false,Bool.false_and]) h (PH.le_refl h);simp -dsimp -implicitDefEqProofs (disch:=first|with_reducible assumption|omega) [go_sem,↓Zam WU (by decide) hfd,Wdt];refine Z6 fun b7 nb7 zb7=>?_;(try simp only[ZU]at nb7);have n7:=YN (YN nb7);simp only[ZU]at n7;obtain⟨n72,n71,_⟩:=n7;simp -dsimp -implicitDefEqProofs (disch:=first|with_reducible assumption|omega) [go_sem,Wdt,ZQ m1b,ZQ m2b];refine JI _ _ _ ?_
  cases q5:wi (gr WU g.founders k).own 0 ((g.purses.length:Int)-1) with
  | false =>
   have:=bad (by simp only[Zxq,q5,Bool.false_and]);simp -dsimp -implicitDefEqProofs (disch:=first|with_reducible assumption|omega) [go_sem,ZT m1a,ZT m2a,ZQ m1a,ZQ m2a];exact ZP (We (We (ZP (ZP (ZO this)))))
  | true =>
  by_cases q6:(gr WU g.founders k).bal≤g.par.floor
  ·have:=bad (by simp only[Zxq,decide_eq_false (p:=g.par.floor<(gr WU g.founders k).bal) (by omega),Bool.and_false,Bool.false_and]);simp -dsimp -implicitDefEqProofs (disch:=first|with_reducible assumption|omega) [go_sem,ZT m1a,ZT m2a,ZQ m1a,ZQ m2a,ZQ m1b,ZQ m2b];exact ZP (We (We (ZP (ZP (ZO this)))))
  by_cases q7:g.par.cap<(gr WU g.founders k).bal
  ·have:=bad (by simp only[Zxq,decide_eq_false (p:=(gr WU g.founders k).bal≤g.par.cap) (by omega),Bool.and_false]);simp -dsimp -implicitDefEqProofs (disch:=first|with_reducible assumption|omega) [go_sem,ZT m1a,ZT m2a,ZQ m1a,ZQ m2a,ZQ m1b,ZQ m2b];exact ZP (We (We (ZP (ZP (ZO this)))))
  have yes:Zxq g (gr WU g.founders k)=true:=by
   simp only[Zxq,q5,Bool.true_and,Bool.and_eq_true,decide_eq_true_eq];omega
  simp -dsimp -implicitDefEqProofs (disch:=first|with_reducible assumption|omega) [go_sem,ZQ m1a,ZQ m2a,ZQ m1b,ZQ m2b];refine Z6 fun b8 nb8 zb8=>?_;(try simp only[ZU]at nb8);have n8:=YN (YN nb8.2);simp only[ZU]at n8;obtain⟨n82,n81,_⟩:=n8;refine xx ?_;refine Z8 (t:=25) (e:=22) (sz:=1) (bytes:=8) (by kernel_rfl) U3 rfl rfl rfl rfl (by decide) [_,_] _ o1 (g.purses.length+k) (Zwb g k) i2 (Yib i1) (Src.own List.mem_cons_self) (m:=1) (news:=[.int .u64 (gr WU g.founders k).bal]) rfl (by intro u hu;simp only[List.mem_singleton]at hu;subst hu;rfl) (by simp [maxLen];omega) (by omega) ?_;intro o1' j1 j2 j3;have j4:=Z2 (Z2 j2);have j4':=Wf j4;have m1b':apB o1' b1:=(Z2 j4').head;have m1a':apB o1' b2:=j4'.head;simp -dsimp -implicitDefEqProofs (disch:=first|with_reducible assumption|omega) [go_sem,ZQ m1b',ZQ m2b];refine Zpt g.par ok q1 _ hfo ?_;refine xx ?_;refine Z6 fun b9 nb9 zb9=>?_;(try simp only[ZU]at nb9);refine xx ?_;rw[Zhb (e:=22) o1'];refine Z8 (t:=31) (e:=73) (sz:=6) (bytes:=48) (by kernel_rfl) Yja rfl rfl rfl rfl (by decide) (_::_::_::oent 22 1 o1' _ []) _ o2 k (Zvz g k) i3 (Yil i1) (Src.own List.mem_cons_self) (m:=1) (news:=YK (Zez g.par (gr WU g.founders k))) rfl (by intro u hu;simp only[YK,List.mem_cons,List.not_mem_nil,or_false]at hu;rcases hu with rfl|rfl|rfl|rfl|rfl|rfl<;>rfl) (by simp [maxLen];omega) (by omega) ?_;intro o2' l1 l2 l3;have l4:=Z2 (Z2 (Z2 l2));have l5:=Zis (e2:=73) (sz2:=6) (cs2:=Zvz g (k+1)) j4' l4;refine xx ?_;refine⟨k+1,o1',o2',⟨by omega,by rw[← Nat.add_assoc];exact j1,l1,l5.1,l5.2,fun j hj=>?_⟩,by omega,by simp [Ent,List.lookup,Nat.add_assoc],?_⟩
  ·by_cases e:j=k
   ·subst e;exact yes
   ·exact i6 j (by omega)
  ·rw[Zzx c1,Ydk c1,← Zhb];exact(Za.tail _ _ _).trans ((Za.tail _ _ _).trans (Za.tail _ _ _))
 ·have hkl:k=g.founders.length:=by omega
  subst hkl;have fall:=Zgx WU (Zxq g) g.founders i6;have eA:Zwb g g.founders.length=(VN g).map (.int .u64):=by simp [Zwb,VN]
  have lA:(VN g).length=g.purses.length+g.founders.length:=by simp [VN]
  obtain⟨ma,mc,em,_⟩:=Yh i3;rw[eA,em];refine xx ?_;refine Vq (n:=g.purses.length+g.founders.length) i2 (by simp [lA]) (by omega) i4 fun h1 le1 sl1=>?_
  have iA:Ints h1 .u64 (ovs o1 (g.purses.length+g.founders.length)) (VN g):=⟨by rw[lA];exact sl1,fun z hz=>by
   rw[show IntKind.u64.min=0 by decide,show IntKind.u64.max=18446744073709551615 by decide];rcases List.mem_append.1 hz with hz|hz
   ·have:=hp.2 z hz
    rwa [show IntKind.u64.min=0 by decide,show IntKind.u64.max=18446744073709551615 by decide]at this
   ·obtain⟨f,hf1,rfl⟩:=List.mem_map.1 hz
    exact(hg.fo f hf1).b⟩
  refine Zb.ap (WZ _ iA fun ap=>?_);have i5':=Zce i5 ap;have ap2:=Ap.oent ap;simp only[Ap]at ap2;obtain⟨p2,p1,_⟩:=ap2;have no1:Zjg g=false→K (.tuple #[stV Ui Zge,.int .i64 240]) L h1:=fun e=>no e h1 le1;by_cases c2:tot (VN g)≤18446744073709551615
  ·rw[YR c2];by_cases c3:g.most<tot (VN g)
   ·have:=no1 (by simp only[Zjg,decide_eq_false (p:=tot (VN g)≤g.most) (by omega),Bool.and_false]);simp -dsimp -implicitDefEqProofs (disch:=first|with_reducible assumption|omega) [go_sem,ZT m2a,ZQ m2a,ZQ m2b];exact We (ZP (ZP (ZO this)))
   have yes:Zjg g=true:=by
    simp only[Zjg,q1,q3,fall,Bool.true_and,Bool.and_true,Bool.and_eq_true,decide_eq_true_eq];omega
   simp -dsimp -implicitDefEqProofs (disch:=first|with_reducible assumption|omega) [go_sem,ZT m2a,ZQ m2a,ZQ m2b];refine Yr (.tk 0 (.tk 2 (.tk 4 (.tk 5 (.tk 8 (.tkl 1 (.tkl 3 (.tkl 6 (.o1 7 (.o1 9 (.tk 10 (.o2 11 (.tk 12 (.fin)) (.nil))) (.nil)) (.nil)))))))))) (by kernel_rfl) (by kernel_rfl) _ (Za.refl _ _) ?_;simp -dsimp -implicitDefEqProofs (disch:=first|with_reducible assumption|omega) [go_sem,ZT m2a,ZQ m2a,ZQ m2b];refine Zb.ap (GD _ (hp.up le1) (by omega) fun h2 r2 le2 ir2 ap=>?_);have i5'':=Zce i5' ap;have ap2:=Ap.oent ap;simp only[Ap]at ap2;obtain⟨s2,s1,_⟩:=ap2;obtain⟨ra2,rc2,rfl,_⟩:=ir2.open;refine xkp (Za.forget le2) ?_;simp -dsimp -implicitDefEqProofs (disch:=first|with_reducible assumption|omega) [go_sem,ZT m2a,ZQ m2a,ZQ m2b];refine Zb.ap (Zmo fun h3 r3 le3 ir3 ap=>?_);have i5''':=Zce i5'' ap;have ap2:=Ap.oent ap;simp only[Ap]at ap2;obtain⟨u2,u1,_⟩:=ap2;obtain⟨ra3,rc3,rfl,_⟩:=ir3.open;refine xkp (Za.forget (le2.trans le3)) ?_;simp -dsimp -implicitDefEqProofs (disch:=first|with_reducible assumption|omega) [go_sem,ZT m2a,ZQ m2a,ZQ m2b];have eK:Zvz g g.founders.length=(g.founders.map (Zez g.par)).flatMap YK:=by simp [Zvz]
   have lK:(g.founders.map (Zez g.par)).length=g.founders.length:=by simp
   have eR:Yev g=Zjb g:=by rw[Yev,yes];rfl
   rw[eR,yes]at hk;rw[eK];refine YE (e:=73) (n:=g.founders.length) i3 (by rw[Z3 Yb,lK]) (by omega) i5''' fun h4 le4 sl4=>?_;rw[em]at sl4;have hz0:0≤tot (VN g):=Yy fun i=>by
    rcases Nat.lt_or_ge i (VN g).length with hi|hi
    ·rw[← Yx hi];have:=iA.2 _ (List.getElem_mem hi);rw[show IntKind.u64.min=0 by decide]at this;exact this.1
    ·simp [at0,List.getD_eq_getElem?_getD,List.getElem?_eq_none hi]
   have hS:Zs h4 ⟨.slice ra2 g.purses.length rc2,.slice ma g.founders.length mc,.slice none 0 0,.slice none 0 0,.slice none 0 0,.slice none 0 0,.slice none 0 0,.slice ra3 (List.replicate 16 (0:Int)).length rc3,.slice none 0 0⟩ (Zjb g):=by
    refine⟨⟨ok,fun z hz=>?_,fun z hz=>?_⟩,ir2.up (le3.trans le4),⟨Yb,by rw[Zjb,lK];exact sl4⟩,fun x hx=>?_,Yd h4 .i64,Yd h4 .i64,Zh.nil YW h4,(fun x hx=>by cases hx),Zh.nil YJ h4,(fun x hx=>by cases hx),⟨[],Zh.nil Z9 h4,rfl,fun x hx=>by cases hx⟩,ir3.up le4,⟨[],Zrt h4,rfl⟩⟩
    ·simp only[Zjb,List.mem_cons,List.not_mem_nil,or_false]at hz;omega
    ·simp only[Zjb,List.mem_cons,List.not_mem_nil,or_false]at hz;omega
    ·obtain⟨f,hf1,rfl⟩:=List.mem_map.1 hx;exact Ypj (Gn q1) ok (hg.fo f hf1)
   exact ZP (ZP (ZO (hk h4 _ ((le1.trans le2).trans (le3.trans le4)) hS)))
  ·rw[WG c2];have:=no1 (by simp only[Zjg,decide_eq_false (p:=tot (VN g)≤g.most) (by omega),Bool.and_false]);simp -dsimp -implicitDefEqProofs (disch:=first|with_reducible assumption|omega) [go_sem,ZT m2a,ZQ m2a,ZQ m2b];exact We (ZP (ZP (ZO this)))
open Go.RowKit Go.Bl Go.ChangeShapes Go.WideShapes Go.ChangeAt Go.Joins Go.Proofs Go.Proofs.Tryz
section
variable {H:Type} {enc:TypeId×Value→H} {W:World} {base b0:Nat} {spare:Nat→Bool} {held:Bool} {r:Reach} {v:Value} {d:DataW H} {p:List MemPlace}
set_option maxRecDepth 100000 in
theorem Ycq (n:Nat)(cs:List Value)(x:DataW H×List MemPlace)(hf:DataW.trod enc prog W base spare held n 105 cs=some x):∃q:ZB,cs=Wdt q∧Wjt q:=by
 obtain⟨xs,m,rfl,_,hl,fldl,fld⟩:=DataW.trod_struct underlying105 hf;rw[show prog.cellsOf 105=2 by kernel_rfl]at hl;have ki:prog.cellsOf 3=1:=by kernel_rfl
 have ku:prog.cellsOf 22=1:=by kernel_rfl
 have sfld:∀i,i<2→(xs[i]?).isSome=true:=fun i hi=>by
  have:xs.length=2:=fldl;simp;omega
 obtain⟨z0,a0,r0⟩:=VG (off:=0) underlying3 ki (fld 0 _ rfl) (sfld 0 (by decide));obtain⟨z1,a1,r1⟩:=VG (off:=1) underlying22 ku (fld 1 _ rfl) (sfld 1 (by decide));obtain⟨g0,cs,rfl⟩:=List.exists_cons_of_length_eq_add_one hl;obtain⟨g1,cs,rfl⟩:=List.exists_cons_of_length_eq_add_one (show cs.length=0+1 by simpa using hl);obtain rfl:cs=[]:=List.eq_nil_of_length_eq_zero (by simpa using hl);simp only[List.getElem?_cons_zero,List.getElem?_cons_succ,Option.some.injEq]at a0 a1;subst a0;subst a1;rw[Ykw,Ykn]at r0;rw[Ycn,Zyi]at r1;exact⟨⟨z0,z1⟩,rfl,⟨r0,r1⟩⟩
set_option maxRecDepth 100000 in
theorem Ycr (n:Nat)(cs:List Value)(x:DataW H×List MemPlace)(hf:DataW.trod enc prog W base spare held n 28 cs=some x):∃(pv fv:Value) (g:ZA),cs=War g pv fv∧ZD (wh W) pv fv g:=by
 obtain⟨xs,m,rfl,_,hl,fldl,fld⟩:=DataW.trod_struct underlying28 hf;rw[show prog.cellsOf 28=27 by kernel_rfl]at hl;have ku:prog.cellsOf 22=1:=by kernel_rfl
 have sfld:∀i,i<4→(xs[i]?).isSome=true:=fun i hi=>by
  have:xs.length=4:=fldl;simp;omega
 have hp:DataW.trod enc prog W base spare held m 24 ((cs.drop 0).take (prog.cellsOf 24))=xs[0]?:=fld 0 _ rfl;rw[show prog.cellsOf 24=24 by kernel_rfl]at hp;obtain⟨y0,hy0⟩:=Option.isSome_iff_exists.1 (sfld 0 (by decide));rw[hy0]at hp;obtain⟨q,hq,qok⟩:=Ycy _ _ _ hp;obtain⟨z1,a1,r1⟩:=VG (off:=24) underlying22 ku (fld 1 _ rfl) (sfld 1 (by decide));obtain⟨_,f0⟩:=Yvc (off:=25) (by omega) (by kernel_rfl) (fld 2 _ rfl) (sfld 2 (by decide));obtain⟨_,f1⟩:=Yvc (off:=26) (by omega) (by kernel_rfl) (fld 3 _ rfl) (sfld 3 (by decide));obtain⟨s0,w0⟩:=Zgw (k:=.u64) underlying25 underlying22 (by kernel_rfl) f0;obtain⟨s1,w1,o1⟩:=Zun WU underlying26 (by kernel_rfl) Zrs (by decide) Ycq f1;rw[Ycn,Zyi]at r1;refine⟨cs[25],cs[26],⟨q,z1,s0,s1⟩,?_,⟨qok,r1,w0,w1,o1⟩⟩;rw[List.drop_zero]at hq;have e1:cs=cs.take 24++cs.drop 24:=(List.take_append_drop 24 cs).symm;have e2:cs.drop 24=[.int .u64 z1,cs[25],cs[26]]:=by
  rw[List.drop_eq_getElem_cons (by omega),List.drop_eq_getElem_cons (by omega),List.drop_eq_getElem_cons (by omega),List.drop_eq_nil_of_le (by omega)];have:cs[24] = .int .u64 z1:=by
   rw[List.getElem?_eq_getElem (by omega)]at a1;exact Option.some.inj a1
  rw[this]
 have e3:cs.take 24++cs.drop 24=Jb q++[.int .u64 z1,cs[25],cs[26]]:=congr (congrArg (· ++ ·) hq) e2;exact e1.trans (e3.trans rfl)
set_option maxRecDepth 100000 in
theorem Ybt (hv:Value.okWide prog W r b0 28 v)(h:DataW.Trod enc prog W base spare held 28 v d p):∃q:(Value×Value)×ZA,v=Ytd q.2 q.1.1 q.1.2∧ZD (wh W) q.1.1 q.1.2 q.2:=by
 obtain⟨cs,rfl,_⟩:=okWide_struct underlying28 hv;obtain⟨f,hf⟩:=h;obtain⟨pv,fv,g,hc,hd⟩:=Ycr _ _ _ hf;refine⟨((pv,fv),g),?_,hd⟩;have:cs=(War g pv fv).toArray:=by
  apply Array.ext'
  simpa [Value.cells] using hc
 rw[this]
end
open Go.RowKit Go.Proofs Go.Bl Go.Proofs.Tryz
variable {L:Own} {h:PH} {K:PK}
theorem Ybp {l:List QD}{k:Nat}(hk:k<l.length):(gq l k).2∈dl l:=by rw[Zop hk];exact List.mem_map_of_mem (List.getElem_mem hk)
theorem Ynm {l:List QD}{p:Zd→Prop}(hp:∀j,j<l.length→p (gq l j).2):∀d∈dl l,p d:=by
 intro d hd;obtain⟨q,hq,rfl⟩:=List.mem_map.1 hd;obtain⟨i,hi,rfl⟩:=List.getElem_of_mem hq;have:=hp i hi
 rwa [Zop hi]at this
theorem dl_gq {l:List QD}{k:Nat}(hk:k<l.length):(dl l)[k]?=some (gq l k).2:=by rw[Zop hk];simp [dl,hk]
theorem Ya (n lo hi:Int)(hk:K (.bool (wi n lo hi)) L h):Zb prog 219 [.int .i64 n,.int .i64 lo,.int .i64 hi] L h K:=by
 unfold wi at hk;refine ZR func219 rfl (rs:=[_]) rfl rfl ZY (by kernel_rfl) rfl rfl ?_;refine xx ?_;by_cases c:lo≤n
 ·refine xx ?_;exact ZO (by simpa [c] using hk)
 ·refine xx ?_;exact ZO (by simpa [c] using hk)
theorem ZV {d:Zd}(bv:Value)(hb:Ints h .u8 bv d.bits)(f:Int)(hf:f=1∨f=2∨f=3∨f=4∨f=5∨f=6∨f=7∨f=8)(hk:K (.bool (ZX d.kind d.what f)) L h):Zb prog 220 [Wu d bv,.int .i64 f] L h K:=by
 have ob:=hb.open;obtain⟨x1,y1,rfl,_⟩:=ob;refine ZR func220 rfl (rs:=[_]) rfl rfl ZY (by kernel_rfl) rfl rfl ?_;refine xx ?_;refine Z6 fun b1 nb1 zb1=>?_;(try simp only[ZU]at nb1);refine xx ?_;by_cases k1:d.kind=1
 ·rcases hf with rfl|rfl|rfl|rfl|rfl|rfl|rfl|rfl<;>(simp -dsimp -implicitDefEqProofs (disch:=first|with_reducible assumption|omega) [go_sem];exact ZP (ZO (by simpa [ZX,k1] using hk)))
 by_cases k2:d.kind=2
 ·rcases hf with rfl|rfl|rfl|rfl|rfl|rfl|rfl|rfl<;>(simp -dsimp -implicitDefEqProofs (disch:=first|with_reducible assumption|omega) [go_sem];exact ZP (ZO (by simpa [ZX,k2] using hk)))
 by_cases k3:d.kind=3
 ·rcases hf with rfl|rfl|rfl|rfl|rfl|rfl|rfl|rfl<;>(simp -dsimp -implicitDefEqProofs (disch:=first|with_reducible assumption|omega) [go_sem];exact ZP (ZO (by simpa [ZX,k3] using hk)))
 by_cases k4:d.kind=4
 ·rcases hf with rfl|rfl|rfl|rfl|rfl|rfl|rfl|rfl<;>(simp -dsimp -implicitDefEqProofs (disch:=first|with_reducible assumption|omega) [go_sem];exact ZP (ZO (by simpa [ZX,k4] using hk)))
 by_cases k5:d.kind=5
 ·rcases hf with rfl|rfl|rfl|rfl|rfl|rfl|rfl|rfl<;>(simp -dsimp -implicitDefEqProofs (disch:=first|with_reducible assumption|omega) [go_sem];exact ZP (ZO (by simpa [ZX,k5] using hk)))
 by_cases k6:d.kind=6
 ·by_cases w1:d.what=1
  ·rcases hf with rfl|rfl|rfl|rfl|rfl|rfl|rfl|rfl<;>(simp -dsimp -implicitDefEqProofs (disch:=first|with_reducible assumption|omega) [go_sem];exact ZP (ZO (by simpa [ZX,k6,w1] using hk)))
  by_cases w2:d.what=2
  ·rcases hf with rfl|rfl|rfl|rfl|rfl|rfl|rfl|rfl<;>(simp -dsimp -implicitDefEqProofs (disch:=first|with_reducible assumption|omega) [go_sem];exact ZP (ZO (by simpa [ZX,k6,w2] using hk)))
  rcases hf with rfl|rfl|rfl|rfl|rfl|rfl|rfl|rfl<;>(simp -dsimp -implicitDefEqProofs (disch:=first|with_reducible assumption|omega) [go_sem];exact ZP (ZO (by simpa [ZX,k6,w1,w2] using hk)))
 by_cases k7:d.kind=7
 ·rcases hf with rfl|rfl|rfl|rfl|rfl|rfl|rfl|rfl<;>(simp -dsimp -implicitDefEqProofs (disch:=first|with_reducible assumption|omega) [go_sem];exact ZP (ZO (by simpa [ZX,k7] using hk)))
 refine xx ?_;exact ZP (ZO (by simpa [ZX,k1,k2,k3,k4,k5,k6,k7] using hk))
theorem YA (A:Own){o:Option (Nat×Nat)}{bs:List Int}(n:Int)(h0:0≤n)(hn:n≤9223372036854775807)(ho:okO o bs.length)(hl:bs.length≤100000)
  (hk:∀o' B,B=bs++Ye n.toNat→okO o' B.length→B.length≤bs.length+10→K (ovs o' B.length) (A++oent 5 1 o' (B.map (.int .u8)) L) h) :
  Zb prog 311 [ovs o bs.length,.int .i64 n] (A++oent 5 1 o (bs.map (.int .u8)) L) h K:=by
 obtain⟨m,rfl⟩:=Int.eq_ofNat_of_zero_le h0;have l:=VS (n:=m) (by omega);simp only[Int.toNat_natCast]at hk;refine ZR func311 rfl (rs:=[_]) rfl rfl ZY (by kernel_rfl) rfl rfl ?_;refine xx ?_;refine JF m (by omega) _ _ _ fun o1 k1 k2=>?_;refine xx ?_;refine Zal A o o1 bs (Ye m) ho k1 (WY m) (by omega) fun o' x j1 j2=>?_;refine xx ?_;have:=hk o' _ rfl j1 (by simp only[List.length_append];omega);rw[List.length_append,List.map_append]at this;exact ZP (ZO this)
@[go_sem ↓] theorem Ytt (p:Ze)(x y:Operand)(K:Value→Prop)(t:Zq K):Uj prog .eql 43 x y (VQ p) (.agg #[.int .u64 0,.int .u64 0,.int .u64 0,.int .u64 0,.int .u64 0,.int .u64 0,.int .u64 0,.int .u64 0,.int .u64 0,.int .u64 0,.int .u64 0,.int .u64 0,.int .u64 0,.int .u64 0,.int .i64 0,.int .i64 0,.int .i64 0,.int .i64 0,.int .i64 0,.int .i64 0,.int .i64 0,.int .i64 0,.int .i64 0,.int .i64 0]) K t=K (.bool (decide (p=WD))) :=
 Zxo p WD x y K t
theorem Yjs {d:Zd}(bv:Value)(hd:Zl h bv d)(kk:d.kind=1)(hk:∀h',PH.le h h'→K (.bool (ZW d)) L h'):Zb prog 106 [Wu d bv] L h K:=by
 have ob:=hd.i.open;obtain⟨x1,y1,rfl,_,hlen,_⟩:=ob;have bad:ZW d=false→K (.bool false) L h:=fun e=>by
  have:=hk h (PH.le_refl h)
  rwa [e]at this
 refine ZR func106 rfl (rs:=[_]) rfl rfl ZY (by kernel_rfl) rfl rfl ?_;refine xx ?_;refine Z6 fun b1 nb1 zb1=>?_;(try simp only[ZU]at nb1);refine xx ?_;refine Ya _ _ _ ?_
 cases c0:wi d.kind 1 7<;>refine xx ?_
 ·exact ZP (ZO (bad (by simp [ZW,c0])))
 refine Ya _ _ _ ?_
 cases c1:wi d.acct 0 63<;>refine xx ?_
 ·exact ZP (ZO (bad (by simp [ZW,c1])))
 refine Ya _ _ _ ?_
 cases c2:wi d.mem 0 127<;>refine xx ?_
 ·exact ZP (ZO (bad (by simp [ZW,c2])))
 refine Ya _ _ _ ?_
 cases c3:wi d.to 0 63<;>refine xx ?_
 ·exact ZP (ZO (bad (by simp [ZW,c3])))
 refine Ya _ _ _ ?_
 cases c4:wi d.ep 0 1073741824<;>refine xx ?_
 ·exact ZP (ZO (bad (by simp [ZW,c4])))
 refine Ya _ _ _ ?_
 cases c5:wi d.mot 0 31<;>refine xx ?_
 ·exact ZP (ZO (bad (by simp [ZW,c5])))
 by_cases c6:(d.bits.length:Int)>32
 ·simp -dsimp -implicitDefEqProofs (disch:=first|with_reducible assumption|omega) [go_sem];exact ZP (ZO (bad (by simp [ZW];omega)))
 by_cases c7:d.amt>4611686018427387904<;>refine xx ?_
 ·exact ZP (ZO (bad (by simp [ZW];omega)))
 refine ZV _ hd.i 1 (by simp) ?_;rw[(by simp [ZX,kk]:ZX d.kind d.what 1=true)];refine xx ?_;refine ZV _ hd.i 2 (by simp) ?_;rw[(by simp [ZX,kk]:ZX d.kind d.what 2=false)];by_cases z2:d.mem=0<;>refine xx ?_
 rotate_left
 ·exact ZP (ZO (bad (by simp [ZW,Yn,Yi,Z0,kk,z2])))
 refine ZV _ hd.i 3 (by simp) ?_;rw[(by simp [ZX,kk]:ZX d.kind d.what 3=true)];refine xx ?_;refine ZV _ hd.i 5 (by simp) ?_;rw[(by simp [ZX,kk]:ZX d.kind d.what 5=false)];by_cases z5:d.ep=0
 rotate_left
 ·simp -dsimp -implicitDefEqProofs (disch:=first|with_reducible assumption|omega) [go_sem];exact ZP (ZO (bad (by simp [ZW,Yn,Yi,Z0,kk,z5])))
 by_cases z6:d.bits=[]<;>refine xx ?_
 rotate_left
 ·exact ZP (ZO (bad (by simp [ZW,Yn,Yi,Z0,kk,z6])))
 refine Wx (by kernel_rfl) rfl ?_;refine xx ?_;refine Yz _ (ZV _ hd.i 4 (by simp) ⟨rfl,rfl,rfl⟩) ?_;rw[(by simp [ZX,kk]:ZX d.kind d.what 4=true)];refine xx ?_;by_cases z4:0<d.amt<;>refine xx ?_
 rotate_left
 ·exact ZP (ZO (bad (by simp [ZW,YB,wi,kk,z4])))
 refine Yz _ (ZV _ hd.i 8 (by simp) ⟨rfl,rfl,rfl⟩) ?_;rw[(by simp [ZX,kk]:ZX d.kind d.what 8=false)];by_cases z8:d.mot=0
 rotate_left
 ·simp -dsimp -implicitDefEqProofs (disch:=first|with_reducible assumption|omega) [go_sem];exact ZP (ZO (bad (by simp [ZW,Yn,Yi,Z0,kk,z8])))
 by_cases z9:d.yes=false
 rotate_left
 ·have z9':d.yes=true:=by simpa using z9
  simp -dsimp -implicitDefEqProofs (disch:=first|with_reducible assumption|omega) [go_sem,z9'];exact ZP (ZO (bad (by simp [ZW,Yn,Yi,Z0,kk,z9'])))
 simp -dsimp -implicitDefEqProofs (disch:=first|with_reducible assumption|omega) [go_sem,z9];refine Wx (by kernel_rfl) rfl ?_;refine xx ?_;refine Yz _ (ZV (d:={ d with yes:=false }) _ hd.i 6 (by simp) ⟨rfl,rfl,rfl⟩) ?_;rw[(by simp [ZX,kk]:ZX d.kind d.what 6=false)];refine xx ?_;by_cases y0:d.what=0<;>refine xx ?_
 rotate_left
 ·exact ZP (ZO (bad (by simp [ZW,Yn,Yi,Z0,kk,y0])))
 refine Yz _ (Ya _ _ _ ⟨rfl,rfl,rfl⟩) ?_
 cases c8:wi d.what 0 4
 ·exfalso;simp [wi,y0]at c8
 refine xx ?_;refine ZV (d:={ d with yes:=false }) _ hd.i 7 (by simp) ?_;rw[(by simp [ZX,kk]:ZX d.kind d.what 7=false)];refine xx ?_;obtain⟨r0,s0⟩:=wi_iff.1 c0;obtain⟨r1,s1⟩:=wi_iff.1 c1;obtain⟨r2,s2⟩:=wi_iff.1 c2;obtain⟨r3,s3⟩:=wi_iff.1 c3;obtain⟨r4,s4⟩:=wi_iff.1 c4;obtain⟨r5,s5⟩:=wi_iff.1 c5;have s6:(d.bits.length:Int)≤32:=by omega
 have s7:d.amt≤4611686018427387904:=by omega
 have e:ZW d=decide (d.par=WD):=by simp [ZW,Yn,Yi,Z0,kk,YB,wi,s6,s7,r1,r2,r3,r4,r5,s1,s2,s3,s4,s5,z2,z5,z6,z8,z9,y0,z4]
 have:=hk h (PH.le_refl h);rw[e]at this;exact ZP (ZO this)
theorem Yin {d:Zd}(bv:Value)(hd:Zl h bv d)(kk:d.kind=2)(hk:∀h',PH.le h h'→K (.bool (ZW d)) L h'):Zb prog 106 [Wu d bv] L h K:=by
 have ob:=hd.i.open;obtain⟨x1,y1,rfl,_,hlen,_⟩:=ob;have bad:ZW d=false→K (.bool false) L h:=fun e=>by
  have:=hk h (PH.le_refl h)
  rwa [e]at this
 refine ZR func106 rfl (rs:=[_]) rfl rfl ZY (by kernel_rfl) rfl rfl ?_;refine xx ?_;refine Z6 fun b1 nb1 zb1=>?_;(try simp only[ZU]at nb1);refine xx ?_;refine Ya _ _ _ ?_
 cases c0:wi d.kind 1 7<;>refine xx ?_
 ·exact ZP (ZO (bad (by simp [ZW,c0])))
 refine Ya _ _ _ ?_
 cases c1:wi d.acct 0 63<;>refine xx ?_
 ·exact ZP (ZO (bad (by simp [ZW,c1])))
 refine Ya _ _ _ ?_
 cases c2:wi d.mem 0 127<;>refine xx ?_
 ·exact ZP (ZO (bad (by simp [ZW,c2])))
 refine Ya _ _ _ ?_
 cases c3:wi d.to 0 63<;>refine xx ?_
 ·exact ZP (ZO (bad (by simp [ZW,c3])))
 refine Ya _ _ _ ?_
 cases c4:wi d.ep 0 1073741824<;>refine xx ?_
 ·exact ZP (ZO (bad (by simp [ZW,c4])))
 refine Ya _ _ _ ?_
 cases c5:wi d.mot 0 31<;>refine xx ?_
 ·exact ZP (ZO (bad (by simp [ZW,c5])))
 by_cases c6:(d.bits.length:Int)>32
 ·simp -dsimp -implicitDefEqProofs (disch:=first|with_reducible assumption|omega) [go_sem];exact ZP (ZO (bad (by simp [ZW];omega)))
 by_cases c7:d.amt>4611686018427387904<;>refine xx ?_
 ·exact ZP (ZO (bad (by simp [ZW];omega)))
 refine ZV _ hd.i 1 (by simp) ?_;rw[(by simp [ZX,kk]:ZX d.kind d.what 1=true)];refine xx ?_;refine ZV _ hd.i 2 (by simp) ?_;rw[(by simp [ZX,kk]:ZX d.kind d.what 2=false)];by_cases z2:d.mem=0<;>refine xx ?_
 rotate_left
 ·exact ZP (ZO (bad (by simp [ZW,Yn,Yi,Z0,kk,z2])))
 refine ZV _ hd.i 3 (by simp) ?_;rw[(by simp [ZX,kk]:ZX d.kind d.what 3=false)];by_cases z3:d.to=0<;>refine xx ?_
 rotate_left
 ·exact ZP (ZO (bad (by simp [ZW,Yn,Yi,Z0,kk,z3])))
 refine ZV _ hd.i 5 (by simp) ?_;rw[(by simp [ZX,kk]:ZX d.kind d.what 5=false)];by_cases z5:d.ep=0
 rotate_left
 ·simp -dsimp -implicitDefEqProofs (disch:=first|with_reducible assumption|omega) [go_sem];exact ZP (ZO (bad (by simp [ZW,Yn,Yi,Z0,kk,z5])))
 by_cases z6:d.bits=[]<;>refine xx ?_
 rotate_left
 ·exact ZP (ZO (bad (by simp [ZW,Yn,Yi,Z0,kk,z6])))
 refine Wx (by kernel_rfl) rfl ?_;refine xx ?_;refine Yz _ (ZV _ hd.i 4 (by simp) ⟨rfl,rfl,rfl⟩) ?_;rw[(by simp [ZX,kk]:ZX d.kind d.what 4=true)];refine xx ?_;by_cases z4:0<d.amt<;>refine xx ?_
 rotate_left
 ·exact ZP (ZO (bad (by simp [ZW,YB,wi,kk,z4])))
 refine Yz _ (ZV _ hd.i 8 (by simp) ⟨rfl,rfl,rfl⟩) ?_;rw[(by simp [ZX,kk]:ZX d.kind d.what 8=false)];by_cases z8:d.mot=0
 rotate_left
 ·simp -dsimp -implicitDefEqProofs (disch:=first|with_reducible assumption|omega) [go_sem];exact ZP (ZO (bad (by simp [ZW,Yn,Yi,Z0,kk,z8])))
 by_cases z9:d.yes=false
 rotate_left
 ·have z9':d.yes=true:=by simpa using z9
  simp -dsimp -implicitDefEqProofs (disch:=first|with_reducible assumption|omega) [go_sem,z9'];exact ZP (ZO (bad (by simp [ZW,Yn,Yi,Z0,kk,z9'])))
 simp -dsimp -implicitDefEqProofs (disch:=first|with_reducible assumption|omega) [go_sem,z9];refine Wx (by kernel_rfl) rfl ?_;refine xx ?_;refine Yz _ (ZV (d:={ d with yes:=false }) _ hd.i 6 (by simp) ⟨rfl,rfl,rfl⟩) ?_;rw[(by simp [ZX,kk]:ZX d.kind d.what 6=false)];refine xx ?_;by_cases y0:d.what=0<;>refine xx ?_
 rotate_left
 ·exact ZP (ZO (bad (by simp [ZW,Yn,Yi,Z0,kk,y0])))
 refine Yz _ (Ya _ _ _ ⟨rfl,rfl,rfl⟩) ?_
 cases c8:wi d.what 0 4
 ·exfalso;simp [wi,y0]at c8
 refine xx ?_;refine ZV (d:={ d with yes:=false }) _ hd.i 7 (by simp) ?_;rw[(by simp [ZX,kk]:ZX d.kind d.what 7=false)];refine xx ?_;obtain⟨r0,s0⟩:=wi_iff.1 c0;obtain⟨r1,s1⟩:=wi_iff.1 c1;obtain⟨r2,s2⟩:=wi_iff.1 c2;obtain⟨r3,s3⟩:=wi_iff.1 c3;obtain⟨r4,s4⟩:=wi_iff.1 c4;obtain⟨r5,s5⟩:=wi_iff.1 c5;have s6:(d.bits.length:Int)≤32:=by omega
 have s7:d.amt≤4611686018427387904:=by omega
 have e:ZW d=decide (d.par=WD):=by simp [ZW,Yn,Yi,Z0,kk,YB,wi,s6,s7,r1,r2,r3,r4,r5,s1,s2,s3,s4,s5,z2,z3,z5,z6,z8,z9,y0,z4]
 have:=hk h (PH.le_refl h);rw[e]at this;exact ZP (ZO this)
theorem Yhs {d:Zd}(bv:Value)(hd:Zl h bv d)(kk:d.kind=3)(hk:∀h',PH.le h h'→K (.bool (ZW d)) L h'):Zb prog 106 [Wu d bv] L h K:=by
 have ob:=hd.i.open;obtain⟨x1,y1,rfl,_,hlen,_⟩:=ob;have bad:ZW d=false→K (.bool false) L h:=fun e=>by
  have:=hk h (PH.le_refl h)
  rwa [e]at this
 refine ZR func106 rfl (rs:=[_]) rfl rfl ZY (by kernel_rfl) rfl rfl ?_;refine xx ?_;refine Z6 fun b1 nb1 zb1=>?_;(try simp only[ZU]at nb1);refine xx ?_;refine Ya _ _ _ ?_
 cases c0:wi d.kind 1 7<;>refine xx ?_
 ·exact ZP (ZO (bad (by simp [ZW,c0])))
 refine Ya _ _ _ ?_
 cases c1:wi d.acct 0 63<;>refine xx ?_
 ·exact ZP (ZO (bad (by simp [ZW,c1])))
 refine Ya _ _ _ ?_
 cases c2:wi d.mem 0 127<;>refine xx ?_
 ·exact ZP (ZO (bad (by simp [ZW,c2])))
 refine Ya _ _ _ ?_
 cases c3:wi d.to 0 63<;>refine xx ?_
 ·exact ZP (ZO (bad (by simp [ZW,c3])))
 refine Ya _ _ _ ?_
 cases c4:wi d.ep 0 1073741824<;>refine xx ?_
 ·exact ZP (ZO (bad (by simp [ZW,c4])))
 refine Ya _ _ _ ?_
 cases c5:wi d.mot 0 31<;>refine xx ?_
 ·exact ZP (ZO (bad (by simp [ZW,c5])))
 by_cases c6:(d.bits.length:Int)>32
 ·simp -dsimp -implicitDefEqProofs (disch:=first|with_reducible assumption|omega) [go_sem];exact ZP (ZO (bad (by simp [ZW];omega)))
 by_cases c7:d.amt>4611686018427387904<;>refine xx ?_
 ·exact ZP (ZO (bad (by simp [ZW];omega)))
 refine ZV _ hd.i 1 (by simp) ?_;rw[(by simp [ZX,kk]:ZX d.kind d.what 1=true)];refine xx ?_;refine ZV _ hd.i 2 (by simp) ?_;rw[(by simp [ZX,kk]:ZX d.kind d.what 2=true)];refine xx ?_;refine ZV _ hd.i 3 (by simp) ?_;rw[(by simp [ZX,kk]:ZX d.kind d.what 3=false)];by_cases z3:d.to=0<;>refine xx ?_
 rotate_left
 ·exact ZP (ZO (bad (by simp [ZW,Yn,Yi,Z0,kk,z3])))
 refine ZV _ hd.i 5 (by simp) ?_;rw[(by simp [ZX,kk]:ZX d.kind d.what 5=false)];by_cases z5:d.ep=0
 rotate_left
 ·simp -dsimp -implicitDefEqProofs (disch:=first|with_reducible assumption|omega) [go_sem];exact ZP (ZO (bad (by simp [ZW,Yn,Yi,Z0,kk,z5])))
 by_cases z6:d.bits=[]<;>refine xx ?_
 rotate_left
 ·exact ZP (ZO (bad (by simp [ZW,Yn,Yi,Z0,kk,z6])))
 refine Wx (by kernel_rfl) rfl ?_;refine xx ?_;refine Yz _ (ZV _ hd.i 4 (by simp) ⟨rfl,rfl,rfl⟩) ?_;rw[(by simp [ZX,kk]:ZX d.kind d.what 4=true)];refine xx ?_;by_cases z4:0<d.amt<;>refine xx ?_
 rotate_left
 ·exact ZP (ZO (bad (by simp [ZW,YB,wi,kk,z4])))
 refine Yz _ (ZV _ hd.i 8 (by simp) ⟨rfl,rfl,rfl⟩) ?_;rw[(by simp [ZX,kk]:ZX d.kind d.what 8=false)];by_cases z8:d.mot=0
 rotate_left
 ·simp -dsimp -implicitDefEqProofs (disch:=first|with_reducible assumption|omega) [go_sem];exact ZP (ZO (bad (by simp [ZW,Yn,Yi,Z0,kk,z8])))
 by_cases z9:d.yes=false
 rotate_left
 ·have z9':d.yes=true:=by simpa using z9
  simp -dsimp -implicitDefEqProofs (disch:=first|with_reducible assumption|omega) [go_sem,z9'];exact ZP (ZO (bad (by simp [ZW,Yn,Yi,Z0,kk,z9'])))
 simp -dsimp -implicitDefEqProofs (disch:=first|with_reducible assumption|omega) [go_sem,z9];refine Wx (by kernel_rfl) rfl ?_;refine xx ?_;refine Yz _ (ZV (d:={ d with yes:=false }) _ hd.i 6 (by simp) ⟨rfl,rfl,rfl⟩) ?_;rw[(by simp [ZX,kk]:ZX d.kind d.what 6=false)];refine xx ?_;by_cases y0:d.what=0<;>refine xx ?_
 rotate_left
 ·exact ZP (ZO (bad (by simp [ZW,Yn,Yi,Z0,kk,y0])))
 refine Yz _ (Ya _ _ _ ⟨rfl,rfl,rfl⟩) ?_
 cases c8:wi d.what 0 4
 ·exfalso;simp [wi,y0]at c8
 refine xx ?_;refine ZV (d:={ d with yes:=false }) _ hd.i 7 (by simp) ?_;rw[(by simp [ZX,kk]:ZX d.kind d.what 7=false)];refine xx ?_;obtain⟨r0,s0⟩:=wi_iff.1 c0;obtain⟨r1,s1⟩:=wi_iff.1 c1;obtain⟨r2,s2⟩:=wi_iff.1 c2;obtain⟨r3,s3⟩:=wi_iff.1 c3;obtain⟨r4,s4⟩:=wi_iff.1 c4;obtain⟨r5,s5⟩:=wi_iff.1 c5;have s6:(d.bits.length:Int)≤32:=by omega
 have s7:d.amt≤4611686018427387904:=by omega
 have e:ZW d=decide (d.par=WD):=by simp [ZW,Yn,Yi,Z0,kk,YB,wi,s6,s7,r1,r2,r3,r4,r5,s1,s2,s3,s4,s5,z3,z5,z6,z8,z9,y0,z4]
 have:=hk h (PH.le_refl h);rw[e]at this;exact ZP (ZO this)
theorem Ygq {d:Zd}(bv:Value)(hd:Zl h bv d)(kk:d.kind=4)(hk:∀h',PH.le h h'→K (.bool (ZW d)) L h'):Zb prog 106 [Wu d bv] L h K:=by
 have ob:=hd.i.open;obtain⟨x1,y1,rfl,_,hlen,_⟩:=ob;have bad:ZW d=false→K (.bool false) L h:=fun e=>by
  have:=hk h (PH.le_refl h)
  rwa [e]at this
 refine ZR func106 rfl (rs:=[_]) rfl rfl ZY (by kernel_rfl) rfl rfl ?_;refine xx ?_;refine Z6 fun b1 nb1 zb1=>?_;(try simp only[ZU]at nb1);refine xx ?_;refine Ya _ _ _ ?_
 cases c0:wi d.kind 1 7<;>refine xx ?_
 ·exact ZP (ZO (bad (by simp [ZW,c0])))
 refine Ya _ _ _ ?_
 cases c1:wi d.acct 0 63<;>refine xx ?_
 ·exact ZP (ZO (bad (by simp [ZW,c1])))
 refine Ya _ _ _ ?_
 cases c2:wi d.mem 0 127<;>refine xx ?_
 ·exact ZP (ZO (bad (by simp [ZW,c2])))
 refine Ya _ _ _ ?_
 cases c3:wi d.to 0 63<;>refine xx ?_
 ·exact ZP (ZO (bad (by simp [ZW,c3])))
 refine Ya _ _ _ ?_
 cases c4:wi d.ep 0 1073741824<;>refine xx ?_
 ·exact ZP (ZO (bad (by simp [ZW,c4])))
 refine Ya _ _ _ ?_
 cases c5:wi d.mot 0 31<;>refine xx ?_
 ·exact ZP (ZO (bad (by simp [ZW,c5])))
 by_cases c6:(d.bits.length:Int)>32
 ·simp -dsimp -implicitDefEqProofs (disch:=first|with_reducible assumption|omega) [go_sem];exact ZP (ZO (bad (by simp [ZW];omega)))
 by_cases c7:d.amt>4611686018427387904<;>refine xx ?_
 ·exact ZP (ZO (bad (by simp [ZW];omega)))
 refine ZV _ hd.i 1 (by simp) ?_;rw[(by simp [ZX,kk]:ZX d.kind d.what 1=true)];refine xx ?_;refine ZV _ hd.i 2 (by simp) ?_;rw[(by simp [ZX,kk]:ZX d.kind d.what 2=true)];refine xx ?_;refine ZV _ hd.i 3 (by simp) ?_;rw[(by simp [ZX,kk]:ZX d.kind d.what 3=false)];by_cases z3:d.to=0<;>refine xx ?_
 rotate_left
 ·exact ZP (ZO (bad (by simp [ZW,Yn,Yi,Z0,kk,z3])))
 refine ZV _ hd.i 5 (by simp) ?_;rw[(by simp [ZX,kk]:ZX d.kind d.what 5=false)];by_cases z5:d.ep=0
 rotate_left
 ·simp -dsimp -implicitDefEqProofs (disch:=first|with_reducible assumption|omega) [go_sem];exact ZP (ZO (bad (by simp [ZW,Yn,Yi,Z0,kk,z5])))
 by_cases z6:d.bits=[]<;>refine xx ?_
 rotate_left
 ·exact ZP (ZO (bad (by simp [ZW,Yn,Yi,Z0,kk,z6])))
 refine Wx (by kernel_rfl) rfl ?_;refine xx ?_;refine Yz _ (ZV _ hd.i 4 (by simp) ⟨rfl,rfl,rfl⟩) ?_;rw[(by simp [ZX,kk]:ZX d.kind d.what 4=false)];refine xx ?_;by_cases z4:0<d.amt<;>refine xx ?_
 ·exact ZP (ZO (bad (by simp [ZW,YB,wi,kk,z4])))
 refine Yz _ (ZV _ hd.i 8 (by simp) ⟨rfl,rfl,rfl⟩) ?_;rw[(by simp [ZX,kk]:ZX d.kind d.what 8=false)];by_cases z8:d.mot=0
 rotate_left
 ·simp -dsimp -implicitDefEqProofs (disch:=first|with_reducible assumption|omega) [go_sem];exact ZP (ZO (bad (by simp [ZW,Yn,Yi,Z0,kk,z8])))
 by_cases z9:d.yes=false
 rotate_left
 ·have z9':d.yes=true:=by simpa using z9
  simp -dsimp -implicitDefEqProofs (disch:=first|with_reducible assumption|omega) [go_sem,z9'];exact ZP (ZO (bad (by simp [ZW,Yn,Yi,Z0,kk,z9'])))
 simp -dsimp -implicitDefEqProofs (disch:=first|with_reducible assumption|omega) [go_sem,z9];refine Wx (by kernel_rfl) rfl ?_;refine xx ?_;refine Yz _ (ZV (d:={ d with yes:=false }) _ hd.i 6 (by simp) ⟨rfl,rfl,rfl⟩) ?_;rw[(by simp [ZX,kk]:ZX d.kind d.what 6=false)];refine xx ?_;by_cases y0:d.what=0<;>refine xx ?_
 rotate_left
 ·exact ZP (ZO (bad (by simp [ZW,Yn,Yi,Z0,kk,y0])))
 refine Yz _ (Ya _ _ _ ⟨rfl,rfl,rfl⟩) ?_
 cases c8:wi d.what 0 4
 ·exfalso;simp [wi,y0]at c8
 refine xx ?_;refine ZV (d:={ d with yes:=false }) _ hd.i 7 (by simp) ?_;rw[(by simp [ZX,kk]:ZX d.kind d.what 7=false)];refine xx ?_;obtain⟨r0,s0⟩:=wi_iff.1 c0;obtain⟨r1,s1⟩:=wi_iff.1 c1;obtain⟨r2,s2⟩:=wi_iff.1 c2;obtain⟨r3,s3⟩:=wi_iff.1 c3;obtain⟨r4,s4⟩:=wi_iff.1 c4;obtain⟨r5,s5⟩:=wi_iff.1 c5;have s6:(d.bits.length:Int)≤32:=by omega
 have s7:d.amt≤4611686018427387904:=by omega
 have z4':d.amt=0:=by have:=hd.ok.a.1;omega
 have e:ZW d=decide (d.par=WD):=by simp [ZW,Yn,Yi,Z0,kk,YB,wi,s6,s7,r1,r2,r3,r4,r5,s1,s2,s3,s4,s5,z3,z5,z6,z8,z9,y0,z4']
 have:=hk h (PH.le_refl h);rw[e]at this;exact ZP (ZO this)
theorem Yfo {d:Zd}(bv:Value)(hd:Zl h bv d)(kk:d.kind=5)(hk:∀h',PH.le h h'→K (.bool (ZW d)) L h'):Zb prog 106 [Wu d bv] L h K:=by
 have ob:=hd.i.open;obtain⟨x1,y1,rfl,_,hlen,_⟩:=ob;have bad:ZW d=false→K (.bool false) L h:=fun e=>by
  have:=hk h (PH.le_refl h)
  rwa [e]at this
 refine ZR func106 rfl (rs:=[_]) rfl rfl ZY (by kernel_rfl) rfl rfl ?_;refine xx ?_;refine Z6 fun b1 nb1 zb1=>?_;(try simp only[ZU]at nb1);refine xx ?_;refine Ya _ _ _ ?_
 cases c0:wi d.kind 1 7<;>refine xx ?_
 ·exact ZP (ZO (bad (by simp [ZW,c0])))
 refine Ya _ _ _ ?_
 cases c1:wi d.acct 0 63<;>refine xx ?_
 ·exact ZP (ZO (bad (by simp [ZW,c1])))
 refine Ya _ _ _ ?_
 cases c2:wi d.mem 0 127<;>refine xx ?_
 ·exact ZP (ZO (bad (by simp [ZW,c2])))
 refine Ya _ _ _ ?_
 cases c3:wi d.to 0 63<;>refine xx ?_
 ·exact ZP (ZO (bad (by simp [ZW,c3])))
 refine Ya _ _ _ ?_
 cases c4:wi d.ep 0 1073741824<;>refine xx ?_
 ·exact ZP (ZO (bad (by simp [ZW,c4])))
 refine Ya _ _ _ ?_
 cases c5:wi d.mot 0 31<;>refine xx ?_
 ·exact ZP (ZO (bad (by simp [ZW,c5])))
 by_cases c6:(d.bits.length:Int)>32
 ·simp -dsimp -implicitDefEqProofs (disch:=first|with_reducible assumption|omega) [go_sem];exact ZP (ZO (bad (by simp [ZW];omega)))
 by_cases c7:d.amt>4611686018427387904<;>refine xx ?_
 ·exact ZP (ZO (bad (by simp [ZW];omega)))
 refine ZV _ hd.i 1 (by simp) ?_;rw[(by simp [ZX,kk]:ZX d.kind d.what 1=false)];by_cases z1:d.acct=0<;>refine xx ?_
 rotate_left
 ·exact ZP (ZO (bad (by simp [ZW,Yn,Yi,Z0,kk,z1])))
 refine ZV _ hd.i 2 (by simp) ?_;rw[(by simp [ZX,kk]:ZX d.kind d.what 2=false)];by_cases z2:d.mem=0<;>refine xx ?_
 rotate_left
 ·exact ZP (ZO (bad (by simp [ZW,Yn,Yi,Z0,kk,z2])))
 refine ZV _ hd.i 3 (by simp) ?_;rw[(by simp [ZX,kk]:ZX d.kind d.what 3=false)];by_cases z3:d.to=0<;>refine xx ?_
 rotate_left
 ·exact ZP (ZO (bad (by simp [ZW,Yn,Yi,Z0,kk,z3])))
 refine ZV _ hd.i 5 (by simp) ?_;rw[(by simp [ZX,kk]:ZX d.kind d.what 5=true)];refine xx ?_;refine Wx (by kernel_rfl) rfl ?_;refine xx ?_;refine Yz _ (ZV _ hd.i 4 (by simp) ⟨rfl,rfl,rfl⟩) ?_;rw[(by simp [ZX,kk]:ZX d.kind d.what 4=false)];refine xx ?_;by_cases z4:0<d.amt<;>refine xx ?_
 ·exact ZP (ZO (bad (by simp [ZW,YB,wi,kk,z4])))
 refine Yz _ (ZV _ hd.i 8 (by simp) ⟨rfl,rfl,rfl⟩) ?_;rw[(by simp [ZX,kk]:ZX d.kind d.what 8=false)];by_cases z8:d.mot=0
 rotate_left
 ·simp -dsimp -implicitDefEqProofs (disch:=first|with_reducible assumption|omega) [go_sem];exact ZP (ZO (bad (by simp [ZW,Yn,Yi,Z0,kk,z8])))
 by_cases z9:d.yes=false
 rotate_left
 ·have z9':d.yes=true:=by simpa using z9
  simp -dsimp -implicitDefEqProofs (disch:=first|with_reducible assumption|omega) [go_sem,z9'];exact ZP (ZO (bad (by simp [ZW,Yn,Yi,Z0,kk,z9'])))
 simp -dsimp -implicitDefEqProofs (disch:=first|with_reducible assumption|omega) [go_sem,z9];refine Wx (by kernel_rfl) rfl ?_;refine xx ?_;refine Yz _ (ZV (d:={ d with yes:=false }) _ hd.i 6 (by simp) ⟨rfl,rfl,rfl⟩) ?_;rw[(by simp [ZX,kk]:ZX d.kind d.what 6=false)];refine xx ?_;by_cases y0:d.what=0<;>refine xx ?_
 rotate_left
 ·exact ZP (ZO (bad (by simp [ZW,Yn,Yi,Z0,kk,y0])))
 refine Yz _ (Ya _ _ _ ⟨rfl,rfl,rfl⟩) ?_
 cases c8:wi d.what 0 4
 ·exfalso;simp [wi,y0]at c8
 refine xx ?_;refine ZV (d:={ d with yes:=false }) _ hd.i 7 (by simp) ?_;rw[(by simp [ZX,kk]:ZX d.kind d.what 7=false)];refine xx ?_;obtain⟨r0,s0⟩:=wi_iff.1 c0;obtain⟨r1,s1⟩:=wi_iff.1 c1;obtain⟨r2,s2⟩:=wi_iff.1 c2;obtain⟨r3,s3⟩:=wi_iff.1 c3;obtain⟨r4,s4⟩:=wi_iff.1 c4;obtain⟨r5,s5⟩:=wi_iff.1 c5;have s6:(d.bits.length:Int)≤32:=by omega
 have s7:d.amt≤4611686018427387904:=by omega
 have z4':d.amt=0:=by have:=hd.ok.a.1;omega
 have e:ZW d=decide (d.par=WD):=by simp [ZW,Yn,Yi,Z0,kk,YB,wi,s6,s7,r1,r2,r3,r4,r5,s1,s2,s3,s4,s5,z1,z2,z3,z8,z9,y0,z4']
 have:=hk h (PH.le_refl h);rw[e]at this;exact ZP (ZO this)
theorem Yir {d:Zd}(bv:Value)(hd:Zl h bv d)(kk:d.kind=7)(hk:∀h',PH.le h h'→K (.bool (ZW d)) L h'):Zb prog 106 [Wu d bv] L h K:=by
 have ob:=hd.i.open;obtain⟨x1,y1,rfl,_,hlen,_⟩:=ob;have bad:ZW d=false→K (.bool false) L h:=fun e=>by
  have:=hk h (PH.le_refl h)
  rwa [e]at this
 refine ZR func106 rfl (rs:=[_]) rfl rfl ZY (by kernel_rfl) rfl rfl ?_;refine xx ?_;refine Z6 fun b1 nb1 zb1=>?_;(try simp only[ZU]at nb1);refine xx ?_;refine Ya _ _ _ ?_
 cases c0:wi d.kind 1 7<;>refine xx ?_
 ·exact ZP (ZO (bad (by simp [ZW,c0])))
 refine Ya _ _ _ ?_
 cases c1:wi d.acct 0 63<;>refine xx ?_
 ·exact ZP (ZO (bad (by simp [ZW,c1])))
 refine Ya _ _ _ ?_
 cases c2:wi d.mem 0 127<;>refine xx ?_
 ·exact ZP (ZO (bad (by simp [ZW,c2])))
 refine Ya _ _ _ ?_
 cases c3:wi d.to 0 63<;>refine xx ?_
 ·exact ZP (ZO (bad (by simp [ZW,c3])))
 refine Ya _ _ _ ?_
 cases c4:wi d.ep 0 1073741824<;>refine xx ?_
 ·exact ZP (ZO (bad (by simp [ZW,c4])))
 refine Ya _ _ _ ?_
 cases c5:wi d.mot 0 31<;>refine xx ?_
 ·exact ZP (ZO (bad (by simp [ZW,c5])))
 by_cases c6:(d.bits.length:Int)>32
 ·simp -dsimp -implicitDefEqProofs (disch:=first|with_reducible assumption|omega) [go_sem];exact ZP (ZO (bad (by simp [ZW];omega)))
 by_cases c7:d.amt>4611686018427387904<;>refine xx ?_
 ·exact ZP (ZO (bad (by simp [ZW];omega)))
 refine ZV _ hd.i 1 (by simp) ?_;rw[(by simp [ZX,kk]:ZX d.kind d.what 1=true)];refine xx ?_;refine ZV _ hd.i 2 (by simp) ?_;rw[(by simp [ZX,kk]:ZX d.kind d.what 2=true)];refine xx ?_;refine ZV _ hd.i 3 (by simp) ?_;rw[(by simp [ZX,kk]:ZX d.kind d.what 3=false)];by_cases z3:d.to=0<;>refine xx ?_
 rotate_left
 ·exact ZP (ZO (bad (by simp [ZW,Yn,Yi,Z0,kk,z3])))
 refine ZV _ hd.i 5 (by simp) ?_;rw[(by simp [ZX,kk]:ZX d.kind d.what 5=false)];by_cases z5:d.ep=0
 rotate_left
 ·simp -dsimp -implicitDefEqProofs (disch:=first|with_reducible assumption|omega) [go_sem];exact ZP (ZO (bad (by simp [ZW,Yn,Yi,Z0,kk,z5])))
 by_cases z6:d.bits=[]<;>refine xx ?_
 rotate_left
 ·exact ZP (ZO (bad (by simp [ZW,Yn,Yi,Z0,kk,z6])))
 refine Wx (by kernel_rfl) rfl ?_;refine xx ?_;refine Yz _ (ZV _ hd.i 4 (by simp) ⟨rfl,rfl,rfl⟩) ?_;rw[(by simp [ZX,kk]:ZX d.kind d.what 4=false)];refine xx ?_;by_cases z4:0<d.amt<;>refine xx ?_
 ·exact ZP (ZO (bad (by simp [ZW,YB,wi,kk,z4])))
 refine Yz _ (ZV _ hd.i 8 (by simp) ⟨rfl,rfl,rfl⟩) ?_;rw[(by simp [ZX,kk]:ZX d.kind d.what 8=true)];refine xx ?_;refine Wx (by kernel_rfl) rfl ?_;refine xx ?_;refine Yz _ (ZV _ hd.i 6 (by simp) ⟨rfl,rfl,rfl⟩) ?_;rw[(by simp [ZX,kk]:ZX d.kind d.what 6=false)];refine xx ?_;by_cases y0:d.what=0<;>refine xx ?_
 rotate_left
 ·exact ZP (ZO (bad (by simp [ZW,Yn,Yi,Z0,kk,y0])))
 refine Yz _ (Ya _ _ _ ⟨rfl,rfl,rfl⟩) ?_
 cases c8:wi d.what 0 4
 ·exfalso;simp [wi,y0]at c8
 refine xx ?_;refine ZV _ hd.i 7 (by simp) ?_;rw[(by simp [ZX,kk]:ZX d.kind d.what 7=false)];refine xx ?_;obtain⟨r0,s0⟩:=wi_iff.1 c0;obtain⟨r1,s1⟩:=wi_iff.1 c1;obtain⟨r2,s2⟩:=wi_iff.1 c2;obtain⟨r3,s3⟩:=wi_iff.1 c3;obtain⟨r4,s4⟩:=wi_iff.1 c4;obtain⟨r5,s5⟩:=wi_iff.1 c5;have s6:(d.bits.length:Int)≤32:=by omega
 have s7:d.amt≤4611686018427387904:=by omega
 have z4':d.amt=0:=by have:=hd.ok.a.1;omega
 have e:ZW d=decide (d.par=WD):=by simp [ZW,Yn,Yi,Z0,kk,YB,wi,s6,s7,r1,r2,r3,r4,r5,s1,s2,s3,s4,s5,z3,z5,z6,y0,z4']
 have:=hk h (PH.le_refl h);rw[e]at this;exact ZP (ZO this)
theorem Zvi {d:Zd}(bv:Value)(hd:Zl h bv d)(kk:d.kind=6)(ww:d.what=1)(hk:∀h',PH.le h h'→K (.bool (ZW d)) L h'):Zb prog 106 [Wu d bv] L h K:=by
 have ob:=hd.i.open;obtain⟨x1,y1,rfl,_,hlen,_⟩:=ob;have bad:ZW d=false→K (.bool false) L h:=fun e=>by
  have:=hk h (PH.le_refl h)
  rwa [e]at this
 refine ZR func106 rfl (rs:=[_]) rfl rfl ZY (by kernel_rfl) rfl rfl ?_;refine xx ?_;refine Z6 fun b1 nb1 zb1=>?_;(try simp only[ZU]at nb1);refine xx ?_;refine Ya _ _ _ ?_
 cases c0:wi d.kind 1 7<;>refine xx ?_
 ·exact ZP (ZO (bad (by simp [ZW,c0])))
 refine Ya _ _ _ ?_
 cases c1:wi d.acct 0 63<;>refine xx ?_
 ·exact ZP (ZO (bad (by simp [ZW,c1])))
 refine Ya _ _ _ ?_
 cases c2:wi d.mem 0 127<;>refine xx ?_
 ·exact ZP (ZO (bad (by simp [ZW,c2])))
 refine Ya _ _ _ ?_
 cases c3:wi d.to 0 63<;>refine xx ?_
 ·exact ZP (ZO (bad (by simp [ZW,c3])))
 refine Ya _ _ _ ?_
 cases c4:wi d.ep 0 1073741824<;>refine xx ?_
 ·exact ZP (ZO (bad (by simp [ZW,c4])))
 refine Ya _ _ _ ?_
 cases c5:wi d.mot 0 31<;>refine xx ?_
 ·exact ZP (ZO (bad (by simp [ZW,c5])))
 by_cases c6:(d.bits.length:Int)>32
 ·simp -dsimp -implicitDefEqProofs (disch:=first|with_reducible assumption|omega) [go_sem];exact ZP (ZO (bad (by simp [ZW];omega)))
 by_cases c7:d.amt>4611686018427387904<;>refine xx ?_
 ·exact ZP (ZO (bad (by simp [ZW];omega)))
 refine ZV _ hd.i 1 (by simp) ?_;rw[(by simp [ZX,kk,ww]:ZX d.kind d.what 1=true)];refine xx ?_;refine ZV _ hd.i 2 (by simp) ?_;rw[(by simp [ZX,kk,ww]:ZX d.kind d.what 2=false)];by_cases z2:d.mem=0<;>refine xx ?_
 rotate_left
 ·exact ZP (ZO (bad (by simp [ZW,Yn,Yi,Z0,kk,ww,z2])))
 refine ZV _ hd.i 3 (by simp) ?_;rw[(by simp [ZX,kk,ww]:ZX d.kind d.what 3=false)];by_cases z3:d.to=0<;>refine xx ?_
 rotate_left
 ·exact ZP (ZO (bad (by simp [ZW,Yn,Yi,Z0,kk,ww,z3])))
 refine ZV _ hd.i 5 (by simp) ?_;rw[(by simp [ZX,kk,ww]:ZX d.kind d.what 5=false)];by_cases z5:d.ep=0
 rotate_left
 ·simp -dsimp -implicitDefEqProofs (disch:=first|with_reducible assumption|omega) [go_sem];exact ZP (ZO (bad (by simp [ZW,Yn,Yi,Z0,kk,ww,z5])))
 by_cases z6:d.bits=[]<;>refine xx ?_
 rotate_left
 ·exact ZP (ZO (bad (by simp [ZW,Yn,Yi,Z0,kk,ww,z6])))
 refine Wx (by kernel_rfl) rfl ?_;refine xx ?_;refine Yz _ (ZV _ hd.i 4 (by simp) ⟨rfl,rfl,rfl⟩) ?_;rw[(by simp [ZX,kk,ww]:ZX d.kind d.what 4=false)];refine xx ?_;by_cases z4:0<d.amt<;>refine xx ?_
 ·exact ZP (ZO (bad (by simp [ZW,YB,wi,kk,ww,z4])))
 refine Yz _ (ZV _ hd.i 8 (by simp) ⟨rfl,rfl,rfl⟩) ?_;rw[(by simp [ZX,kk,ww]:ZX d.kind d.what 8=false)];by_cases z8:d.mot=0
 rotate_left
 ·simp -dsimp -implicitDefEqProofs (disch:=first|with_reducible assumption|omega) [go_sem];exact ZP (ZO (bad (by simp [ZW,Yn,Yi,Z0,kk,ww,z8])))
 by_cases z9:d.yes=false
 rotate_left
 ·have z9':d.yes=true:=by simpa using z9
  simp -dsimp -implicitDefEqProofs (disch:=first|with_reducible assumption|omega) [go_sem,z9'];exact ZP (ZO (bad (by simp [ZW,Yn,Yi,Z0,kk,ww,z9'])))
 simp -dsimp -implicitDefEqProofs (disch:=first|with_reducible assumption|omega) [go_sem,z9];refine Wx (by kernel_rfl) rfl ?_;refine xx ?_;refine Yz _ (ZV (d:={ d with yes:=false }) _ hd.i 6 (by simp) ⟨rfl,rfl,rfl⟩) ?_;rw[(by simp [ZX,kk,ww]:ZX d.kind d.what 6=true)];refine xx ?_;refine Yz _ (Ya _ _ _ ⟨rfl,rfl,rfl⟩) ?_
 cases c8:wi d.what 0 4
 ·exfalso;simp [wi,ww]at c8
 refine xx ?_;refine ZV (d:={ d with yes:=false }) _ hd.i 7 (by simp) ?_;rw[(by simp [ZX,kk,ww]:ZX d.kind d.what 7=true)];refine xx ?_;obtain⟨r0,s0⟩:=wi_iff.1 c0;obtain⟨r1,s1⟩:=wi_iff.1 c1;obtain⟨r2,s2⟩:=wi_iff.1 c2;obtain⟨r3,s3⟩:=wi_iff.1 c3;obtain⟨r4,s4⟩:=wi_iff.1 c4;obtain⟨r5,s5⟩:=wi_iff.1 c5;have s6:(d.bits.length:Int)≤32:=by omega
 have s7:d.amt≤4611686018427387904:=by omega
 have z4':d.amt=0:=by have:=hd.ok.a.1;omega
 have e:ZW d=Ym d.par:=by simp [ZW,Yn,Yi,Z0,kk,ww,YB,wi,s6,s7,r1,r2,r3,r4,r5,s1,s2,s3,s4,s5,z2,z3,z5,z6,z8,z9,z4']
 refine Zub _ hd.ok.p fun h' le=>?_;refine xx ?_;have:=hk h' le;rw[e]at this;exact ZP (ZO this)
theorem Ztr {d:Zd}(bv:Value)(hd:Zl h bv d)(kk:d.kind=6)(ww:d.what=2)(hk:∀h',PH.le h h'→K (.bool (ZW d)) L h'):Zb prog 106 [Wu d bv] L h K:=by
 have ob:=hd.i.open;obtain⟨x1,y1,rfl,_,hlen,_⟩:=ob;have bad:ZW d=false→K (.bool false) L h:=fun e=>by
  have:=hk h (PH.le_refl h)
  rwa [e]at this
 refine ZR func106 rfl (rs:=[_]) rfl rfl ZY (by kernel_rfl) rfl rfl ?_;refine xx ?_;refine Z6 fun b1 nb1 zb1=>?_;(try simp only[ZU]at nb1);refine xx ?_;refine Ya _ _ _ ?_
 cases c0:wi d.kind 1 7<;>refine xx ?_
 ·exact ZP (ZO (bad (by simp [ZW,c0])))
 refine Ya _ _ _ ?_
 cases c1:wi d.acct 0 63<;>refine xx ?_
 ·exact ZP (ZO (bad (by simp [ZW,c1])))
 refine Ya _ _ _ ?_
 cases c2:wi d.mem 0 127<;>refine xx ?_
 ·exact ZP (ZO (bad (by simp [ZW,c2])))
 refine Ya _ _ _ ?_
 cases c3:wi d.to 0 63<;>refine xx ?_
 ·exact ZP (ZO (bad (by simp [ZW,c3])))
 refine Ya _ _ _ ?_
 cases c4:wi d.ep 0 1073741824<;>refine xx ?_
 ·exact ZP (ZO (bad (by simp [ZW,c4])))
 refine Ya _ _ _ ?_
 cases c5:wi d.mot 0 31<;>refine xx ?_
 ·exact ZP (ZO (bad (by simp [ZW,c5])))
 by_cases c6:(d.bits.length:Int)>32
 ·simp -dsimp -implicitDefEqProofs (disch:=first|with_reducible assumption|omega) [go_sem];exact ZP (ZO (bad (by simp [ZW];omega)))
 by_cases c7:d.amt>4611686018427387904<;>refine xx ?_
 ·exact ZP (ZO (bad (by simp [ZW];omega)))
 refine ZV _ hd.i 1 (by simp) ?_;rw[(by simp [ZX,kk,ww]:ZX d.kind d.what 1=true)];refine xx ?_;refine ZV _ hd.i 2 (by simp) ?_;rw[(by simp [ZX,kk,ww]:ZX d.kind d.what 2=false)];by_cases z2:d.mem=0<;>refine xx ?_
 rotate_left
 ·exact ZP (ZO (bad (by simp [ZW,Yn,Yi,Z0,kk,ww,z2])))
 refine ZV _ hd.i 3 (by simp) ?_;rw[(by simp [ZX,kk,ww]:ZX d.kind d.what 3=true)];refine xx ?_;refine ZV _ hd.i 5 (by simp) ?_;rw[(by simp [ZX,kk,ww]:ZX d.kind d.what 5=false)];by_cases z5:d.ep=0
 rotate_left
 ·simp -dsimp -implicitDefEqProofs (disch:=first|with_reducible assumption|omega) [go_sem];exact ZP (ZO (bad (by simp [ZW,Yn,Yi,Z0,kk,ww,z5])))
 by_cases z6:d.bits=[]<;>refine xx ?_
 rotate_left
 ·exact ZP (ZO (bad (by simp [ZW,Yn,Yi,Z0,kk,ww,z6])))
 refine Wx (by kernel_rfl) rfl ?_;refine xx ?_;refine Yz _ (ZV _ hd.i 4 (by simp) ⟨rfl,rfl,rfl⟩) ?_;rw[(by simp [ZX,kk,ww]:ZX d.kind d.what 4=true)];refine xx ?_;by_cases z4:0<d.amt<;>refine xx ?_
 rotate_left
 ·exact ZP (ZO (bad (by simp [ZW,YB,wi,kk,ww,z4])))
 refine Yz _ (ZV _ hd.i 8 (by simp) ⟨rfl,rfl,rfl⟩) ?_;rw[(by simp [ZX,kk,ww]:ZX d.kind d.what 8=false)];by_cases z8:d.mot=0
 rotate_left
 ·simp -dsimp -implicitDefEqProofs (disch:=first|with_reducible assumption|omega) [go_sem];exact ZP (ZO (bad (by simp [ZW,Yn,Yi,Z0,kk,ww,z8])))
 by_cases z9:d.yes=false
 rotate_left
 ·have z9':d.yes=true:=by simpa using z9
  simp -dsimp -implicitDefEqProofs (disch:=first|with_reducible assumption|omega) [go_sem,z9'];exact ZP (ZO (bad (by simp [ZW,Yn,Yi,Z0,kk,ww,z9'])))
 simp -dsimp -implicitDefEqProofs (disch:=first|with_reducible assumption|omega) [go_sem,z9];refine Wx (by kernel_rfl) rfl ?_;refine xx ?_;refine Yz _ (ZV (d:={ d with yes:=false }) _ hd.i 6 (by simp) ⟨rfl,rfl,rfl⟩) ?_;rw[(by simp [ZX,kk,ww]:ZX d.kind d.what 6=true)];refine xx ?_;refine Yz _ (Ya _ _ _ ⟨rfl,rfl,rfl⟩) ?_
 cases c8:wi d.what 0 4
 ·exfalso;simp [wi,ww]at c8
 refine xx ?_;refine ZV (d:={ d with yes:=false }) _ hd.i 7 (by simp) ?_;rw[(by simp [ZX,kk,ww]:ZX d.kind d.what 7=false)];refine xx ?_;obtain⟨r0,s0⟩:=wi_iff.1 c0;obtain⟨r1,s1⟩:=wi_iff.1 c1;obtain⟨r2,s2⟩:=wi_iff.1 c2;obtain⟨r3,s3⟩:=wi_iff.1 c3;obtain⟨r4,s4⟩:=wi_iff.1 c4;obtain⟨r5,s5⟩:=wi_iff.1 c5;have s6:(d.bits.length:Int)≤32:=by omega
 have s7:d.amt≤4611686018427387904:=by omega
 have e:ZW d=decide (d.par=WD):=by simp [ZW,Yn,Yi,Z0,kk,ww,YB,wi,s6,s7,r1,r2,r3,r4,r5,s1,s2,s3,s4,s5,z2,z5,z6,z8,z9,z4]
 have:=hk h (PH.le_refl h);rw[e]at this;exact ZP (ZO this)
theorem Zuo {d:Zd}(bv:Value)(hd:Zl h bv d)(kk:d.kind=6)(w1:¬d.what=1)(w2:¬d.what=2)(hk:∀h',PH.le h h'→K (.bool (ZW d)) L h'):Zb prog 106 [Wu d bv] L h K:=by
 have ob:=hd.i.open;obtain⟨x1,y1,rfl,_,hlen,_⟩:=ob;have bad:ZW d=false→K (.bool false) L h:=fun e=>by
  have:=hk h (PH.le_refl h)
  rwa [e]at this
 refine ZR func106 rfl (rs:=[_]) rfl rfl ZY (by kernel_rfl) rfl rfl ?_;refine xx ?_;refine Z6 fun b1 nb1 zb1=>?_;(try simp only[ZU]at nb1);refine xx ?_;refine Ya _ _ _ ?_
 cases c0:wi d.kind 1 7<;>refine xx ?_
 ·exact ZP (ZO (bad (by simp [ZW,c0])))
 refine Ya _ _ _ ?_
 cases c1:wi d.acct 0 63<;>refine xx ?_
 ·exact ZP (ZO (bad (by simp [ZW,c1])))
 refine Ya _ _ _ ?_
 cases c2:wi d.mem 0 127<;>refine xx ?_
 ·exact ZP (ZO (bad (by simp [ZW,c2])))
 refine Ya _ _ _ ?_
 cases c3:wi d.to 0 63<;>refine xx ?_
 ·exact ZP (ZO (bad (by simp [ZW,c3])))
 refine Ya _ _ _ ?_
 cases c4:wi d.ep 0 1073741824<;>refine xx ?_
 ·exact ZP (ZO (bad (by simp [ZW,c4])))
 refine Ya _ _ _ ?_
 cases c5:wi d.mot 0 31<;>refine xx ?_
 ·exact ZP (ZO (bad (by simp [ZW,c5])))
 by_cases c6:(d.bits.length:Int)>32
 ·simp -dsimp -implicitDefEqProofs (disch:=first|with_reducible assumption|omega) [go_sem];exact ZP (ZO (bad (by simp [ZW];omega)))
 by_cases c7:d.amt>4611686018427387904<;>refine xx ?_
 ·exact ZP (ZO (bad (by simp [ZW];omega)))
 refine ZV _ hd.i 1 (by simp) ?_;rw[(by simp [ZX,kk,w1,w2]:ZX d.kind d.what 1=true)];refine xx ?_;refine ZV _ hd.i 2 (by simp) ?_;rw[(by simp [ZX,kk,w1,w2]:ZX d.kind d.what 2=false)];by_cases z2:d.mem=0<;>refine xx ?_
 rotate_left
 ·exact ZP (ZO (bad (by simp [ZW,Yn,Yi,Z0,kk,w1,w2,z2])))
 refine ZV _ hd.i 3 (by simp) ?_;rw[(by simp [ZX,kk,w1,w2]:ZX d.kind d.what 3=false)];by_cases z3:d.to=0<;>refine xx ?_
 rotate_left
 ·exact ZP (ZO (bad (by simp [ZW,Yn,Yi,Z0,kk,w1,w2,z3])))
 refine ZV _ hd.i 5 (by simp) ?_;rw[(by simp [ZX,kk,w1,w2]:ZX d.kind d.what 5=false)];by_cases z5:d.ep=0
 rotate_left
 ·simp -dsimp -implicitDefEqProofs (disch:=first|with_reducible assumption|omega) [go_sem];exact ZP (ZO (bad (by simp [ZW,Yn,Yi,Z0,kk,w1,w2,z5])))
 by_cases z6:d.bits=[]<;>refine xx ?_
 rotate_left
 ·exact ZP (ZO (bad (by simp [ZW,Yn,Yi,Z0,kk,w1,w2,z6])))
 refine Wx (by kernel_rfl) rfl ?_;refine xx ?_;refine Yz _ (ZV _ hd.i 4 (by simp) ⟨rfl,rfl,rfl⟩) ?_;rw[(by simp [ZX,kk,w1,w2]:ZX d.kind d.what 4=false)];refine xx ?_;by_cases z4:0<d.amt<;>refine xx ?_
 ·exact ZP (ZO (bad (by simp [ZW,YB,wi,kk,w1,w2,z4])))
 refine Yz _ (ZV _ hd.i 8 (by simp) ⟨rfl,rfl,rfl⟩) ?_;rw[(by simp [ZX,kk,w1,w2]:ZX d.kind d.what 8=false)];by_cases z8:d.mot=0
 rotate_left
 ·simp -dsimp -implicitDefEqProofs (disch:=first|with_reducible assumption|omega) [go_sem];exact ZP (ZO (bad (by simp [ZW,Yn,Yi,Z0,kk,w1,w2,z8])))
 by_cases z9:d.yes=false
 rotate_left
 ·have z9':d.yes=true:=by simpa using z9
  simp -dsimp -implicitDefEqProofs (disch:=first|with_reducible assumption|omega) [go_sem,z9'];exact ZP (ZO (bad (by simp [ZW,Yn,Yi,Z0,kk,w1,w2,z9'])))
 simp -dsimp -implicitDefEqProofs (disch:=first|with_reducible assumption|omega) [go_sem,z9];refine Wx (by kernel_rfl) rfl ?_;refine xx ?_;refine Yz _ (ZV (d:={ d with yes:=false }) _ hd.i 6 (by simp) ⟨rfl,rfl,rfl⟩) ?_;rw[(by simp [ZX,kk,w1,w2]:ZX d.kind d.what 6=true)];refine xx ?_;by_cases y0:d.what=0<;>refine xx ?_
 ·exact ZP (ZO (bad (by simp [ZW,wi,kk,y0])))
 refine Yz _ (Ya _ _ _ ⟨rfl,rfl,rfl⟩) ?_
 cases c8:wi d.what 0 4
 ·simp -dsimp -implicitDefEqProofs (disch:=first|with_reducible assumption|omega) [go_sem];exact ZP (ZO (bad (by
   have:¬(1≤d.what∧d.what≤4):=fun hh=>by rw[wi_iff.2 ⟨by omega,hh.2⟩]at c8;cases c8
   have:wi d.what 1 4=false:=by cases e:wi d.what 1 4 with|false=>rfl|true=>exact absurd (wi_iff.1 e) this
   simp [ZW,kk,this])))
 refine xx ?_;refine ZV (d:={ d with yes:=false }) _ hd.i 7 (by simp) ?_;rw[(by simp [ZX,kk,w1,w2]:ZX d.kind d.what 7=false)];refine xx ?_;obtain⟨r0,s0⟩:=wi_iff.1 c0;obtain⟨r1,s1⟩:=wi_iff.1 c1;obtain⟨r2,s2⟩:=wi_iff.1 c2;obtain⟨r3,s3⟩:=wi_iff.1 c3;obtain⟨r4,s4⟩:=wi_iff.1 c4;obtain⟨r5,s5⟩:=wi_iff.1 c5;have s6:(d.bits.length:Int)≤32:=by omega
 have s7:d.amt≤4611686018427387904:=by omega
 have z4':d.amt=0:=by have:=hd.ok.a.1;omega
 have r8:1≤d.what:=by have:=wi_iff.1 c8;omega
 have s8:d.what≤4:=by have:=wi_iff.1 c8;omega
 have e:ZW d=decide (d.par=WD):=by simp [ZW,Yn,Yi,Z0,kk,w1,w2,YB,wi,s6,s7,r1,r2,r3,r4,r5,s1,s2,s3,s4,s5,r8,s8,z2,z3,z5,z6,z8,z9,z4']
 have:=hk h (PH.le_refl h);rw[e]at this;exact ZP (ZO this)
theorem Zsv {d:Zd}(bv:Value)(hd:Zl h bv d)(hk:∀h',PH.le h h'→K (.bool (ZW d)) L h'):Zb prog 106 [Wu d bv] L h K:=by
 by_cases k1:d.kind=1
 ·exact Yjs bv hd k1 hk
 by_cases k2:d.kind=2
 ·exact Yin bv hd k2 hk
 by_cases k3:d.kind=3
 ·exact Yhs bv hd k3 hk
 by_cases k4:d.kind=4
 ·exact Ygq bv hd k4 hk
 by_cases k5:d.kind=5
 ·exact Yfo bv hd k5 hk
 by_cases k7:d.kind=7
 ·exact Yir bv hd k7 hk
 by_cases k6:d.kind=6
 ·by_cases w1:d.what=1
  ·exact Zvi bv hd k6 w1 hk
  by_cases w2:d.what=2
  ·exact Ztr bv hd k6 w2 hk
  exact Zuo bv hd k6 w1 w2 hk
 have c0:wi d.kind 1 7=false:=by
  cases e:wi d.kind 1 7 with
  | false=>rfl
  | true=>have:=wi_iff.1 e;omega
 have ob:=hd.i.open;obtain⟨x1,y1,rfl,_,hlen,_⟩:=ob;refine ZR func106 rfl (rs:=[_]) rfl rfl ZY (by kernel_rfl) rfl rfl ?_;refine xx ?_;refine Z6 fun b1 nb1 zb1=>?_;(try simp only[ZU]at nb1);refine xx ?_;refine Ya _ _ _ ?_;rw[c0];refine xx ?_;have:=hk h (PH.le_refl h);rw[show ZW d=false by simp [ZW,c0]]at this;exact ZP (ZO this)
theorem Ynh {d:Zd}(bv:Value)(hd:Zl h bv d)(hr:ZW d=true)(kk:d.kind=1)(hk:∀o,okO o (WN d).length→K (ovs o (WN d).length) (oent 5 1 o ((WN d).map (.int .u8)) L) h):Zb prog 222 [Wu d bv] L h K:=by
 have ff:=Y5 hr;have hamt:=hd.ok.a;have hi:=hd.i;have ob:=hd.i.open;obtain⟨x1,y1,rfl,_,hlen,_⟩:=ob;refine ZR func222 rfl (rs:=[_]) rfl rfl ZY (by kernel_rfl) rfl rfl ?_;refine xx ?_;refine Z6 fun b1 nb1 zb1=>?_;(try simp only[ZU]at nb1);refine xx ?_;refine YA [_] (o:=none) (bs:=[]) d.kind (by omega) (by omega) rfl (by simp) fun o1 B1 e1 g1 l1=>?_;simp only[List.length_nil]at l1
 try simp only[List.cons_append,List.nil_append]
 refine xx ?_;refine ZV _ hi 1 (by simp) ?_;rw[(by simp [ZX,kk]:ZX d.kind d.what 1=true)];refine xx ?_;refine YA [_] (o:=o1) (bs:=B1) d.acct (by omega) (by omega) g1 (by omega) fun o2 B2 e2 g2 l2=>?_
 try simp only[List.cons_append,List.nil_append]
 refine xx ?_;refine ZV _ hi 2 (by simp) ?_;rw[(by simp [ZX,kk]:ZX d.kind d.what 2=false)];refine xx ?_;refine ZV _ hi 5 (by simp) ?_;rw[(by simp [ZX,kk]:ZX d.kind d.what 5=false)];refine xx ?_;refine ZV _ hi 6 (by simp) ?_;rw[(by simp [ZX,kk]:ZX d.kind d.what 6=false)];refine xx ?_;refine ZV _ hi 7 (by simp) ?_;rw[(by simp [ZX,kk]:ZX d.kind d.what 7=false)];refine xx ?_;refine ZV _ hi 3 (by simp) ?_;rw[(by simp [ZX,kk]:ZX d.kind d.what 3=true)];refine xx ?_;refine YA [_] (o:=o2) (bs:=B2) d.to (by omega) (by omega) g2 (by omega) fun o3 B3 e3 g3 l3=>?_
 try simp only[List.cons_append,List.nil_append]
 refine xx ?_;refine ZV _ hi 4 (by simp) ?_;rw[(by simp [ZX,kk]:ZX d.kind d.what 4=true)];refine xx ?_;have lf:=VS (n:=d.amt.toNat) (by omega);refine UF d.amt (by omega) (by omega) fun q4 t4 m4=>?_
 try simp only[List.cons_append,List.nil_append]
 refine xx ?_;refine VH _ o3 q4 B3 (Ye d.amt.toNat) g3 t4 m4 (WY _) (by omega) fun o4 xb4 xc4 xp4 g4 j4=>?_;simp only at j4;obtain⟨B4,e4⟩:∃B,B=B3++(Ye d.amt.toNat):=⟨_,rfl⟩
 rw[← e4]at g4 ⊢;have l4:B4.length≤B3.length+300:=by rw[e4,List.length_append];omega
 try simp only[List.cons_append,List.nil_append]
 refine xx ?_;refine ZV _ hi 8 (by simp) ?_;rw[(by simp [ZX,kk]:ZX d.kind d.what 8=false)];refine xx ?_;have eE:B4=WN d:=by simp [WN,YB,wi,kk,e1,e2,e3,e4]
 rw[eE]at g4 ⊢;exact ZP (ZP (ZO (hk _ g4)))
theorem Ymr {d:Zd}(bv:Value)(hd:Zl h bv d)(hr:ZW d=true)(kk:d.kind=2)(hk:∀o,okO o (WN d).length→K (ovs o (WN d).length) (oent 5 1 o ((WN d).map (.int .u8)) L) h):Zb prog 222 [Wu d bv] L h K:=by
 have ff:=Y5 hr;have hamt:=hd.ok.a;have hi:=hd.i;have ob:=hd.i.open;obtain⟨x1,y1,rfl,_,hlen,_⟩:=ob;refine ZR func222 rfl (rs:=[_]) rfl rfl ZY (by kernel_rfl) rfl rfl ?_;refine xx ?_;refine Z6 fun b1 nb1 zb1=>?_;(try simp only[ZU]at nb1);refine xx ?_;refine YA [_] (o:=none) (bs:=[]) d.kind (by omega) (by omega) rfl (by simp) fun o1 B1 e1 g1 l1=>?_;simp only[List.length_nil]at l1
 try simp only[List.cons_append,List.nil_append]
 refine xx ?_;refine ZV _ hi 1 (by simp) ?_;rw[(by simp [ZX,kk]:ZX d.kind d.what 1=true)];refine xx ?_;refine YA [_] (o:=o1) (bs:=B1) d.acct (by omega) (by omega) g1 (by omega) fun o2 B2 e2 g2 l2=>?_
 try simp only[List.cons_append,List.nil_append]
 refine xx ?_;refine ZV _ hi 2 (by simp) ?_;rw[(by simp [ZX,kk]:ZX d.kind d.what 2=false)];refine xx ?_;refine ZV _ hi 5 (by simp) ?_;rw[(by simp [ZX,kk]:ZX d.kind d.what 5=false)];refine xx ?_;refine ZV _ hi 6 (by simp) ?_;rw[(by simp [ZX,kk]:ZX d.kind d.what 6=false)];refine xx ?_;refine ZV _ hi 7 (by simp) ?_;rw[(by simp [ZX,kk]:ZX d.kind d.what 7=false)];refine xx ?_;refine ZV _ hi 3 (by simp) ?_;rw[(by simp [ZX,kk]:ZX d.kind d.what 3=false)];refine xx ?_;refine ZV _ hi 4 (by simp) ?_;rw[(by simp [ZX,kk]:ZX d.kind d.what 4=true)];refine xx ?_;have lf:=VS (n:=d.amt.toNat) (by omega);refine UF d.amt (by omega) (by omega) fun q3 t3 m3=>?_
 try simp only[List.cons_append,List.nil_append]
 refine xx ?_;refine VH _ o2 q3 B2 (Ye d.amt.toNat) g2 t3 m3 (WY _) (by omega) fun o3 xb3 xc3 xp3 g3 j3=>?_;simp only at j3;obtain⟨B3,e3⟩:∃B,B=B2++(Ye d.amt.toNat):=⟨_,rfl⟩
 rw[← e3]at g3 ⊢;have l3:B3.length≤B2.length+300:=by rw[e3,List.length_append];omega
 try simp only[List.cons_append,List.nil_append]
 refine xx ?_;refine ZV _ hi 8 (by simp) ?_;rw[(by simp [ZX,kk]:ZX d.kind d.what 8=false)];refine xx ?_;have eE:B3=WN d:=by simp [WN,YB,wi,kk,e1,e2,e3]
 rw[eE]at g3 ⊢;exact ZP (ZP (ZO (hk _ g3)))
theorem Ynu {d:Zd}(bv:Value)(hd:Zl h bv d)(hr:ZW d=true)(kk:d.kind=3)(hk:∀o,okO o (WN d).length→K (ovs o (WN d).length) (oent 5 1 o ((WN d).map (.int .u8)) L) h):Zb prog 222 [Wu d bv] L h K:=by
 have ff:=Y5 hr;have hamt:=hd.ok.a;have hi:=hd.i;have ob:=hd.i.open;obtain⟨x1,y1,rfl,_,hlen,_⟩:=ob;refine ZR func222 rfl (rs:=[_]) rfl rfl ZY (by kernel_rfl) rfl rfl ?_;refine xx ?_;refine Z6 fun b1 nb1 zb1=>?_;(try simp only[ZU]at nb1);refine xx ?_;refine YA [_] (o:=none) (bs:=[]) d.kind (by omega) (by omega) rfl (by simp) fun o1 B1 e1 g1 l1=>?_;simp only[List.length_nil]at l1
 try simp only[List.cons_append,List.nil_append]
 refine xx ?_;refine ZV _ hi 1 (by simp) ?_;rw[(by simp [ZX,kk]:ZX d.kind d.what 1=true)];refine xx ?_;refine YA [_] (o:=o1) (bs:=B1) d.acct (by omega) (by omega) g1 (by omega) fun o2 B2 e2 g2 l2=>?_
 try simp only[List.cons_append,List.nil_append]
 refine xx ?_;refine ZV _ hi 2 (by simp) ?_;rw[(by simp [ZX,kk]:ZX d.kind d.what 2=true)];refine xx ?_;refine YA [_] (o:=o2) (bs:=B2) d.mem (by omega) (by omega) g2 (by omega) fun o3 B3 e3 g3 l3=>?_
 try simp only[List.cons_append,List.nil_append]
 refine xx ?_;refine ZV _ hi 5 (by simp) ?_;rw[(by simp [ZX,kk]:ZX d.kind d.what 5=false)];refine xx ?_;refine ZV _ hi 6 (by simp) ?_;rw[(by simp [ZX,kk]:ZX d.kind d.what 6=false)];refine xx ?_;refine ZV _ hi 7 (by simp) ?_;rw[(by simp [ZX,kk]:ZX d.kind d.what 7=false)];refine xx ?_;refine ZV _ hi 3 (by simp) ?_;rw[(by simp [ZX,kk]:ZX d.kind d.what 3=false)];refine xx ?_;refine ZV _ hi 4 (by simp) ?_;rw[(by simp [ZX,kk]:ZX d.kind d.what 4=true)];refine xx ?_;have lf:=VS (n:=d.amt.toNat) (by omega);refine UF d.amt (by omega) (by omega) fun q4 t4 m4=>?_
 try simp only[List.cons_append,List.nil_append]
 refine xx ?_;refine VH _ o3 q4 B3 (Ye d.amt.toNat) g3 t4 m4 (WY _) (by omega) fun o4 xb4 xc4 xp4 g4 j4=>?_;simp only at j4;obtain⟨B4,e4⟩:∃B,B=B3++(Ye d.amt.toNat):=⟨_,rfl⟩
 rw[← e4]at g4 ⊢;have l4:B4.length≤B3.length+300:=by rw[e4,List.length_append];omega
 try simp only[List.cons_append,List.nil_append]
 refine xx ?_;refine ZV _ hi 8 (by simp) ?_;rw[(by simp [ZX,kk]:ZX d.kind d.what 8=false)];refine xx ?_;have eE:B4=WN d:=by simp [WN,YB,wi,kk,e1,e2,e3,e4]
 rw[eE]at g4 ⊢;exact ZP (ZP (ZO (hk _ g4)))
theorem Yom {d:Zd}(bv:Value)(hd:Zl h bv d)(hr:ZW d=true)(kk:d.kind=4)(hk:∀o,okO o (WN d).length→K (ovs o (WN d).length) (oent 5 1 o ((WN d).map (.int .u8)) L) h):Zb prog 222 [Wu d bv] L h K:=by
 have ff:=Y5 hr;have hamt:=hd.ok.a;have hi:=hd.i;have ob:=hd.i.open;obtain⟨x1,y1,rfl,_,hlen,_⟩:=ob;refine ZR func222 rfl (rs:=[_]) rfl rfl ZY (by kernel_rfl) rfl rfl ?_;refine xx ?_;refine Z6 fun b1 nb1 zb1=>?_;(try simp only[ZU]at nb1);refine xx ?_;refine YA [_] (o:=none) (bs:=[]) d.kind (by omega) (by omega) rfl (by simp) fun o1 B1 e1 g1 l1=>?_;simp only[List.length_nil]at l1
 try simp only[List.cons_append,List.nil_append]
 refine xx ?_;refine ZV _ hi 1 (by simp) ?_;rw[(by simp [ZX,kk]:ZX d.kind d.what 1=true)];refine xx ?_;refine YA [_] (o:=o1) (bs:=B1) d.acct (by omega) (by omega) g1 (by omega) fun o2 B2 e2 g2 l2=>?_
 try simp only[List.cons_append,List.nil_append]
 refine xx ?_;refine ZV _ hi 2 (by simp) ?_;rw[(by simp [ZX,kk]:ZX d.kind d.what 2=true)];refine xx ?_;refine YA [_] (o:=o2) (bs:=B2) d.mem (by omega) (by omega) g2 (by omega) fun o3 B3 e3 g3 l3=>?_
 try simp only[List.cons_append,List.nil_append]
 refine xx ?_;refine ZV _ hi 5 (by simp) ?_;rw[(by simp [ZX,kk]:ZX d.kind d.what 5=false)];refine xx ?_;refine ZV _ hi 6 (by simp) ?_;rw[(by simp [ZX,kk]:ZX d.kind d.what 6=false)];refine xx ?_;refine ZV _ hi 7 (by simp) ?_;rw[(by simp [ZX,kk]:ZX d.kind d.what 7=false)];refine xx ?_;refine ZV _ hi 3 (by simp) ?_;rw[(by simp [ZX,kk]:ZX d.kind d.what 3=false)];refine xx ?_;refine ZV _ hi 4 (by simp) ?_;rw[(by simp [ZX,kk]:ZX d.kind d.what 4=false)];refine xx ?_;refine ZV _ hi 8 (by simp) ?_;rw[(by simp [ZX,kk]:ZX d.kind d.what 8=false)];refine xx ?_;have eE:B3=WN d:=by simp [WN,YB,wi,kk,e1,e2,e3]
 rw[eE]at g3 ⊢;exact ZP (ZO (hk _ g3))
theorem Ypa {d:Zd}(bv:Value)(hd:Zl h bv d)(hr:ZW d=true)(kk:d.kind=5)(hk:∀o,okO o (WN d).length→K (ovs o (WN d).length) (oent 5 1 o ((WN d).map (.int .u8)) L) h):Zb prog 222 [Wu d bv] L h K:=by
 have ff:=Y5 hr;have hamt:=hd.ok.a;have hi:=hd.i;have ob:=hd.i.open;obtain⟨x1,y1,rfl,_,hlen,_⟩:=ob;refine ZR func222 rfl (rs:=[_]) rfl rfl ZY (by kernel_rfl) rfl rfl ?_;refine xx ?_;refine Z6 fun b1 nb1 zb1=>?_;(try simp only[ZU]at nb1);refine xx ?_;refine YA [_] (o:=none) (bs:=[]) d.kind (by omega) (by omega) rfl (by simp) fun o1 B1 e1 g1 l1=>?_;simp only[List.length_nil]at l1
 try simp only[List.cons_append,List.nil_append]
 refine xx ?_;refine ZV _ hi 1 (by simp) ?_;rw[(by simp [ZX,kk]:ZX d.kind d.what 1=false)];refine xx ?_;refine ZV _ hi 2 (by simp) ?_;rw[(by simp [ZX,kk]:ZX d.kind d.what 2=false)];refine xx ?_;refine ZV _ hi 5 (by simp) ?_;rw[(by simp [ZX,kk]:ZX d.kind d.what 5=true)];refine xx ?_;refine YA [_] (o:=o1) (bs:=B1) d.ep (by omega) (by omega) g1 (by omega) fun o2 B2 e2 g2 l2=>?_
 try simp only[List.cons_append,List.nil_append]
 refine xx ?_;have lr:(Zgm d.bits).length≤50:=by have:=VS (n:=d.bits.length) (by omega);simp [Zgm];omega
 have lp:0<(Zgm d.bits).length:=by have:=WY d.bits.length;simp [Zgm];omega
 refine Yjc _ hi (by omega) fun q3 t3 m3=>?_
 try simp only[List.cons_append,List.nil_append]
 refine xx ?_;refine VH _ o2 q3 B2 (Zgm d.bits) g2 t3 m3 lp (by omega) fun o3 xb3 xc3 xp3 g3 j3=>?_;simp only at j3;obtain⟨B3,e3⟩:∃B,B=B2++(Zgm d.bits):=⟨_,rfl⟩
 rw[← e3]at g3 ⊢;have l3:B3.length≤B2.length+300:=by rw[e3,List.length_append];omega
 try simp only[List.cons_append,List.nil_append]
 refine xx ?_;refine ZV _ hi 6 (by simp) ?_;rw[(by simp [ZX,kk]:ZX d.kind d.what 6=false)];refine xx ?_;refine ZV _ hi 7 (by simp) ?_;rw[(by simp [ZX,kk]:ZX d.kind d.what 7=false)];refine xx ?_;refine ZV _ hi 3 (by simp) ?_;rw[(by simp [ZX,kk]:ZX d.kind d.what 3=false)];refine xx ?_;refine ZV _ hi 4 (by simp) ?_;rw[(by simp [ZX,kk]:ZX d.kind d.what 4=false)];refine xx ?_;refine ZV _ hi 8 (by simp) ?_;rw[(by simp [ZX,kk]:ZX d.kind d.what 8=false)];refine xx ?_;have eE:B3=WN d:=by simp [WN,YB,wi,kk,e1,e2,e3]
 rw[eE]at g3 ⊢;exact ZP (ZP (ZO (hk _ g3)))
theorem Yqa {d:Zd}(bv:Value)(hd:Zl h bv d)(hr:ZW d=true)(kk:d.kind=7)(hk:∀o,okO o (WN d).length→K (ovs o (WN d).length) (oent 5 1 o ((WN d).map (.int .u8)) L) h):Zb prog 222 [Wu d bv] L h K:=by
 have ff:=Y5 hr;have hamt:=hd.ok.a;have hi:=hd.i;have ob:=hd.i.open;obtain⟨x1,y1,rfl,_,hlen,_⟩:=ob;refine ZR func222 rfl (rs:=[_]) rfl rfl ZY (by kernel_rfl) rfl rfl ?_;refine xx ?_;refine Z6 fun b1 nb1 zb1=>?_;(try simp only[ZU]at nb1);refine xx ?_;refine YA [_] (o:=none) (bs:=[]) d.kind (by omega) (by omega) rfl (by simp) fun o1 B1 e1 g1 l1=>?_;simp only[List.length_nil]at l1
 try simp only[List.cons_append,List.nil_append]
 refine xx ?_;refine ZV _ hi 1 (by simp) ?_;rw[(by simp [ZX,kk]:ZX d.kind d.what 1=true)];refine xx ?_;refine YA [_] (o:=o1) (bs:=B1) d.acct (by omega) (by omega) g1 (by omega) fun o2 B2 e2 g2 l2=>?_
 try simp only[List.cons_append,List.nil_append]
 refine xx ?_;refine ZV _ hi 2 (by simp) ?_;rw[(by simp [ZX,kk]:ZX d.kind d.what 2=true)];refine xx ?_;refine YA [_] (o:=o2) (bs:=B2) d.mem (by omega) (by omega) g2 (by omega) fun o3 B3 e3 g3 l3=>?_
 try simp only[List.cons_append,List.nil_append]
 refine xx ?_;refine ZV _ hi 5 (by simp) ?_;rw[(by simp [ZX,kk]:ZX d.kind d.what 5=false)];refine xx ?_;refine ZV _ hi 6 (by simp) ?_;rw[(by simp [ZX,kk]:ZX d.kind d.what 6=false)];refine xx ?_;refine ZV _ hi 7 (by simp) ?_;rw[(by simp [ZX,kk]:ZX d.kind d.what 7=false)];refine xx ?_;refine ZV _ hi 3 (by simp) ?_;rw[(by simp [ZX,kk]:ZX d.kind d.what 3=false)];refine xx ?_;refine ZV _ hi 4 (by simp) ?_;rw[(by simp [ZX,kk]:ZX d.kind d.what 4=false)];refine xx ?_;refine ZV _ hi 8 (by simp) ?_;rw[(by simp [ZX,kk]:ZX d.kind d.what 8=true)];refine xx ?_;refine YA [_] (o:=o3) (bs:=B3) d.mot (by omega) (by omega) g3 (by omega) fun o4 B4 e4 g4 l4=>?_
 try simp only[List.cons_append,List.nil_append]
 refine xx ?_
 cases hy:d.yes with
 | false =>
  simp -dsimp -implicitDefEqProofs (disch:=first|with_reducible assumption|omega) [go_sem,hy];refine YA [_] (o:=o4) (bs:=B4) 0 (by omega) (by omega) g4 (by omega) fun o9 B9 e9 g9 l9=>?_
  try simp only[List.cons_append,List.nil_append]
  refine xx ?_;have eE:B9=WN d:=by simp [WN,YB,wi,kk,hy,e9,e1,e2,e3,e4]
  rw[eE]at g9 ⊢;exact ZP (ZO (hk _ g9))
 | true =>
  simp -dsimp -implicitDefEqProofs (disch:=first|with_reducible assumption|omega) [go_sem,hy];refine YA [_] (o:=o4) (bs:=B4) 1 (by omega) (by omega) g4 (by omega) fun o9 B9 e9 g9 l9=>?_
  try simp only[List.cons_append,List.nil_append]
  refine xx ?_;have eE:B9=WN d:=by simp [WN,YB,wi,kk,hy,e9,e1,e2,e3,e4]
  rw[eE]at g9 ⊢;exact ZP (ZO (hk _ g9))
theorem Zwx {d:Zd}(bv:Value)(hd:Zl h bv d)(hr:ZW d=true)(kk:d.kind=6)(ww:d.what=1)(hk:∀o,okO o (WN d).length→K (ovs o (WN d).length) (oent 5 1 o ((WN d).map (.int .u8)) L) h):Zb prog 222 [Wu d bv] L h K:=by
 have ff:=Y5 hr;have hamt:=hd.ok.a;have hwh:=Jf hr kk;have hi:=hd.i;have ob:=hd.i.open;obtain⟨x1,y1,rfl,_,hlen,_⟩:=ob;refine ZR func222 rfl (rs:=[_]) rfl rfl ZY (by kernel_rfl) rfl rfl ?_;refine xx ?_;refine Z6 fun b1 nb1 zb1=>?_;(try simp only[ZU]at nb1);refine xx ?_;refine YA [_] (o:=none) (bs:=[]) d.kind (by omega) (by omega) rfl (by simp) fun o1 B1 e1 g1 l1=>?_;simp only[List.length_nil]at l1
 try simp only[List.cons_append,List.nil_append]
 refine xx ?_;refine ZV _ hi 1 (by simp) ?_;rw[(by simp [ZX,kk,ww]:ZX d.kind d.what 1=true)];refine xx ?_;refine YA [_] (o:=o1) (bs:=B1) d.acct (by omega) (by omega) g1 (by omega) fun o2 B2 e2 g2 l2=>?_
 try simp only[List.cons_append,List.nil_append]
 refine xx ?_;refine ZV _ hi 2 (by simp) ?_;rw[(by simp [ZX,kk,ww]:ZX d.kind d.what 2=false)];refine xx ?_;refine ZV _ hi 5 (by simp) ?_;rw[(by simp [ZX,kk,ww]:ZX d.kind d.what 5=false)];refine xx ?_;refine ZV _ hi 6 (by simp) ?_;rw[(by simp [ZX,kk,ww]:ZX d.kind d.what 6=true)];refine xx ?_;refine YA [_] (o:=o2) (bs:=B2) d.what (by omega) (by omega) g2 (by omega) fun o3 B3 e3 g3 l3=>?_
 try simp only[List.cons_append,List.nil_append]
 refine xx ?_;refine ZV _ hi 7 (by simp) ?_;rw[(by simp [ZX,kk,ww]:ZX d.kind d.what 7=true)];refine xx ?_;have lr:=Zqx hd.ok.p (hwh.2.2 ww);have lp:0<(Zkl d.par).length:=by simp only[Zkl,Yw,Ua,List.cons_append,List.length_append];have:=WY d.par.inc.toNat;omega
 refine Ybl _ hd.ok.p (hwh.2.2 ww) fun q4 t4 m4=>?_
 try simp only[List.cons_append,List.nil_append]
 refine xx ?_;refine VH _ o3 q4 B3 (Zkl d.par) g3 t4 m4 lp (by omega) fun o4 xb4 xc4 xp4 g4 j4=>?_;simp only at j4;obtain⟨B4,e4⟩:∃B,B=B3++(Zkl d.par):=⟨_,rfl⟩
 rw[← e4]at g4 ⊢;have l4:B4.length≤B3.length+300:=by rw[e4,List.length_append];omega
 try simp only[List.cons_append,List.nil_append]
 refine xx ?_;refine ZV _ hi 3 (by simp) ?_;rw[(by simp [ZX,kk,ww]:ZX d.kind d.what 3=false)];refine xx ?_;refine ZV _ hi 4 (by simp) ?_;rw[(by simp [ZX,kk,ww]:ZX d.kind d.what 4=false)];refine xx ?_;refine ZV _ hi 8 (by simp) ?_;rw[(by simp [ZX,kk,ww]:ZX d.kind d.what 8=false)];refine xx ?_;have eE:B4=WN d:=by simp [WN,YB,wi,kk,ww,e1,e2,e3,e4]
 rw[eE]at g4 ⊢;exact ZP (ZP (ZO (hk _ g4)))
theorem Ydh {d:Zd}(bv:Value)(hd:Zl h bv d)(hr:ZW d=true)(kk:d.kind=6)(ww:d.what=2)(hk:∀o,okO o (WN d).length→K (ovs o (WN d).length) (oent 5 1 o ((WN d).map (.int .u8)) L) h):Zb prog 222 [Wu d bv] L h K:=by
 have ff:=Y5 hr;have hamt:=hd.ok.a;have hwh:=Jf hr kk;have hi:=hd.i;have ob:=hd.i.open;obtain⟨x1,y1,rfl,_,hlen,_⟩:=ob;refine ZR func222 rfl (rs:=[_]) rfl rfl ZY (by kernel_rfl) rfl rfl ?_;refine xx ?_;refine Z6 fun b1 nb1 zb1=>?_;(try simp only[ZU]at nb1);refine xx ?_;refine YA [_] (o:=none) (bs:=[]) d.kind (by omega) (by omega) rfl (by simp) fun o1 B1 e1 g1 l1=>?_;simp only[List.length_nil]at l1
 try simp only[List.cons_append,List.nil_append]
 refine xx ?_;refine ZV _ hi 1 (by simp) ?_;rw[(by simp [ZX,kk,ww]:ZX d.kind d.what 1=true)];refine xx ?_;refine YA [_] (o:=o1) (bs:=B1) d.acct (by omega) (by omega) g1 (by omega) fun o2 B2 e2 g2 l2=>?_
 try simp only[List.cons_append,List.nil_append]
 refine xx ?_;refine ZV _ hi 2 (by simp) ?_;rw[(by simp [ZX,kk,ww]:ZX d.kind d.what 2=false)];refine xx ?_;refine ZV _ hi 5 (by simp) ?_;rw[(by simp [ZX,kk,ww]:ZX d.kind d.what 5=false)];refine xx ?_;refine ZV _ hi 6 (by simp) ?_;rw[(by simp [ZX,kk,ww]:ZX d.kind d.what 6=true)];refine xx ?_;refine YA [_] (o:=o2) (bs:=B2) d.what (by omega) (by omega) g2 (by omega) fun o3 B3 e3 g3 l3=>?_
 try simp only[List.cons_append,List.nil_append]
 refine xx ?_;refine ZV _ hi 7 (by simp) ?_;rw[(by simp [ZX,kk,ww]:ZX d.kind d.what 7=false)];refine xx ?_;refine ZV _ hi 3 (by simp) ?_;rw[(by simp [ZX,kk,ww]:ZX d.kind d.what 3=true)];refine xx ?_;refine YA [_] (o:=o3) (bs:=B3) d.to (by omega) (by omega) g3 (by omega) fun o4 B4 e4 g4 l4=>?_
 try simp only[List.cons_append,List.nil_append]
 refine xx ?_;refine ZV _ hi 4 (by simp) ?_;rw[(by simp [ZX,kk,ww]:ZX d.kind d.what 4=true)];refine xx ?_;have lf:=VS (n:=d.amt.toNat) (by omega);refine UF d.amt (by omega) (by omega) fun q5 t5 m5=>?_
 try simp only[List.cons_append,List.nil_append]
 refine xx ?_;refine VH _ o4 q5 B4 (Ye d.amt.toNat) g4 t5 m5 (WY _) (by omega) fun o5 xb5 xc5 xp5 g5 j5=>?_;simp only at j5;obtain⟨B5,e5⟩:∃B,B=B4++(Ye d.amt.toNat):=⟨_,rfl⟩
 rw[← e5]at g5 ⊢;have l5:B5.length≤B4.length+300:=by rw[e5,List.length_append];omega
 try simp only[List.cons_append,List.nil_append]
 refine xx ?_;refine ZV _ hi 8 (by simp) ?_;rw[(by simp [ZX,kk,ww]:ZX d.kind d.what 8=false)];refine xx ?_;have eE:B5=WN d:=by simp [WN,YB,wi,kk,ww,e1,e2,e3,e4,e5]
 rw[eE]at g5 ⊢;exact ZP (ZP (ZO (hk _ g5)))
theorem Zzm {d:Zd}(bv:Value)(hd:Zl h bv d)(hr:ZW d=true)(kk:d.kind=6)(w1:¬d.what=1)(w2:¬d.what=2)(hk:∀o,okO o (WN d).length→K (ovs o (WN d).length) (oent 5 1 o ((WN d).map (.int .u8)) L) h):Zb prog 222 [Wu d bv] L h K:=by
 have ff:=Y5 hr;have hamt:=hd.ok.a;have hwh:=Jf hr kk;have hi:=hd.i;have ob:=hd.i.open;obtain⟨x1,y1,rfl,_,hlen,_⟩:=ob;refine ZR func222 rfl (rs:=[_]) rfl rfl ZY (by kernel_rfl) rfl rfl ?_;refine xx ?_;refine Z6 fun b1 nb1 zb1=>?_;(try simp only[ZU]at nb1);refine xx ?_;refine YA [_] (o:=none) (bs:=[]) d.kind (by omega) (by omega) rfl (by simp) fun o1 B1 e1 g1 l1=>?_;simp only[List.length_nil]at l1
 try simp only[List.cons_append,List.nil_append]
 refine xx ?_;refine ZV _ hi 1 (by simp) ?_;rw[(by simp [ZX,kk,w1,w2]:ZX d.kind d.what 1=true)];refine xx ?_;refine YA [_] (o:=o1) (bs:=B1) d.acct (by omega) (by omega) g1 (by omega) fun o2 B2 e2 g2 l2=>?_
 try simp only[List.cons_append,List.nil_append]
 refine xx ?_;refine ZV _ hi 2 (by simp) ?_;rw[(by simp [ZX,kk,w1,w2]:ZX d.kind d.what 2=false)];refine xx ?_;refine ZV _ hi 5 (by simp) ?_;rw[(by simp [ZX,kk,w1,w2]:ZX d.kind d.what 5=false)];refine xx ?_;refine ZV _ hi 6 (by simp) ?_;rw[(by simp [ZX,kk,w1,w2]:ZX d.kind d.what 6=true)];refine xx ?_;refine YA [_] (o:=o2) (bs:=B2) d.what (by omega) (by omega) g2 (by omega) fun o3 B3 e3 g3 l3=>?_
 try simp only[List.cons_append,List.nil_append]
 refine xx ?_;refine ZV _ hi 7 (by simp) ?_;rw[(by simp [ZX,kk,w1,w2]:ZX d.kind d.what 7=false)];refine xx ?_;refine ZV _ hi 3 (by simp) ?_;rw[(by simp [ZX,kk,w1,w2]:ZX d.kind d.what 3=false)];refine xx ?_;refine ZV _ hi 4 (by simp) ?_;rw[(by simp [ZX,kk,w1,w2]:ZX d.kind d.what 4=false)];refine xx ?_;refine ZV _ hi 8 (by simp) ?_;rw[(by simp [ZX,kk,w1,w2]:ZX d.kind d.what 8=false)];refine xx ?_;have eE:B3=WN d:=by simp [WN,YB,wi,kk,w1,w2,e1,e2,e3]
 rw[eE]at g3 ⊢;exact ZP (ZO (hk _ g3))
theorem Zxb {d:Zd}(bv:Value)(hd:Zl h bv d)(hr:ZW d=true)(hk:∀o,okO o (WN d).length→K (ovs o (WN d).length) (oent 5 1 o ((WN d).map (.int .u8)) L) h):Zb prog 222 [Wu d bv] L h K:=by
 have ff:=Y5 hr;by_cases k1:d.kind=1
 ·exact Ynh bv hd hr k1 hk
 by_cases k2:d.kind=2
 ·exact Ymr bv hd hr k2 hk
 by_cases k3:d.kind=3
 ·exact Ynu bv hd hr k3 hk
 by_cases k4:d.kind=4
 ·exact Yom bv hd hr k4 hk
 by_cases k5:d.kind=5
 ·exact Ypa bv hd hr k5 hk
 by_cases k7:d.kind=7
 ·exact Yqa bv hd hr k7 hk
 have k6:d.kind=6:=by omega
 by_cases w1:d.what=1
 ·exact Zwx bv hd hr k6 w1 hk
 by_cases w2:d.what=2
 ·exact Ydh bv hd hr k6 w2 hk
 exact Zzm bv hd hr k6 w1 w2 hk
end Go.X
