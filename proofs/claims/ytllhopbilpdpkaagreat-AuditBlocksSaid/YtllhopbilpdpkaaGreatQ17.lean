/- Lemmas and contracts. Conditions: as each says. -/
import Derived.Shelf.Spec.BitsCarry
import Derived.Test.YtllhopbilpdpkaaGreatQ16
set_option linter.unusedVariables false
set_option linter.unusedSimpArgs false
set_option maxHeartbeats 12800000
set_option maxRecDepth 20000
namespace Go.X
open Go.RowKit Go.Proofs Go.Bl Go.Proofs.Tryz
variable {L:Own} {h:PH} {K:PK}
theorem Zdu {e sz:Nat}(o:Option (Nat×Nat))(xs:List Value)(M:Own):oent e sz o xs M=oent e sz o xs []++M:=by
 cases o<;>rfl
theorem Wp {e sz:Nat}{o o2:Option (Nat×Nat)}{xs:List Value}{M:Own}{h:PH}(ha:apO o (oent e sz o2 xs M) h):apO o M h:=by
 cases o with
 | none=>trivial
 | some p=>exact⟨Yr ha.1,ha.2⟩
theorem Zgt {e sz e2 sz2:Nat}{o1 o2:Option (Nat×Nat)}{cs1 cs2:List Value}{M:Own}{h:PH}(h1:apO o1 M h)(h2:apO o2 (oent e sz o1 cs1 []++M) h):apO o1 (oent e2 sz2 o2 cs2 M) h∧apO o2 M h:=by
 cases o1 with
 | none=>exact⟨trivial,h2⟩
 | some p =>
  cases o2 with
  | none=>exact⟨h1,trivial⟩
  | some q =>
   have:p.1≠q.1:=h2.1.1;exact⟨⟨⟨fun e=>this e.symm,h1.1⟩,h1.2⟩,⟨h2.1.2,h2.2⟩⟩
theorem Znf {xs:List Int}(v:Value)(hx:Ints h .u64 v xs)(hl:xs.length≤100000)(hk:∀o,okO o xs.length→apO o L h→K (ovs o xs.length) (oent 22 1 o (xs.map (.int .u64)) L) h):Zb prog 98 [v] L h K:=by
 have ox:=hx.open;obtain⟨a,ca,rfl,hna,hca,h0,hcx⟩:=ox;refine ZS func98 rfl (rs:=[_]) rfl rfl ZX (by kernel_rfl) rfl rfl ?_;refine xx ?_
 cases ha:a.isNone with
 | true =>
  have ha':a=none:=by simpa using ha
  subst ha';have hl0:xs.length=0:=by have:=h0 rfl;omega
  have hx':xs=[]:=List.eq_nil_of_length_eq_zero hl0;subst hx';refine xx ?_;exact ZP (hk none rfl trivial)
 | false =>
  refine xx ?_;refine Z0 fun b1 nb1 zb1=>?_;(try simp only[ZT]at nb1);refine xx ?_;refine Z3 (t:=25) (e:=22) (sz:=1) (bytes:=8) (z:=[.int .u64 0]) (by kernel_rfl) Ug rfl rfl rfl rfl (by decide) [] L (some (b1,0)) 0 [] ⟨Nat.le_refl _,Nat.zero_le _⟩ rfl (Src.known hx.1) (by simp) (Jj _ _) (by simp [maxLen];omega) (by omega) ?_;intro o' j1 j2 j3;simp only[Nat.zero_add,List.nil_append]at j1 j2 ⊢;refine xx ?_;exact ZP (hk o' j1 j2)
theorem GC (p:Zd)(ok:Zj p)(b:Int)(hb:0≤b∧b≤18446744073709551615)(hk:K (.int .u64 (if Yd p then Wm p b else 0)) L h):Zb prog 228 [WR p,.int .u64 b] L h K:=by
 refine ZS func228 rfl (rs:=[_]) rfl rfl ZX (by kernel_rfl) rfl rfl ?_;refine xx ?_;refine Z0 fun b1 nb1 zb1=>?_;(try simp only[ZT]at nb1);refine xx ?_;refine Jo p ok ?_;refine xx ?_;refine Z0 fun b2 nb2 zb2=>?_;(try simp only[ZT]at nb2);refine xx ?_
 cases hr:Yd p with
 | false =>
  rw[hr]at hk;refine xx ?_;exact ZO (ZO (ZP hk))
 | true =>
  rw[hr]at hk;refine xx ?_;refine Zhq p b (Ja hr) hb ?_;refine xx ?_;exact ZO (ZO (ZP hk))
structure ZE where
 own:Int
 bal:Int
def WG:ZE:=⟨0,0⟩
def Waq (f:ZE):List Value:=[.int .i64 f.own,.int .u64 f.bal]
theorem Yes (f:ZE):(Waq f).length=2:=rfl
structure Wgf (f:ZE):Prop where
 o : -9223372036854775808≤f.own∧f.own≤9223372036854775807
 b:0≤f.bal∧f.bal≤18446744073709551615
structure Zz where
 par:Zd
 most:Int
 purses:List Int
 founders:List ZE
abbrev genC (g:Zz)(pv fv:Value):List Value:=[.int .u64 g.par.inc,.int .u64 g.par.maxEff,.int .u64 g.par.floor,.int .u64 g.par.cap,.int .u64 g.par.up,.int .u64 g.par.down,.int .u64 g.par.bias,.int .u64 g.par.quot,.int .u64 g.par.biasEm,.int .u64 g.par.quotEm,.int .u64 g.par.recover,.int .u64 g.par.scoreCap,.int .u64 g.par.rate,.int .u64 g.par.bond,.int .i64 g.par.delay,.int .i64 g.par.streak,.int .i64 g.par.boost,.int .i64 g.par.absent,.int .i64 g.par.burn,.int .i64 g.par.churn,.int .i64 g.par.wait,.int .i64 g.par.poll,.int .i64 g.par.enact,.int .i64 g.par.quorum,.int .u64 g.most,pv,fv]
abbrev genV (g:Zz)(pv fv:Value):Value := .agg #[.int .u64 g.par.inc,.int .u64 g.par.maxEff,.int .u64 g.par.floor,.int .u64 g.par.cap,.int .u64 g.par.up,.int .u64 g.par.down,.int .u64 g.par.bias,.int .u64 g.par.quot,.int .u64 g.par.biasEm,.int .u64 g.par.quotEm,.int .u64 g.par.recover,.int .u64 g.par.scoreCap,.int .u64 g.par.rate,.int .u64 g.par.bond,.int .i64 g.par.delay,.int .i64 g.par.streak,.int .i64 g.par.boost,.int .i64 g.par.absent,.int .i64 g.par.burn,.int .i64 g.par.churn,.int .i64 g.par.wait,.int .i64 g.par.poll,.int .i64 g.par.enact,.int .i64 g.par.quorum,.int .u64 g.most,pv,fv]
structure ZH (h:PH)(pv fv:Value)(g:Zz):Prop where
 ok:Zj g.par
 m:0≤g.most∧g.most≤18446744073709551615
 p:Ints h .u64 pv g.purses
 f:Zh Waq 2 h fv g.founders
 fo:∀x∈g.founders,Wgf x
theorem ZH.up {h h':PH}(le:PH.le h h'){pv fv:Value}{g:Zz}(hg:ZH h pv fv g):ZH h' pv fv g:=⟨hg.ok,hg.m,hg.p.up le,hg.f.up le,hg.fo⟩
def Ybk (g:Zz)(f:ZE):Bool:=wi f.own 0 ((g.purses.length:Int)-1)&&decide (g.par.floor<f.bal)&&decide (f.bal≤g.par.cap)
def Zwi (p:Zd)(f:ZE):Zc:=⟨f.bal,Wm p f.bal,0,0,f.own,2⟩
def VV (g:Zz):List Int:=g.purses++g.founders.map ZE.bal
def Zpn (g:Zz):Bool:=Yd g.par&&decide (g.most≤4611686018427387904)&&wi g.purses.length 1 64&&decide (g.founders.length≤128)&&g.founders.all (Ybk g)&&decide (tot (VV g)≤g.most)
def Yfr (g:Zz):Ze:=⟨g.par,g.most,tot (VV g),0,0,0,0,0,false,g.purses,g.founders.map (Zwi g.par),[],[],[],[],[],List.replicate 16 0,[]⟩
def Yht (g:Zz):Ze:=if Zpn g then Yfr g else Gl
theorem Zkx (p:Zd)(ok:Zj p)(hr:Yd p=true)(f:ZE)(fo:Wgf f)(hk:K (Ztw (Zwi p f)) L h):Zb prog 152 [WR p,.agg #[.int .i64 f.own,.int .u64 f.bal]] L h K:=by
 have fb:=fo.b;refine ZS func152 rfl (rs:=[_]) rfl rfl ZX (by kernel_rfl) rfl rfl ?_;refine xx ?_;refine Z0 fun b1 nb1 zb1=>?_;(try simp only[ZT]at nb1);refine xx ?_;refine Z0 fun b2 nb2 zb2=>?_;(try simp only[ZT]at nb2);refine xx ?_;refine Z0 fun b3 nb3 zb3=>?_;(try simp only[ZT]at nb3);refine xx ?_;refine Yj (.tk 0 (.tk 3 (.tk 7 (.tkl 1 (.tkl 2 (.tkl 4 (.tkl 8 (.o1 5 (.tk 6 (.tk 9 (.o2 10 (.fin) (.nil)))) (.nil))))))))) (by kernel_rfl) (by kernel_rfl) _ (Za.refl _ _) ?_;refine xx ?_;refine GC p ok f.bal fb ?_;rw[hr];refine xx ?_;exact ZO (ZO (ZO (ZP hk)))
theorem Zjq (hk:∀h' v,PH.le h h'→Ints h' .u8 v (List.replicate 16 0)→K v L h'):Zb prog 154 [] L h K:=by
 refine ZS func154 rfl (rs:=[_]) rfl rfl ZX (by kernel_rfl) rfl rfl ?_;refine xx ?_;refine Zpw _ (by decide) (by decide) ?_;rw[show Znr 128=16 by decide];refine xx ?_;refine G8 (e:=5) (z:=.int .u8 0) (by kernel_rfl) Wax rfl rfl .i64 .i64 16 (by decide) (by decide) (by decide) ?_;refine Z0 fun b1 nb1 zb1=>?_;(try simp only[ZT]at nb1);refine xx ?_;exact⟨L,_,Va b1 _ _ _ [] _ h (by decide),hk _ _ (Ziv zb1 _) (Zqm (n:=16) (Vv (o:=some (b1,16)) ⟨Nat.le_refl _,by simp [maxLen]⟩ rfl (by decide)))⟩
def Ztv (g:Zz)(k:Nat):List Value:=((g.founders.take k).map (Zwi g.par)).flatMap Ym
def Ztx (g:Zz)(k:Nat):List Value:=(g.purses++(g.founders.take k).map ZE.bal).map (.int .u64)
theorem Yee {g:Zz}{k:Nat}(hk:k≤g.founders.length):(Ztv g k).length=k*6:=by
 rw[Ztv,Z1 Yf];simp [hk]
theorem Yej {g:Zz}{k:Nat}(hk:k≤g.founders.length):(Ztx g k).length=(g.purses.length+k)*1:=by simp [Ztx,hk]
theorem Zxr {g:Zz}{k:Nat}(hk:k<g.founders.length):Ztv g (k+1)=Ztv g k++Ym (Zwi g.par (gr WG g.founders k)):=by
 rw[Ztv,List.take_succ_eq_append_getElem hk,Z9 hk,Ztv,List.map_append,List.flatMap_append];simp only[List.map_cons,List.map_nil,List.flatMap_cons,List.flatMap_nil,List.append_nil]
theorem Zzg {g:Zz}{k:Nat}(hk:k<g.founders.length):Ztx g (k+1)=Ztx g k++[.int .u64 (gr WG g.founders k).bal]:=by
 rw[Ztx,List.take_succ_eq_append_getElem hk,Z9 hk,Ztx,List.map_append (f:=ZE.bal),← List.append_assoc,List.map_append]
 rfl
theorem Gd {p:Zd}(h1:1≤p.inc)(hp:Zj p){b:Int}(hb:0≤b∧b≤18446744073709551615):0≤Wm p b∧Wm p b≤18446744073709551615:=by
 have hm:=hp.w p.maxEff (by simp [Ys]);have h2:=Int.emod_nonneg b (show p.inc≠0 by omega);have h3:=Int.emod_lt_of_pos b (show 0<p.inc by omega);have h4:b%p.inc≤b:=by
  have h5:=Int.ediv_nonneg hb.1 (show 0≤p.inc by omega);have h6:=Int.mul_nonneg (show 0≤p.inc by omega) h5;rw[Int.emod_def];omega
 unfold Wm;omega
theorem Yjs {p:Zd}(h1:1≤p.inc)(hp:Zj p){f:ZE}(fo:Wgf f):Zg (Zwi p f):=by
 have hw:=Gd h1 hp fo.b;have hb:=fo.b;have ho:=fo.o;refine⟨fun z hz=>?_,fun z hz=>?_⟩
 ·simp only[Zwi,List.mem_cons,List.not_mem_nil,or_false]at hz;rcases hz with rfl|rfl|rfl
  ·exact hb
  ·exact hw
  ·decide
 ·simp only[Zwi,List.mem_cons,List.not_mem_nil,or_false]at hz;rcases hz with rfl|rfl|rfl
  ·decide
  ·exact ho
  ·decide
theorem Yjm {g:Zz}(pv fv:Value)(hg:ZH h pv fv g)(np:g.purses.length≤1000)(hk:∀h' u,PH.le h h'→Zo h' u (Yht g)→K (.tuple #[stV (Yht g) u,.int .i64 (if Zpn g then 0 else 240)]) L h'):Zb prog 50 [genV g pv fv] L h K:=by
 have no:Zpn g=false→∀h',PH.le h h'→K (.tuple #[stV Gl Zyi,.int .i64 240]) L h':=fun e h' le=>by
  have:=hk h' Zyi le (by rw[Yht,e];exact Yai h');rw[Yht,e]at this;exact this
 have ok:=hg.ok;have gm:=hg.m;have hp:=hg.p;have hpw:=hp.word;obtain⟨pa,pc,rfl,_⟩:=hp.open;have hf:=hg.f;obtain⟨fa,fc,rfl,_,hfl,_,hfd⟩:=hf.open;refine ZS func50 rfl (rs:=[_,_]) rfl rfl ZX (by kernel_rfl) rfl rfl ?_;refine xx ?_;refine Z0 fun b1 nb1 zb1=>?_;(try simp only[ZT]at nb1);refine xx ?_;refine Z0 fun b2 nb2 zb2=>?_;(try simp only[ZT]at nb2);refine xx ?_;refine WY g.par ok ?_
 cases q1:Yd g.par with
 | false =>
  have:=no (by simp only[Zpn,q1,Bool.false_and]) h (PH.le_refl h);refine xx ?_;exact ZO (ZO (ZP this))
 | true =>
 by_cases q2:4611686018427387904<g.most
 ·have:=no (by simp only[Zpn,decide_eq_false (p:=g.most≤4611686018427387904) (by omega),Bool.and_false,Bool.false_and]) h (PH.le_refl h);refine xx ?_;exact ZO (ZO (ZP this))
 refine xx ?_;refine Je _ _ _ ?_
 cases q3:wi g.purses.length 1 64 with
 | false =>
  have:=no (by simp only[Zpn,q3,Bool.and_false,Bool.false_and]) h (PH.le_refl h);refine xx ?_;exact ZO (ZO (ZP this))
 | true =>
 have q3':=wi_iff.1 q3;by_cases q4:128<g.founders.length
 ·have:=no (by simp only[Zpn,decide_eq_false (p:=g.founders.length≤128) (by omega),Bool.and_false,Bool.false_and]) h (PH.le_refl h);refine xx ?_;exact ZO (ZO (ZP this))
 refine xx ?_;refine Znf _ hp (by omega) fun o0 k0 a0=>?_;have m1:apB o0 b1:=(ZZ a0).head;have e0:g.purses.map (.int .u64)=Ztx g 0:=by simp [Ztx]
 rw[e0];simp -dsimp -implicitDefEqProofs (disch:=first|with_reducible assumption|omega) [go_sem,ZR m1];refine Yu (γ:=Nat×Option (Nat×Nat)×Option (Nat×Nat)) (0,o0,none)
  (fun q=>q.1≤g.founders.length∧okO q.2.1 (g.purses.length+q.1)∧okO q.2.2 q.1∧apO q.2.1 (oent 74 6 q.2.2 (Ztv g q.1) (⟨b2,34,stC Gl Zyi,41⟩::⟨b1,116,genC g (.slice pa g.purses.length pc) (.slice fa g.founders.length fc),27⟩::L)) h∧apO q.2.2 (⟨b2,34,stC Gl Zyi,41⟩::⟨b1,116,genC g (.slice pa g.purses.length pc) (.slice fa g.founders.length fc),27⟩::L) h∧∀j,j<q.1→Ybk g (gr WG g.founders j)=true)
  (fun q=>[(39,.int .i64 q.1),(38,.int .i64 g.founders.length),(37,.slice fa g.founders.length fc),(4,ovs q.2.1 (g.purses.length+q.1)),(5,ovs q.2.2 q.1),(1,.pointer (some ⟨b1,0,none⟩)),(2,.pointer (some ⟨b2,0,none⟩))])
  (fun q=>oent 22 1 q.2.1 (Ztx g q.1) (oent 74 6 q.2.2 (Ztv g q.1) (⟨b2,34,stC Gl Zyi,41⟩::⟨b1,116,genC g (.slice pa g.purses.length pc) (.slice fa g.founders.length fc),27⟩::L))) (fun _=>h) (fun q=>g.founders.length-q.1) ?_ ?_ ?_ ?_
 ·exact⟨Nat.zero_le _,k0,rfl,a0,trivial,fun j hj=>by simp only at hj;omega⟩
 ·simp [Ent,List.lookup,Y3,ovs]
 ·exact Za.refl _ _
 rintro⟨k,o1,o2⟩ ⟨i1,i2,i3,i4,i5,i6⟩;simp only at i1 i2 i3 i4 i5 i6 ⊢;have i4':=Wp i4;have m1b:apB o1 b1:=(ZZ i4').head;have m1a:apB o1 b2:=i4'.head;have m2b:apB o2 b1:=(ZZ i5).head;have m2a:apB o2 b2:=i5.head;by_cases c1:k<g.founders.length
 ·have hfo:=hg.fo (gr WG g.founders k) (by rw[Z9 c1];exact List.getElem_mem c1);have hfb:=hfo.b;have bad:Ybk g (gr WG g.founders k)=false→K (.tuple #[stV Gl Zyi,.int .i64 240]) L h:=fun e=>no (by simp only[Zpn,YC WG (Ybk g) g.founders c1 e,Bool.and_false,Bool.false_and]) h (PH.le_refl h);simp -dsimp -implicitDefEqProofs (disch:=first|with_reducible assumption|omega) [go_sem,↓WQ WG (by decide) hfd,Waq];refine Z0 fun b7 nb7 zb7=>?_;(try simp only[ZT]at nb7);have n7:=Yr (Yr nb7);simp only[ZT]at n7;obtain⟨n72,n71,_⟩:=n7;simp -dsimp -implicitDefEqProofs (disch:=first|with_reducible assumption|omega) [go_sem,Waq,ZR m1b,ZR m2b];refine Je _ _ _ ?_
  cases q5:wi (gr WG g.founders k).own 0 ((g.purses.length:Int)-1) with
  | false =>
   have:=bad (by simp only[Ybk,q5,Bool.false_and]);simp -dsimp -implicitDefEqProofs (disch:=first|with_reducible assumption|omega) [go_sem,ZY m1a,ZY m2a,ZR m1a,ZR m2a];exact ZO (Wt (Wt (ZO (ZO (ZP this)))))
  | true =>
  by_cases q6:(gr WG g.founders k).bal≤g.par.floor
  ·have:=bad (by simp only[Ybk,decide_eq_false (p:=g.par.floor<(gr WG g.founders k).bal) (by omega),Bool.and_false,Bool.false_and]);simp -dsimp -implicitDefEqProofs (disch:=first|with_reducible assumption|omega) [go_sem,ZY m1a,ZY m2a,ZR m1a,ZR m2a,ZR m1b,ZR m2b];exact ZO (Wt (Wt (ZO (ZO (ZP this)))))
  by_cases q7:g.par.cap<(gr WG g.founders k).bal
  ·have:=bad (by simp only[Ybk,decide_eq_false (p:=(gr WG g.founders k).bal≤g.par.cap) (by omega),Bool.and_false]);simp -dsimp -implicitDefEqProofs (disch:=first|with_reducible assumption|omega) [go_sem,ZY m1a,ZY m2a,ZR m1a,ZR m2a,ZR m1b,ZR m2b];exact ZO (Wt (Wt (ZO (ZO (ZP this)))))
  have yes:Ybk g (gr WG g.founders k)=true:=by
   simp only[Ybk,q5,Bool.true_and,Bool.and_eq_true,decide_eq_true_eq];omega
  simp -dsimp -implicitDefEqProofs (disch:=first|with_reducible assumption|omega) [go_sem,ZR m1a,ZR m2a,ZR m1b,ZR m2b];refine Z0 fun b8 nb8 zb8=>?_;(try simp only[ZT]at nb8);have n8:=Yr (Yr nb8.2);simp only[ZT]at n8;obtain⟨n82,n81,_⟩:=n8;refine xx ?_;refine Z3 (t:=25) (e:=22) (sz:=1) (bytes:=8) (by kernel_rfl) Ug rfl rfl rfl rfl (by decide) [_,_] _ o1 (g.purses.length+k) (Ztx g k) i2 (Yej i1) (Src.own List.mem_cons_self) (m:=1) (news:=[.int .u64 (gr WG g.founders k).bal]) rfl (by intro u hu;simp only[List.mem_singleton]at hu;subst hu;rfl) (by simp [maxLen];omega) (by omega) ?_;intro o1' j1 j2 j3;have j4:=ZZ (ZZ j2);have j4':=Wp j4;have m1b':apB o1' b1:=(ZZ j4').head;have m1a':apB o1' b2:=j4'.head;simp -dsimp -implicitDefEqProofs (disch:=first|with_reducible assumption|omega) [go_sem,ZR m1b',ZR m2b];refine Zkx g.par ok q1 _ hfo ?_;refine xx ?_;refine Z0 fun b9 nb9 zb9=>?_;(try simp only[ZT]at nb9);refine xx ?_;rw[Zdu (e:=22) o1'];refine Z3 (t:=26) (e:=74) (sz:=6) (bytes:=48) (by kernel_rfl) Ybw rfl rfl rfl rfl (by decide) (_::_::_::oent 22 1 o1' _ []) _ o2 k (Ztv g k) i3 (Yee i1) (Src.own List.mem_cons_self) (m:=1) (news:=Ym (Zwi g.par (gr WG g.founders k))) rfl (by intro u hu;simp only[Ym,List.mem_cons,List.not_mem_nil,or_false]at hu;rcases hu with rfl|rfl|rfl|rfl|rfl|rfl<;>rfl) (by simp [maxLen];omega) (by omega) ?_;intro o2' l1 l2 l3;have l4:=ZZ (ZZ (ZZ l2));have l5:=Zgt (e2:=74) (sz2:=6) (cs2:=Ztv g (k+1)) j4' l4;refine xx ?_;refine⟨k+1,o1',o2',⟨by omega,by rw[← Nat.add_assoc];exact j1,l1,l5.1,l5.2,fun j hj=>?_⟩,by omega,by simp [Ent,List.lookup,Nat.add_assoc],?_⟩
  ·by_cases e:j=k
   ·subst e;exact yes
   ·exact i6 j (by omega)
  ·rw[Zxr c1,Zzg c1,← Zdu];exact(Za.tail _ _ _).trans ((Za.tail _ _ _).trans (Za.tail _ _ _))
 ·have hkl:k=g.founders.length:=by omega
  subst hkl;have fall:=UK WG (Ybk g) g.founders i6;have eA:Ztx g g.founders.length=(VV g).map (.int .u64):=by simp [Ztx,VV]
  have lA:(VV g).length=g.purses.length+g.founders.length:=by simp [VV]
  obtain⟨ma,mc,em,_⟩:=Yg i3;rw[eA,em];refine xx ?_;refine Vh (n:=g.purses.length+g.founders.length) i2 (by simp [lA]) (by omega) i4 fun h1 le1 sl1=>?_
  have iA:Ints h1 .u64 (ovs o1 (g.purses.length+g.founders.length)) (VV g):=⟨by rw[lA];exact sl1,fun z hz=>by
   rw[show IntKind.u64.min=0 by decide,show IntKind.u64.max=18446744073709551615 by decide];rcases List.mem_append.1 hz with hz|hz
   ·have:=hp.2 z hz
    rwa [show IntKind.u64.min=0 by decide,show IntKind.u64.max=18446744073709551615 by decide]at this
   ·obtain⟨f,hf1,rfl⟩:=List.mem_map.1 hz
    exact(hg.fo f hf1).b⟩
  refine Zb.ap (Wq _ iA fun ap=>?_);have i5':=G5 i5 ap;have ap2:=Ap.oent ap;simp only[Ap]at ap2;obtain⟨p2,p1,_⟩:=ap2;have no1:Zpn g=false→K (.tuple #[stV Gl Zyi,.int .i64 240]) L h1:=fun e=>no e h1 le1;by_cases c2:tot (VV g)≤18446744073709551615
  ·rw[YF c2];by_cases c3:g.most<tot (VV g)
   ·have:=no1 (by simp only[Zpn,decide_eq_false (p:=tot (VV g)≤g.most) (by omega),Bool.and_false]);simp -dsimp -implicitDefEqProofs (disch:=first|with_reducible assumption|omega) [go_sem,ZY m2a,ZR m2a,ZR m2b];exact Wt (ZO (ZO (ZP this)))
   have yes:Zpn g=true:=by
    simp only[Zpn,q1,q3,fall,Bool.true_and,Bool.and_true,Bool.and_eq_true,decide_eq_true_eq];omega
   simp -dsimp -implicitDefEqProofs (disch:=first|with_reducible assumption|omega) [go_sem,ZY m2a,ZR m2a,ZR m2b];refine Yj (.tk 0 (.tk 2 (.tk 4 (.tk 5 (.tk 8 (.tkl 1 (.tkl 3 (.tkl 6 (.o1 7 (.o1 9 (.tk 10 (.o2 11 (.tk 12 (.fin)) (.nil))) (.nil)) (.nil)))))))))) (by kernel_rfl) (by kernel_rfl) _ (Za.refl _ _) ?_;simp -dsimp -implicitDefEqProofs (disch:=first|with_reducible assumption|omega) [go_sem,ZY m2a,ZR m2a,ZR m2b];refine Zb.ap (Zck _ (hp.up le1) (by omega) fun h2 r2 le2 ir2 ap=>?_);have i5'':=G5 i5' ap;have ap2:=Ap.oent ap;simp only[Ap]at ap2;obtain⟨s2,s1,_⟩:=ap2;obtain⟨ra2,rc2,rfl,_⟩:=ir2.open;refine xkp (Za.forget le2) ?_;simp -dsimp -implicitDefEqProofs (disch:=first|with_reducible assumption|omega) [go_sem,ZY m2a,ZR m2a,ZR m2b];refine Zb.ap (Zjq fun h3 r3 le3 ir3 ap=>?_);have i5''':=G5 i5'' ap;have ap2:=Ap.oent ap;simp only[Ap]at ap2;obtain⟨u2,u1,_⟩:=ap2;obtain⟨ra3,rc3,rfl,_⟩:=ir3.open;refine xkp (Za.forget (le2.trans le3)) ?_;simp -dsimp -implicitDefEqProofs (disch:=first|with_reducible assumption|omega) [go_sem,ZY m2a,ZR m2a,ZR m2b];have eK:Ztv g g.founders.length=(g.founders.map (Zwi g.par)).flatMap Ym:=by simp [Ztv]
   have lK:(g.founders.map (Zwi g.par)).length=g.founders.length:=by simp
   have eR:Yht g=Yfr g:=by rw[Yht,yes];rfl
   rw[eR,yes]at hk;rw[eK];refine YR (e:=74) (n:=g.founders.length) i3 (by rw[Z1 Yf,lK]) (by omega) i5''' fun h4 le4 sl4=>?_;rw[em]at sl4;have hz0:0≤tot (VV g):=YI fun i=>by
    rcases Nat.lt_or_ge i (VV g).length with hi|hi
    ·rw[← Ye hi];have:=iA.2 _ (List.getElem_mem hi);rw[show IntKind.u64.min=0 by decide]at this;exact this.1
    ·simp [at0,List.getD_eq_getElem?_getD,List.getElem?_eq_none hi]
   have hS:Zo h4 ⟨.slice ra2 g.purses.length rc2,.slice ma g.founders.length mc,.slice none 0 0,.slice none 0 0,.slice none 0 0,.slice none 0 0,.slice none 0 0,.slice ra3 (List.replicate 16 (0:Int)).length rc3,.slice none 0 0⟩ (Yfr g):=by
    refine⟨⟨ok,fun z hz=>?_,fun z hz=>?_⟩,ir2.up (le3.trans le4),⟨Yf,by rw[Yfr,lK];exact sl4⟩,fun x hx=>?_,WL h4 .i64,WL h4 .i64,Zh.nil VY h4,(fun x hx=>by cases hx),Zh.nil Yy h4,(fun x hx=>by cases hx),⟨[],Zh.nil Yl h4,rfl,fun x hx=>by cases hx⟩,ir3.up le4,⟨[],Zor h4,rfl⟩⟩
    ·simp only[Yfr,List.mem_cons,List.not_mem_nil,or_false]at hz;omega
    ·simp only[Yfr,List.mem_cons,List.not_mem_nil,or_false]at hz;omega
    ·obtain⟨f,hf1,rfl⟩:=List.mem_map.1 hx;exact Yjs (Ja q1) ok (hg.fo f hf1)
   exact ZO (ZO (ZP (hk h4 _ ((le1.trans le2).trans (le3.trans le4)) hS)))
  ·rw[Wh c2];have:=no1 (by simp only[Zpn,decide_eq_false (p:=tot (VV g)≤g.most) (by omega),Bool.and_false]);simp -dsimp -implicitDefEqProofs (disch:=first|with_reducible assumption|omega) [go_sem,ZY m2a,ZR m2a,ZR m2b];exact Wt (ZO (ZO (ZP this)))
theorem Zwy (q y1 y0:Int):q*(y1*4294967296+y0)=q*y1*4294967296+q*y0:=by
 rw[Int.mul_add,← Int.mul_assoc]
structure Kn (v u y1 y0 q r:Int):Prop where
 sum:q*y1+r=v
 q0:0≤q
 q1:q≤4294967297
 r0:0≤r
 up:(v*4294967296+u)/(y1*4294967296+y0)≤q
structure KnH (v u y1 y0:Int):Prop where
 hv:0≤v
 hu:0≤u∧u<4294967296
 h1:2147483648≤y1∧y1<4294967296
 h0:0≤y0∧y0<4294967296
 lt:v<y1*4294967296+y0
theorem Zws {v u y1 y0:Int}(H:KnH v u y1 y0):Kn v u y1 y0 (v/y1) (v-v/y1*y1):=by
 obtain⟨v0,u0,h1,h0,lt⟩:=H;have e:=Int.ediv_mul_add_emod v y1;have m0:=Int.emod_nonneg v (show y1≠0 by omega);have m1:=Int.emod_lt_of_pos v (show 0<y1 by omega);have q0:0≤v/y1:=Int.ediv_nonneg v0 (by omega);refine⟨by omega,q0,?_,by omega,?_⟩
 ·have:v/y1<4294967298:=Int.ediv_lt_of_lt_mul (by omega) (by omega);omega
 ·refine Int.le_ediv_of_mul_le (by omega) ?_
  generalize hq:(v*4294967296+u)/(y1*4294967296+y0)=q
  have qn:0≤q:=by rw[← hq];exact Int.ediv_nonneg (by omega) (by omega)
  have a:=Int.ediv_mul_le (v*4294967296+u) (show y1*4294967296+y0≠0 by omega);rw[hq,Zwy]at a;have b:=Int.mul_nonneg qn h0.1;omega
theorem Zba {v u y1 y0 q r:Int}(H:KnH v u y1 y0)(k:Kn v u y1 y0 q r)(c:q*y0≤4294967296*r+u):q=(v*4294967296+u)/(y1*4294967296+y0):=by
 obtain⟨v0,u0,h1,h0,lt⟩:=H;refine Int.le_antisymm (Int.le_ediv_of_mul_le (by omega) ?_) k.up;rw[Zwy];have:=k.sum;omega
theorem GX {v u y1 y0 q r:Int}(H:KnH v u y1 y0)(k:Kn v u y1 y0 q r)(hq:q≤4294967296)(hr:4294967296≤r):q=(v*4294967296+u)/(y1*4294967296+y0):=by
 refine Zba H k ?_;have:=Int.mul_le_mul_of_nonneg_right hq H.h0.1;have:=H.h0;have:=H.hu;omega
theorem Zka {v u y1 y0 q r:Int}(H:KnH v u y1 y0)(k:Kn v u y1 y0 q r)(c:4294967296≤q∨4294967296*r+u<q*y0):Kn v u y1 y0 (q-1) (r+y1)∧1≤q:=by
 obtain⟨v0,u0,h1,h0,lt⟩:=H;obtain⟨s,q0,q1,r0,up⟩:=k;have hq0:0≤(v*4294967296+u)/(y1*4294967296+y0):=Int.ediv_nonneg (by omega) (by omega);have hlt:(v*4294967296+u)/(y1*4294967296+y0)<q:=by
  rcases c with c|c
  ·refine Int.lt_of_lt_of_le (Int.ediv_lt_of_lt_mul (b:=4294967296) (by omega) (by omega)) c
  ·refine Int.ediv_lt_of_lt_mul (by omega) ?_;rw[Zwy];omega
 refine⟨⟨?_,by omega,by omega,by omega,by omega⟩,by omega⟩;rw[Int.sub_mul,Int.one_mul];omega
theorem Yph (v u1 u0 y:Int)(hy:0<y)(h0:0≤u0)(h0':u0<4294967296):((v*4294967296+u1)*4294967296+u0)/y=(v*4294967296+u1)/y*4294967296+((v*4294967296+u1)%y*4294967296+u0)/y ∧
  ((v*4294967296+u1)*4294967296+u0)%y=((v*4294967296+u1)%y*4294967296+u0)%y:=by
 have e:=Int.ediv_mul_add_emod (v*4294967296+u1) y
 generalize (v*4294967296+u1)/y=q1 at *
 generalize (v*4294967296+u1)%y=r1 at *
 rw[← e];have e2:(q1*y+r1)*4294967296+u0=(r1*4294967296+u0)+(q1*4294967296)*y:=by
  rw[Int.add_mul,Int.mul_assoc,Int.mul_comm y,← Int.mul_assoc];omega
 rw[e2,Int.add_mul_ediv_right _ _ (by omega),Int.add_mul_emod_self_right];exact⟨Int.add_comm _ _,rfl⟩
theorem Ymb (n y s:Int)(hs:0<s):n*s/(y*s)=n/y∧n*s%(y*s)/s=n%y:=by
 refine⟨by rw[Int.mul_ediv_mul_of_pos_left _ _ hs],?_⟩;rw[Int.mul_comm n,Int.mul_comm y,Int.mul_emod_mul_of_pos _ _ hs,Int.mul_ediv_cancel_left _ (by omega)]
theorem kn_or (a b s:Nat)(hs:s≤64)(hb:b<2 ^ s):(a*2 ^ s) ||| b=a*2 ^ s+b:=by
 rw[Nat.mul_comm];exact(Nat.two_pow_add_eq_or_of_lt hb a).symm
theorem Ymf (y:Int)(n:Nat)(hn:1≤n∧n≤64)(h1:2 ^ (n-1)≤y)(h2:y<2 ^ n):9223372036854775808≤y*2 ^ (64-n)∧y*2 ^ (64-n)<18446744073709551616:=by
 have p:(0:Int)<2 ^ (64-n):=Int.pow_pos (by decide);have e1:(2:Int) ^ (n-1)*2 ^ (64-n)=9223372036854775808:=by
  rw[← Int.pow_add,show n-1+(64-n)=63 by omega];decide
 have e2:(2:Int) ^ n*2 ^ (64-n)=18446744073709551616:=by
  rw[← Int.pow_add,show n+(64-n)=64 by omega];decide
 have h3:=Int.mul_le_mul_of_nonneg_right h1 (Int.le_of_lt p);have h4:=Int.mul_lt_mul_of_pos_right h2 p;omega
def bl (j:Nat):Nat:=if j=0 then 0 else Nat.log2 j+1
theorem Zdd:∀ j,j<256→1≤j→1≤bl j∧bl j≤8∧(2:Int) ^ (bl j-1)≤(j:Int)∧(j:Int)<2 ^ bl j:=by decide +kernel
theorem Ykz {x t:Int}(c:Nat)(hc:c≤56)(ht:t=x/2 ^ c)(h:1≤t∧t≤255):(1≤c+bl t.toNat∧c+bl t.toNat≤64)∧2 ^ (c+bl t.toNat-1)≤x∧x<2 ^ (c+bl t.toNat):=by
 obtain⟨b1,b2,b3,b4⟩:=Zdd t.toNat (by omega) (by omega);rw[Int.toNat_of_nonneg (by omega)]at b3 b4
 generalize bl t.toNat=n at *
 have p:(0:Int)<2 ^ c:=Int.pow_pos (by decide);have d:=Int.ediv_mul_add_emod x (2 ^ c);have m0:=Int.emod_nonneg x (show (2:Int) ^ c≠0 by omega);have m1:=Int.emod_lt_of_pos x p;rw[← ht]at d;refine⟨by omega,?_,?_⟩
 ·rw[show c+n-1=(n-1)+c by omega,Int.pow_add];have:=Int.mul_le_mul_of_nonneg_right b3 (Int.le_of_lt p);omega
 ·rw[show c+n=n+c by omega,Int.pow_add];have h1:t+1≤2 ^ n:=b4;have:=Int.mul_le_mul_of_nonneg_right h1 (Int.le_of_lt p);rw[Int.add_mul,Int.one_mul]at this;omega
theorem US {P:Program}{t:Nat}(ht:P.underlying t=some .string)(S:ByteArray)(k:IntKind)(i:Int)(hi:0≤i∧i≤255)(hS:((List.range 256).all fun j=>S[j]? == some (UInt8.ofNat (bl j)))=true)(K:Value→Prop)(tk:Zm K) :
  xIx P t (.string S) (.int k i) K tk=K (.int .u8 (bl i.toNat:Nat)):=by
 have h1:=List.all_eq_true.1 hS i.toNat (List.mem_range.2 (by omega));have h2:S[i.toNat]?=some (UInt8.ofNat (bl i.toNat)):=by simpa using h1
 have h3:(UInt8.ofNat (bl i.toNat)).toNat=bl i.toNat:=by
  by_cases c:i.toNat=0
  ·rw[c];rfl
  ·have:=(Zdd i.toNat (by omega) (by omega)).2.1;rw[UInt8.toNat_ofNat'];omega
 refine Yt (fun W=>?_) K;simp [Instr.index,asIntOf,underlying,ht,hi.1,h2,h3,go_sem]
theorem Zzy (x:Int)(hx:1≤x∧x≤18446744073709551615)(hk:∀n:Nat,1≤n∧n≤64→2 ^ (n-1)≤x→x<2 ^ n→K (.int .i64 n) L h):Zb prog 387 [.int .u64 x] L h K:=by
 have e:∀(c:Nat) (t:Int),c≤56→t=x/2 ^ c→1≤t∧t≤255→K (.int .i64 ((c:Int)+(bl t.toNat:Nat))) L h:=fun c t hc ht h1=>by
  obtain⟨a,b,d⟩:=Ykz c hc ht h1;have:=hk _ a b d
  rwa [Int.natCast_add]at this
 refine ZS func387 rfl (rs:=[_]) rfl rfl ZX (by kernel_rfl) rfl rfl ?_;by_cases c1:4294967296≤x
 ·by_cases c2:65536≤x/4294967296
  ·by_cases c3:256≤x/4294967296/65536
   ·have b8:=(Zdd (x/4294967296/65536/256).toNat (by omega) (by omega)).2.1;have:=e 56 (x/4294967296/65536/256) (by decide) (by omega) (by omega);simp -dsimp -implicitDefEqProofs (disch:=first|with_reducible assumption|omega) [go_sem,IntKind.bits];rw[US (by kernel_rfl) _ _ _ (by omega) (by decide +kernel)];refine xx ?_;exact ZP this
   ·have b8:=(Zdd (x/4294967296/65536).toNat (by omega) (by omega)).2.1;have:=e 48 (x/4294967296/65536) (by decide) (by omega) (by omega);simp -dsimp -implicitDefEqProofs (disch:=first|with_reducible assumption|omega) [go_sem,IntKind.bits];rw[US (by kernel_rfl) _ _ _ (by omega) (by decide +kernel)];refine xx ?_;exact ZP this
  ·by_cases c3:256≤x/4294967296
   ·have b8:=(Zdd (x/4294967296/256).toNat (by omega) (by omega)).2.1;have:=e 40 (x/4294967296/256) (by decide) (by omega) (by omega);simp -dsimp -implicitDefEqProofs (disch:=first|with_reducible assumption|omega) [go_sem,IntKind.bits];rw[US (by kernel_rfl) _ _ _ (by omega) (by decide +kernel)];refine xx ?_;exact ZP this
   ·have b8:=(Zdd (x/4294967296).toNat (by omega) (by omega)).2.1;have:=e 32 (x/4294967296) (by decide) (by omega) (by omega);simp -dsimp -implicitDefEqProofs (disch:=first|with_reducible assumption|omega) [go_sem,IntKind.bits];rw[US (by kernel_rfl) _ _ _ (by omega) (by decide +kernel)];refine xx ?_;exact ZP this
 ·by_cases c2:65536≤x
  ·by_cases c3:256≤x/65536
   ·have b8:=(Zdd (x/65536/256).toNat (by omega) (by omega)).2.1;have:=e 24 (x/65536/256) (by decide) (by omega) (by omega);simp -dsimp -implicitDefEqProofs (disch:=first|with_reducible assumption|omega) [go_sem,IntKind.bits];rw[US (by kernel_rfl) _ _ _ (by omega) (by decide +kernel)];refine xx ?_;exact ZP this
   ·have b8:=(Zdd (x/65536).toNat (by omega) (by omega)).2.1;have:=e 16 (x/65536) (by decide) (by omega) (by omega);simp -dsimp -implicitDefEqProofs (disch:=first|with_reducible assumption|omega) [go_sem,IntKind.bits];rw[US (by kernel_rfl) _ _ _ (by omega) (by decide +kernel)];refine xx ?_;exact ZP this
  ·by_cases c3:256≤x
   ·have b8:=(Zdd (x/256).toNat (by omega) (by omega)).2.1;have:=e 8 (x/256) (by decide) (by omega) (by omega);simp -dsimp -implicitDefEqProofs (disch:=first|with_reducible assumption|omega) [go_sem,IntKind.bits];rw[US (by kernel_rfl) _ _ _ (by omega) (by decide +kernel)];refine xx ?_;exact ZP this
   ·have b8:=(Zdd x.toNat (by omega) (by omega)).2.1;have:=e 0 x (by decide) (by simp) (by omega);simp only[Int.natCast_zero,Int.cast_ofNat_Int,Int.zero_add]at this;simp -dsimp -implicitDefEqProofs (disch:=first|with_reducible assumption|omega) [go_sem,IntKind.bits];rw[US (by kernel_rfl) _ _ _ (by omega) (by decide +kernel)];refine xx ?_;exact ZP this
theorem Yrh (a b:Int)(s:Nat)(hs:s≤63)(ha:0≤a)(hb:0≤b∧b<2 ^ s)(hab:a*2 ^ s+b≤18446744073709551615):bits .or .u64 (a*2 ^ s) b=a*2 ^ s+b:=by
 obtain⟨x,rfl⟩:=Int.eq_ofNat_of_zero_le ha;obtain⟨y,rfl⟩:=Int.eq_ofNat_of_zero_le hb.1;have hy:y<2 ^ s:=by exact_mod_cast hb.2
 have e:(x:Int)*2 ^ s=((x*2 ^ s:Nat):Int):=by push_cast;rfl
 have k:=kn_or x y s (by omega) hy;rw[e]at hab ⊢
 generalize x*2 ^ s=z at *
 rw[u64_or_nat z y (by omega) (by omega),k,Int.natCast_add]
theorem Yze (x:Int)(hx:1≤x∧x≤18446744073709551615)(hk:∀n:Nat,1≤n∧n≤64→2 ^ (n-1)≤x→x<2 ^ n→K (.int .i64 (64-n)) L h):Zb prog 385 [.int .u64 x] L h K:=by
 refine ZS func385 rfl (rs:=[_]) rfl rfl ZX (by kernel_rfl) rfl rfl ?_;refine xx ?_;refine Zzy x hx fun n hn h1 h2=>?_;have:=hk n hn h1 h2;refine xx ?_;exact ZP this
theorem Zyu (x u q y r:Int)(e:q*y+r=x*4294967296+u)(hr:0≤r∧r≤18446744073709551615):IntKind.u64.wrap (IntKind.u64.wrap (IntKind.u64.wrap (x*4294967296)+u)-IntKind.u64.wrap (q*y))=r:=by
 simp only[U1]
 generalize q*y=z at *
 omega
theorem Yba (a b S T:Int)(hS:1≤S)(hT:1≤T)(hST:S*T=18446744073709551616)(hb:0≤b∧b≤18446744073709551615):0≤b/T∧b/T<S∧(a*18446744073709551616+b)*S=(a*S+b/T)*18446744073709551616+b*S%18446744073709551616:=by
 have h0:=Int.ediv_nonneg hb.1 (show 0≤T by omega);have h1:b/T<S:=Int.ediv_lt_of_lt_mul (by omega) (by omega);have d:=Int.ediv_mul_add_emod b T;have m0:=Int.emod_nonneg b (show T≠0 by omega);have m1:=Int.emod_lt_of_pos b (show 0<T by omega);have e:b*S=b/T*18446744073709551616+b%T*S:=by
  rw[← hST,← Int.mul_assoc,Int.mul_right_comm,← Int.add_mul,d]
 have l0:=Int.mul_nonneg m0 (show 0≤S by omega);have l1:b%T*S<18446744073709551616:=by
  rw[← hST,Int.mul_comm S T];exact Int.mul_lt_mul_of_pos_right m1 (by omega)
 refine⟨h0,h1,?_⟩;rw[Int.add_mul,Int.add_mul,e,Int.mul_right_comm]
 generalize b%T*S=z at *
 generalize b/T=w at *
 generalize a*S=x at *
 omega
theorem Yay (a b c:Int)(ha:1≤a∧a<c)(hb:0≤b∧b≤18446744073709551615)(hc:c≤18446744073709551615)(hk:K (.tuple #[.int .u64 ((a*18446744073709551616+b)/c),.int .u64 ((a*18446744073709551616+b)%c)]) L h):Zb prog 383 [.int .u64 a,.int .u64 b,.int .u64 c] L h K:=by
 refine ZS func383 rfl (rs:=[_,_]) rfl rfl ZX (by kernel_rfl) rfl rfl ?_;refine xx ?_;refine Yze c (by omega) fun n hn g1 g2=>?_;obtain⟨hy1,hy2⟩:=Ymf c n hn g1 g2;obtain⟨s,hs⟩:∃s,s=64-n:=⟨_,rfl⟩
 obtain⟨S,hS⟩:∃S,S=(2:Int) ^ s:=⟨_,rfl⟩
 obtain⟨T,hT⟩:∃T,T=(2:Int) ^ n:=⟨_,rfl⟩
 have hS1:1≤S:=by rw[hS];exact Int.pow_pos (by decide)
 have hT1:1≤T:=by rw[hT];exact Int.pow_pos (by decide)
 have hST:S*T=18446744073709551616:=by
  rw[hS,hT,← Int.pow_add,show s+n=64 by omega];decide
 rw[← hs,← hS]at hy1 hy2;obtain⟨w0,w1,hN⟩:=Yba a b S T hS1 hT1 hST hb;obtain⟨w,hw⟩:∃w,w=b/T:=⟨_,rfl⟩
 rw[← hw]at w0 w1 hN;have haS:a*S+w<c*S:=by
  have:(a+1)*S≤c*S:=Int.mul_le_mul_of_nonneg_right (by omega) (by omega);rw[Int.add_mul]at this;omega
 have ha0:=Int.mul_nonneg (show 0≤a by omega) (show 0≤S by omega);have hor:bits .or .u64 (a*S) w=a*S+w:=by
  rw[hS]at w1 haS hy2 ⊢;exact Yrh a w s (by omega) (by omega) ⟨w0,w1⟩ (by omega)
 obtain⟨e3,e4⟩:=Ymb (a*18446744073709551616+b) c S (by omega);rw[hN]at e3 e4;rw[← e3,← e4]at hk;have hbS:=Int.mul_nonneg hb.1 (show 0≤S by omega);obtain⟨u,hu⟩:∃u,u=b*S%18446744073709551616:=⟨_,rfl⟩
 rw[← hu]at hk;have hu1:0≤u∧u<18446744073709551616:=by omega
 obtain⟨y,hy⟩:∃y,y=c*S:=⟨_,rfl⟩
 rw[← hy]at hy1 hy2 haS hk;obtain⟨v,hv⟩:∃v,v=a*S+w:=⟨_,rfl⟩
 rw[← hv]at haS hor hk;have hv0:1≤v:=by
  have:=Int.mul_le_mul_of_nonneg_right (show 1≤a by omega) (show 0≤S by omega);omega
 have hy32:=and_low32 y (by omega) hy2;have hu32:=and_low32 u hu1.1 hu1.2;have huw:IntKind.u64.wrap (b*S)=u:=by rw[U1,hu]
 have has:a*S≤18446744073709551615:=by omega
 clear hN e3 e4 hbS hST hT1 g1 g2;have e5:((64:Int)-(64-n)).toNat=n:=by omega
 obtain⟨y1,hy1'⟩:∃y1,y1=y/4294967296:=⟨_,rfl⟩
 obtain⟨y0,hy0'⟩:∃y0,y0=y%4294967296:=⟨_,rfl⟩
 obtain⟨u1,hu1'⟩:∃u1,u1=u/4294967296:=⟨_,rfl⟩
 obtain⟨u0,hu0'⟩:∃u0,u0=u%4294967296:=⟨_,rfl⟩
 have hyy:y1*4294967296+y0=y:=by omega
 have hu1b:0≤u1∧u1≤4294967295:=by omega
 have hu0b:0≤u0∧u0≤4294967295:=by omega
 have hy1b:2147483648≤y1∧y1≤4294967295:=by omega
 have hy0b:0≤y0∧y0≤4294967295:=by omega
 have H1:KnH v u1 y1 y0:=⟨by omega,by omega,by omega,by omega,by omega⟩
 have I1:=Zws H1;have I1q:=I1.q1;have I1n:=I1.q0;have I1r:=I1.r0;have I1p:0≤v/y1*y1:=Int.mul_nonneg I1n (by omega);have I1s:v-v/y1*y1<4294967296:=by
  have d:=Int.ediv_mul_add_emod v y1;have m1:=Int.emod_lt_of_pos v (show 0<y1 by omega);omega
 obtain⟨two1,two2⟩:=Yph v u1 u0 y (by omega) hu0b.1 (by omega);rw[show v*18446744073709551616+u=(v*4294967296+u1)*4294967296+u0 by omega,two1,two2]at hk;obtain⟨D1,hD1⟩:∃D,D=(v*4294967296+u1)/y:=⟨_,rfl⟩
 obtain⟨R1,hR1⟩:∃R,R=(v*4294967296+u1)%y:=⟨_,rfl⟩
 have dR1:D1*y+R1=v*4294967296+u1:=by rw[hD1,hR1];exact Int.ediv_mul_add_emod _ _
 have bR1:0≤R1∧R1<y:=by rw[hR1];exact⟨Int.emod_nonneg _ (by omega),Int.emod_lt_of_pos _ (by omega)⟩
 have bD1:0≤D1∧D1≤4294967295:=by
  rw[hD1];refine⟨Int.ediv_nonneg (by omega) (by omega),?_⟩;have:(v*4294967296+u1)/y<4294967296:=Int.ediv_lt_of_lt_mul (by omega) (by omega);omega
 rw[← hD1,← hR1]at hk;obtain⟨D2,hD2⟩:∃D,D=(R1*4294967296+u0)/y:=⟨_,rfl⟩
 obtain⟨R2,hR2⟩:∃R,R=(R1*4294967296+u0)%y:=⟨_,rfl⟩
 have dR2:D2*y+R2=R1*4294967296+u0:=by rw[hD2,hR2];exact Int.ediv_mul_add_emod _ _
 have bR2:0≤R2∧R2<y:=by rw[hR2];exact⟨Int.emod_nonneg _ (by omega),Int.emod_lt_of_pos _ (by omega)⟩
 have bD2:0≤D2∧D2≤4294967295:=by
  rw[hD2];refine⟨Int.ediv_nonneg (by omega) (by omega),?_⟩;have:(R1*4294967296+u0)/y<4294967296:=Int.ediv_lt_of_lt_mul (by omega) (by omega);omega
 rw[← hD2,← hR2]at hk;have H2:KnH R1 u0 y1 y0:=⟨by omega,by omega,by omega,by omega,by omega⟩
 have I2:=Zws H2;have I2q:=I2.q1;have I2n:=I2.q0;have I2r:=I2.r0;have I2p:0≤R1/y1*y1:=Int.mul_nonneg I2n (by omega);have I2s:R1-R1/y1*y1<4294967296:=by
  have d:=Int.ediv_mul_add_emod R1 y1;have m1:=Int.emod_lt_of_pos R1 (show 0<y1 by omega);omega
 have W1:=Zyu v u1 D1 y R1 dR1 (by omega);have W2:=Zyu R1 u0 D2 y R2 dR2 (by omega);simp -dsimp -implicitDefEqProofs (disch:=first|with_reducible assumption|omega) [go_sem,IntKind.bits,← hs,← hS,e5,← hT,← hw,← hy,hor,huw,hy32,hu32,← hy1',← hy0',← hu1',← hu0'];clear hor hw ha0 has huw hu hv w0 w1 hy32 hu32 two1 two2;clear hb ha hc hu1 hv0 hu1' hu0' hy1' hy0' hy hy1;refine Wd (γ:=Int×Int) (v/y1,v-v/y1*y1) (fun s=>Kn v u1 y1 y0 s.1 s.2∧s.2<4294967296) (fun s=>[(15,.int .u64 s.1),(16,.int .u64 s.2),(2,.int .u64 y),(8,.int .u64 (64-n)),(9,.int .u64 y1),(10,.int .u64 y0),(11,.int .u64 v),(13,.int .u64 u1),(14,.int .u64 u0)]) (fun s=>s.1.toNat) ?_ ?_ ?_
 ·exact⟨I1,I1s⟩
 ·simp [Ent,List.lookup]
 rintro⟨q,r⟩ ⟨k,hr⟩;simp only at k hr ⊢;have kq:=k.q0;have kq1:=k.q1;have kr:=k.r0;by_cases c1:q<4294967296
 ·have hp:=WC q y0 kq (by omega) hy0b.1 hy0b.2;by_cases c2:4294967296*r+u1<q*y0
  ·obtain⟨k2,hq1⟩:=Zka H1 k (.inr c2);by_cases c3:4294967296≤r+y1
   ·have hq:=GX H1 k2 (by omega) c3;rw[hyy,← hD1]at hq;refine xx ?_;simp only[hq,W1];simp -dsimp -implicitDefEqProofs (disch:=first|with_reducible assumption|omega) [go_sem,hq,W1];clear k kq kq1 kr hq;refine Wd (γ:=Int×Int) (R1/y1,R1-R1/y1*y1) (fun s=>Kn R1 u0 y1 y0 s.1 s.2∧s.2<4294967296) (fun s=>[(18,.int .u64 s.1),(16,.int .u64 s.2),(2,.int .u64 y),(8,.int .u64 (64-n)),(9,.int .u64 y1),(10,.int .u64 y0),(14,.int .u64 u0),(15,.int .u64 D1),(17,.int .u64 R1)]) (fun s=>s.1.toNat) ?_ ?_ ?_
    ·exact⟨I2,I2s⟩
    ·simp [Ent,List.lookup]
    rintro⟨q,r⟩ ⟨k,hr⟩;simp only at k hr ⊢;have kq:=k.q0;have kq1:=k.q1;have kr:=k.r0;by_cases c1:q<4294967296
    ·have hp:=WC q y0 kq (by omega) hy0b.1 hy0b.2;by_cases c2:4294967296*r+u0<q*y0
     ·obtain⟨k2,hq1⟩:=Zka H2 k (.inr c2);by_cases c3:4294967296≤r+y1
      ·have hq:=GX H2 k2 (by omega) c3;rw[hyy,← hD2]at hq;refine xx ?_;simp only[hq,W2,← hs,← hS];exact ZP hk
      ·refine xx ?_;exact⟨q-1,r+y1,⟨k2,by omega⟩,by omega,by simp [Ent,List.lookup],Za.refl _ _⟩
     ·have hq:=Zba H2 k (by omega);rw[hyy,← hD2]at hq;refine xx ?_;simp only[hq,W2,← hs,← hS];exact ZP hk
    ·obtain⟨k2,hq1⟩:=Zka H2 k (.inl (by omega));by_cases c3:4294967296≤r+y1
     ·have hq:=GX H2 k2 (by omega) c3;rw[hyy,← hD2]at hq;refine xx ?_;simp only[hq,W2,← hs,← hS];exact ZP hk
     ·refine xx ?_;exact⟨q-1,r+y1,⟨k2,by omega⟩,by omega,by simp [Ent,List.lookup],Za.refl _ _⟩
   ·refine xx ?_;exact⟨q-1,r+y1,⟨k2,by omega⟩,by omega,by simp [Ent,List.lookup],Za.refl _ _⟩
  ·have hq:=Zba H1 k (by omega);rw[hyy,← hD1]at hq;refine xx ?_;simp only[hq,W1];simp -dsimp -implicitDefEqProofs (disch:=first|with_reducible assumption|omega) [go_sem,hq,W1];clear k kq kq1 kr hq;refine Wd (γ:=Int×Int) (R1/y1,R1-R1/y1*y1) (fun s=>Kn R1 u0 y1 y0 s.1 s.2∧s.2<4294967296) (fun s=>[(18,.int .u64 s.1),(16,.int .u64 s.2),(2,.int .u64 y),(8,.int .u64 (64-n)),(9,.int .u64 y1),(10,.int .u64 y0),(14,.int .u64 u0),(15,.int .u64 D1),(17,.int .u64 R1)]) (fun s=>s.1.toNat) ?_ ?_ ?_
   ·exact⟨I2,I2s⟩
   ·simp [Ent,List.lookup]
   rintro⟨q,r⟩ ⟨k,hr⟩;simp only at k hr ⊢;have kq:=k.q0;have kq1:=k.q1;have kr:=k.r0;by_cases c1:q<4294967296
   ·have hp:=WC q y0 kq (by omega) hy0b.1 hy0b.2;by_cases c2:4294967296*r+u0<q*y0
    ·obtain⟨k2,hq1⟩:=Zka H2 k (.inr c2);by_cases c3:4294967296≤r+y1
     ·have hq:=GX H2 k2 (by omega) c3;rw[hyy,← hD2]at hq;refine xx ?_;simp only[hq,W2,← hs,← hS];exact ZP hk
     ·refine xx ?_;exact⟨q-1,r+y1,⟨k2,by omega⟩,by omega,by simp [Ent,List.lookup],Za.refl _ _⟩
    ·have hq:=Zba H2 k (by omega);rw[hyy,← hD2]at hq;refine xx ?_;simp only[hq,W2,← hs,← hS];exact ZP hk
   ·obtain⟨k2,hq1⟩:=Zka H2 k (.inl (by omega));by_cases c3:4294967296≤r+y1
    ·have hq:=GX H2 k2 (by omega) c3;rw[hyy,← hD2]at hq;refine xx ?_;simp only[hq,W2,← hs,← hS];exact ZP hk
    ·refine xx ?_;exact⟨q-1,r+y1,⟨k2,by omega⟩,by omega,by simp [Ent,List.lookup],Za.refl _ _⟩
 ·obtain⟨k2,hq1⟩:=Zka H1 k (.inl (by omega));by_cases c3:4294967296≤r+y1
  ·have hq:=GX H1 k2 (by omega) c3;rw[hyy,← hD1]at hq;refine xx ?_;simp only[hq,W1];simp -dsimp -implicitDefEqProofs (disch:=first|with_reducible assumption|omega) [go_sem,hq,W1];clear k kq kq1 kr hq;refine Wd (γ:=Int×Int) (R1/y1,R1-R1/y1*y1) (fun s=>Kn R1 u0 y1 y0 s.1 s.2∧s.2<4294967296) (fun s=>[(18,.int .u64 s.1),(16,.int .u64 s.2),(2,.int .u64 y),(8,.int .u64 (64-n)),(9,.int .u64 y1),(10,.int .u64 y0),(14,.int .u64 u0),(15,.int .u64 D1),(17,.int .u64 R1)]) (fun s=>s.1.toNat) ?_ ?_ ?_
   ·exact⟨I2,I2s⟩
   ·simp [Ent,List.lookup]
   rintro⟨q,r⟩ ⟨k,hr⟩;simp only at k hr ⊢;have kq:=k.q0;have kq1:=k.q1;have kr:=k.r0;by_cases c1:q<4294967296
   ·have hp:=WC q y0 kq (by omega) hy0b.1 hy0b.2;by_cases c2:4294967296*r+u0<q*y0
    ·obtain⟨k2,hq1⟩:=Zka H2 k (.inr c2);by_cases c3:4294967296≤r+y1
     ·have hq:=GX H2 k2 (by omega) c3;rw[hyy,← hD2]at hq;refine xx ?_;simp only[hq,W2,← hs,← hS];exact ZP hk
     ·refine xx ?_;exact⟨q-1,r+y1,⟨k2,by omega⟩,by omega,by simp [Ent,List.lookup],Za.refl _ _⟩
    ·have hq:=Zba H2 k (by omega);rw[hyy,← hD2]at hq;refine xx ?_;simp only[hq,W2,← hs,← hS];exact ZP hk
   ·obtain⟨k2,hq1⟩:=Zka H2 k (.inl (by omega));by_cases c3:4294967296≤r+y1
    ·have hq:=GX H2 k2 (by omega) c3;rw[hyy,← hD2]at hq;refine xx ?_;simp only[hq,W2,← hs,← hS];exact ZP hk
    ·refine xx ?_;exact⟨q-1,r+y1,⟨k2,by omega⟩,by omega,by simp [Ent,List.lookup],Za.refl _ _⟩
  ·refine xx ?_;exact⟨q-1,r+y1,⟨k2,by omega⟩,by omega,by simp [Ent,List.lookup],Za.refl _ _⟩
def dwE (a b c:Int):Int:=if c=0 then 20 else if a*b/c≤18446744073709551615 then 0 else 10
def dwN (a b c:Int):Int:=if dwE a b c=0 then a*b/c else 0
def uqQ (a b c:Int):Int:=if a*b%c=0 then a*b/c else a*b/c+1
def uqE (a b c:Int):Int:=if c=0 then 20 else if uqQ a b c≤18446744073709551615 then 0 else 10
def uqN (a b c:Int):Int:=if uqE a b c=0 then uqQ a b c else 0
theorem Ywe {a b c:Int}(ha:0≤a)(hb:0≤b)(hc:0≤c):0≤dwN a b c∧dwN a b c≤18446744073709551615:=by
 have:=Int.ediv_nonneg (Int.mul_nonneg ha hb) hc;by_cases e:dwE a b c=0
 ·rw[dwN,if_pos e];unfold dwE at e;refine⟨this,Int.not_lt.1 fun c2=>?_⟩;split at e
  ·cases e
  ·rw[if_neg (by omega)]at e
   cases e
 ·rw[dwN,if_neg e];decide
theorem Ywl {a b c:Int}(ha:0≤a)(hb:0≤b)(hc:0≤c):0≤uqN a b c∧uqN a b c≤18446744073709551615:=by
 have:=Int.ediv_nonneg (Int.mul_nonneg ha hb) hc;have h2:0≤uqQ a b c:=by unfold uqQ;split<;>omega
 by_cases e:uqE a b c=0
 ·rw[uqN,if_pos e];unfold uqE at e;refine⟨h2,Int.not_lt.1 fun c2=>?_⟩;split at e
  ·cases e
  ·rw[if_neg (by omega)]at e
   cases e
 ·rw[uqN,if_neg e];decide
theorem Zna (b c:Int)(hb:0≤b∧b≤18446744073709551615)(hc:1≤c∧c≤18446744073709551615)(hk:K (.tuple #[.int .u64 (b/c),.int .u64 (b%c)]) L h):Zb prog 383 [.int .u64 0,.int .u64 b,.int .u64 c] L h K:=by
 have h1:=Int.ediv_nonneg hb.1 (show 0≤c by omega);have h2:b/c≤b:=Int.ediv_le_self _ hb.1;have h3:=Int.emod_nonneg b (show c≠0 by omega);have h4:=Int.emod_lt_of_pos b (show 0<c by omega);refine ZS func383 rfl (rs:=[_,_]) rfl rfl ZX (by kernel_rfl) rfl rfl ?_;refine xx ?_;refine Yj (.tk 0 (.tk 1 (.tk 2 (.tk 3 (.tk 4 (.tk 5 (.tk 6 (.tk 7 (.fin))))))))) (by kernel_rfl) (by kernel_rfl) _ (Za.refl _ _) ?_;refine xx ?_;exact ZP hk
def rsN (a b c:Int):Int:=if dwE a b c=0 then a*b%c else 0
theorem Yma {t x w:Int}(ht:0≤t)(hx:0≤x)(hxw:x≤w)(htm:t≤18446744073709551615)(hw:0<w):dwN t x w=t*x/w∧dwE t x w=0:=by
 have h1:t*x≤t*w:=Int.mul_le_mul_of_nonneg_left hxw ht;have h2:t*x/w≤t*w/w:=Int.ediv_le_ediv hw h1;rw[Int.mul_ediv_cancel _ (by omega)]at h2;have e:dwE t x w=0:=by rw[dwE,if_neg (by omega),if_pos (by omega)]
 exact⟨by rw[dwN,if_pos e],e⟩
theorem Yaa (a b c:Int)(ha:0≤a∧a<c)(hb:0≤b∧b≤18446744073709551615)(hc:c≤18446744073709551615)(hk:K (.tuple #[.int .u64 ((a*18446744073709551616+b)/c),.int .u64 ((a*18446744073709551616+b)%c)]) L h):Zb prog 383 [.int .u64 a,.int .u64 b,.int .u64 c] L h K:=by
 by_cases e:a=0
 ·subst e;simp only[Int.zero_mul,Int.zero_add]at hk;exact Zna b c hb ⟨by omega,hc⟩ hk
 ·exact Yay a b c ⟨by omega,ha.2⟩ hb hc hk
theorem Yqw (n c:Int)(hn:0≤n∧n/18446744073709551616≤18446744073709551615)(hc:1≤c∧c≤18446744073709551615)(hk:K (if n/c≤18446744073709551615 then .tuple #[.int .u64 (n/c),.int .u64 (n%c),.bool true] else .tuple #[.int .u64 0,.int .u64 0,.bool false]) L h) :
  Zb prog 376 [.agg #[.int .u64 (n/18446744073709551616),.int .u64 (n%18446744073709551616)],.int .u64 c] L h K:=by
 have e0:n/18446744073709551616*18446744073709551616+n%18446744073709551616=n:=by omega
 refine ZS func376 rfl (rs:=[_,_,_]) rfl rfl ZX (by kernel_rfl) rfl rfl ?_;refine xx ?_;refine Z0 fun b2 nb2 zb2=>?_;(try simp only[ZT]at nb2);refine xx ?_;by_cases c1:c≤n/18446744073709551616
 ·have:¬n/c≤18446744073709551615:=fun x=>by
   have h1:18446744073709551616≤n/c:=Int.le_ediv_of_mul_le (by omega) (by omega);omega
  rw[if_neg this]at hk;refine xx ?_;exact ZO (ZP hk)
 ·have:n/c<18446744073709551616:=Int.ediv_lt_of_lt_mul (by omega) (by omega);rw[if_pos (by omega)]at hk;refine xx ?_;refine Yaa _ _ c ⟨by omega,by omega⟩ (by omega) hc.2 ?_;rw[e0];refine xx ?_;exact ZO (ZP hk)
theorem Zza (a b c:Int)(ha:0≤a∧a≤18446744073709551615)(hb:0≤b∧b≤18446744073709551615)(hc:0≤c∧c≤18446744073709551615)(hk:K (.tuple #[.int .u64 (dwN a b c),.int .u64 (rsN a b c),.int .i64 (dwE a b c)]) L h) :
  Zb prog 351 [.agg #[.int .u64 (a*b/18446744073709551616),.int .u64 (a*b%18446744073709551616),.int .u64 c]] L h K:=by
 have hi:=Zpu a b ha.1 ha.2 hb.1 hb.2;refine ZS func351 rfl (rs:=[_,_,_]) rfl rfl ZX (by kernel_rfl) rfl rfl ?_;refine xx ?_;refine Z0 fun b1 nb1 zb1=>?_;(try simp only[ZT]at nb1);refine xx ?_;by_cases c0:c=0
 ·have e:dwE a b c=20:=by rw[dwE,if_pos c0]
  rw[dwN,rsN,e]at hk;refine xx ?_;exact ZO (ZP hk)
 ·refine xx ?_;refine Yqw (a*b) c ⟨Int.mul_nonneg ha.1 hb.1,by omega⟩ ⟨by omega,hc.2⟩ ?_;by_cases c1:a*b/c≤18446744073709551615
  ·have e:dwE a b c=0:=by rw[dwE,if_neg c0,if_pos c1]
   rw[dwN,rsN,e,if_pos rfl,if_pos rfl]at hk;rw[if_pos c1];refine xx ?_;exact ZO (ZP hk)
  ·have e:dwE a b c=10:=by rw[dwE,if_neg c0,if_neg c1]
   rw[dwN,rsN,e]at hk;rw[if_neg c1];refine xx ?_;exact ZO (ZP hk)
theorem Zjb (a b c:Int)(ha:0≤a∧a≤18446744073709551615)(hb:0≤b∧b≤18446744073709551615)(hc:0≤c∧c≤18446744073709551615)(hk:K (.tuple #[.int .u64 (dwN a b c),.int .u64 (rsN a b c),.int .i64 (dwE a b c)]) L h) :
  Zb prog 289 [.int .u64 a,.int .u64 b,.int .u64 c] L h K:=by
 refine ZS func289 rfl (rs:=[_,_,_]) rfl rfl ZX (by kernel_rfl) rfl rfl ?_;refine xx ?_;refine Zce a b ha.1 ha.2 hb.1 hb.2 ?_;refine xx ?_;refine Zza a b c ha hb hc ?_;refine xx ?_;exact ZP hk
theorem G6 (a b c:Int)(ha:0≤a∧a≤18446744073709551615)(hb:0≤b∧b≤18446744073709551615)(hc:0≤c∧c≤18446744073709551615)(hk:K (.tuple #[.int .u64 (dwN a b c),.int .i64 (dwE a b c)]) L h) :
  Zb prog 343 [.int .u64 a,.int .u64 b,.int .u64 c] L h K:=by
 refine ZS func343 rfl (rs:=[_,_]) rfl rfl ZX (by kernel_rfl) rfl rfl ?_;refine xx ?_;refine Zjb a b c ha hb hc ?_;refine xx ?_;exact ZP hk
theorem Zoi (a b c:Int)(ha:0≤a∧a≤18446744073709551615)(hb:0≤b∧b≤18446744073709551615)(hc:0≤c∧c≤18446744073709551615)(hk:K (.tuple #[.int .u64 (uqN a b c),.int .i64 (uqE a b c)]) L h) :
  Zb prog 185 [.int .u64 a,.int .u64 b,.int .u64 c] L h K:=by
 refine ZS func185 rfl (rs:=[_,_]) rfl rfl ZX (by kernel_rfl) rfl rfl ?_;refine xx ?_;refine Zjb a b c ha hb hc ?_;by_cases c0:c=0
 ·have e:dwE a b c=20:=by rw[dwE,if_pos c0]
  have e2:uqE a b c=20:=by rw[uqE,if_pos c0]
  rw[uqN,e2]at hk;rw[dwN,rsN,e];refine xx ?_;exact ZP hk
 ·have hq:=Int.ediv_nonneg (Int.mul_nonneg ha.1 hb.1) hc.1;by_cases c1:a*b/c≤18446744073709551615
  ·have e:dwE a b c=0:=by rw[dwE,if_neg c0,if_pos c1]
   rw[dwN,rsN,e,if_pos rfl,if_pos rfl];by_cases c2:a*b%c=0
   ·have q:uqQ a b c=a*b/c:=by rw[uqQ,if_pos c2]
    have e2:uqE a b c=0:=by rw[uqE,if_neg c0,q,if_pos c1]
    rw[uqN,e2,if_pos rfl,q]at hk;refine xx ?_;exact ZP hk
   ·have q:uqQ a b c=a*b/c+1:=by rw[uqQ,if_neg c2]
    by_cases c3:a*b/c=18446744073709551615
    ·have e2:uqE a b c=10:=by rw[uqE,if_neg c0,q,if_neg (by omega)]
     rw[uqN,e2]at hk;refine xx ?_;exact ZP hk
    ·have e2:uqE a b c=0:=by rw[uqE,if_neg c0,q,if_pos (by omega)]
     rw[uqN,e2,if_pos rfl,q]at hk;refine xx ?_;exact ZP hk
  ·have e:dwE a b c=10:=by rw[dwE,if_neg c0,if_neg c1]
   have e2:uqE a b c=10:=by
    rw[uqE,if_neg c0,if_neg];unfold uqQ;split<;>omega
   rw[uqN,e2]at hk;rw[dwN,rsN,e];refine xx ?_;exact ZP hk
def rtK (n:Int):Nat→Int
 | 0=>0
 | k+1=>if (rtK n k+2 ^ (31-k))*(rtK n k+2 ^ (31-k))≤n then rtK n k+2 ^ (31-k) else rtK n k
def Gi (n:Int):Int:=rtK n 32
theorem Yar {n:Int}(hn:0≤n∧n≤18446744073709551615):∀k,k≤32→0≤rtK n k∧rtK n k+2 ^ (32-k)≤4294967296∧rtK n k*rtK n k≤n∧n<(rtK n k+2 ^ (32-k))*(rtK n k+2 ^ (32-k))
 | 0,_=>by
  refine⟨Int.le_refl _,by simp [rtK],by simpa [rtK] using hn.1,?_⟩;simp only[rtK];have:((0:Int)+2 ^ (32-0))*(0+2 ^ (32-0))=18446744073709551616:=by decide
  omega
 | k+1,hk=>by
  obtain⟨a1,a2,a3,a4⟩:=Yar hn k (by omega);have e:(2:Int) ^ (32-k)=2*2 ^ (31-k):=by
   rw[show 32-k=(31-k)+1 by omega,Int.pow_succ,Int.mul_comm]
  have e2:32-(k+1)=31-k:=by omega
  have hb:(1:Int)≤2 ^ (31-k):=Int.pow_pos (by decide);rw[e]at a2 a4;rw[e2];simp only[rtK]
  generalize (2:Int) ^ (31-k)=b at *
  split
  ·rename_i c;have:rtK n k+b+b=rtK n k+2*b:=by omega
   rw[this];exact⟨by omega,by omega,c,a4⟩
  ·rename_i c;exact⟨a1,by omega,a3,by omega⟩
theorem Zla {n:Int}(hn:0≤n∧n≤18446744073709551615):0≤Gi n∧Gi n≤4294967295∧Gi n*Gi n≤n∧n<(Gi n+1)*(Gi n+1):=by
 obtain⟨a1,a2,a3,a4⟩:=Yar hn 32 (Nat.le_refl _);simp only[Nat.sub_self,Int.pow_zero]at a2 a4;exact⟨a1,by unfold Gi;omega,a3,a4⟩
theorem Yfd {n:Int}(hn:1≤n∧n≤18446744073709551615):1≤Gi n:=by
 obtain⟨a1,_,a3,a4⟩:=Zla (n:=n) ⟨by omega,hn.2⟩;apply Int.not_lt.1;intro c;have e:Gi n=0:=by omega
 rw[e]at a4;omega
def GZ (a by' most:Int):Int:=min (a+by') most
def Y8 (a by':Int):Int:=if by'≤a then a-by' else 0
def VS (p:Zd)(m:Zc)(there:Bool)(mode:Int):Zc :=
 if there then { m with streak:=(if max m.streak 0<p.streak then max m.streak 0+1 else p.streak),score:=Y8 m.score p.recover }
 else { m with streak:=0,score:=(if mode=3 then GZ m.score p.bias p.scoreCap else if mode=4 then GZ m.score p.biasEm p.scoreCap else m.score) }
def Vx (calm pr ac:Int):Int×Bool:=if 0<ac∧2*ac<3*pr then (0,true) else (min (max calm 0) 1073741823+1,false)
def Ycc (delay calm:Int)(em:Bool):Int:=if em then 4 else if delay<calm then 3 else if 0<calm then 2 else 1
def Zhk (p:Zd)(ac:Int):Int:=if ac=0∨4611686018427387904<ac then 0 else dwN ac p.rate (1048576*Gi ac)
def GY (p:Zd)(ac issued most mode:Int):Int:=if (mode=3∨mode=4)∨most<issued+Zhk p ac then 0 else Zhk p ac
def YX (p:Zd)(m:Zc):Int:=if p.maxEff<m.eff then 0 else m.eff*(1000+p.boost*min (max m.streak 0) p.streak)
def UE (p:Zd)(m:Zc)(n:Int):Zc×Int:=({ m with bal:=m.bal+min n (Y8 p.cap m.bal) },n-min n (Y8 p.cap m.bal))
def Zlz (p:Zd)(m:Zc)(mode:Int):Int:=if mode=3 then uqE m.eff m.score p.quot else if mode=4 then uqE m.eff m.score p.quotEm else dwE m.eff p.absent 10000
def Zdg (p:Zd)(m:Zc)(mode:Int):Int:=if mode=3 then uqN m.eff m.score p.quot else if mode=4 then uqN m.eff m.score p.quotEm else dwN m.eff p.absent 10000
def YY (p:Zd)(m:Zc)(mode:Int):Int:=if Zlz p m mode=0 then min (Zdg p m mode) m.bal else m.bal
def V6 (p:Zd)(n:Int):Int:=dwN n p.burn 10000
theorem Ylv {p:Zd}{n:Int}(hn:0≤n∧n≤18446744073709551615)(hb:0≤p.burn∧p.burn≤10000):0≤V6 p n∧V6 p n≤n∧dwE n p.burn 10000=0:=by
 have h1:n*p.burn≤n*10000:=Int.mul_le_mul_of_nonneg_left hb.2 hn.1;have h0:=Int.mul_nonneg hn.1 hb.1;have e:dwE n p.burn 10000=0:=by
  unfold dwE;rw[if_neg (by decide),if_pos];omega
 unfold V6 dwN;rw[if_pos e];omega
open Go.RowKit
theorem Yke {P:Program}{t ty e sz:Nat}{ti:TI}(ht:P.underlying t=some (.slice e))(hti:tI P e=some ti)(hz1:ti.size=sz){L:Own}{h:PH}{K:PK}{b o n cap m:Nat}{src:Value}{news:List Value}
  (hs:Src L h src m news) (hnl:news.length=m*sz) (hmn:m≤n) (hk:Zcd L b o news fun L'=>K (.int .i64 m) L' h) :
  Zhl P (Builtin.copy_ #[t,t] ty #[.slice (some ⟨b,o,none⟩) n cap,src]) L h K:=by
 intro W hg;obtain⟨L',W',hK,hrun,hgd,hkp,hm,hbm⟩:=VC (P:=P) hg hk;obtain⟨i,d,zv,g1,g2,g3,rfl⟩:=WS hti;simp only at hz1;refine⟨.int .i64 m,L',h,W',?_,hK,⟨hgd,Zt.mono hkp (fun x hx=>by simp at hx;subst hx;exact hbm),fun x hx=>Or.inl (by rw[← hm];exact List.mem_map_of_mem hx)⟩⟩;have hmin:Nat.min m n=m:=Nat.min_eq_left hmn;rcases hs with⟨rfl,rfl,rfl⟩ | ⟨a,c,rfl,hcells⟩
 ·simp [Builtin.copy_,run_underlying ht,Builtin.lenOf,Builtin.firstCells,sizeOf,typeInfo,g1,hrun,goInt]
 ·have hl:=run_loadCells_list (P:=P) W a news (hcells W hg);rw[hnl,← hz1]at hl;simp [Builtin.copy_,run_underlying ht,Builtin.lenOf,Builtin.firstCells,sizeOf,typeInfo,g1,hmin,hl,hrun,goInt]
def NeB (a b:Nat):Prop:=a≠b
theorem NeB.symm {a b:Nat}(h:NeB a b):NeB b a:=Ne.symm h
section
variable {L:Own} {K:Value→Prop}
@[go_sem ↓] theorem Ylp (b b' ty o c:Nat)(cs:List Value)(hne:NeB b' b):Zar (⟨b',ty,cs,c⟩::L) b o K=Zar L b o K:=Zev b b' ty o c cs hne
@[go_sem ↓] theorem Ynn (b b' ty o c:Nat)(cs vs:List Value)(K:Own→Prop)(hne:NeB b' b)(t:Zm K):Zcd (⟨b',ty,cs,c⟩::L) b o vs K t=Zcd L b o vs fun L'=>K (⟨b',ty,cs,c⟩::L'):=Zhw b b' ty o c cs vs K hne
end
open Go.RowKit Go.Proofs Go.Bl Go.Proofs.Tryz
variable {L:Own} {h:PH} {K:PK}
theorem Zxu (x y:Nat)(hk:K (.tuple #[.int .u64 (((x+18446744073709551616-y)%18446744073709551616:Nat):Int),.int .u64 ((if x<y then 1 else 0:Nat):Int)]) L h):Zb prog 363 [.int .u64 x,.int .u64 y,.int .u64 0] L h K :=
 Zb.extern (fun W=>by
  show (callFunc 363 #[.int .u64 x,.int .u64 y,.int .u64 ((0:Nat):Int)]).run prog W=_;rw[run_callFunc_extern func363 (by kernel_rfl) (by kernel_rfl) (by kernel_rfl) (e:=sub64Entry) (by kernel_rfl),run_sub64 x y 0 (by decide)]
  rfl) hk
theorem Zov (x y:Int)(hx:0≤x∧x≤18446744073709551615)(hy:0≤y∧y≤18446744073709551615)(hk:K (if y≤x then .tuple #[.int .u64 (x-y),.int .i64 0] else .tuple #[.int .u64 0,.int .i64 11]) L h):Zb prog 309 [.int .u64 x,.int .u64 y] L h K:=by
 obtain⟨m,rfl⟩:=Int.eq_ofNat_of_zero_le hx.1;obtain⟨n,rfl⟩:=Int.eq_ofNat_of_zero_le hy.1;refine ZS func309 rfl (rs:=[_,_]) rfl rfl ZX (by kernel_rfl) rfl rfl ?_;refine xx ?_;refine Zxu m n ?_;by_cases c:(n:Int)≤m
 ·rw[if_pos c]at hk;have e1:(((m+18446744073709551616-n)%18446744073709551616:Nat):Int)=m-n:=by omega
  rw[e1,if_neg (by omega)];refine xx ?_;exact ZP hk
 ·rw[if_neg c]at hk;rw[if_pos (by omega)];refine xx ?_;exact ZP hk
end Go.X
