/- Lemmas and contracts. Conditions: as each says. -/
import Derived.Test.YtllhopbilpdpkaaGreatQ30
set_option linter.unusedVariables false
set_option linter.unusedSimpArgs false
set_option maxHeartbeats 12800000
set_option maxRecDepth 20000
namespace Go.X
open Go.RowKit Go.Proofs Go.Bl Go.Proofs.Tryz
variable {L:Own} {h:PH} {K:PK}
theorem Zwj (hk:∀b,ZT b L→h b=noC→K (.slice (some ⟨b,0,none⟩) 16 16) (⟨b,5,List.replicate 16 (.int .u8 0),16⟩::L) h):Zc prog 154 [] L h K:=by
 refine ZS func154 rfl (rs:=[_]) rfl rfl ZW (by kernel_rfl) rfl rfl ?_;refine xx ?_;refine Zdq _ (by decide) (by decide) ?_;rw[show Zgx 128=16 by decide];refine xx ?_;refine Zei (e:=5) (z:=.int .u8 0) (by kernel_rfl) Yno rfl rfl .i64 .i64 16 (by decide) (by decide) (by decide) ?_;refine Z2 fun b n_b h_b=>?_;refine xx ?_;exact ZO (hk b n_b h_b)
theorem Zwv {e sz:Nat}{o o2:Option (Nat×Nat)}{xs:List Value}{a b:Zm}{L:Own}{h:PH}(ha:apO o2 (oent e sz o xs (a::b::L)) h):apO o2 (oent e sz o xs L) h:=by
 cases o with
 | none=>exact ZY (ZY ha)
 | some p=>exact Yfr (.cons_cons _ (.cons _ (.cons _ (List.Sublist.refl _)))) ha
theorem Zkn {e sz e2 sz2 c:Nat}{o o2:Option (Nat×Nat)}{xs ys:List Value}{a b:Zm}{L:Own}(ha:ZT c (oent e sz o xs (oent e2 sz2 o2 ys (a::b::L)))):ZT c (oent e sz o xs (oent e2 sz2 o2 ys L)):=by
 cases o with
 | none =>
  cases o2 with
  | none=>exact ha.2.2
  | some p=>exact⟨ha.1,ha.2.2.2⟩
 | some q =>
  cases o2 with
  | none=>exact⟨ha.1,ha.2.2.2⟩
  | some p=>exact⟨ha.1,ha.2.1,ha.2.2.2.2⟩
theorem drop2 {e sz e2 sz2:Nat}{o o2:Option (Nat×Nat)}{xs ys:List Value}(c a b:Zm)(L:Own)(h:PH):Za (c::oent e sz o xs (oent e2 sz2 o2 ys (a::b::L))) h (c::oent e sz o xs (oent e2 sz2 o2 ys L)) h:=by
 apply Za.sub;apply List.Sublist.cons_cons
 cases o with
 | none =>
  cases o2 with
  | none=>exact .cons _ (.cons _ (List.Sublist.refl _))
  | some p=>exact .cons_cons _ (.cons _ (.cons _ (List.Sublist.refl _)))
 | some q =>
  cases o2 with
  | none=>exact .cons_cons _ (.cons _ (.cons _ (List.Sublist.refl _)))
  | some p=>exact .cons_cons _ (.cons_cons _ (.cons _ (.cons _ (List.Sublist.refl _))))
theorem Yaf {g:Zz}(pv fv:Value)(hg:ZJ h pv fv g)(np:g.purses.length≤1000)(hB:Znd g=true)(hk:∀h' bm op om,PH.le h h'→okO op g.purses.length→okO om g.founders.length→apO om L h'→apO op (oent 74 6 om ((g.founders.map (Zob g.par)).flatMap Yv) L) h'→ZT bm (oent 22 1 op (g.purses.map (.int .u64)) (oent 74 6 om ((g.founders.map (Zob g.par)).flatMap Yv) L))→h' bm=noC→K (.tuple #[stV (Yng g) ⟨ovs op g.purses.length,ovs om g.founders.length,.slice none 0 0,.slice none 0 0,.slice none 0 0,.slice none 0 0,.slice none 0 0,.slice (some ⟨bm,0,none⟩) 16 16,.slice none 0 0⟩,.int .i64 0]) (⟨bm,5,List.replicate 16 (.int .u8 0),16⟩::oent 22 1 op (g.purses.map (.int .u64)) (oent 74 6 om ((g.founders.map (Zob g.par)).flatMap Yv) L)) h'):Zc prog 50 [genV g pv fv] L h K:=by
 have no:Znd g=false→∀h',PH.le h h'→K (.tuple #[stV Zbq Zzy,.int .i64 240]) L h':=fun e=>by rw[hB]at e;cases e
 have ok:=hg.ok;have gm:=hg.m;have hp:=hg.p;have hpw:=hp.word;obtain⟨pa,pc,rfl,_⟩:=hp.open;have hf:=hg.f;obtain⟨fa,fc,rfl,_,hfl,_,hfd⟩:=hf.open;refine ZS func50 rfl (rs:=[_,_]) rfl rfl ZW (by kernel_rfl) rfl rfl ?_;refine xx ?_;refine Z2 fun b1 nb1 zb1=>?_;(try simp only[ZT]at nb1);refine xx ?_;refine Z2 fun b2 nb2 zb2=>?_;(try simp only[ZT]at nb2);refine xx ?_;refine WS g.par ok ?_
 cases q1:YM g.par with
 | false =>
  have:=no (by simp only[Znd,q1,Bool.false_and]) h (PH.le_refl h);refine xx ?_;exact ZP (ZP (ZO this))
 | true =>
 by_cases q2:4611686018427387904<g.most
 ·have:=no (by simp only[Znd,decide_eq_false (p:=g.most≤4611686018427387904) (by omega),Bool.and_false,Bool.false_and]) h (PH.le_refl h);refine xx ?_;exact ZP (ZP (ZO this))
 refine xx ?_;refine UQ _ _ _ ?_
 cases q3:wi g.purses.length 1 64 with
 | false =>
  have:=no (by simp only[Znd,q3,Bool.and_false,Bool.false_and]) h (PH.le_refl h);refine xx ?_;exact ZP (ZP (ZO this))
 | true =>
 have q3':=wi_iff.1 q3;by_cases q4:128<g.founders.length
 ·have:=no (by simp only[Znd,decide_eq_false (p:=g.founders.length≤128) (by omega),Bool.and_false,Bool.false_and]) h (PH.le_refl h);refine xx ?_;exact ZP (ZP (ZO this))
 refine xx ?_;refine GP _ hp (by omega) fun o0 k0 a0=>?_;have m1:apB o0 b1:=(ZY a0).head;have e0:g.purses.map (.int .u64)=Zqw g 0:=by simp [Zqw]
 rw[e0];simp -dsimp -implicitDefEqProofs (disch:=first|with_reducible assumption|omega) [go_sem,ZR m1];refine YO (γ:=Nat×Option (Nat×Nat)×Option (Nat×Nat)) (0,o0,none)
  (fun q=>q.1≤g.founders.length∧okO q.2.1 (g.purses.length+q.1)∧okO q.2.2 q.1∧apO q.2.1 (oent 74 6 q.2.2 (Zqr g q.1) (⟨b2,34,stC Zbq Zzy,41⟩::⟨b1,116,genC g (.slice pa g.purses.length pc) (.slice fa g.founders.length fc),27⟩::L)) h∧apO q.2.2 (⟨b2,34,stC Zbq Zzy,41⟩::⟨b1,116,genC g (.slice pa g.purses.length pc) (.slice fa g.founders.length fc),27⟩::L) h∧∀j,j<q.1→Zyp g (gr WB g.founders j)=true)
  (fun q=>[(39,.int .i64 q.1),(38,.int .i64 g.founders.length),(37,.slice fa g.founders.length fc),(4,ovs q.2.1 (g.purses.length+q.1)),(5,ovs q.2.2 q.1),(1,.pointer (some ⟨b1,0,none⟩)),(2,.pointer (some ⟨b2,0,none⟩))])
  (fun q=>oent 22 1 q.2.1 (Zqw g q.1) (oent 74 6 q.2.2 (Zqr g q.1) (⟨b2,34,stC Zbq Zzy,41⟩::⟨b1,116,genC g (.slice pa g.purses.length pc) (.slice fa g.founders.length fc),27⟩::L))) (fun _=>h) (fun q=>g.founders.length-q.1) ?_ ?_ ?_ ?_
 ·exact⟨Nat.zero_le _,k0,rfl,a0,trivial,fun j hj=>by simp only at hj;omega⟩
 ·simp [Ent,List.lookup,Wo,ovs]
 ·exact Za.refl _ _
 rintro⟨k,o1,o2⟩ ⟨i1,i2,i3,i4,i5,i6⟩;simp only at i1 i2 i3 i4 i5 i6 ⊢;have i4':=Y9 i4;have m1b:apB o1 b1:=(ZY i4').head;have m1a:apB o1 b2:=i4'.head;have m2b:apB o2 b1:=(ZY i5).head;have m2a:apB o2 b2:=i5.head;by_cases c1:k<g.founders.length
 ·have hfo:=hg.fo (gr WB g.founders k) (by rw[Z8 c1];exact List.getElem_mem c1);have hfb:=hfo.b;have bad:Zyp g (gr WB g.founders k)=false→K (.tuple #[stV Zbq Zzy,.int .i64 240]) L h:=fun e=>no (by simp only[Znd,YP WB (Zyp g) g.founders c1 e,Bool.and_false,Bool.false_and]) h (PH.le_refl h);simp -dsimp -implicitDefEqProofs (disch:=first|with_reducible assumption|omega) [go_sem,↓Uw WB (by decide) hfd,Yum];refine Z2 fun b7 nb7 zb7=>?_;(try simp only[ZT]at nb7);have n7:=Ya (Ya nb7);simp only[ZT]at n7;obtain⟨n72,n71,_⟩:=n7;simp -dsimp -implicitDefEqProofs (disch:=first|with_reducible assumption|omega) [go_sem,Yum,ZR m1b,ZR m2b];refine UQ _ _ _ ?_
  cases q5:wi (gr WB g.founders k).own 0 ((g.purses.length:Int)-1) with
  | false =>
   have:=bad (by simp only[Zyp,q5,Bool.false_and]);simp -dsimp -implicitDefEqProofs (disch:=first|with_reducible assumption|omega) [go_sem,ZV m1a,ZV m2a,ZR m1a,ZR m2a];exact ZP (Ww (Ww (ZP (ZP (ZO this)))))
  | true =>
  by_cases q6:(gr WB g.founders k).bal≤g.par.floor
  ·have:=bad (by simp only[Zyp,decide_eq_false (p:=g.par.floor<(gr WB g.founders k).bal) (by omega),Bool.and_false,Bool.false_and]);simp -dsimp -implicitDefEqProofs (disch:=first|with_reducible assumption|omega) [go_sem,ZV m1a,ZV m2a,ZR m1a,ZR m2a,ZR m1b,ZR m2b];exact ZP (Ww (Ww (ZP (ZP (ZO this)))))
  by_cases q7:g.par.cap<(gr WB g.founders k).bal
  ·have:=bad (by simp only[Zyp,decide_eq_false (p:=(gr WB g.founders k).bal≤g.par.cap) (by omega),Bool.and_false]);simp -dsimp -implicitDefEqProofs (disch:=first|with_reducible assumption|omega) [go_sem,ZV m1a,ZV m2a,ZR m1a,ZR m2a,ZR m1b,ZR m2b];exact ZP (Ww (Ww (ZP (ZP (ZO this)))))
  have yes:Zyp g (gr WB g.founders k)=true:=by
   simp only[Zyp,q5,Bool.true_and,Bool.and_eq_true,decide_eq_true_eq];omega
  simp -dsimp -implicitDefEqProofs (disch:=first|with_reducible assumption|omega) [go_sem,ZR m1a,ZR m2a,ZR m1b,ZR m2b];refine Z2 fun b8 nb8 zb8=>?_;(try simp only[ZT]at nb8);have n8:=Ya (Ya nb8.2);simp only[ZT]at n8;obtain⟨n82,n81,_⟩:=n8;refine xx ?_;refine Z4 (t:=25) (e:=22) (sz:=1) (bytes:=8) (by kernel_rfl) VB rfl rfl rfl rfl (by decide) [_,_] _ o1 (g.purses.length+k) (Zqw g k) i2 (Ycc i1) (Src.own List.mem_cons_self) (m:=1) (news:=[.int .u64 (gr WB g.founders k).bal]) rfl (by intro u hu;simp only[List.mem_singleton]at hu;subst hu;rfl) (by simp [maxLen];omega) (by omega) ?_;intro o1' j1 j2 j3;have j4:=ZY (ZY j2);have j4':=Y9 j4;have m1b':apB o1' b1:=(ZY j4').head;have m1a':apB o1' b2:=j4'.head;simp -dsimp -implicitDefEqProofs (disch:=first|with_reducible assumption|omega) [go_sem,ZR m1b',ZR m2b];refine Zid g.par ok q1 _ hfo ?_;refine xx ?_;refine Z2 fun b9 nb9 zb9=>?_;(try simp only[ZT]at nb9);refine xx ?_;rw[Zcj (e:=22) o1'];refine Z4 (t:=26) (e:=74) (sz:=6) (bytes:=48) (by kernel_rfl) Yby rfl rfl rfl rfl (by decide) (_::_::_::oent 22 1 o1' _ []) _ o2 k (Zqr g k) i3 (Ybi i1) (Src.own List.mem_cons_self) (m:=1) (news:=Yv (Zob g.par (gr WB g.founders k))) rfl (by intro u hu;simp only[Yv,List.mem_cons,List.not_mem_nil,or_false]at hu;rcases hu with rfl|rfl|rfl|rfl|rfl|rfl<;>rfl) (by simp [maxLen];omega) (by omega) ?_;intro o2' l1 l2 l3;have l4:=ZY (ZY (ZY l2));have l5:=Zdn (e2:=74) (sz2:=6) (cs2:=Zqr g (k+1)) j4' l4;refine xx ?_;refine⟨k+1,o1',o2',⟨by omega,by rw[← Nat.add_assoc];exact j1,l1,l5.1,l5.2,fun j hj=>?_⟩,by omega,by simp [Ent,List.lookup,Nat.add_assoc],?_⟩
  ·by_cases e:j=k
   ·subst e;exact yes
   ·exact i6 j (by omega)
  ·rw[Zwz c1,Zxc c1,← Zcj];exact(Za.tail _ _ _).trans ((Za.tail _ _ _).trans (Za.tail _ _ _))
 ·have hkl:k=g.founders.length:=by omega
  subst hkl;have fall:=Gi WB (Zyp g) g.founders i6;have eA:Zqw g g.founders.length=(Uq g).map (.int .u64):=by simp [Zqw,Uq]
  have lA:(Uq g).length=g.purses.length+g.founders.length:=by simp [Uq]
  obtain⟨ma,mc,em,_⟩:=Z9 i3;rw[eA,em];refine xx ?_;refine U1 (n:=g.purses.length+g.founders.length) i2 (by simp [lA]) (by omega) i4 fun h1 le1 sl1=>?_
  have iA:Ints h1 .u64 (ovs o1 (g.purses.length+g.founders.length)) (Uq g):=⟨by rw[lA];exact sl1,fun z hz=>by
   rw[show IntKind.u64.min=0 by decide,show IntKind.u64.max=18446744073709551615 by decide];rcases List.mem_append.1 hz with hz|hz
   ·have:=hp.2 z hz
    rwa [show IntKind.u64.min=0 by decide,show IntKind.u64.max=18446744073709551615 by decide]at this
   ·obtain⟨f,hf1,rfl⟩:=List.mem_map.1 hz
    exact(hg.fo f hf1).b⟩
  refine Zc.ap (Y1 _ iA fun ap=>?_);have i5':=Zkx i5 ap;have ap2:=Ap.oent ap;simp only[Ap]at ap2;obtain⟨p2,p1,_⟩:=ap2;have no1:Znd g=false→K (.tuple #[stV Zbq Zzy,.int .i64 240]) L h1:=fun e=>no e h1 le1;by_cases c2:tot (Uq g)≤18446744073709551615
  ·rw[Yi c2];by_cases c3:g.most<tot (Uq g)
   ·have:=no1 (by simp only[Znd,decide_eq_false (p:=tot (Uq g)≤g.most) (by omega),Bool.and_false]);simp -dsimp -implicitDefEqProofs (disch:=first|with_reducible assumption|omega) [go_sem,ZV m2a,ZR m2a,ZR m2b];exact Ww (ZP (ZP (ZO this)))
   have yes:Znd g=true:=by
    simp only[Znd,q1,q3,fall,Bool.true_and,Bool.and_true,Bool.and_eq_true,decide_eq_true_eq];omega
   simp -dsimp -implicitDefEqProofs (disch:=first|with_reducible assumption|omega) [go_sem,ZV m2a,ZR m2a,ZR m2b];refine Yn (.tk 0 (.tk 2 (.tk 4 (.tk 5 (.tk 8 (.tkl 1 (.tkl 3 (.tkl 6 (.o1 7 (.o1 9 (.tk 10 (.o2 11 (.tk 12 (.fin)) (.nil))) (.nil)) (.nil)))))))))) (by kernel_rfl) (by kernel_rfl) _ (Za.refl _ _) ?_;simp -dsimp -implicitDefEqProofs (disch:=first|with_reducible assumption|omega) [go_sem,ZV m2a,ZR m2a,ZR m2b];refine GP _ (hp.up le1) (by omega) fun op kop aop=>?_;have mo2:apB op b2:=(Y9 aop).head;have mo1:apB op b1:=(ZY (Y9 aop)).head;refine xkp (Za.oent _ _ _ _ _ _) ?_;obtain⟨oa2,oc2,eo2,_⟩:=Z9 kop;rw[eo2];simp -dsimp -implicitDefEqProofs (disch:=first|with_reducible assumption|omega) [go_sem,ZV m2a,ZR m2a,ZR m2b,ZV mo2,ZR mo2,ZR mo1];refine Zwj fun bm n_bm h_bm=>?_;refine xkp ((Za.tail _ _ _).trans (Za.oent _ _ _ _ _ _)) ?_;have nm:=Ya (Ya n_bm);simp only[ZT]at nm;obtain⟨nm2,nm1,nmL⟩:=nm;simp -dsimp -implicitDefEqProofs (disch:=first|with_reducible assumption|omega) [go_sem,ZV m2a,ZR m2a,ZR m2b,ZV mo2,ZR mo2,ZR mo1];have eK:Zqr g g.founders.length=(g.founders.map (Zob g.par)).flatMap Yv:=by simp [Zqr]
   have hk2:=hk h1 bm op o2 le1 kop i3 (ZY (ZY i5')) (by rw[← eK];exact Zwv aop) (by rw[← eK];exact Zkn n_bm) h_bm;rw[← eK,eo2,em]at hk2;exact⟨_,_,drop2 _ _ _ _ _,hk2⟩
  ·rw[YD c2];have:=no1 (by simp only[Znd,decide_eq_false (p:=tot (Uq g)≤g.most) (by omega),Bool.and_false]);simp -dsimp -implicitDefEqProofs (disch:=first|with_reducible assumption|omega) [go_sem,ZV m2a,ZR m2a,ZR m2b];exact Ww (ZP (ZP (ZO this)))
def simpM:Zd:={ Zag with marks:=3::List.replicate 15 0 }
theorem Zki:Us simpM=0∧YJ simpM=[⟨0,true,2,0,0,0,0,0⟩,⟨1,true,4,4,0,0,0,0⟩]:=by
 have h1:Us simpM=0:=by decide +kernel
 refine⟨h1,?_⟩
 decide +kernel
theorem Zvr:ZB simpM:=by
 constructor<;>first|decide|(intro x hx;cases hx)
theorem Zrr:Yng simpG=Zag:=by
 have e:=Yah;unfold newR at e
 rwa [Zba,if_pos rfl]at e
theorem Ych:ZA simpM:=⟨Zmo,fun z hz=>by
  simp only[simpM,Zag,List.mem_cons,List.not_mem_nil,or_false]at hz;omega,fun z hz=>by
  simp only[simpM,Zag,List.mem_cons,List.not_mem_nil,or_false]at hz
  omega⟩
theorem Ybv:∀ x∈simpM.members,Zf x:=fun x hx=>by
 simp only[simpM,Zag,List.mem_cons,List.not_mem_nil,or_false]at hx
 rcases hx with rfl|rfl<;>exact⟨fun z hz=>by
  simp only[List.mem_cons,List.not_mem_nil,or_false]at hz;omega,fun z hz=>by
  simp only[List.mem_cons,List.not_mem_nil,or_false]at hz
  omega⟩
theorem Zun:simpG.founders.map (Zob simpG.par)=simpM.members:=by
 have e2:Wi Zbn 25=20:=by decide +kernel
 have e3:Wi Zbn 40=30:=by decide +kernel
 simp only[simpM,Zag,simpG,List.map_cons,List.map_nil,Zob,e2,e3]
theorem Zjv (hk:∀h',PH.le h h'→K (.bool true) L h'):Zc prog 23 [] L h K:=by
 refine ZS func23 rfl (rs:=[_]) rfl rfl ZW (by kernel_rfl) rfl rfl ?_;refine xx ?_;refine Zgm fun h1 pa pc fa fc le1 g1=>?_;refine xx ?_;refine Yaf _ _ g1 (by decide) Zba fun h2 bm op om le2 kop kom aom aop nbm hbm=>?_;rw[Zrr];obtain⟨s,es⟩:∃s,s=Zag:=⟨_,rfl⟩
 rw[← es];have gp:simpG.purses.length=2:=rfl;have gf:simpG.founders.length=2:=rfl;have gpl:(simpG.purses.map (Value.int .u64)).length=2:=rfl;have gfl:((simpG.founders.map (Zob simpG.par)).flatMap Yv).length=2*6:=rfl;rw[gp]at kop ⊢;rw[gf]at kom ⊢;obtain⟨x1,y1,e1,_⟩:=Z9 kop;obtain⟨x2,y2,e2,_⟩:=Z9 kom;rw[e1,e2];refine xx ?_;refine Z2 fun b1 nb1 zb1=>?_;(try simp only[ZT]at nb1);have nb1:bm≠b1:=nb1.1;clear nb1;refine xx ?_;refine Wf (sz:=1) (n:=16) (cap:=16) [_] ⟨Nat.le_refl _,by decide⟩ rfl (by decide) hbm fun h3 le3 s3 f3=>?_;simp only[List.cons_append,List.nil_append];refine Wa (n:=2) [_] kop gpl (by decide) (fun h4 le4 s4=>?_) ⟨f24,func24,by decide +kernel,rfl⟩;refine Wa (n:=2) [_] kom gfl (by decide) (fun h5 le5 s5=>?_) ⟨f24,func24,by decide +kernel,rfl⟩;simp only[List.cons_append,List.nil_append];have le05:PH.le h h5:=le1.trans (le2.trans (le3.trans (le4.trans le5)));rw[Zun]at s5;have is:Zr h5 ⟨.slice x1 2 y1,.slice x2 2 y2,.slice none 0 0,.slice none 0 0,.slice none 0 0,.slice none 0 0,.slice none 0 0,.slice (some ⟨bm,0,none⟩) 16 16,.slice none 0 0⟩ simpM:=by
  refine⟨Ych,?_,?_,Ybv,Uf h5 .i64,Uf h5 .i64,Zh.nil V1 h5,(fun x hx=>by cases hx),Zh.nil Yr h5,(fun x hx=>by cases hx),⟨[],Zh.nil Yh h5,rfl,fun x hx=>by cases hx⟩,?_,⟨[],Ybp h5,rfl⟩⟩
  ·have:=s4.up le5;rw[e1]at this
   exact⟨this,fun z hz=>by
    have:z=500∨z=200:=by simpa [simpM,Zag] using hz
    rw[show IntKind.u64.min=0 by decide,show IntKind.u64.max=18446744073709551615 by decide]
    omega⟩
  ·rw[e2]at s5;exact⟨Yg,s5⟩
  ·refine⟨s3.up (le4.trans le5),fun z hz=>?_⟩;have hz2:z=3∨z=0:=by
    simp only[simpM,List.mem_cons,List.mem_replicate]at hz;rcases hz with hz|hz
    ·exact .inl hz
    ·exact .inr hz.2
   rw[show IntKind.u8.min=0 by decide,show IntKind.u8.max=255 by decide];omega
 obtain⟨ks,eks⟩:∃ks,ks=(3::List.replicate 15 0:List Int):=⟨_,rfl⟩
 have eM:{ s with marks:=ks }=simpM:=by rw[es,eks];rfl
 rw[← eM]at is;have fM:ZB { s with marks:=ks }:=by rw[eM];exact Zvr
 have kM:ks.length≤1000:=by rw[eks];decide
 obtain⟨m1,m2⟩:=Zki;rw[← eM]at m1 m2;clear es eks eM;refine Zgs (s:={ s with marks:=ks }) ⟨.slice x1 2 y1,.slice x2 2 y2,.slice none 0 0,.slice none 0 0,.slice none 0 0,.slice none 0 0,.slice none 0 0,.slice (some ⟨bm,0,none⟩) 16 16,.slice none 0 0⟩ is fM kM fun h6 r6 le6 i6=>?_;rw[m2]at i6;rw[m1];obtain⟨ra,rc,rfl,hrc,_,hrn,hrd⟩:=i6.open;have hlen:([⟨0,true,2,0,0,0,0,0⟩,⟨1,true,4,4,0,0,0,0⟩]:List Zq).length=2:=rfl;rw[hlen]at hrd hrc ⊢;have hne:ra≠none:=fun e=>by have:=hrn e;omega
 have A0:∀(o:Nat) (K:Value→Prop) (t:Zk K),Zda (.pointer (UN ra 0)) o K t=K (.pointer (UN ra o)):=fun o K t=>by
  have:=J3 hne 0 o K
  rwa [Nat.zero_add]at this
 have A8:∀(o:Nat) (K:Value→Prop) (t:Zk K),Zda (.pointer (UN ra 8)) o K t=K (.pointer (UN ra (8+o))):=fun o K t=>J3 hne 8 o K;have P0:∀(i:Nat) (K:Option Addr→Prop) (t:Zk K),Znm (.pointer (UN ra i)) K t=K (UN ra i):=fun i K t=>Jz hne K;have C2:∀(L:Own) (K:Value→Prop) (t:Zk K),Jb L h6 (UN ra 2) 0 K t=K (.int .u64 2):=fun L K t=>hrd.fld Yb (j:=0) (o:=2) (by decide) rfl L K t;have C3:∀(L:Own) (K:Value→Prop) (t:Zk K),Jb L h6 (UN ra 3) 0 K t=K (.int .u64 0):=fun L K t=>hrd.fld Yb (j:=0) (o:=3) (by decide) rfl L K t;have C10:∀(L:Own) (K:Value→Prop) (t:Zk K),Jb L h6 (UN ra 10) 0 K t=K (.int .u64 4):=fun L K t=>hrd.fld Yb (j:=1) (o:=2) (by decide) rfl L K t;have C11:∀(L:Own) (K:Value→Prop) (t:Zk K),Jb L h6 (UN ra 11) 0 K t=K (.int .u64 4):=fun L K t=>hrd.fld Yb (j:=1) (o:=3) (by decide) rfl L K t;simp -dsimp -implicitDefEqProofs (disch:=first|with_reducible assumption|omega) [go_sem,↓Uw Yb (by decide) hrd,slC,↓A0,↓A8,↓P0,↓C2,↓C3,↓C10,↓C11];exact ZP (ZO (hk h6 (le05.trans le6)))
@[go_sem] theorem Yxq (n e sz b o:Nat)(k:IntKind)(j:Int)(h0:0≤j)(h1:j<(n:Int))(K:Value→Prop)(t:Zk K) :
  xIA (.ar n e sz) (.pointer (some ⟨b,o,none⟩)) (.int k j) K t=K (.pointer (some ⟨b,o+j.toNat*sz,none⟩)):=by
 apply propext;constructor
 ·rintro⟨q,k',j',e1,e2,_,_,hk⟩
  cases e1;cases e2
  rw[Va]at hk;exact hk
 ·intro hk;exact⟨_,_,_,rfl,rfl,h0,h1,by rw[Va];exact hk⟩
structure ZG (x:Zq):Prop where
 prize:0≤x.prize∧x.prize≤18446744073709551615
 over:0≤x.over∧x.over≤18446744073709551615
 fine:0≤x.fine∧x.fine≤18446744073709551615
 burned:0≤x.burned∧x.burned≤18446744073709551615
 paid:0≤x.paid∧x.paid≤18446744073709551615
def Zdd (p:Zq→Int)(l:List Zq)(k:Nat):List Int:=(l.take k).map p
theorem Vb {p:Zq→Int}{l:List Zq}{k:Nat}(hk:k≤l.length):(Zdd p l k).length=k:=by simp [Zdd,hk]
theorem UC {p:Zq→Int}{l:List Zq}{k:Nat}(hk:k<l.length):Zdd p l (k+1)=Zdd p l k++[p (gr Yb l k)]:=by
 rw[Zdd,Zdd,List.take_add_one,List.getElem?_eq_getElem hk,Z8 hk,List.map_append]
 rfl
theorem Yad {p:Zq→Int}{l:List Zq}:Zdd p l l.length=l.map p:=by rw[Zdd,List.take_length]
theorem JY {p:Zq→Int}{l:List Zq}(hp:∀x∈l,0≤p x∧p x≤18446744073709551615){h:PH}{v:Value}(sl:Sl h v l.length 1 ((Zdd p l l.length).map (.int .u64))):Ints h .u64 v (l.map p):=by
 rw[Yad]at sl;refine⟨by rw[List.length_map];exact sl,fun z hz=>?_⟩;obtain⟨x,hx,rfl⟩:=List.mem_map.1 hz;rw[show IntKind.u64.min=0 by decide,show IntKind.u64.max=18446744073709551615 by decide];exact hp x hx
theorem Yau (x:Zq)(hk:K (.int .u64 x.prize) L h):Zc prog 92 [slV x] L h K:=by
 refine ZS func92 rfl (rs:=[_]) rfl rfl ZW (by kernel_rfl) rfl rfl ?_;refine xx ?_;refine Z2 fun b1 nb1 zb1=>?_;(try simp only[ZT]at nb1);refine xx ?_;exact ZP (ZO hk)
theorem Ycs {l:List Zq}(v:Value)(hd0:Zh slC 8 h v l)(hl:l.length≤1000)(hp:∀x∈l,ZG x)(hk:∀h',PH.le h h'→K (Zey (tot (l.map Zq.prize))) L h'):Zc prog 97 [v,.func (.func 92) #[] #[]] L h K:=by
 obtain⟨va,vc,rfl,hc,hln,_,hd⟩:=hd0.open;refine ZS func97 rfl (rs:=[_,_]) rfl rfl ZW (by kernel_rfl) rfl rfl ?_;refine xx ?_;refine YO (γ:=Nat×Option (Nat×Nat)) (0,none) (fun q=>q.1≤l.length∧okO q.2 q.1∧apO q.2 L h) (fun q=>[(11,.int .i64 q.1),(10,.int .i64 l.length),(9,.slice va l.length vc),(6,ovs q.2 q.1),(1,.func (.func 92) #[] #[])]) (fun q=>oent 22 1 q.2 ((Zdd Zq.prize l q.1).map (.int .u64)) L) (fun _=>h) (fun q=>l.length-q.1) ?_ ?_ ?_ ?_
 ·exact⟨Nat.zero_le _,rfl,trivial⟩
 ·simp [Ent,List.lookup,Wo,ovs]
 ·exact Za.refl _ _
 rintro⟨j,o⟩ ⟨j1,j2,j3⟩;simp only at j1 j2 j3 ⊢;by_cases c1:j<l.length
 ·have hs:=UC (p:=Zq.prize) c1;have hcl:=Vb (p:=Zq.prize) j1;simp -dsimp -implicitDefEqProofs (disch:=first|with_reducible assumption|omega) [go_sem,↓Uw Yb (by decide) hd,slC];refine Z2 fun b8 nb8 zb8=>?_;(try simp only[ZT]at nb8);have n8:=Ya nb8;simp -dsimp -implicitDefEqProofs (disch:=first|with_reducible assumption|omega) [go_sem,slC];refine Yau (gr Yb l j) ?_;refine xx ?_;refine Z2 fun b9 nb9 zb9=>?_;(try simp only[ZT]at nb9);refine xx ?_;refine Z4 (t:=25) (e:=22) (sz:=1) (bytes:=8) (by kernel_rfl) VB rfl rfl rfl rfl (by decide) [_,_] L o j _ j2 (by simp [hcl]) (Src.own List.mem_cons_self) (m:=1) (news:=[.int .u64 (gr Yb l j).prize]) rfl (fun u hu=>by simp at hu;subst hu;rfl) (by simp [maxLen];omega) (by omega) ?_;intro o' i1 i2 i3;refine xx ?_;refine⟨j+1,o',⟨by omega,i1,ZY (ZY i2)⟩,by omega,by simp [Ent,List.lookup],?_⟩;simp only[hs,List.map_append,List.map_cons,List.map_nil];exact(Za.tail _ _ _).trans (Za.tail _ _ _)
 ·obtain rfl:j=l.length:=by omega
  have hcl:=Vb (p:=Zq.prize) j1;refine xx ?_;have hxl:((Zdd Zq.prize l l.length).map (Value.int .u64)).length=l.length*1:=by simp [hcl]
  refine Wa (e:=22) (n:=l.length) [] j2 hxl (by omega) (fun h1 le1 sl1=>?_) ⟨f153,func153,by decide +kernel,rfl⟩;refine Y1 _ (JY (fun x hx=>(hp x hx).prize) sl1) ?_;have hk:=hk h1 le1;by_cases c:tot (l.map Zq.prize)≤18446744073709551615
  ·rw[Yi c]at hk ⊢;refine xx ?_;exact ZO hk
  ·rw[YD c]at hk ⊢;refine xx ?_;exact ZO hk
theorem Yao (x:Zq)(hk:K (.int .u64 x.over) L h):Zc prog 93 [slV x] L h K:=by
 refine ZS func93 rfl (rs:=[_]) rfl rfl ZW (by kernel_rfl) rfl rfl ?_;refine xx ?_;refine Z2 fun b1 nb1 zb1=>?_;(try simp only[ZT]at nb1);refine xx ?_;exact ZP (ZO hk)
theorem Ybm {l:List Zq}(v:Value)(hd0:Zh slC 8 h v l)(hl:l.length≤1000)(hp:∀x∈l,ZG x)(hk:∀h',PH.le h h'→K (Zey (tot (l.map Zq.over))) L h'):Zc prog 97 [v,.func (.func 93) #[] #[]] L h K:=by
 obtain⟨va,vc,rfl,hc,hln,_,hd⟩:=hd0.open;refine ZS func97 rfl (rs:=[_,_]) rfl rfl ZW (by kernel_rfl) rfl rfl ?_;refine xx ?_;refine YO (γ:=Nat×Option (Nat×Nat)) (0,none) (fun q=>q.1≤l.length∧okO q.2 q.1∧apO q.2 L h) (fun q=>[(11,.int .i64 q.1),(10,.int .i64 l.length),(9,.slice va l.length vc),(6,ovs q.2 q.1),(1,.func (.func 93) #[] #[])]) (fun q=>oent 22 1 q.2 ((Zdd Zq.over l q.1).map (.int .u64)) L) (fun _=>h) (fun q=>l.length-q.1) ?_ ?_ ?_ ?_
 ·exact⟨Nat.zero_le _,rfl,trivial⟩
 ·simp [Ent,List.lookup,Wo,ovs]
 ·exact Za.refl _ _
 rintro⟨j,o⟩ ⟨j1,j2,j3⟩;simp only at j1 j2 j3 ⊢;by_cases c1:j<l.length
 ·have hs:=UC (p:=Zq.over) c1;have hcl:=Vb (p:=Zq.over) j1;simp -dsimp -implicitDefEqProofs (disch:=first|with_reducible assumption|omega) [go_sem,↓Uw Yb (by decide) hd,slC];refine Z2 fun b8 nb8 zb8=>?_;(try simp only[ZT]at nb8);have n8:=Ya nb8;simp -dsimp -implicitDefEqProofs (disch:=first|with_reducible assumption|omega) [go_sem,slC];refine Yao (gr Yb l j) ?_;refine xx ?_;refine Z2 fun b9 nb9 zb9=>?_;(try simp only[ZT]at nb9);refine xx ?_;refine Z4 (t:=25) (e:=22) (sz:=1) (bytes:=8) (by kernel_rfl) VB rfl rfl rfl rfl (by decide) [_,_] L o j _ j2 (by simp [hcl]) (Src.own List.mem_cons_self) (m:=1) (news:=[.int .u64 (gr Yb l j).over]) rfl (fun u hu=>by simp at hu;subst hu;rfl) (by simp [maxLen];omega) (by omega) ?_;intro o' i1 i2 i3;refine xx ?_;refine⟨j+1,o',⟨by omega,i1,ZY (ZY i2)⟩,by omega,by simp [Ent,List.lookup],?_⟩;simp only[hs,List.map_append,List.map_cons,List.map_nil];exact(Za.tail _ _ _).trans (Za.tail _ _ _)
 ·obtain rfl:j=l.length:=by omega
  have hcl:=Vb (p:=Zq.over) j1;refine xx ?_;have hxl:((Zdd Zq.over l l.length).map (Value.int .u64)).length=l.length*1:=by simp [hcl]
  refine Wa (e:=22) (n:=l.length) [] j2 hxl (by omega) (fun h1 le1 sl1=>?_) ⟨f153,func153,by decide +kernel,rfl⟩;refine Y1 _ (JY (fun x hx=>(hp x hx).over) sl1) ?_;have hk:=hk h1 le1;by_cases c:tot (l.map Zq.over)≤18446744073709551615
  ·rw[Yi c]at hk ⊢;refine xx ?_;exact ZO hk
  ·rw[YD c]at hk ⊢;refine xx ?_;exact ZO hk
theorem Zyt (x:Zq)(hk:K (.int .u64 x.fine) L h):Zc prog 94 [slV x] L h K:=by
 refine ZS func94 rfl (rs:=[_]) rfl rfl ZW (by kernel_rfl) rfl rfl ?_;refine xx ?_;refine Z2 fun b1 nb1 zb1=>?_;(try simp only[ZT]at nb1);refine xx ?_;exact ZP (ZO hk)
theorem Zzh {l:List Zq}(v:Value)(hd0:Zh slC 8 h v l)(hl:l.length≤1000)(hp:∀x∈l,ZG x)(hk:∀h',PH.le h h'→K (Zey (tot (l.map Zq.fine))) L h'):Zc prog 97 [v,.func (.func 94) #[] #[]] L h K:=by
 obtain⟨va,vc,rfl,hc,hln,_,hd⟩:=hd0.open;refine ZS func97 rfl (rs:=[_,_]) rfl rfl ZW (by kernel_rfl) rfl rfl ?_;refine xx ?_;refine YO (γ:=Nat×Option (Nat×Nat)) (0,none) (fun q=>q.1≤l.length∧okO q.2 q.1∧apO q.2 L h) (fun q=>[(11,.int .i64 q.1),(10,.int .i64 l.length),(9,.slice va l.length vc),(6,ovs q.2 q.1),(1,.func (.func 94) #[] #[])]) (fun q=>oent 22 1 q.2 ((Zdd Zq.fine l q.1).map (.int .u64)) L) (fun _=>h) (fun q=>l.length-q.1) ?_ ?_ ?_ ?_
 ·exact⟨Nat.zero_le _,rfl,trivial⟩
 ·simp [Ent,List.lookup,Wo,ovs]
 ·exact Za.refl _ _
 rintro⟨j,o⟩ ⟨j1,j2,j3⟩;simp only at j1 j2 j3 ⊢;by_cases c1:j<l.length
 ·have hs:=UC (p:=Zq.fine) c1;have hcl:=Vb (p:=Zq.fine) j1;simp -dsimp -implicitDefEqProofs (disch:=first|with_reducible assumption|omega) [go_sem,↓Uw Yb (by decide) hd,slC];refine Z2 fun b8 nb8 zb8=>?_;(try simp only[ZT]at nb8);have n8:=Ya nb8;simp -dsimp -implicitDefEqProofs (disch:=first|with_reducible assumption|omega) [go_sem,slC];refine Zyt (gr Yb l j) ?_;refine xx ?_;refine Z2 fun b9 nb9 zb9=>?_;(try simp only[ZT]at nb9);refine xx ?_;refine Z4 (t:=25) (e:=22) (sz:=1) (bytes:=8) (by kernel_rfl) VB rfl rfl rfl rfl (by decide) [_,_] L o j _ j2 (by simp [hcl]) (Src.own List.mem_cons_self) (m:=1) (news:=[.int .u64 (gr Yb l j).fine]) rfl (fun u hu=>by simp at hu;subst hu;rfl) (by simp [maxLen];omega) (by omega) ?_;intro o' i1 i2 i3;refine xx ?_;refine⟨j+1,o',⟨by omega,i1,ZY (ZY i2)⟩,by omega,by simp [Ent,List.lookup],?_⟩;simp only[hs,List.map_append,List.map_cons,List.map_nil];exact(Za.tail _ _ _).trans (Za.tail _ _ _)
 ·obtain rfl:j=l.length:=by omega
  have hcl:=Vb (p:=Zq.fine) j1;refine xx ?_;have hxl:((Zdd Zq.fine l l.length).map (Value.int .u64)).length=l.length*1:=by simp [hcl]
  refine Wa (e:=22) (n:=l.length) [] j2 hxl (by omega) (fun h1 le1 sl1=>?_) ⟨f153,func153,by decide +kernel,rfl⟩;refine Y1 _ (JY (fun x hx=>(hp x hx).fine) sl1) ?_;have hk:=hk h1 le1;by_cases c:tot (l.map Zq.fine)≤18446744073709551615
  ·rw[Yi c]at hk ⊢;refine xx ?_;exact ZO hk
  ·rw[YD c]at hk ⊢;refine xx ?_;exact ZO hk
theorem Yam (x:Zq)(hk:K (.int .u64 x.burned) L h):Zc prog 95 [slV x] L h K:=by
 refine ZS func95 rfl (rs:=[_]) rfl rfl ZW (by kernel_rfl) rfl rfl ?_;refine xx ?_;refine Z2 fun b1 nb1 zb1=>?_;(try simp only[ZT]at nb1);refine xx ?_;exact ZP (ZO hk)
theorem Yap {l:List Zq}(v:Value)(hd0:Zh slC 8 h v l)(hl:l.length≤1000)(hp:∀x∈l,ZG x)(hk:∀h',PH.le h h'→K (Zey (tot (l.map Zq.burned))) L h'):Zc prog 97 [v,.func (.func 95) #[] #[]] L h K:=by
 obtain⟨va,vc,rfl,hc,hln,_,hd⟩:=hd0.open;refine ZS func97 rfl (rs:=[_,_]) rfl rfl ZW (by kernel_rfl) rfl rfl ?_;refine xx ?_;refine YO (γ:=Nat×Option (Nat×Nat)) (0,none) (fun q=>q.1≤l.length∧okO q.2 q.1∧apO q.2 L h) (fun q=>[(11,.int .i64 q.1),(10,.int .i64 l.length),(9,.slice va l.length vc),(6,ovs q.2 q.1),(1,.func (.func 95) #[] #[])]) (fun q=>oent 22 1 q.2 ((Zdd Zq.burned l q.1).map (.int .u64)) L) (fun _=>h) (fun q=>l.length-q.1) ?_ ?_ ?_ ?_
 ·exact⟨Nat.zero_le _,rfl,trivial⟩
 ·simp [Ent,List.lookup,Wo,ovs]
 ·exact Za.refl _ _
 rintro⟨j,o⟩ ⟨j1,j2,j3⟩;simp only at j1 j2 j3 ⊢;by_cases c1:j<l.length
 ·have hs:=UC (p:=Zq.burned) c1;have hcl:=Vb (p:=Zq.burned) j1;simp -dsimp -implicitDefEqProofs (disch:=first|with_reducible assumption|omega) [go_sem,↓Uw Yb (by decide) hd,slC];refine Z2 fun b8 nb8 zb8=>?_;(try simp only[ZT]at nb8);have n8:=Ya nb8;simp -dsimp -implicitDefEqProofs (disch:=first|with_reducible assumption|omega) [go_sem,slC];refine Yam (gr Yb l j) ?_;refine xx ?_;refine Z2 fun b9 nb9 zb9=>?_;(try simp only[ZT]at nb9);refine xx ?_;refine Z4 (t:=25) (e:=22) (sz:=1) (bytes:=8) (by kernel_rfl) VB rfl rfl rfl rfl (by decide) [_,_] L o j _ j2 (by simp [hcl]) (Src.own List.mem_cons_self) (m:=1) (news:=[.int .u64 (gr Yb l j).burned]) rfl (fun u hu=>by simp at hu;subst hu;rfl) (by simp [maxLen];omega) (by omega) ?_;intro o' i1 i2 i3;refine xx ?_;refine⟨j+1,o',⟨by omega,i1,ZY (ZY i2)⟩,by omega,by simp [Ent,List.lookup],?_⟩;simp only[hs,List.map_append,List.map_cons,List.map_nil];exact(Za.tail _ _ _).trans (Za.tail _ _ _)
 ·obtain rfl:j=l.length:=by omega
  have hcl:=Vb (p:=Zq.burned) j1;refine xx ?_;have hxl:((Zdd Zq.burned l l.length).map (Value.int .u64)).length=l.length*1:=by simp [hcl]
  refine Wa (e:=22) (n:=l.length) [] j2 hxl (by omega) (fun h1 le1 sl1=>?_) ⟨f153,func153,by decide +kernel,rfl⟩;refine Y1 _ (JY (fun x hx=>(hp x hx).burned) sl1) ?_;have hk:=hk h1 le1;by_cases c:tot (l.map Zq.burned)≤18446744073709551615
  ·rw[Yi c]at hk ⊢;refine xx ?_;exact ZO hk
  ·rw[YD c]at hk ⊢;refine xx ?_;exact ZO hk
theorem Zzw (x:Zq)(hk:K (.int .u64 x.paid) L h):Zc prog 96 [slV x] L h K:=by
 refine ZS func96 rfl (rs:=[_]) rfl rfl ZW (by kernel_rfl) rfl rfl ?_;refine xx ?_;refine Z2 fun b1 nb1 zb1=>?_;(try simp only[ZT]at nb1);refine xx ?_;exact ZP (ZO hk)
theorem Zzs {l:List Zq}(v:Value)(hd0:Zh slC 8 h v l)(hl:l.length≤1000)(hp:∀x∈l,ZG x)(hk:∀h',PH.le h h'→K (Zey (tot (l.map Zq.paid))) L h'):Zc prog 97 [v,.func (.func 96) #[] #[]] L h K:=by
 obtain⟨va,vc,rfl,hc,hln,_,hd⟩:=hd0.open;refine ZS func97 rfl (rs:=[_,_]) rfl rfl ZW (by kernel_rfl) rfl rfl ?_;refine xx ?_;refine YO (γ:=Nat×Option (Nat×Nat)) (0,none) (fun q=>q.1≤l.length∧okO q.2 q.1∧apO q.2 L h) (fun q=>[(11,.int .i64 q.1),(10,.int .i64 l.length),(9,.slice va l.length vc),(6,ovs q.2 q.1),(1,.func (.func 96) #[] #[])]) (fun q=>oent 22 1 q.2 ((Zdd Zq.paid l q.1).map (.int .u64)) L) (fun _=>h) (fun q=>l.length-q.1) ?_ ?_ ?_ ?_
 ·exact⟨Nat.zero_le _,rfl,trivial⟩
 ·simp [Ent,List.lookup,Wo,ovs]
 ·exact Za.refl _ _
 rintro⟨j,o⟩ ⟨j1,j2,j3⟩;simp only at j1 j2 j3 ⊢;by_cases c1:j<l.length
 ·have hs:=UC (p:=Zq.paid) c1;have hcl:=Vb (p:=Zq.paid) j1;simp -dsimp -implicitDefEqProofs (disch:=first|with_reducible assumption|omega) [go_sem,↓Uw Yb (by decide) hd,slC];refine Z2 fun b8 nb8 zb8=>?_;(try simp only[ZT]at nb8);have n8:=Ya nb8;simp -dsimp -implicitDefEqProofs (disch:=first|with_reducible assumption|omega) [go_sem,slC];refine Zzw (gr Yb l j) ?_;refine xx ?_;refine Z2 fun b9 nb9 zb9=>?_;(try simp only[ZT]at nb9);refine xx ?_;refine Z4 (t:=25) (e:=22) (sz:=1) (bytes:=8) (by kernel_rfl) VB rfl rfl rfl rfl (by decide) [_,_] L o j _ j2 (by simp [hcl]) (Src.own List.mem_cons_self) (m:=1) (news:=[.int .u64 (gr Yb l j).paid]) rfl (fun u hu=>by simp at hu;subst hu;rfl) (by simp [maxLen];omega) (by omega) ?_;intro o' i1 i2 i3;refine xx ?_;refine⟨j+1,o',⟨by omega,i1,ZY (ZY i2)⟩,by omega,by simp [Ent,List.lookup],?_⟩;simp only[hs,List.map_append,List.map_cons,List.map_nil];exact(Za.tail _ _ _).trans (Za.tail _ _ _)
 ·obtain rfl:j=l.length:=by omega
  have hcl:=Vb (p:=Zq.paid) j1;refine xx ?_;have hxl:((Zdd Zq.paid l l.length).map (Value.int .u64)).length=l.length*1:=by simp [hcl]
  refine Wa (e:=22) (n:=l.length) [] j2 hxl (by omega) (fun h1 le1 sl1=>?_) ⟨f153,func153,by decide +kernel,rfl⟩;refine Y1 _ (JY (fun x hx=>(hp x hx).paid) sl1) ?_;have hk:=hk h1 le1;by_cases c:tot (l.map Zq.paid)≤18446744073709551615
  ·rw[Yi c]at hk ⊢;refine xx ?_;exact ZO hk
  ·rw[YD c]at hk ⊢;refine xx ?_;exact ZO hk
def Zhv (l:List Zq):Prop:=tot (l.map Zq.prize)≤18446744073709551615∧tot (l.map Zq.over)≤18446744073709551615∧tot (l.map Zq.fine)≤18446744073709551615∧tot (l.map Zq.burned)≤18446744073709551615∧tot (l.map Zq.paid)≤18446744073709551615
def U7 (l:List Zq)(p:Zq→Int)(i k:Nat):Int:=if i<k then tot (l.map p) else 0
def Uo (l:List Zq)(k:Nat):List Value:=[.int .u64 (U7 l Zq.prize 0 k),.int .u64 (U7 l Zq.over 1 k),.int .u64 (U7 l Zq.fine 2 k),.int .u64 (U7 l Zq.burned 3 k),.int .u64 (U7 l Zq.paid 4 k)]
def Yey (l:List Zq)(k:Nat):Prop:=(0<k→tot (l.map Zq.prize)≤18446744073709551615)∧(1<k→tot (l.map Zq.over)≤18446744073709551615)∧(2<k→tot (l.map Zq.fine)≤18446744073709551615)∧(3<k→tot (l.map Zq.burned)≤18446744073709551615)∧(4<k→tot (l.map Zq.paid)≤18446744073709551615)
theorem Zjb {l:List Zq}(v:Value)(hd0:Zh slC 8 h v l)(hl:l.length≤1000)(hp:∀x∈l,ZG x)
  (hk:Zhv l→∀h',PH.le h h'→K (.tuple #[.int .u64 (tot (l.map Zq.prize)),.int .u64 (tot (l.map Zq.over)),.int .u64 (tot (l.map Zq.fine)),.int .u64 (tot (l.map Zq.burned)),.int .u64 (tot (l.map Zq.paid)),.int .i64 0]) L h')
  (hno:¬Zhv l→∀h',PH.le h h'→K (.tuple #[.int .u64 0,.int .u64 0,.int .u64 0,.int .u64 0,.int .u64 0,.int .i64 10]) L h'):Zc prog 26 [v] L h K:=by
 have hd0':=hd0;obtain⟨va,vc,rfl,hc,hln,_,hd⟩:=hd0.open;refine ZS func26 rfl (rs:=[_,_,_,_,_,_]) rfl rfl ZW (by kernel_rfl) rfl rfl ?_;refine xx ?_;refine Z2 fun b8 nb8 zb8=>?_;(try simp only[ZT]at nb8);refine xx ?_;refine Z2 fun b13 nb13 zb13=>?_;(try simp only[ZT]at nb13);have n13:=nb13.1;clear nb13;refine xx ?_;refine YO (γ:=Nat×PH) (0,h) (fun q=>q.1≤5∧PH.le h q.2∧q.2 b13=noC∧q.2 b8=noC∧Yey l q.1) (fun q=>[(15,.int .i64 q.1),(14,.int .i64 5),(13,.slice (some ⟨b13,0,none⟩) 5 5),(8,.pointer (some ⟨b8,0,none⟩)),(0,.slice va l.length vc)])
  (fun q=>⟨b13,156,[.func (.func 92) #[] #[],.func (.func 93) #[] #[],.func (.func 94) #[] #[],.func (.func 95) #[] #[],.func (.func 96) #[] #[]],5⟩::⟨b8,155,Uo l q.1,5⟩::L) (fun q=>q.2) (fun q=>5-q.1) ?_ ?_ ?_ ?_
 ·exact⟨by omega,PH.le_refl h,zb13,zb8,by simp [Yey]⟩
 ·simp [Ent,List.lookup,Wo]
 ·exact Za.refl _ _
 rintro⟨k,h1⟩ ⟨i1,i2,i3,i4,i5⟩;simp only at i1 i2 i3 i4 i5 ⊢;have ks:k=0∨k=1∨k=2∨k=3∨k=4∨k=5:=by omega
 rcases ks with rfl|rfl|rfl|rfl|rfl|rfl
 ·simp only[Uo,U7,Yey,Nat.lt_irrefl,Nat.not_lt_zero,if_false,if_true,Nat.reduceLT,show ((0:Nat):Int)=0 from rfl,false_implies,true_implies,true_and,and_true]at i5 ⊢;refine xx ?_;refine Zc.ap (Ycs _ (hd0'.up i2) hl hp fun h2 le2 ap=>?_);simp only[Ap]at ap;obtain⟨a13,a8,_⟩:=ap;by_cases c:tot (l.map Zq.prize)≤18446744073709551615
  ·rw[Yi c];refine xx ?_;refine⟨1,h2,⟨by omega,i2.trans le2,a13,a8,?_⟩,by omega,by simp [Ent,List.lookup],?_⟩
   ·simp [c,i5]
   ·simp [U7,Uo];exact Za.refl _ _
  ·rw[YD c];refine xx ?_;exact ZP (ZP (ZO (hno (fun t=>c (by simp only[Zhv]at t;omega)) h2 (i2.trans le2))))
 ·simp only[Uo,U7,Yey,Nat.lt_irrefl,Nat.not_lt_zero,if_false,if_true,Nat.reduceLT,show ((1:Nat):Int)=1 from rfl,false_implies,true_implies,true_and,and_true]at i5 ⊢;refine xx ?_;refine Zc.ap (Ybm _ (hd0'.up i2) hl hp fun h2 le2 ap=>?_);simp only[Ap]at ap;obtain⟨a13,a8,_⟩:=ap;by_cases c:tot (l.map Zq.over)≤18446744073709551615
  ·rw[Yi c];refine xx ?_;refine⟨2,h2,⟨by omega,i2.trans le2,a13,a8,?_⟩,by omega,by simp [Ent,List.lookup],?_⟩
   ·simp [c,i5]
   ·simp [U7,Uo];exact Za.refl _ _
  ·rw[YD c];refine xx ?_;exact ZP (ZP (ZO (hno (fun t=>c (by simp only[Zhv]at t;omega)) h2 (i2.trans le2))))
 ·simp only[Uo,U7,Yey,Nat.lt_irrefl,Nat.not_lt_zero,if_false,if_true,Nat.reduceLT,show ((2:Nat):Int)=2 from rfl,false_implies,true_implies,true_and,and_true]at i5 ⊢;refine xx ?_;refine Zc.ap (Zzh _ (hd0'.up i2) hl hp fun h2 le2 ap=>?_);simp only[Ap]at ap;obtain⟨a13,a8,_⟩:=ap;by_cases c:tot (l.map Zq.fine)≤18446744073709551615
  ·rw[Yi c];refine xx ?_;refine⟨3,h2,⟨by omega,i2.trans le2,a13,a8,?_⟩,by omega,by simp [Ent,List.lookup],?_⟩
   ·simp [c,i5]
   ·simp [U7,Uo];exact Za.refl _ _
  ·rw[YD c];refine xx ?_;exact ZP (ZP (ZO (hno (fun t=>c (by simp only[Zhv]at t;omega)) h2 (i2.trans le2))))
 ·simp only[Uo,U7,Yey,Nat.lt_irrefl,Nat.not_lt_zero,if_false,if_true,Nat.reduceLT,show ((3:Nat):Int)=3 from rfl,false_implies,true_implies,true_and,and_true]at i5 ⊢;refine xx ?_;refine Zc.ap (Yap _ (hd0'.up i2) hl hp fun h2 le2 ap=>?_);simp only[Ap]at ap;obtain⟨a13,a8,_⟩:=ap;by_cases c:tot (l.map Zq.burned)≤18446744073709551615
  ·rw[Yi c];refine xx ?_;refine⟨4,h2,⟨by omega,i2.trans le2,a13,a8,?_⟩,by omega,by simp [Ent,List.lookup],?_⟩
   ·simp [c,i5]
   ·simp [U7,Uo];exact Za.refl _ _
  ·rw[YD c];refine xx ?_;exact ZP (ZP (ZO (hno (fun t=>c (by simp only[Zhv]at t;omega)) h2 (i2.trans le2))))
 ·simp only[Uo,U7,Yey,Nat.lt_irrefl,Nat.not_lt_zero,if_false,if_true,Nat.reduceLT,show ((4:Nat):Int)=4 from rfl,false_implies,true_implies,true_and,and_true]at i5 ⊢;refine xx ?_;refine Zc.ap (Zzs _ (hd0'.up i2) hl hp fun h2 le2 ap=>?_);simp only[Ap]at ap;obtain⟨a13,a8,_⟩:=ap;by_cases c:tot (l.map Zq.paid)≤18446744073709551615
  ·rw[Yi c];refine xx ?_;refine⟨5,h2,⟨by omega,i2.trans le2,a13,a8,?_⟩,by omega,by simp [Ent,List.lookup],?_⟩
   ·simp [c,i5]
   ·simp [U7,Uo];exact Za.refl _ _
  ·rw[YD c];refine xx ?_;exact ZP (ZP (ZO (hno (fun t=>c (by simp only[Zhv]at t;omega)) h2 (i2.trans le2))))
 ·simp only[Uo,U7,Yey,if_true,Nat.reduceLT,show ((5:Nat):Int)=5 from rfl,true_implies]at i5 ⊢;refine xx ?_;refine Yn (.tk 0 (.tk 2 (.tk 4 (.tk 6 (.tk 8 (.tkl 1 (.tk 10 (.tkl 3 (.tk 11 (.tkl 5 (.tk 12 (.tkl 7 (.tk 13 (.tkl 9 (.tk 14 (.tk 15 (.fin))))))))))))))))) (by kernel_rfl) (by kernel_rfl) _ (Za.refl _ _) ?_;refine xx ?_;exact ZP (ZP (ZO (hk i5 h1 i2)))
theorem Zkt {l l':List Zb}:∀k,(∀i,i<k→VH (gr ZQ l i)=VH (gr ZQ l' i))→cP l k=cP l' k
 | 0,_=>rfl
 | k+1,h=>by rw[VZ,VZ,h k (by omega),Zkt k fun i hi=>h i (by omega)]
theorem Ynr (s:Zd){i:Nat}(hi:i<s.members.length):gr ZQ (wgS s).members i=wgF s.par s.marks (Ym s) i (gr ZQ s.members i):=by
 show gr ZQ (upI _ _ _) i=_;rw[Zcf _ _ _ (Nat.le_refl _),if_pos hi]
theorem Zsv (s:Zd){i:Nat}(hi:i<s.members.length)(hc:Uu (gr ZQ s.members i)):gr ZQ (wgS s).members i=Wc s i:=by
 rw[Ynr s hi,wgF,if_pos hc];rfl
theorem Zoy (s:Zd)(i:Nat):(Wc s i).status=(gr ZQ s.members i).status:=by
 unfold Wc Vc;split<;>rfl
theorem Ztv (s:Zd)(i:Nat):(Wc s i).bal=(gr ZQ s.members i).bal:=by
 unfold Wc Vc;split<;>rfl
theorem wg_W (s:Zd):mtW (wgS s)=thI s.members s.marks s.members.length:=by
 have hl:(wgS s).members.length=s.members.length:=(Zxd s).l;show thI (wgS s).members s.marks (wgS s).members.length=_;rw[hl];unfold thI;rw[Zkt];intro i hi;rw[Ynr s hi];unfold VH;rw[(Zjr _ _ _ _ _).2.1]
theorem Yxr (s:Zd):mtP (wgS s) (wgR s (r0P s))=Wx s:=by
 rw[JW];have e2:mtL (wgS s) (wgS s).members.length=(thI s.members s.marks s.members.length).map (Wc s):=by
  show (mtW (wgS s)).map (gr ZQ (wgS s).members)=_;rw[wg_W];exact List.map_congr_left fun i hi=>Zsv s (Zax hi) (Zaz hi).1
 show VL s.par (Jl s) (mtL (wgS s) (wgS s).members.length)=_;rw[e2]
theorem Ztw (l:List Zb)(ks:List Int)(j:Nat):∀d,∃t,thI l ks (j+d)=thI l ks j++t
 | 0=>⟨[],by simp⟩
 | d+1=>by
  obtain⟨t,ht⟩:=Ztw l ks j d;rw[show j+(d+1)=(j+d)+1 by omega,V4];split
  ·exact⟨t++[j+d],by rw[ht,List.append_assoc]⟩
  ·exact⟨t,ht⟩
theorem Yir {l:List Zb}{ks:List Int}{n i:Nat}(hi:i∈thI l ks n):(thI l ks i).length<(thI l ks n).length∧(thI l ks n).getD (thI l ks i).length 0=i:=by
 have hlt:=Zax hi;obtain⟨hc,hg⟩:=Zaz hi;obtain⟨t,ht⟩:=Ztw l ks (i+1) (n-(i+1));rw[show i+1+(n-(i+1))=n by omega]at ht;have hcb:VH (gr ZQ l i)=true:=decide_eq_true hc;have e:thI l ks (i+1)=thI l ks i++[i]:=by rw[V4,hcb,hg];rfl
 rw[ht,e]
 constructor
 ·rw[List.length_append,List.length_append,List.length_singleton];omega
 ·rw[List.getD_eq_getElem?_getD,List.append_assoc,List.getElem?_append_right (Nat.le_refl _),Nat.sub_self];rfl
theorem Zft (l:List Zb)(ks:List Int)(n:Nat):(thI l ks n).Nodup :=
 (List.nodup_range.sublist List.filter_sublist).sublist List.filter_sublist
theorem Zso {W:List Nat}(hn:W.Nodup){i j:Nat}(hij:i<j)(hj:j<W.length):W.getD j 0≠W.getD i 0:=by
 rw[List.getD_eq_getElem?_getD,List.getD_eq_getElem?_getD,List.getElem?_eq_getElem hj,List.getElem?_eq_getElem (by omega),Option.getD_some,Option.getD_some];exact fun e=>List.pairwise_iff_getElem.1 hn i j (by omega) hj hij e.symm
theorem Zsi {p:Ze}{W:List Nat}{P:List Int}{x:List Zb×List Int}(hn:W.Nodup)(hW:∀i∈W,i<x.1.length):∀k,k≤W.length →
  (mtK p W P x k).1.length=x.1.length∧(∀j,(∀i,i<k→j≠W.getD i 0)→gr ZQ (mtK p W P x k).1 j=gr ZQ x.1 j)∧(∀i,i<k→gr ZQ (mtK p W P x k).1 (W.getD i 0)=(VK p (gr ZQ x.1 (W.getD i 0)) (at0 P i)).1)
 | 0,_=>⟨rfl,fun _ _=>rfl,fun i hi=>by omega⟩
 | k+1,hk=>by
  obtain⟨h1,h2,h3⟩:=Zsi (p:=p) (P:=P) hn hW k (by omega);have hm:W.getD k 0<x.1.length:=by
   rw[List.getD_eq_getElem?_getD,List.getElem?_eq_getElem (by omega),Option.getD_some];exact hW _ (List.getElem_mem _)
  have eK:(mtK p W P x (k+1)).1=(mtK p W P x k).1.set (W.getD k 0) (VK p (gr ZQ (mtK p W P x k).1 (W.getD k 0)) (at0 P k)).1:=rfl;have h0:gr ZQ (mtK p W P x k).1 (W.getD k 0)=gr ZQ x.1 (W.getD k 0):=h2 _ fun i hi=>Zso hn hi (by omega);rw[eK];refine⟨by rw[List.length_set];exact h1,fun j hj=>?_,fun i hi=>?_⟩
  ·rw[JN (hj k (by omega))];exact h2 j fun i hi=>hj i (by omega)
  ·by_cases e:i=k
   ·subst e;rw[W9 (by rw[h1];exact hm),if_pos rfl,h0]
   ·rw[JN (fun x=>Zso hn (show i<k by omega) (by omega) x.symm)];exact h3 i (by omega)
theorem Ync (s:Zd):∀i∈mtW (wgS s),i<(wgS s).members.length:=fun i hi=>Zax hi
theorem mt_th (s:Zd){i:Nat}(hi:i∈thI s.members s.marks s.members.length):gr ZQ (tk3 s).1.members i=(Zol s i).1:=by
 obtain⟨i1,i2⟩:=Yir hi;have hc:=(Zaz hi).1;have hW:=wg_W s;obtain⟨_,_,h3⟩:=Zsi (p:=s.par) (P:=mtP (wgS s) (wgR s (r0P s))) (x:=((wgS s).members,(wgS s).purses)) (Zft (wgS s).members (wgS s).marks (wgS s).members.length) (Ync s) (mtW (wgS s)).length (Nat.le_refl _);have h4:=h3 (thI s.members s.marks i).length (by show _<(mtW (wgS s)).length;rw[hW];exact i1);have e:(thI (wgS s).members (wgS s).marks (wgS s).members.length).getD (thI s.members s.marks i).length 0=i:=by
  show (mtW (wgS s)).getD _ 0=i;rw[hW];exact i2
 rw[e]at h4;have h5:gr ZQ (tk3 s).1.members i=(VK s.par (gr ZQ (wgS s).members i) (at0 (mtP (wgS s) (wgR s (r0P s))) (thI s.members s.marks i).length)).1:=h4;rw[Yxr,Zsv s (Zax hi) hc]at h5;exact h5
theorem Ypv (s:Zd){i:Nat}(hi:i<s.members.length)(hc:Uu (gr ZQ s.members i))(hg:Vm s.marks i=false):gr ZQ (tk3 s).1.members i=Wc s i:=by
 obtain⟨_,h2,_⟩:=Zsi (p:=s.par) (P:=mtP (wgS s) (wgR s (r0P s))) (x:=((wgS s).members,(wgS s).purses)) (Zft (wgS s).members (wgS s).marks (wgS s).members.length) (Ync s) (mtW (wgS s)).length (Nat.le_refl _);have h4:=h2 i fun k hk e=>by
  have hm:(mtW (wgS s)).getD k 0∈mtW (wgS s):=by
   rw[List.getD_eq_getElem?_getD,List.getElem?_eq_getElem hk,Option.getD_some];exact List.getElem_mem _
  have e2:i∈mtW (wgS s):=by rw[e];exact hm
  rw[wg_W]at e2;rw[(Zaz e2).2]at hg
  cases hg
 rw[Zsv s hi hc]at h4;exact h4
theorem len3 (s:Zd):(tk3 s).1.members.length=s.members.length:=((Zxd s).next (Ybu (wgS s) (wgR s (r0P s)))).l
theorem s4_gr (s:Zd){i:Nat}(hi:i<s.members.length):gr ZQ (tk4 s).1.members i=fnF s.par s.marks (Ym s) i (gr ZQ (tk3 s).1.members i):=by
 show gr ZQ (upI (fnF s.par s.marks (Ym s)) (tk3 s).1.members (tk3 s).1.members.length) i=_;rw[Zcf _ _ _ (Nat.le_refl _),if_pos (by rw[len3];exact hi)]
theorem Ylt {s:Zd}{i:Nat}(hi:i<s.members.length)(hc:Uu (gr ZQ s.members i))(hg:Vm s.marks i=true):i∈thI s.members s.marks s.members.length:=by
 unfold thI cP;exact List.mem_filter.2 ⟨List.mem_filter.2 ⟨List.mem_range.2 hi,decide_eq_true hc⟩,hg⟩
theorem Zgq (s:Zd){i:Nat}(hi:i<s.members.length)(hc:Uu (gr ZQ s.members i)):gr ZQ (tk4 s).1.members i=YI s i:=by
 rw[s4_gr s hi]
 cases hg:Vm s.marks i with
 | true =>
  have ht:thB s i=true:=hg;rw[mt_th s (Ylt hi hc hg),fnF,if_neg (fun c=>by have c2:=c.2;rw[hg]at c2;cases c2),YI,ht];rfl
 | false =>
  have ht:thB s i=false:=hg;have hcn:Uu (Wc s i):=by show (Wc s i).status=2∨(Wc s i).status=3;rw[Zoy];exact hc
  rw[Ypv s hi hc hg,fnF,if_pos ⟨hcn,hg⟩,YI,ht];rfl
theorem Yfv (x:Int):tot [x]=x:=by simp [tot,Yy,at0]
theorem Zma (f:Nat→Int)(l:List Zb)(k:Nat):tot ((cP l (k+1)).map f)=tot ((cP l k).map f)+if VH (gr ZQ l k)=true then f k else 0:=by
 rw[VZ];split
 ·rw[List.map_append,Gc,List.map_singleton,Yfv]
 ·simp
theorem Zfj (s:Zd):∀k,tot ((cP s.members k).map fun i=>(Yk s i).prize)=Yy (Wx s) (thI s.members s.marks k).length
 | 0=>rfl
 | k+1=>by
  rw[Zma,Zfj s k,V4]
  cases hc:VH (gr ZQ s.members k) with
  | false=>simp
  | true =>
   cases hg:Vm s.marks (k:Int) with
   | false =>
    have ht:thB s k=false:=hg;simp [Yk,Y6,ht]
   | true =>
    have ht:thB s k=true:=hg;simp [Yk,Y6,ht,Yy,YW]
theorem Zmt {s:Zd}(hst:∀i,i<s.members.length→(gr ZQ (tk3 s).1.members i).status=(gr ZQ s.members i).status):∀k,k≤s.members.length →
  tot ((cP s.members k).map fun i=>(Yk s i).burned)=fnU s.par s.marks (Ym s) (tk3 s).1.members k∧tot ((cP s.members k).map fun i=>(Yk s i).fine)=fnT s.par s.marks (Ym s) (tk3 s).1.members k
 | 0,_=>⟨rfl,rfl⟩
 | k+1,hk=>by
  obtain⟨h1,h2⟩:=Zmt hst k (by omega);have hs:=hst k (by omega);rw[Zma,Zma,h1,h2,fnU,fnT];by_cases hc:Uu (gr ZQ s.members k)
  ·have hcb:VH (gr ZQ s.members k)=true:=decide_eq_true hc;rw[if_pos hcb,if_pos hcb];by_cases hg':Vm s.marks (k:Int)=true
   ·have hg:=hg';have ht:thB s k=true:=hg;have nc:¬fnC s.marks k (gr ZQ (tk3 s).1.members k):=fun c=>by have c2:=c.2;rw[hg]at c2;cases c2
    rw[if_neg nc,if_neg nc];simp [Yk,Y6,ht]
   ·have hg:Vm s.marks (k:Int)=false:=by simpa using hg'
    have ht:thB s k=false:=hg;have cc:fnC s.marks k (gr ZQ (tk3 s).1.members k):=⟨by show _=(2:Int)∨_=(3:Int);rw[hs];exact hc,hg⟩
    rw[if_pos cc,if_pos cc,Ypv s (by omega) hc hg];simp [Yk,Y6,ht,W8]
  ·have hcb:VH (gr ZQ s.members k)=false:=decide_eq_false hc;have nc:¬fnC s.marks k (gr ZQ (tk3 s).1.members k):=fun c=>hc (by have c1:=c.1;show _=(2:Int)∨_=(3:Int);rw[← hs];exact c1);simp only[hcb,Bool.false_eq_true,if_false,if_neg nc,Int.add_zero,and_self]
theorem Ybe {q:Ze}{cs:List Zb}{xs:List Int}{k:Nat}:exN q cs xs (k+1)=if ejP q (gr ZQ cs k) then flt (exN q cs xs k) k else exN q cs xs k:=rfl
theorem Zmz {s:Zd}(hst:∀i,i<s.members.length→(gr ZQ (tk4 s).1.members i).status=(gr ZQ s.members i).status)(e:List Int):∀k,k≤s.members.length→exF s e (cP s.members k)=exN s.par (tk4 s).1.members e k
 | 0,_=>rfl
 | k+1,hk=>by
  have ih:=Zmz hst e k (by omega);have hs:=hst k (by omega);rw[VZ,Ybe];by_cases hc:Uu (gr ZQ s.members k)
  ·have hcb:VH (gr ZQ s.members k)=true:=decide_eq_true hc;have h4:=Zgq s (i:=k) (by omega) hc;have c4:Uu (gr ZQ (tk4 s).1.members k):=by show _=(2:Int)∨_=(3:Int);rw[hs];exact hc
   rw[if_pos hcb];unfold exF at ih ⊢;rw[List.foldl_append,ih,List.foldl_cons,List.foldl_nil];by_cases ho:(YI s k).bal≤s.par.floor
   ·rw[Zmx,decide_eq_true ho,if_pos rfl,if_pos ⟨c4,by rw[h4];exact ho⟩]
   ·rw[Zmx,decide_eq_false ho,if_neg (by decide),if_neg (fun x=>ho (by rw[← h4];exact x.2))]
  ·have hcb:VH (gr ZQ s.members k)=false:=decide_eq_false hc;have nc:¬ejP s.par (gr ZQ (tk4 s).1.members k):=fun x=>hc (by have x1:=x.1;show _=(2:Int)∨_=(3:Int);rw[← hs];exact x1);rw[if_neg (by rw[hcb];decide),if_neg nc];exact ih
theorem Ymw {s:Zd}{D:Nat}(ti:Zp s D)(ms:∀m∈s.members,MI s.par m∧MF s.par m):(∀i,(gr ZQ (tk3 s).1.members i).status=(gr ZQ s.members i).status)∧(∀i,(gr ZQ (tk4 s).1.members i).status=(gr ZQ s.members i).status):=by
 have hA:=JI ti.ml fun m hm=>(ms m hm).1;have hact:0≤Y7 s∧Y7 s≤18446744073709551615:=by
  have:=Vg (ks:=s.marks) ti.be.m;have e:Y7 s=U9 s.members:=rfl;omega
 have ti2:Zp (tk2 s).1 D:=Zhd ti;have ra2:0≤(tk2 s).2.act∧(tk2 s).2.act≤18446744073709551615:=hact;have s2:∀i,(gr ZQ (tk2 s).1.members i).status=(gr ZQ s.members i).status:=fun i=>(Yqi (f:=wgF s.par s.marks (Ym s)) (fun k m=>⟨(Zjr _ _ _ _ _).1,(Zjr _ _ _ _ _).2.1⟩) s.members _ (Nat.le_refl _) i).2;have s3:∀i,(gr ZQ (tk3 s).1.members i).status=(gr ZQ s.members i).status:=fun i=>((Ykw ti2 ra2 (Nat.le_refl _)).s i).1.trans (s2 i);exact⟨s3,fun i=>(Yqi (f:=fnF s.par s.marks (Ym s)) (fun k m=>Ybx _ _ _ _ _) (tk3 s).1.members _ (Nat.le_refl _) i).2.trans (s3 i)⟩
theorem Ymz (s:Zd):(tk4 s).1.members.length=s.members.length:=(WW _ _ _).trans (len3 s)
theorem Zya (s:Zd)(r:Zi)(t:Int):(enR s r t).left=r.left:=by
 unfold enR;split<;>rfl
theorem Zrk (s:Zd)(r:Zi):(moR s r).left=r.left∧(moR s r).out=r.out:=⟨rfl,rfl⟩
theorem Zxg (s:Zd)(r:Zi)(t:Int):(Zlq t (ajS s,r)).2.left=r.left:=rfl
theorem Ypw (s:Zd)(r:Zi)(t:Int):(Zlq t (ajS s,r)).2.out=r.out++ouN (ajS s).par (ajS s).members (ajS s).members.length:=rfl
theorem left7 (s:Zd):(tk7 s).2.left=(exN s.par (tk4 s).1.members s.exit (tk4 s).1.members.length).take s.par.churn.toNat:=rfl
theorem Zwe {s:Zd}{D:Nat}(ti:Zp s D)(ms:∀m∈s.members,MI s.par m∧MF s.par m):(YF s).left=Ji s:=by
 obtain⟨_,h4⟩:=Ymw ti ms;have a8:(tk8 s).2.left=(tk7 s).2.left:=Zya (tk7 s).1 (tk7 s).2 (atP s);have a9:(tk9 s).2.left=(tk8 s).2.left:=(Zrk (tk8 s).1 (tk8 s).2).1;have h10:(Vx s).2.left=(tk9 s).2.left:=by
  by_cases c:(tk9 s).1.par=s.par
  ·rw[Vx,if_pos c]
  ·rw[Vx,if_neg c];exact Zxg _ _ _
 have e:YF s=(Vx s).2:=rfl;have hx:=Zmz (fun i _=>h4 i) s.exit s.members.length (Nat.le_refl _);rw[e,h10,a9,a8,left7,Ymz,← hx]
 rfl
theorem Zsn {p:Ze}{t:Int}{W:List Int}{x:StX}{z:Int}(hz:z∈x.out):∀k,z∈(stK p t W x k).out
 | 0=>hz
 | k+1=>by
  have ih:=Zsn (p:=p) (t:=t) (W:=W) hz k;rw[stK,Jg];split
  ·exact ih
  ·exact List.mem_append_left _ ih
theorem Yra (s:Zd)(r:Zi)(t:Int){z:Int}(hz:z∈r.out):z∈(enR s r t).out:=by
 unfold enR;split
 ·exact Zsn (x:=⟨(enX s).ms,s.dues,s.exit,r.out,r.started⟩) hz _
 ·exact hz
theorem Yeu {q:Ze}{cs:List Zb}{i:Nat}(h:ejP q (gr ZQ cs i)):∀k,i<k→(i:Int)∈ouN q cs k
 | 0,hk=>by omega
 | k+1,hk=>by
  rw[ouN];by_cases e:i=k
  ·subst e;rw[if_pos h];exact List.mem_append_right _ (List.mem_singleton.2 rfl)
  ·have ih:=Yeu h k (by omega);split
   ·exact List.mem_append_left _ ih
   ·exact ih
theorem out5 (s:Zd):(tk7 s).2.out=[]++ouN s.par (tk4 s).1.members (tk4 s).1.members.length:=rfl
theorem Yfb {s:Zd}{D:Nat}(ti:Zp s D)(ms:∀m∈s.members,MI s.par m∧MF s.par m){i:Nat}(hi:i<s.members.length)(hc:Uu (gr ZQ s.members i))(ho:Zmx s i=true):(i:Int)∈(YF s).out:=by
 obtain⟨_,h4⟩:=Ymw ti ms;have hb:(YI s i).bal≤s.par.floor:=of_decide_eq_true ho;have c4:ejP s.par (gr ZQ (tk4 s).1.members i):=⟨by show _=(2:Int)∨_=(3:Int);rw[h4];exact hc,by rw[Zgq s hi hc];exact hb⟩
 have h7:(i:Int)∈(tk7 s).2.out:=by rw[out5,List.nil_append];exact Yeu c4 _ (by rw[Ymz];exact hi)
 have h8:(i:Int)∈(tk8 s).2.out:=Yra (tk7 s).1 (tk7 s).2 (atP s) h7;have h9:(i:Int)∈(tk9 s).2.out:=h8;show (i:Int)∈(Vx s).2.out;by_cases c:(tk9 s).1.par=s.par
 ·rw[Vx,if_pos c];exact h9
 ·rw[Vx,if_neg c,Ypw];exact List.mem_append_left _ h9
structure ZN (b st:Int)(n:Zb):Prop where
 b:n.bal=b
 s:n.status=st
theorem Ypt {s:Zd}{D:Nat}(ti:Zp s D)(r:Zi){t:Int}(ht:0≤t∧t≤2147483647){b st:Int}(hst:st≠1){i:Nat}(h:ZN b st (gr ZQ (enX s).ms i)):∀k,k≤(enW s).length→ZN b st (gr ZQ (stK s.par t (enW s) ⟨(enX s).ms,s.dues,s.exit,r.out,r.started⟩ k).ms i)
 | 0,_=>h
 | k+1,hk=>by
  have ih:=Ypt ti r ht hst h k (by omega);have so:=Zpn ti r ht (k:=k) (by omega);have hd0:(enW s).drop k=at0 (enW s) k::(enW s).drop (k+1):=by rw[List.drop_eq_getElem_cons (by omega),Yf (by omega)]
  have hin:=Vi so.e (z:=at0 (enW s) k) (by rw[hd0];simp);have h2:=ih.s;have e:i≠(at0 (enW s) k).toNat:=fun e=>by rw[e]at h2;omega
  rw[stK,Jg];split
  ·show ZN b st (gr ZQ (List.set _ _ _) i);rw[JN e];exact ih
  ·show ZN b st (gr ZQ (List.set _ _ _) i);rw[JN e];exact ih
theorem go_en {s:Zd}{D:Nat}(ti:Zp s D)(r:Zi){t:Int}(ht:0≤t∧t≤2147483647){b st:Int}(hst:st≠1)(hq:s.pool=[]∨r.quo=false){i:Nat}(h:ZN b st (gr ZQ s.members i)):ZN b st (gr ZQ (enS s r t).members i):=by
 unfold enS;split
 ·rename_i c;rcases hq with hq|hq
  ·have e:enX s=⟨s.members,s.purses,s.entry⟩:=by rw[enX,hq];rfl
   exact Ypt ti r ht hst (by rw[e];exact h) _ (Nat.le_refl _)
  ·rw[hq]at c;cases c
 ·exact h
theorem go_se {s:Zd}{b st:Int}{i:Nat}(hi:i<s.members.length)(h:ZN b st (gr ZQ s.members i)):ZN b st (gr ZQ (seS s).members i):=by
 have e:gr ZQ (seS s).members i=Zex s.par (gr ZQ s.members i):=by
  show gr ZQ (upN _ _ _) i=_;rw[GM _ _ _ (Nat.le_refl _),if_pos hi]
 rw[e];unfold Zex;split
 ·exact⟨h.b,h.s⟩
 ·exact h
theorem pool7 (s:Zd):(tk7 s).1.pool=s.pool∧(tk7 s).1.par=s.par:=⟨rfl,rfl⟩
theorem Ztx {s:Zd}{D:Nat}(ti:Zp s D)(ms:∀m∈s.members,MI s.par m∧MF s.par m)(hp:(Vp s).par=s.par)(hq:s.pool=[]∨(YF s).quo=false){i:Nat}(hi:i<s.members.length)(hc:Uu (gr ZQ s.members i))(he:WX s i=0) :
  i<(Vp s).members.length∧ZN (YI s i).bal (gr ZQ s.members i).status (gr ZQ (Vp s).members i):=by
 obtain⟨_,h4⟩:=Ymw ti ms;have hpc:=Z7 ti.r;have hep:=ti.ep;have hml:=ti.ml;have ht:0≤atP s∧atP s≤2147483647:=by unfold atP;omega
 have hst:(gr ZQ s.members i).status≠1:=by have:_=(2:Int)∨_=(3:Int):=hc;omega
 have hno:(i:Int) ∉ Ji s∧Zmx s i=false:=by
  unfold WX at he;split at he
  ·omega
  ·rename_i h1
   cases ho:Zmx s i with
   | true=>rw[ho]at he;simp at he
   | false=>exact⟨h1,rfl⟩
 have hfl:¬(YI s i).bal≤s.par.floor:=of_decide_eq_false hno.2;have g4:ZN (YI s i).bal (gr ZQ s.members i).status (gr ZQ (tk4 s).1.members i):=⟨by rw[Zgq s hi hc],h4 i⟩
 have e5:gr ZQ (tk5 s).1.members i=ejF s.par (gr ZQ (tk4 s).1.members i):=by
  show gr ZQ (upN _ _ _) i=_;rw[GM _ _ _ (Nat.le_refl _),if_pos (by rw[Ymz];exact hi)];rfl
 have g5:ZN (YI s i).bal (gr ZQ s.members i).status (gr ZQ (tk5 s).1.members i):=by
  rw[e5,ejF,if_neg (fun c=>by have c2:=c.2;rw[g4.b]at c2;exact hfl c2)];exact g4
 have hW:lvW (tk5 s).1=Ji s:=by
  rw[← Zwe ti ms];have a8:(tk8 s).2.left=(tk7 s).2.left:=Zya (tk7 s).1 (tk7 s).2 (atP s);have a9:(tk9 s).2.left=(tk8 s).2.left:=(Zrk (tk8 s).1 (tk8 s).2).1;have h10:(Vx s).2.left=(tk9 s).2.left:=by
   by_cases c:(tk9 s).1.par=s.par
   ·rw[Vx,if_pos c]
   ·rw[Vx,if_neg c];exact Zxg _ _ _
  have e:YF s=(Vx s).2:=rfl;rw[e,h10,a9,a8];rfl
 obtain⟨ti7,f7,ti8,_⟩:=Ygy ti fun m hm=>(ms m hm).1;have g7:ZN (YI s i).bal (gr ZQ s.members i).status (gr ZQ (tk7 s).1.members i):=by
  show ZN _ _ (gr ZQ (lvK (atP s) (lvW (tk5 s).1) ((tk5 s).1.members,(tk5 s).1.dues) (lvW (tk5 s).1).length).1 i);rw[Ycz (fun z hz ez=>?_) _ (Nat.le_refl _)]
  ·exact g5
  ·rw[hW]at hz;have hz0:z∈(exF s s.exit (cI s)):=List.mem_of_mem_take hz;have hx:=Zmz (fun i _=>h4 i) s.exit s.members.length (Nat.le_refl _);have hz1:z∈exN s.par (tk4 s).1.members s.exit s.members.length:=by rw[← hx];exact hz0
   have hz2:=Zeq hz1;have hz3:=Vi ti.ex hz2;have:z=(i:Int):=by omega
   rw[this]at hz;exact hno.1 hz
 have hq7:(tk7 s).1.pool=[]∨(tk7 s).2.quo=false:=hq.imp (fun x=>(pool7 s).1.trans x) fun x=>by
  have:=(rs8 s).next ((rs9 s).next (rs10 s));rw[← this.quo];exact x
 have g8:ZN (YI s i).bal (gr ZQ s.members i).status (gr ZQ (tk8 s).1.members i):=go_en ti7 (tk7 s).2 ht hst hq7 g7;have g9:ZN (YI s i).bal (gr ZQ s.members i).status (gr ZQ (tk9 s).1.members i):=g8;have e10:Vx s=tk9 s:=by
  have h0:(Vp s).par=(Vx s).1.par:=Ytc (Vx s).1;have h1:(Vx s).1.par=s.par:=h0.symm.trans hp;by_cases c:(tk9 s).1.par=s.par
  ·rw[Vx,if_pos c]
  ·rw[Vx,if_neg c,Ynk]at h1;exact absurd h1 c
 obtain⟨_,z10,_⟩:=Ydv ti fun m hm=>(ms m hm).1;have hl10:i<(Vx s).1.members.length:=Nat.lt_of_lt_of_le hi z10.ml;have eS:Vp s=seS (Vx s).1:=rfl;rw[eS];refine⟨by rw[Yed];exact hl10,go_se hl10 ?_⟩;rw[e10];exact g9
theorem Zpo {s:Zd}{D:Nat}(ti:Zp s D)(ms:∀m∈s.members,MI s.par m∧MF s.par m):(Ji s).Nodup∧∀z∈Ji s,∃i:Nat,z=i∧i∈cI s:=by
 obtain⟨_,h4⟩:=Ymw ti ms;have hx:=Zmz (fun i _=>h4 i) s.exit s.members.length (Nat.le_refl _);have e:Ji s=(exN s.par (tk4 s).1.members s.exit s.members.length).take s.par.churn.toNat:=by rw[← hx];rfl
 rw[e]
 constructor
 ·rw[Ydx];exact(ti.ex.1.sublist List.filter_sublist).sublist (List.take_sublist _ _)
 ·intro z hz;have hz3:=Vi ti.ex (Zeq (List.mem_of_mem_take hz));refine⟨z.toNat,by omega,?_⟩;unfold cI cP;exact List.mem_filter.2 ⟨List.mem_range.2 (by omega),decide_eq_true (.inr hz3.2.2)⟩
theorem Zqg {s:Zd}{D:Nat}(ti:Zp s D)(ms:∀m∈s.members,MI s.par m∧MF s.par m):((cI s).filter fun i=>decide (WX s i=5)).length=(Ji s).length:=by
 obtain⟨n1,n2⟩:=Zpo ti ms;have hp:(((cI s).filter fun i=>decide (WX s i=5)).map fun i:Nat=>(i:Int)).Perm (Ji s):=by
  refine(List.perm_ext_iff_of_nodup ?_ n1).2 fun z=>?_
  ·rw[List.Nodup,List.pairwise_map];have:(cI s).Nodup:=List.nodup_range.sublist List.filter_sublist;exact(this.sublist List.filter_sublist).imp fun h e=>h (by omega)
  ·rw[List.mem_map]
   constructor
   ·rintro⟨i,hi,rfl⟩;have:=(List.mem_filter.1 hi).2;simp only[decide_eq_true_eq]at this;unfold WX at this;split at this
    ·assumption
    ·split at this<;>omega
   ·intro hz;obtain⟨i,rfl,hi⟩:=n2 z hz;exact⟨i,List.mem_filter.2 ⟨hi,by rw[WX,if_pos hz];rfl⟩,rfl⟩
 have:=hp.length_eq
 rwa [List.length_map]at this
theorem Zmj {s:Zd}{D:Nat}(ti:Zp s D)(ms:∀m∈s.members,MI s.par m∧MF s.par m):Zp (tk4 s).1 D∧(∀k,0≤at0 (Wx s) k)∧tot (Wx s)≤Jl s∧0≤Jl s∧Jl s≤4611686018427387904:=by
 have hA:=JI ti.ml fun m hm=>(ms m hm).1;have hact:0≤Y7 s∧Y7 s≤18446744073709551615:=by
  have:=Vg (ks:=s.marks) ti.be.m;have e:Y7 s=U9 s.members:=rfl;omega
 have ti2:Zp (tk2 s).1 D:=Zhd ti;have ra2:0≤(tk2 s).2.act∧(tk2 s).2.act≤18446744073709551615:=hact;have hn:=Yla (s:=wgS s) (r:=wgR s (r0P s)) ti2 ra2;obtain⟨p1,p2,p3⟩:=Ygn (s:=wgS s) (r:=wgR s (r0P s)) ti2 ra2;have hq:=p3 _ (Nat.le_refl _);have ti3:Zp (tk3 s).1 D:=Zqj ti2 ra2;have htop:=ti3.top;have rb3:(tk3 s).2.burned=0:=rfl;have ti4:Zp (tk4 s).1 D:=Ybz ti3 rb3;have em:mtN (wgS s) (wgR s (r0P s))=Jl s:=rfl;rw[Yxr,em]at hq;rw[Yxr]at p1;rw[em]at hn;have et:tot (Wx s)=Yy (Wx s) (Wx s).length:=rfl;have hg:0≤s.gen∧0≤s.mint:=⟨(ti.ok.u _ (by simp)).1,(ti.ok.u _ (by simp)).1⟩
 have h3:(tk3 s).1.gen+(tk3 s).1.mint=s.gen+(s.mint+Jl s):=rfl;refine⟨ti4,fun k=>(p1 k).1,by omega,by omega,by omega⟩
theorem Ycy {s:Zd}{D:Nat}(ti:Zp s D)(ms:∀m∈s.members,MI s.par m∧MF s.par m){i:Nat}(hi:i<s.members.length)(hc:Uu (gr ZQ s.members i)):0≤(YI s i).bal∧(YI s i).bal≤4611686018427387904:=by
 obtain⟨ti4,_⟩:=Zmj ti ms;have hb:=ti4.be.bl (i:=i) (by rw[Ymz];exact hi);rw[Zgq s hi hc]at hb;obtain⟨b1,b2,b3,b4,b5,b6⟩:=ti4.parts;have hs:=ti4.sum;omega
theorem Yfy {s:Zd}{D:Nat}(ti:Zp s D){i:Nat}(hi:i<s.members.length):Zf (Wc s i):=Zes ti.ok.p ti.r (ti.be.m _ (Yq (z:=ZQ) hi)) _ _
theorem Zie {s:Zd}{D:Nat}(ti:Zp s D)(ms:∀m∈s.members,MI s.par m∧MF s.par m){i:Nat}(hi:i<s.members.length)(hc:Uu (gr ZQ s.members i)):ZG (Yk s i)∧(Yk s i).over≤(Yk s i).prize∧(Yk s i).paid≤(YI s i).bal∧(Yk s i).burned≤(Yk s i).fine:=by
 obtain⟨_,p1,p2,p3,p4⟩:=Zmj ti ms;have he:=Ycy ti ms hi hc;have hno:=Yfy ti hi;obtain⟨_,f1,f2,f3,f4⟩:=Jx ti.ok.p ti.r hno (Ym s);have hnb:=hno.u (Wc s i).bal (by simp);have hpz:0≤YW s i∧YW s i≤4611686018427387904:=by
  have h1:=p1 (thI s.members s.marks i).length;have h2:=Yl p1 (thI s.members s.marks i).length;unfold YW;omega
 have hpd:0≤(Yk s i).paid∧(Yk s i).paid≤(YI s i).bal:=by
  show 0≤(if WX s i≠0 then (YI s i).bal else 0)∧(if WX s i≠0 then (YI s i).bal else 0)≤_;split<;>omega
 have hfl:=Ybf s.par.cap (Wc s i).bal;have hov:0≤(Zol s i).2∧(Zol s i).2≤YW s i:=by
  show 0≤YW s i-min (YW s i) (Y2 s.par.cap (Wc s i).bal)∧YW s i-min (YW s i) (Y2 s.par.cap (Wc s i).bal)≤_;omega
 have f5:W8 s i=YR s.par (Wc s i) (Ym s):=rfl
 cases ht:thB s i with
 | true =>
  have e1:(Yk s i).prize=YW s i∧(Yk s i).over=(Zol s i).2∧(Yk s i).fine=0∧(Yk s i).burned=0:=by simp [Yk,Y6,ht]
  obtain⟨e1,e2,e3,e4⟩:=e1;exact⟨⟨by rw[e1];omega,by rw[e2];omega,by rw[e3];decide,by rw[e4];decide,by omega⟩,by rw[e1,e2];exact hov.2,hpd.2,by rw[e3,e4];exact Int.le_refl _⟩
 | false =>
  have e1:(Yk s i).prize=0∧(Yk s i).over=0∧(Yk s i).fine=W8 s i∧(Yk s i).burned=WQ s.par (W8 s i):=by simp [Yk,Y6,ht]
  obtain⟨e1,e2,e3,e4⟩:=e1;rw[f5]at e3 e4;exact⟨⟨by rw[e1];decide,by rw[e2];decide,by rw[e3];omega,by rw[e4];omega,by omega⟩,by rw[e1,e2];exact Int.le_refl _,hpd.2,by rw[e3,e4];exact f4⟩
theorem Yfs {s:Zd}{i:Nat}:(YI s i).bal=(gr ZQ s.members i).bal+(Yk s i).prize-(Yk s i).over-(Yk s i).fine:=by
 cases ht:thB s i with
 | true =>
  have e1:(Yk s i).prize=YW s i∧(Yk s i).over=(Zol s i).2∧(Yk s i).fine=0:=by simp [Yk,Y6,ht]
  rw[e1.1,e1.2.1,e1.2.2,YI,if_pos ht,← Ztv];show (Wc s i).bal+min (YW s i) (Y2 s.par.cap (Wc s i).bal)=(Wc s i).bal+YW s i-(YW s i-min (YW s i) (Y2 s.par.cap (Wc s i).bal))-0;omega
 | false =>
  have e1:(Yk s i).prize=0∧(Yk s i).over=0∧(Yk s i).fine=W8 s i:=by simp [Yk,Y6,ht]
  rw[e1.1,e1.2.1,e1.2.2,YI,if_neg (by rw[ht];decide),← Ztv];show (Wc s i).bal-W8 s i=_;omega
theorem Zjn {α:Type}(f g:α→Int):∀(l:List α),(∀x∈l,f x≤g x)→tot (l.map f)≤tot (l.map g)
 | [],_=>Int.le_refl _
 | x::l,h=>by
  rw[List.map_cons,List.map_cons,Wq,Wq];have h1:=Zjn f g l fun y hy=>h y (List.mem_cons_of_mem _ hy);have h2:=h x List.mem_cons_self;omega
theorem Zfa {s:Zd}{i:Nat}(hi:i∈cI s):i<s.members.length∧Uu (gr ZQ s.members i):=by
 have h1:=Zpd hi;have h2:=Ztn hi;simp only[VH,decide_eq_true_eq]at h2;exact⟨h1,h2⟩
theorem Ztj {l ms:List Zb}(hb:∀i,0≤at0 (ms.map Zb.bal) i):∀k,k≤ms.length→tot ((cP l k).map fun i=>(gr ZQ ms i).bal)≤Yy (ms.map Zb.bal) k
 | 0,_=>Int.le_refl _
 | k+1,hk=>by
  have ih:=Ztj (l:=l) hb k (by omega);have h1:=hb k;have h2:at0 (ms.map Zb.bal) k=(gr ZQ ms k).bal:=WV (by omega);rw[Zma,Yy,h2];rw[h2]at h1;split<;>omega
theorem Zsr {s:Zd}{D:Nat}(ti:Zp s D)(ms:∀m∈s.members,MI s.par m∧MF s.par m)(he:Us s=0) :
  tot ((YJ s).map Zq.prize)=(YF s).paid∧tot ((YJ s).map Zq.burned)=(YF s).burned∧tot ((YJ s).map Zq.fine)=(YF s).burned+(YF s).fees∧Zhv (YJ s)∧(YJ s).length≤128∧∀x∈YJ s,ZG x:=by
 obtain⟨h3,h4⟩:=Ymw ti ms;obtain⟨ti4,p1,p2,p3,p4⟩:=Zmj ti ms;have eL:YJ s=(cI s).map (Yk s):=by rw[YJ,if_pos he]
 have hm:∀(f:Zq→Int),(YJ s).map f=(cI s).map fun i=>f (Yk s i):=fun f=>by rw[eL,List.map_map];rfl
 have hr:=Zdp s;have hpz:tot ((YJ s).map Zq.prize)=tot (Wx s):=by
  rw[hm];have h1:=Zfj s s.members.length;have hl:(thI s.members s.marks s.members.length).length=(Wx s).length:=(Zcs s).symm;rw[hl]at h1;exact h1
 have hpd:(YF s).paid=tot (Wx s):=by rw[hr.2.2.2.2.2.2.1,Yxr]
 obtain⟨b1,b2⟩:=Zmt (fun i _=>h3 i) s.members.length (Nat.le_refl _);obtain⟨q1,q2⟩:=Zxf s;have l3:=len3 s;have e4:(tk4 s).2.burned=0+fnU s.par s.marks (Ym s) (tk3 s).1.members (tk3 s).1.members.length∧(tk4 s).2.fees=0+(fnT s.par s.marks (Ym s) (tk3 s).1.members (tk3 s).1.members.length-fnU s.par s.marks (Ym s) (tk3 s).1.members (tk3 s).1.members.length):=⟨rfl,rfl⟩
 rw[l3]at e4;have hb1:tot ((YJ s).map Zq.burned)=fnU s.par s.marks (Ym s) (tk3 s).1.members s.members.length:=by rw[hm];exact b1
 have hb2:tot ((YJ s).map Zq.fine)=fnT s.par s.marks (Ym s) (tk3 s).1.members s.members.length:=by rw[hm];exact b2
 have hok:∀i∈cI s,ZG (Yk s i)∧(Yk s i).over≤(Yk s i).prize∧(Yk s i).paid≤(YI s i).bal∧(Yk s i).burned≤(Yk s i).fine:=fun i hi=>Zie ti ms (Zfa hi).1 (Zfa hi).2;have ho:tot ((YJ s).map Zq.over)≤tot ((YJ s).map Zq.prize):=by
  rw[hm,hm];exact Zjn _ _ _ fun i hi=>(hok i hi).2.1
 have hbp:=WD ti4.be.m;obtain⟨u1,u2,u3,u4,u5,u6⟩:=ti4.parts;have us:=ti4.sum;have hpa:tot ((YJ s).map Zq.paid)≤tot ((tk4 s).1.members.map Zb.bal):=by
  rw[hm];have h1:=Zjn (fun i=>(Yk s i).paid) (fun i=>(gr ZQ (tk4 s).1.members i).bal) (cI s) fun i hi=>by
   rw[Zgq s (Zfa hi).1 (Zfa hi).2];exact(hok i hi).2.2.1
  have h2:=Ztj (l:=s.members) hbp (tk4 s).1.members.length (Nat.le_refl _);have h5:tot ((tk4 s).1.members.map Zb.bal)=Yy ((tk4 s).1.members.map Zb.bal) (tk4 s).1.members.length:=by rw[tot,List.length_map]
  rw[Ymz]at h2 h5;rw[h5];exact Int.le_trans h1 h2
 have hact:0≤Y7 s∧Y7 s≤18446744073709551615:=by
  have hA:=JI ti.ml fun m hm=>(ms m hm).1;have:=Vg (ks:=s.marks) ti.be.m;have e:Y7 s=U9 s.members:=rfl;omega
 have ti2:Zp (tk2 s).1 D:=Zhd ti;have ra2:0≤(tk2 s).2.act∧(tk2 s).2.act≤18446744073709551615:=hact;have ti3:Zp (tk3 s).1 D:=Zqj ti2 ra2;obtain⟨f1,f2,f3⟩:=Zkr ti3.ok.p ti3.r s.marks (Ym s) (ms:=(tk3 s).1.members) ti3.be.m (tk3 s).1.members.length (Nat.le_refl _);have hub:0≤tot ((upI (fnF (tk3 s).1.par s.marks (Ym s)) (tk3 s).1.members (tk3 s).1.members.length).map Zb.bal):=Yu (WD (Zaq Zf (fun k _ hm=>Zlz ti3.ok.p ti3.r _ _ k hm) ti3.be.m _ (Nat.le_refl _)));obtain⟨w1,w2,w3,w4,w5,w6⟩:=ti3.parts;have ws:=ti3.sum;have ep:(tk3 s).1.par=s.par:=rfl;rw[ep,l3]at f1 f2 f3;rw[ep,l3]at hub;have hln:(YJ s).length≤s.members.length:=by rw[eL,List.length_map];exact VW _ _
 have hml:=ti.ml;refine⟨hpz.trans hpd.symm,by rw[hb1,q1,e4.1];omega,by rw[hb2,q1,q2,e4.1,e4.2];omega,⟨by rw[hpz];omega,by rw[hpz]at ho;omega,by rw[hb2];omega,by rw[hb1];omega,by omega⟩,by omega,fun x hx=>?_⟩;rw[eL]at hx;obtain⟨i,hi,rfl⟩:=List.mem_map.1 hx;exact(hok i hi).1
end Go.X
