/- Lemmas and contracts. Conditions: as each says. -/
import Derived.Test.YtllhopbilpdpkaaGreatQ28
set_option linter.unusedVariables false
set_option linter.unusedSimpArgs false
set_option maxHeartbeats 12800000
set_option maxRecDepth 20000
namespace Go.X
open Go.RowKit Go.Proofs Go.Bl Go.Proofs.Tryz
variable {L:Own} {h:PH} {K:PK}
theorem Zqp {bb:Nat}{s:Zd}{v:SV}{r:Zi}{q:RV}{w:Int}{m:Zn}(y n:Value)(mo:List Zn)(dn:List Int)(hp:Ints h .u64 v.p s.purses)(hl:s.purses.length≤1000)(hto:0≤m.to∧m.to<s.purses.length)(ha:0≤m.amt∧m.amt≤18446744073709551615)(htr:0≤s.treas∧s.treas≤4611686018427387904)(hs:at0 s.purses m.to.toNat+s.treas≤4611686018427387904)
  (hk:∀h' pv,PH.le h h'→Ints h' .u64 pv (WG m ⟨s.par,s.treas,s.purses,s.emer,mo,dn⟩).ps→K (.bool (moB m s.treas)) (tB bb { s with par:=(WG m ⟨s.par,s.treas,s.purses,s.emer,mo,dn⟩).par,treas:=(WG m ⟨s.par,s.treas,s.purses,s.emer,mo,dn⟩).tr,purses:=(WG m ⟨s.par,s.treas,s.purses,s.emer,mo,dn⟩).ps,emer:=(WG m ⟨s.par,s.treas,s.purses,s.emer,mo,dn⟩).em } { v with p:=pv } r q w::L) h') :
  Zc prog 221 [.pointer (some ⟨bb,0,none⟩),motV m y n] (tB bb s v r q w::L) h K:=by
 refine Z3 func221 rfl (rs:=[_]) rfl rfl ZW (by kernel_rfl) rfl rfl fun ap nd=>?_;have hbb:h bb=noC:=ap.1;clear ap nd;refine xx ?_;refine Z2 fun b3 nb3 zb3=>?_;(try simp only[ZT]at nb3);have n3:=nb3.1;clear nb3;refine xx ?_;by_cases w3:m.what=3
 ·have e1:WG m ⟨s.par,s.treas,s.purses,s.emer,mo,dn⟩=⟨s.par,s.treas,s.purses,true,mo,dn⟩:=by rw[WG,if_pos w3]
  have e2:moB m s.treas=true:=by simp [moB,w3]
  rw[e1,e2]at hk;have hk:=hk h v.p (PH.le_refl _) hp;simp -dsimp -implicitDefEqProofs (disch:=first|with_reducible assumption|omega) [go_sem,w3];exact ZP (ZO hk)
 by_cases w4:m.what=4
 ·have e1:WG m ⟨s.par,s.treas,s.purses,s.emer,mo,dn⟩=⟨s.par,s.treas,s.purses,false,mo,dn⟩:=by rw[WG,if_neg w3,if_pos w4]
  have e2:moB m s.treas=true:=by simp [moB,w4]
  rw[e1,e2]at hk;have hk:=hk h v.p (PH.le_refl _) hp;simp -dsimp -implicitDefEqProofs (disch:=first|with_reducible assumption|omega) [go_sem,w4];exact ZP (ZO hk)
 by_cases w1:m.what=1
 ·have e1:WG m ⟨s.par,s.treas,s.purses,s.emer,mo,dn⟩=⟨m.par,s.treas,s.purses,s.emer,mo,dn⟩:=by rw[WG,if_neg w3,if_neg w4,if_pos w1]
  have e2:moB m s.treas=true:=by simp [moB,w1]
  rw[e1,e2]at hk;have hk:=hk h v.p (PH.le_refl _) hp;simp -dsimp -implicitDefEqProofs (disch:=first|with_reducible assumption|omega) [go_sem,w1];exact ZP (ZO hk)
 by_cases w2:m.what=2
 ·by_cases c:m.amt≤s.treas
  ·have e1:WG m ⟨s.par,s.treas,s.purses,s.emer,mo,dn⟩=⟨s.par,s.treas-m.amt,s.purses.set m.to.toNat (at0 s.purses m.to.toNat+m.amt),s.emer,mo,dn⟩:=by rw[WG,if_neg w3,if_neg w4,if_neg w1,if_pos ⟨w2,c⟩]
   have e2:moB m s.treas=true:=by simp [moB,c]
   rw[e1,e2]at hk;simp only at hk;simp -dsimp -implicitDefEqProofs (disch:=first|with_reducible assumption|omega) [go_sem,w2];refine Yn (.tk 0 (.tk 1 (.tk 2 (.tk 3 (.tk 5 (.tkl 4 (.tkl 6 (.tk 7 (.fin))))))))) (by kernel_rfl) (by kernel_rfl) _ (Za.refl _ _) ?_;refine xx ?_;refine Yn (.tk 0 (.tk 1 (.tk 2 (.tk 3 (.tk 5 (.tkl 4 (.tkl 6 (.tk 7 (.tk 8 (.tk 9 (.tk 10 (.o2 11 (.fin) (.nil))))))))))))) (by kernel_rfl) (by kernel_rfl) _ (Za.refl _ _) ?_;refine xx ?_;refine Zc.fin (Zc.weaken (Za.perm _ (List.Perm.swap _ _ _)) (V8 (s:={ s with treas:=s.treas-m.amt }) hp hl m.to hto m.amt ha.1 (by show at0 s.purses m.to.toNat+m.amt≤_;omega) fun h1 pv le1 i1=>⟨_,_,Za.perm _ (List.Perm.swap _ _ _),?_⟩));have hk:=hk h1 pv le1 i1;refine xx ?_;exact ZP (ZO hk)
  ·have e1:WG m ⟨s.par,s.treas,s.purses,s.emer,mo,dn⟩=⟨s.par,s.treas,s.purses,s.emer,mo,dn⟩:=by rw[WG,if_neg w3,if_neg w4,if_neg w1,if_neg (fun x=>c x.2)]
   have e2:moB m s.treas=false:=by simp [moB,w2,c]
   rw[e1,e2]at hk;have hk:=hk h v.p (PH.le_refl _) hp;simp -dsimp -implicitDefEqProofs (disch:=first|with_reducible assumption|omega) [go_sem,w2];refine Yn (.tk 0 (.tk 1 (.tk 2 (.tk 3 (.tk 5 (.tkl 4 (.tkl 6 (.tk 7 (.fin))))))))) (by kernel_rfl) (by kernel_rfl) _ (Za.refl _ _) ?_;refine xx ?_;exact ZP (ZO hk)
 ·have e1:WG m ⟨s.par,s.treas,s.purses,s.emer,mo,dn⟩=⟨s.par,s.treas,s.purses,s.emer,mo,dn⟩:=by rw[WG,if_neg w3,if_neg w4,if_neg w1,if_neg (fun x=>w2 x.1)]
  have e2:moB m s.treas=true:=by simp [moB,w2]
  rw[e1,e2]at hk;have hk:=hk h v.p (PH.le_refl _) hp;refine xx ?_;exact ZP (ZO hk)
theorem Zja {p:Ze}(h:YM p=true):0≤p.enact∧p.enact≤1000000:=by
 simp only[YM,Bool.and_eq_true]at h;have h2:=h.1.2;simp only[Js,List.all_cons,List.all_nil,id,Bool.and_eq_true,wi_iff,decide_eq_true_eq,and_true]at h2;omega
theorem Zwi {n:Nat}{m:Zn}(h:ZC n m):m.yes.length≤1000∧m.no.length≤1000:=by
 obtain⟨f1,f2,f3,f4,f5⟩:=motFits_iff.1 h.f;simp only[Zhz,Bool.and_eq_true,decide_eq_true_eq]at f3 f4;have e:Zgx 128=16:=by decide
 omega
structure MoG where
 k:Nat
 h:PH
 p:Value
 t:Value
 q:List QM
 od:Option (Nat×Nat)
theorem Zpe {bb D:Nat}{om od:Option (Nat×Nat)}{s:Zd}{v:SV}{r:Zi}{q:RV}{w:Int}(ti:Zp s D)(hA:Y7 s≤18446744073709551615)(hdl:r.done.length≤700)(hp:Ints h .u64 v.p s.purses)(ht:∃ql:List QM,Zh WE 33 h v.t ql∧ql.map (fun x=>x.2.2)=s.motions∧WF h ql)
  (hm:v.m=ovs om s.members.length) (okm:okO om s.members.length) (hd:q.d=ovs od r.done.length) (okd:okO od r.done.length)
  (hk:∀h' pv tv od',PH.le h h'→Ints h' .u64 pv (moS s r).purses→(∃ql:List QM,Zh WE 33 h' tv ql∧ql.map (fun x=>x.2.2)=(moS s r).motions∧WF h' ql)→okO od' (moR s r).done.length →
   K (.tuple #[]) (tB bb (moS s r) { v with p:=pv,t:=tv } (moR s r) { q with d:=ovs od' (moR s r).done.length } w::tMo om s.members (oent 3 1 od' ((moR s r).done.map (.int .i64)) L)) h') :
  Zc prog 89 [.pointer (some ⟨bb,0,none⟩)] (tB bb s v r q w::tMo om s.members (oent 3 1 od (r.done.map (.int .i64)) L)) h K:=by
 obtain⟨vp,vm,ve,vx,vo,vd,vt,vk,vr⟩:=v;obtain⟨qo,ql,qs,qd⟩:=q;simp only at hm hp ht hd hk ⊢;subst hm;subst hd;obtain⟨qs0,t1,t2,t3⟩:=ht;have hq0:qs0.length=s.motions.length:=by rw[← t2,List.length_map]
 have hep:=ti.ep;have hml:=ti.ml;have hpl:=ti.pl;have hmn:=ti.mn;have hsum:=ti.sum;obtain⟨p1,p2,p3,p4,p5,p6⟩:=ti.parts;have hen:=Zja ti.r;have hmm:∀m∈s.motions,m.yes.length≤1000∧m.no.length≤1000:=fun m hm=>Zwi (ti.mm m hm);have hmr:=ti.mm;refine Z3 func89 rfl (rs:=[]) rfl rfl ZW (by kernel_rfl) rfl rfl fun ap nd=>?_;have hbb:h bb=noC:=ap.1;clear ap nd;refine xx ?_;refine Yn (.tk 0 (.tk 1 (.tk 2 (.tk 3 (.tk 4 (.tk 6 (.tk 7 (.tk 8 (.tk 9 (.tk 11 (.tk 12 (.tk 13 (.tk 14 (.tk 16 (.tk 17 (.tk 18 (.tk 19 (.tkl 5 (.tkl 10 (.tkl 15 (.tkl 20 (.o1 21 (.tk 22 (.tk 23 (.tk 24 (.o2 25 (.fin) (.nil))))) (.nil))))))))))))))))))))))) (by kernel_rfl) (by kernel_rfl) [_] drop1 ?_;refine xx ?_;refine Zc.apn (Zc.fin (Zc.weaken (Za.perm _ oent_perm) (Zpc s.par ti.ok.p hen s.ep (by omega) _ t1 t2 t3 (by omega) hmm okm (by omega) ti.be.m hA fun h1 tv q1 le1 i1 e1 m1=>⟨_,_,Za.perm _ oent_perm.symm,fun ap nd=>?_⟩)));have hbb1:h1 bb=noC:=ap.1;clear ap nd;obtain⟨ta,tc,rfl,_⟩:=i1.open
 first
 | refine xkp (drop1.trans (Za.forget le1)) ?_
 | refine xkp (Za.forget le1) ?_
 | skip
 refine xx ?_;have eL:Zwp s.par s.members s.ep s.motions=moL s:=rfl;rw[eL]at e1;have hmL:(moL s).length=s.motions.length:=List.length_map _;have hq1:q1.length=(moL s).length:=by rw[← e1,List.length_map]
 refine Yn (.tk 0 (.tk 1 (.tk 2 (.tk 3 (.tk 5 (.tk 6 (.tk 7 (.tk 8 (.tk 10 (.tk 11 (.tk 12 (.tk 13 (.tk 17 (.tkl 4 (.tkl 9 (.tkl 14 (.o1 15 (.tk 16 (.fin)) (.nil)))))))))))))))))) (by kernel_rfl) (by kernel_rfl) [_] drop1 ?_;refine xx ?_;refine Zc.ap (Zrv _ i1 e1 m1 (by omega) s.ep r.quo fun h2 wv le2 iw ap=>?_);have hbb2:h2 bb=noC:=ap.1;clear ap;have eW:Vd (moL s) s.ep r.quo (moL s).length=moW s r:=rfl;rw[eW]at iw;obtain⟨W,hW⟩:∃W,W=moW s r:=⟨_,rfl⟩
 have hWin:=(Zna (s:=s) r).2;have hX:=fun k (hk:k≤(moW s r).length)=>mo_k ti r hk;have eS:moS s r=Yto s r (moW s r).length:=rfl;have eR:moR s r=moRk s r (moW s r).length:=rfl;rw[eS,eR]at hk;rw[← hW]at iw hWin hX hk;have hWl:W.length≤(moL s).length:=by rw[hW];exact Zgv _ _ _ _
 obtain⟨wa,wc,rfl,_,_,_,hws⟩:=iw.open;obtain⟨N,hN⟩:∃N,N=W.length:=⟨_,rfl⟩
 rw[← hN]at hws hk hX ⊢
 first
 | refine xkp (drop1.trans (Za.forget le2)) ?_
 | refine xkp (Za.forget le2) ?_
 | skip
 refine xx ?_;have e0:moX s r 0=⟨s.par,s.treas,s.purses,s.emer,moL s,r.done⟩:=rfl;refine YO (γ:=MoG) ⟨0,h2,vp,.slice ta q1.length tc,q1,od⟩ (fun y=>y.k≤N∧PH.le h2 y.h∧Ints y.h .u64 y.p (moX s r y.k).ps∧Zh WE 33 y.h y.t y.q∧y.q.map (fun x=>x.2.2)=(moX s r y.k).mo∧WF y.h y.q∧okO y.od (moX s r y.k).dn.length∧y.h bb=noC)
  (fun y=>[(49,.int .i64 y.k),(48,.int .i64 N),(47,.slice wa N wc),(0,.pointer (some ⟨bb,0,none⟩))])
  (fun y=>tB bb { s with par:=(moX s r y.k).par,treas:=(moX s r y.k).tr,purses:=(moX s r y.k).ps,emer:=(moX s r y.k).em,motions:=(moX s r y.k).mo } ⟨y.p,ovs om s.members.length,ve,vx,vo,vd,y.t,vk,vr⟩ { r with done:=(moX s r y.k).dn } ⟨qo,ql,qs,ovs y.od (moX s r y.k).dn.length⟩ w::oent 3 1 y.od ((moX s r y.k).dn.map (.int .i64)) (tMo om s.members L)) (fun y=>y.h) (fun y=>N-y.k) ?_ ?_ ?_ ?_
 ·exact⟨Nat.zero_le _,PH.le_refl _,hp.up (le1.trans le2),i1.up le2,e1,fun x hx=>(m1 x hx).up le2,okd,hbb2⟩
 ·simp [Ent,List.lookup,Wo]
 ·exact Za.perm _ (List.Perm.cons _ (Yt om od _ _ _))
 rintro⟨k,h3,pv,tv,q3,od3⟩ ⟨k1,le3,i3,j3,e3,m3,okd3,hbb3⟩;simp only at k1 le3 i3 j3 e3 m3 okd3 hbb3 ⊢;have hx:=hX k k1;obtain⟨X,hXX⟩:∃X,X=moX s r k:=⟨_,rfl⟩
 by_cases c1:k<N
 ·have hz:=hWin (at0 W k) (by rw[← Yf (by omega)];exact List.getElem_mem _);have hst:=hx.s k (Nat.le_refl _) (by omega);obtain⟨i,hi⟩:=Int.eq_ofNat_of_zero_le hz.1;rw[hi]at hz hst;rw[Int.toNat_natCast]at hst;have hws3:∀j,j<N→Yd h3 wa j=some (.int .i64 (at0 W j)):=fun j hj=>WN (le3) (hws j hj);have eK:moX s r (k+1)=Zga i (moX s r k):=by
   show moK (moW s r) _ (k+1)=_;rw[moK,← hW,hi,Int.toNat_natCast,hW];rfl
  rw[← hXX]at i3 e3 okd3 hx hst eK ⊢;have hxn:X.mo.length=(moL s).length:=hx.n;have hxl:X.ps.length=s.purses.length:=hx.l2;have hq3:q3.length=X.mo.length:=by rw[← e3,List.length_map]
  have hi3:i<q3.length:=by omega
  obtain⟨qk,hqk⟩:∃qk,qk=gr Z6 q3 i:=⟨_,rfl⟩
  have egr:qk.2.2=gr Yc X.mo i:=by rw[hqk];exact Zjk e3 (by omega)
  obtain⟨m,hm⟩:∃m,m=qk.2.2:=⟨_,rfl⟩
  have hmo:ZC s.purses.length m:=by rw[hm,egr];exact hx.m _ (Yq (by omega))
  have hma:=hmo.ok.a;have hmt:=hmo.t;have hxt:tot X.ps+X.tr=tot s.purses+s.treas:=hx.t;have hpx:=Yl hx.p m.to.toNat;have hp0:=hx.p m.to.toNat;have htx:=Yu hx.p;have htr:=hx.tr;have j30:=j3;obtain⟨ma,mc,rfl,_,_,_,hms⟩:=j3.open;simp -dsimp -implicitDefEqProofs (disch:=first|with_reducible assumption|omega) [go_sem,idx hws3];rw[hi];simp -dsimp -implicitDefEqProofs (disch:=first|with_reducible assumption|omega) [go_sem,↓Uw Z6 (by decide) hms,WE];rw[← hqk,← hm];have hpt:at0 X.ps m.to.toNat+X.tr≤4611686018427387904:=by omega
  refine Zc.ap (Zqp (s:={ s with par:=X.par,treas:=X.tr,purses:=X.ps,emer:=X.em,motions:=X.mo }) (m:=m) _ _ X.mo X.dn i3 (by show X.ps.length≤1000;omega) (by show 0≤m.to∧m.to<(X.ps.length:Int);omega) hma ⟨htr,by show X.tr≤_;omega⟩ hpt fun h4 pv4 le4 i4 ap=>?_);have hbb4:h4 bb=noC:=ap.1;clear ap;obtain⟨Y,hY⟩:∃Y,Y=WG m X:=⟨_,rfl⟩
  have eY:WG m ⟨X.par,X.tr,X.ps,X.em,X.mo,X.dn⟩=Y:=by rw[hY]
  obtain⟨B,hB⟩:∃B,B=moB m X.tr:=⟨_,rfl⟩
  simp only at eY i4 ⊢;rw[eY]at i4 ⊢;rw[← hB];refine xx ?_;have hfi:Zyn X.mo i B=(X.mo.set i (Zqv m B),0):=by
   rw[Zyn,if_pos (by omega),Int.toNat_natCast,if_pos hst,hm,egr]
  have eK2:moX s r (k+1)={ Y with mo:=X.mo.set i (Zqv m B),dn:=if B then X.dn++[(i:Int)] else X.dn }:=by
   rw[eK,Zga,← egr,← hm,← hB,← hY]
  refine Zc.ap (Zju _ (j30.up le4) e3 (fun x hx=>(m3 x hx).up le4) (by omega) (fun m hm=>Zwi (hx.m m hm)) i (by omega) B fun h5 tv5 q5 le5 j5 e5 m5 ap=>?_);have hbb5:h5 bb=noC:=ap.1;clear ap;rw[hfi]at e5 ⊢;simp only at e5 ⊢;obtain⟨ma5,mc5,rfl,_⟩:=j5.open;have hdx:X.dn.length≤r.done.length+k:=hx.d
  cases B with
  | false =>
   simp only[Bool.false_eq_true,if_false]at eK2;refine xx ?_;refine⟨⟨k+1,h5,pv4,.slice ma5 q5.length mc5,q5,od3⟩,⟨by simp only;omega,le3.trans (le4.trans le5),by rw[eK2];exact i4.up le5,j5,by rw[eK2];exact e5,m5,by rw[eK2];exact okd3,hbb5⟩,by simp only;omega,by simp [Ent,List.lookup],?_⟩;simp only;rw[eK2];exact Za.refl _ _
  | true =>
   simp only[if_true]at eK2;refine xx ?_;refine Z2 fun b99 nb99 zb99=>?_;(try simp only[ZT]at nb99);have n99:bb≠b99:=nb99.1;clear nb99;refine xx ?_;refine Z4 (t:=27) (e:=3) (sz:=1) (bytes:=8) (z:=[.int .i64 0]) (by kernel_rfl) Zds rfl rfl rfl rfl (by decide) [_,_] _ od3 X.dn.length (X.dn.map (.int .i64)) okd3 (by simp) (Src.own (b:=b99) (t:=3) (cap:=1) List.mem_cons_self) (m:=1) (news:=[.int .i64 i]) rfl (fun u hu=>by simp at hu;subst hu;rfl) (by simp [maxLen];omega) (by omega) ?_;intro od4 j1 j2 j3;simp only[List.cons_append,List.nil_append];refine xx ?_;refine⟨⟨k+1,h5,pv4,.slice ma5 q5.length mc5,q5,od4⟩,⟨by simp only;omega,le3.trans (le4.trans le5),by rw[eK2];exact i4.up le5,j5,by rw[eK2];exact e5,m5,by rw[eK2];simpa using j1,hbb5⟩,by simp only;omega,by simp [Ent,List.lookup],?_⟩;simp only;rw[eK2];simp only[List.map_append,List.map_cons,List.map_nil,List.length_append,List.length_singleton];exact Za.tail _ _ _
 obtain rfl:N=k:=by omega
 have hxN:(moX s r N).mo.length=(moL s).length:=hx.n;have hk:=hk h3 pv tv od3 (le1.trans (le2.trans le3)) i3 ⟨q3,j3,e3,m3⟩ okd3;have e1':Yto s r N={ s with par:=(moX s r N).par,treas:=(moX s r N).tr,purses:=(moX s r N).ps,emer:=(moX s r N).em,motions:=(moX s r N).mo }:=rfl;have e2':moRk s r N={ r with done:=(moX s r N).dn }:=rfl;rw[e1',e2']at hk;rw[← hXX]at hk ⊢;simp only at hk;refine xx ?_;exact⟨_,_,Za.perm _ (List.Perm.cons _ (Yt od3 om _ _ _)),hk⟩
structure AjG where
 k:Nat
 h:PH
 p:Value
theorem Zjc {bb D:Nat}{om oo ox:Option (Nat×Nat)}{s:Zd}{v:SV}{r:Zi}{q:RV}{w:Int}(ti:Zp s D)(hD:D≤30000)(hp:Ints h .u64 v.p s.purses)(hd:Zh Yz 3 h v.d s.dues)(hm:v.m=ovs om s.members.length)(okm:okO om s.members.length)(hw:0≤w∧w≤1000)
    (hx:v.x=ovs ox s.exit.length) (okx:okO ox s.exit.length) (ho:q.o=ovs oo r.out.length) (oko:okO oo r.out.length) (hol:r.out.length≤700)
    (hk:∀h' pv d' oo',PH.le h h'→Ints h' .u64 pv (ajS s).purses→Zh Yz 3 h' d' (ejS (ajS s) (min (s.ep+w) 2147483647) (ajS s).members.length).dues→okO oo' (ejR (ajS s) r (ajS s).members.length).out.length→K (.tuple #[]) (tB bb (ejS (ajS s) (min (s.ep+w) 2147483647) (ajS s).members.length) { v with p:=pv,d:=d',x:=ovs ox (ejS (ajS s) (min (s.ep+w) 2147483647) (ajS s).members.length).exit.length } (ejR (ajS s) r (ajS s).members.length) { q with o:=ovs oo' (ejR (ajS s) r (ajS s).members.length).out.length } w::tMo om (ejS (ajS s) (min (s.ep+w) 2147483647) (ajS s).members.length).members (oent 3 1 oo' ((ejR (ajS s) r (ajS s).members.length).out.map (.int .i64)) (oent 3 1 ox ((ejS (ajS s) (min (s.ep+w) 2147483647) (ajS s).members.length).exit.map (.int .i64)) L))) h') :
    Zc prog 90 [.pointer (some ⟨bb,0,none⟩)] (tB bb s v r q w::tMo om s.members (oent 3 1 oo (r.out.map (.int .i64)) (oent 3 1 ox (s.exit.map (.int .i64)) L))) h K:=by
  obtain⟨vp,vm,ve,vx,vo,vd,vt,vk,vr⟩:=v;simp only at hm hp hd hx hk ⊢;subst hm;have hep:=ti.ep;have hml:=ti.ml;have hpl:=ti.pl;have hcap:=ti.ok.p.w s.par.cap (by simp [YN]);obtain⟨b1,b2,b3,b4,b5,b6⟩:=ti.parts;have hsum:=ti.sum;obtain⟨N,hN⟩:∃N,N=s.members.length:=⟨_,rfl⟩
  have hbe:ZF s.members s.purses:=ti.be.ok (by omega);refine Z3 func90 rfl (rs:=[]) rfl rfl ZW (by kernel_rfl) rfl rfl fun ap nd=>?_;have hbb:h bb=noC:=ap.1;have hbm:apO om [] h:=YH ap.2;have nmb:apB om bb:=Yp nd.1;clear ap nd;obtain⟨ea,ec,em,_⟩:=Z9 okm;rw[← hN]at em okm hk ⊢;rw[em];refine xx ?_;rw[← em];refine YO (γ:=AjG) ⟨0,h,vp⟩ (fun y=>y.k≤N∧PH.le h y.h∧Ints y.h .u64 y.p (clN s.par (s.members,s.purses) y.k).2∧y.h bb=noC∧apO om [] y.h)
    (fun y=>[(12,.int .i64 y.k),(11,.int .i64 N),(0,.pointer (some ⟨bb,0,none⟩))])
    (fun y=>tB bb { s with members:=(clN s.par (s.members,s.purses) y.k).1,purses:=(clN s.par (s.members,s.purses) y.k).2 } ⟨y.p,ovs om N,ve,vx,vo,vd,vt,vk,vr⟩ r q w::tMo om (clN s.par (s.members,s.purses) y.k).1 (oent 3 1 oo (r.out.map (.int .i64)) (oent 3 1 ox (s.exit.map (.int .i64)) L))) (fun y=>y.h) (fun y=>N-y.k) ?_ ?_ ?_ ?_
  · exact⟨Nat.zero_le _,PH.le_refl _,hp,hbb,hbm⟩
  · simp [Ent,List.lookup,Wo]
  · exact Za.refl _ _
  rintro⟨k,h1,pv⟩ ⟨k1,le1,i1,hbb1,hbm1⟩;simp only at k1 le1 i1 hbb1 hbm1 ⊢;have hx1:=Zkz (q:=s.par) ti.ok.p (x:=(s.members,s.purses)) hbe k (by show k≤s.members.length;omega);obtain⟨hl1,hl2⟩:=V7 s.par (s.members,s.purses) k;simp only at hl1 hl2;by_cases c1:k<N
  · have eK:clN s.par (s.members,s.purses) (k+1)=Um s.par (clN s.par (s.members,s.purses) k) k:=rfl;obtain⟨X,hX⟩:∃X,X=clN s.par (s.members,s.purses) k:=⟨_,rfl⟩
    rw[← hX]at i1 hx1 hl1 hl2 eK ⊢;obtain⟨MS,PS⟩:=X;simp only at i1 hx1 hl1 hl2 ⊢;obtain⟨bm,cm,rfl⟩:∃bm cm,om=some (bm,cm):=by
      cases om with
      | none=>have:N=0:=okm;omega
      | some p=>exact⟨_,_,rfl⟩
    have hbm1':h1 bm=noC:=hbm1.2;have nmb':bm≠bb:=nmb;have hkl:k<MS.length:=by omega
    obtain⟨m,hmk⟩:∃m,m=gr ZQ MS k:=⟨_,rfl⟩
    have hmo:Zf m:=by rw[hmk];exact hx1.m _ (Yq hkl)
    have how:0≤m.owner∧m.owner<(PS.length:Int):=by rw[hmk];exact hx1.o _ (Yq hkl)
    have ub:=hmo.u m.bal (by simp);have hroom:=Yfl ti.ok.p (x:=(MS,PS)) hx1 hkl;simp only at hroom;rw[← hmk]at hroom;have eK2:clN s.par (s.members,s.purses) (k+1)=(MS.set k (VT s.par m),PS.set m.owner.toNat (at0 PS m.owner.toNat+(m.bal-min m.bal s.par.cap))):=by rw[eK,Um,← hmk]
    have hg:=Zql hkl;rw[← hmk]at hg;obtain⟨g0,g1,g2,g3,g4,g5⟩:=hg;have hi6:=Y5 (w:=6) hkl (show 5<6 by decide);have hsm:=Zwg (ms:=MS) rfl;simp only[tMo,Ye,YE];refine xx ?_;refine WH (.tk 0 (.tk 1 (.tk 2 (.tk 3 (.tk 5 (.tk 6 (.tk 7 (.tk 8 (.tkl 4 (.tkl 9 (.o1 10 (.tk 11 (.tk 12 (.tk 13 (.tk 14 (.tk 15 (.fin)))))) (.nil)))))))))))) (by kernel_rfl) (by kernel_rfl) [(0,.pointer (some ⟨bb,0,none⟩)),(3,.pointer (some ⟨bm,k*6,none⟩)),(12,.int .i64 k),(11,.int .i64 N)] [_,_] (γ:=Unit) (fun _=>True)
      (fun _=>[(0,.pointer (some ⟨bb,0,none⟩)),(3,.pointer (some ⟨bm,k*6,none⟩)),(12,.int .i64 k),(11,.int .i64 N),(4,.int .u64 (min m.bal s.par.cap)),(5,.int .u64 (m.bal-min m.bal s.par.cap))])
      (fun _=>tB bb { s with members:=MS,purses:=PS } ⟨pv,.slice (some ⟨bm,0,none⟩) N cm,ve,vx,vo,vd,vt,vk,vr⟩ r q w::tM bm cm MS::oent 3 1 oo (r.out.map (.int .i64)) (oent 3 1 ox (s.exit.map (.int .i64)) L)) (fun _=>h1) (by simp [Ent,List.lookup]) Zfm ?_ ?_
    · repeat' first
        | with_reducible refine Y4 ?_ ?_
        | simp -dsimp -implicitDefEqProofs (disch:=first|with_reducible assumption|omega) [go_sem,g0,g1,g2,g3,g4,g5]
        | (with_reducible show JX prog 223 _ _ _ _
           refine Zox s.par ti.ok.p ti.r m.bal ub ?_)
        | with_reducible refine xkp (Za.refl _ _) ?_
        | with_reducible refine xkp Zfm ?_
        | fail
      all_goals exact⟨by simp [Ent,List.lookup],Za.refl _ _⟩
    rintro _ _
    try simp only
    refine xx ?_;refine⟨by omega,?_⟩;obtain⟨m1,hm1⟩:∃m1:Zb,m1={ m with bal:=min m.bal s.par.cap }:=⟨_,rfl⟩
    have hset1:(MS.flatMap Yv).set (k*6) (.int .u64 (min m.bal s.par.cap))=(MS.set k m1).flatMap Yv:=Yx (m:=0) Yg ZQ MS hkl (by decide) (by rw[← hmk,hm1];rfl);rw[hset1];have hkl2:k<(MS.set k m1).length:=by rw[List.length_set];exact hkl
    have hg1:gr ZQ (MS.set k m1) k=m1:=by rw[Z8 hkl2,List.getElem_set_self]
    have hg:=Zql hkl2;rw[hg1]at hg;obtain⟨f0,f1,f2,f3,f4,f5⟩:=hg;have em1:m1.owner=m.owner:=by rw[hm1]
    rw[em1]at f4;have hsm2:=Zwg (ms:=MS.set k m1) (n:=MS.length) (by rw[List.length_set]);simp -dsimp -implicitDefEqProofs (disch:=first|with_reducible assumption|omega) [go_sem,f0,f1,f2,f3,f4,f5];refine Zc.ap (V8 (s:={ s with members:=MS.set k m1,purses:=PS }) (v:=⟨pv,.slice (some ⟨bm,0,none⟩) N cm,ve,vx,vo,vd,vt,vk,vr⟩) i1 (by show PS.length≤1000;omega) m.owner how _ (by omega) hroom fun h2 pv2 le2 i2 ap=>?_);have hbb2:h2 bb=noC:=ap.1;have hbm2:h2 bm=noC:=ap.2.1;clear ap;simp only at i2 ⊢;refine xx ?_;refine Yn (.tk 0 (.tk 1 (.tk 2 (.tk 3 (.tk 4 (.tk 6 (.tk 7 (.tk 8 (.tkl 5 (.tkl 9 (.o1 10 (.tk 11 (.tk 12 (.o2 13 (.fin) (.nil)))) (.nil)))))))))))) (by kernel_rfl) (by kernel_rfl) _ (Za.refl _ _) ?_;simp -dsimp -implicitDefEqProofs (disch:=first|with_reducible assumption|omega) [go_sem,f0,f1,f2,f3,f4,f5];refine Zhb s.par ti.ok.p m1 ?_;rw[ti.r,if_pos rfl];have eC:Zdz s.par m1=VT s.par m:=by rw[hm1];rfl
    rw[eC]
    first
    | refine xkp (Za.refl _ _) ?_
    | skip
    refine xx ?_;have hsm3:(((MS.map fun a=>(Yv a).length)).set k (Yv m1).length).sum=MS.length*6:=by
      rwa [List.map_set]at hsm2
    refine⟨by omega,?_⟩;have hst:=Zlv hkl2 (VT s.par m) (by rw[hg1,hm1];rfl) (by rw[hg1,hm1];rfl);rw[List.set_set]at hst;rw[hst];refine⟨⟨k+1,h2,pv2⟩,⟨by simp only;omega,le1.trans le2,by rw[eK2];exact i2,hbb2,trivial,hbm2⟩,by simp only;omega,by simp [Ent,List.lookup],?_⟩;simp only;rw[eK2];exact Za.refl _ _
  obtain rfl:N=k:=by omega
  have eA:ajS s={ s with members:=(clN s.par (s.members,s.purses) N).1,purses:=(clN s.par (s.members,s.purses) N).2 }:=by rw[hN];rfl
  have ti2:=Zrt ti (Nat.le_refl s.members.length);have eA2:Zys s s.members.length=ajS s:=rfl;rw[eA2]at ti2;have eL1:(ajS s).members.length=N:=by rw[eA];show (clN s.par (s.members,s.purses) N).1.length=N;omega
  have eX:(ajS s).exit=s.exit:=rfl;obtain⟨A,hA⟩:∃A,A=ajS s:=⟨_,rfl⟩
  rw[← hA]at eA ti2 eL1 eX hk;have eP:(clN s.par (s.members,s.purses) N).2=A.purses:=by rw[eA]
  have eM:(clN s.par (s.members,s.purses) N).1=A.members:=by rw[eA]
  rw[← eA,eM,← eX];rw[eP]at i1;have eE:A.ep=s.ep:=by rw[eA]
  refine xx ?_;refine Zcq (s:=A) (v:=⟨pv,ovs om N,ve,vx,vo,vd,vt,vk,vr⟩) (om:=om) (oo:=oo) (ox:=ox) ti2 hD (by rw[eA];exact hd.up le1) (by rw[eL1]) (by rw[eL1];exact okm) hw (by rw[eX];exact hx) (by rw[eX];exact okx) ho oko hol fun h2 d2 o2 le2 i2 ok2=>?_;rw[eE]at i2 ⊢;have hk:=hk h2 pv d2 o2 (le1.trans le2) (i1.up le2) i2 ok2;refine xx ?_;exact ZO hk
def Yhx (s:Zd):Zd:={ s with members:=[],entry:=[],exit:=[] }
abbrev Zvo (u:SV)(m e x:Value):SV:=⟨u.p,m,e,x,u.o,u.d,u.t,u.k,u.r⟩
theorem Zou {e sz e2 sz2 e3 sz3:Nat}{o o2 o3:Option (Nat×Nat)}{xs ys zs:List Value}{x y:Zm}{L:Own}{h:PH}:Za (oent e sz o xs (oent e2 sz2 o2 ys (oent e3 sz3 o3 zs (x::y::L)))) h (oent e sz o xs (oent e2 sz2 o2 ys (oent e3 sz3 o3 zs L))) h:=by
 have p1:(x::y::oent e sz o xs (oent e2 sz2 o2 ys (oent e3 sz3 o3 zs L))).Perm (oent e sz o xs (x::y::oent e2 sz2 o2 ys (oent e3 sz3 o3 zs L))):=Yj [x,y];have p2:=Z5 (e:=e) (sz:=sz) o xs (Yj (e:=e2) (sz:=sz2) (o:=o2) (xs:=ys) [x,y] (L:=oent e3 sz3 o3 zs L));have p3:=Z5 (e:=e) (sz:=sz) o xs (Z5 (e:=e2) (sz:=sz2) o2 ys (Yj (e:=e3) (sz:=sz3) (o:=o3) (xs:=zs) [x,y] (L:=L)));exact(Za.perm h ((p1.trans p2).trans p3).symm).trans ((Za.tail _ _ _).trans (Za.tail _ _ _))
theorem Zoe {s:Zd}(v:SV)(hs:Zr h v s)(few:ZD s)
    (hk:∀(h':PH) (u:SV) (o oe ox:Option (Nat×Nat)),PH.le h h'→okO o s.members.length→okO oe s.entry.length→okO ox s.exit.length→Zr h' (Zvo u (.slice none 0 0) (.slice none 0 0) (.slice none 0 0)) (Yhx s)→K (stV s (Zvo u (ovs o s.members.length) (ovs oe s.entry.length) (ovs ox s.exit.length))) (oent 3 1 ox (s.exit.map (.int .i64)) (oent 3 1 oe (s.entry.map (.int .i64)) (oent 74 6 o (s.members.flatMap Yv) L))) h'):Zc prog 30 [stV s v] L h K:=by
  obtain⟨pa,pc,ma,mc,ea,ec,xa,xc,oa,oc,da,dc,ta,tc,ka,kc,ra,rc,rfl⟩:=hs.slices;have fm:=few.m;have fp:=few.p;have fe:=few.e;have fx:=few.x;have fo:=few.o;have fd:=few.d;have ft:=few.t;have fk:=few.k;have fr:=few.r;obtain⟨ql,q1,q2,q3⟩:=hs.t;obtain⟨rl,r1,r2⟩:=hs.r;have q1':Zh WE 33 h (.slice ta s.motions.length tc) ql:=q1;have r1':Zw h (.slice ra s.ring.length rc) rl:=r1;have hql:ql.length=s.motions.length:=by rw[← q2,List.length_map]
  have hrl:rl.length=s.ring.length:=by rw[← r2];simp [xsL]
  refine ZS func30 rfl (rs:=[_]) rfl rfl ZW (by kernel_rfl) rfl rfl ?_;refine xx ?_;refine Z2 fun b1 nb1 zb1=>?_;(try simp only[ZT]at nb1);refine xx ?_;refine Z2 fun b2 nb2 zb2=>?_;(try simp only[ZT]at nb2);refine xx ?_;refine Zc.ap (Zim _ hs.p (by omega) fun h1 v1 le1 i1 ap=>?_);simp only[Ap]at ap;obtain⟨a12,a11,_⟩:=ap;obtain⟨pa1,pc1,rfl,_⟩:=i1.open;refine xx ?_;refine Zom _ (hs.m.up le1) (by omega) fun om ok1 am1=>?_;have m2:apB om b2:=am1.head;have m1:apB om b1:=(ZY am1).head;simp -dsimp -implicitDefEqProofs (disch:=first|with_reducible assumption|omega) [go_sem,ZV m1,ZR m1];refine Yn (.tk 0 (.tk 3 (.tkl 1 (.tkl 4 (.o1 2 (.tk 6 (.o1 5 (.o2 7 (.tk 8 (.o2 9 (.fin) (.nil))) (.nil)) (.nil))) (.nil)))))) (by kernel_rfl) (by kernel_rfl) _ (Za.refl _ _) ?_;simp -dsimp -implicitDefEqProofs (disch:=first|with_reducible assumption|omega) [go_sem,ZV m1,ZR m1];refine Zbu _ (hs.e.up le1) (by omega) fun oe oke ame=>?_;have ame0:=Y9 ame;have e2:apB oe b2:=ame0.head;have e1:apB oe b1:=(ZY ame0).head;obtain⟨ea1,ec1,exe,_⟩:=Z9 oke;rw[exe]
  first
  | refine xkp (Za.oent _ _ _ _ _ _) ?_
  | skip
  simp -dsimp -implicitDefEqProofs (disch:=first|with_reducible assumption|omega) [go_sem,ZV e1,ZR e1,ZV m1,ZR m1];refine Zbu _ (hs.x.up le1) (by omega) fun ox okx amx=>?_;have amx0:=Y9 (Y9 amx);have x2:apB ox b2:=amx0.head;have x1:apB ox b1:=(ZY amx0).head;obtain⟨xa1,xc1,exx,_⟩:=Z9 okx;rw[exx]
  first
  | refine xkp ((Za.oent _ _ _ _ _ _).trans (Za.oent _ _ _ _ _ _)) ?_
  | refine xkp (Za.oent _ _ _ _ _ _) ?_
  | skip
  simp -dsimp -implicitDefEqProofs (disch:=first|with_reducible assumption|omega) [go_sem,ZV x1,ZR x1,ZV e1,ZR e1,ZV m1,ZR m1];refine Yn (.tk 0 (.tk 3 (.tkl 1 (.tkl 4 (.o1 2 (.tk 6 (.o1 5 (.o2 7 (.tk 8 (.o2 9 (.fin) (.nil))) (.nil)) (.nil))) (.nil)))))) (by kernel_rfl) (by kernel_rfl) _ (Za.refl _ _) ?_;simp -dsimp -implicitDefEqProofs (disch:=first|with_reducible assumption|omega) [go_sem,ZV x1,ZR x1,ZV e1,ZR e1,ZV m1,ZR m1];have le13:=le1;refine Zc.ap (Zoj _ (hs.o.up le13) (by omega) fun h4 v4 le4 i4 ap=>?_);obtain⟨a42,a41,_⟩:=Ap.oent (Ap.oent (Ap.oent ap));obtain⟨oa1,oc1,rfl,_⟩:=i4.open;refine xkp (Za.forget le4) ?_;simp -dsimp -implicitDefEqProofs (disch:=first|with_reducible assumption|omega) [go_sem,ZV x1,ZR x1,ZV e1,ZR e1,ZV m1,ZR m1];have le14:=le13.trans le4;refine Zc.ap (Zbw _ (hs.d.up le14) (by omega) fun h5 v5 le5 i5 ap=>?_);obtain⟨a52,a51,_⟩:=Ap.oent (Ap.oent (Ap.oent ap));obtain⟨da1,dc1,rfl,_⟩:=i5.open
  first
  | refine xkp (Za.forget (le4.trans le5)) ?_
  | skip
  simp -dsimp -implicitDefEqProofs (disch:=first|with_reducible assumption|omega) [go_sem,ZV x1,ZR x1,ZV e1,ZR e1,ZV m1,ZR m1];have le15:=le14.trans le5;refine Zbv _ (q1'.up le15) (fun x hx=>(q3 x hx).up le15) (by omega) fun ot ok2 at0'=>?_;rw[hql]at ok2 ⊢;have at1:=Y9 (Y9 (Y9 at0'));have t2:apB ot b2:=at1.head;have t1:apB ot b1:=(ZY at1).head
  replace at1:=ZY (ZY at1)
  simp -dsimp -implicitDefEqProofs (disch:=first|with_reducible assumption|omega) [go_sem,ZV t1,ZR t1,ZV x1,ZR x1,ZV e1,ZR e1,ZV m1,ZR m1];obtain⟨mta,mtc,emt,_⟩:=Z9 ok2;rw[emt];refine xx ?_;obtain⟨vv,hvv⟩:∃vv:SV,vv=⟨.slice pa1 s.purses.length pc1,ovs om s.members.length,.slice ea1 s.entry.length ec1,.slice xa1 s.exit.length xc1,.slice oa1 s.pool.length oc1,.slice da1 s.dues.length dc1,.slice mta s.motions.length mtc,.slice ka s.marks.length kc,.slice ra s.ring.length rc⟩:=⟨_,rfl⟩
  refine YO (γ:=Nat×List QM×PH) (0,ql,h5)
    (fun q=>q.1≤s.motions.length∧q.2.1.map (fun x=>x.2.2)=s.motions∧WF q.2.2 q.2.1∧PH.le h5 q.2.2∧q.2.2 b2=noC∧q.2.2 b1=noC∧apO ot L q.2.2)
    (fun q=>[(36,.int .i64 q.1),(35,.int .i64 s.motions.length),(1,.pointer (some ⟨b1,0,none⟩)),(2,.pointer (some ⟨b2,0,none⟩))])
    (fun q=>oent 120 33 ot (q.2.1.flatMap WE) (oent 3 1 ox (s.exit.map (.int .i64)) (oent 3 1 oe (s.entry.map (.int .i64)) (oent 74 6 om (s.members.flatMap Yv) (⟨b2,34,stC Zbq Zzy,41⟩::⟨b1,34,stC s vv,41⟩::L))))) (fun q=>q.2.2) (fun q=>s.motions.length-q.1) ?_ ?_ ?_ ?_
  · exact⟨Nat.zero_le _,q2,fun x hx=>(q3 x hx).up le15,PH.le_refl _,a52,a51,at1⟩
  · simp [Ent,List.lookup,Wo]
  · subst hvv;exact Za.refl _ _
  rintro⟨k,ql',h6⟩ ⟨k1,k2,k3,k4,k5,k6,k8⟩;simp only at k1 k2 k3 k4 k5 k6 k8 ⊢;have hql':ql'.length=s.motions.length:=by rw[← k2,List.length_map]
  subst hvv;by_cases c1:k<s.motions.length
  · obtain ⟨bt,cap,rfl⟩ : ∃ bt cap,ot = some (bt,cap) := by
      cases ot with
      | none=>have:s.motions.length=0:=ok2;omega
      | some p=>exact⟨_,_,rfl⟩
    simp only[ovs,Value.slice.injEq]at emt;obtain⟨rfl,_,rfl⟩:=emt;have hbt:h6 bt=noC:=k8.2;have n21:bt≠b2:=t2;have n11:bt≠b1:=t1;obtain⟨qk,hqk⟩:∃qk,qk=gr Z6 ql' k:=⟨_,rfl⟩
    have hmem:qk∈ql':=by rw[hqk,Z8 (by omega)];exact List.getElem_mem _
    have hmk:Zu h6 qk:=k3 qk hmem;have hmdm:qk.2.2∈s.motions:=by rw[← k2];exact List.mem_map.2 ⟨qk,hmem,rfl⟩
    obtain⟨vy,vn,md⟩:=qk;have hy:=hmk.y;have hn:=hmk.n;simp only at hy hn;obtain⟨ya,yc,rfl,_⟩:=hy.open;obtain⟨na,nc,rfl,_⟩:=hn.open;simp only at hmdm;have fv:=few.v md hmdm;have g31:∀(K:Value→Prop) (t:Zk K),Wz (ql'.flatMap WE) (k*33+31) K t=K (.slice ya md.yes.length yc):=fun K t=>Z1 Yh Z6 ql' (by omega) (by decide) (by rw[← hqk];rfl) K t;have g32:∀(K:Value→Prop) (t:Zk K),Wz (ql'.flatMap WE) (k*33+32) K t=K (.slice na md.no.length nc):=fun K t=>Z1 Yh Z6 ql' (by omega) (by decide) (by rw[← hqk];rfl) K t;have hfl:(ql'.flatMap WE).length=s.motions.length*33:=by rw[Z0 Yh,hql']
    rw[Ye];simp -dsimp -implicitDefEqProofs (disch:=first|with_reducible assumption|omega) [go_sem,ZV x1,ZR x1,ZV e1,ZR e1,ZV m1,ZR m1];refine Yn (.tk 0 (.tk 2 (.tk 3 (.tk 5 (.tk 6 (.tk 8 (.tk 13 (.tk 15 (.tkl 1 (.tkl 7 (.tk 9 (.tk 10 (.tkl 11 (.o1 4 (.o1 12 (.o1 14 (.tk 16 (.tk 17 (.tkl 18 (.o1 19 (.tk 20 (.tk 21 (.o2 22 (.tk 23 (.tk 24 (.o2 25 (.fin) (.nil)))) (.nil)))) (.nil))))) (.nil)) (.o1 14 (.tk 16 (.tk 17 (.tkl 18 (.o1 12 (.o1 19 (.tk 20 (.tk 21 (.o2 22 (.tk 23 (.tk 24 (.o2 25 (.fin) (.nil)))) (.nil)))) (.nil)) (.nil))))) (.nil))) (.o1 12 (.o1 4 (.o1 14 (.tk 16 (.tk 17 (.tkl 18 (.o1 19 (.tk 20 (.tk 21 (.o2 22 (.tk 23 (.tk 24 (.o2 25 (.fin) (.nil)))) (.nil)))) (.nil))))) (.nil)) (.o1 14 (.tk 16 (.tk 17 (.tkl 18 (.o1 4 (.o1 19 (.tk 20 (.tk 21 (.o2 22 (.tk 23 (.tk 24 (.o2 25 (.fin) (.nil)))) (.nil)))) (.nil)) (.o1 19 (.tk 20 (.tk 21 (.o1 4 (.o2 22 (.tk 23 (.tk 24 (.o2 25 (.fin) (.nil)))) (.nil)) (.o2 22 (.o1 4 (.tk 23 (.tk 24 (.o2 25 (.fin) (.nil)))) (.nil)) (.nil))))) (.nil)))))) (.nil))) (.o1 14 (.tk 16 (.tk 17 (.tkl 18 (.o1 4 (.o1 12 (.o1 19 (.tk 20 (.tk 21 (.o2 22 (.tk 23 (.tk 24 (.o2 25 (.fin) (.nil)))) (.nil)))) (.nil)) (.nil)) (.o1 12 (.o1 4 (.o1 19 (.tk 20 (.tk 21 (.o2 22 (.tk 23 (.tk 24 (.o2 25 (.fin) (.nil)))) (.nil)))) (.nil)) (.o1 19 (.tk 20 (.tk 21 (.o1 4 (.o2 22 (.tk 23 (.tk 24 (.o2 25 (.fin) (.nil)))) (.nil)) (.o2 22 (.o1 4 (.tk 23 (.tk 24 (.o2 25 (.fin) (.nil)))) (.nil)) (.nil))))) (.nil))) (.nil)))))) (.nil))))))))))))))))) (by kernel_rfl) (by kernel_rfl) _ (Za.refl _ _) ?_
    simp -dsimp -implicitDefEqProofs (disch:=first|with_reducible assumption|omega) [go_sem,ZV x1,ZR x1,ZV e1,ZR e1,ZV m1,ZR m1,g31,g32];have hset:∀a ac b bc,((ql'.flatMap WE).set (k*33+31) (.slice a md.yes.length ac)).set (k*33+32) (.slice b md.no.length bc)=(ql'.set k (.slice a md.yes.length ac,.slice b md.no.length bc,md)).flatMap WE:=fun a ac b bc=>by
      rw[Yx Yh Z6 ql' (i:=k) (m:=31) (a':=(.slice a md.yes.length ac,.slice na md.no.length nc,md)) (by omega) (by decide) (by rw[← hqk];rfl)];rw[Yx Yh Z6 _ (i:=k) (m:=32) (a':=(.slice a md.yes.length ac,.slice b md.no.length bc,md)) (by rw[List.length_set];omega) (by decide) (by rw[Z8 (by rw[List.length_set];omega),List.getElem_set_self];rfl),List.set_set]
    have hmd:s.motions[k]?=some md:=by
      rw[← k2,List.getElem?_map,List.getElem?_eq_getElem (by omega),← Z8 (z:=Z6) (by omega),← hqk]
      rfl
    have hmap:∀(a b:Value),(ql'.set k (a,b,md)).map (fun x=>x.2.2)=s.motions:=fun a b=>by
      rw[List.map_set,k2];apply List.ext_getElem?;intro n;rw[List.getElem?_set];split
      · rename_i e;subst e
        first
        | exact hmd.symm
        | (split
           · exact hmd.symm
           · rw[List.getElem?_eq_none (by omega)])
      · rfl
    repeat' first
      | refine Y4 ?_ ?_
      | simp -dsimp -implicitDefEqProofs (disch:=first|with_reducible assumption|omega) [go_sem,ZV x1,ZR x1,ZV e1,ZR e1,ZV m1,ZR m1,g31,g32]
    all_goals
      refine Zc.ap (Vq _ hy (by omega) fun h7 v7 le7 i7 ap=>?_);obtain⟨y1,y2⟩:=ap;obtain⟨y3,y4,_⟩:=Ap.oent (Ap.oent (Ap.oent y2));obtain⟨wa,wc,rfl,_⟩:=i7.open
      first
      | refine xkp (Za.forget le7) ?_
      | skip
    repeat' first
      | refine Y4 ?_ ?_
      | simp -dsimp -implicitDefEqProofs (disch:=first|with_reducible assumption|omega) [go_sem,ZV x1,ZR x1,ZV e1,ZR e1,ZV m1,ZR m1,g31,g32]
      | refine xkp (Za.forget le7) ?_
    all_goals
      refine Zc.ap (Vq _ (hn.up le7) (by omega) fun h8 v8 le8 i8 ap=>?_);obtain⟨z1,z2⟩:=ap;obtain⟨z3,z4,_⟩:=Ap.oent (Ap.oent (Ap.oent z2));obtain⟨ua,uc,rfl,_⟩:=i8.open
      first
      | refine xkp (Za.forget (le7.trans le8)) ?_
      | skip
    repeat' first
      | refine Y4 ?_ ?_
      | simp -dsimp -implicitDefEqProofs (disch:=first|with_reducible assumption|omega) [go_sem,ZV x1,ZR x1,ZV e1,ZR e1,ZV m1,ZR m1,g31,g32]
      | refine xkp (Za.forget (le7.trans le8)) ?_
    all_goals
      have hsum:(ql'.map fun a=>(WE a).length).sum=s.motions.length*33:=by rw[← List.length_flatMap,hfl]
      have hk33:=Y5 (n:=s.motions.length) (w:=33) c1 (m:=32) (by decide);refine⟨by omega,by omega,k+1,ql'.set k (.slice wa md.yes.length wc,.slice ua md.no.length uc,md),h8,⟨by omega,hmap _ _,fun x hx=>?_,k4.trans (le7.trans le8),z3,z4,⟨k8.1,z1⟩⟩,by omega,by simp [Ent,List.lookup],?_⟩
      · rcases List.mem_or_eq_of_mem_set hx with hx|rfl
        · exact(k3 x hx).up (le7.trans le8)
        · exact⟨i7.up le8,i8,hmk.ok⟩
      · rw[hset];exact Za.refl _ _
  have hkl:k=s.motions.length:=by omega
  subst hkl;simp -dsimp -implicitDefEqProofs (disch:=first|with_reducible assumption|omega) [go_sem,ZV t1,ZR t1,ZV x1,ZR x1,ZV e1,ZR e1,ZV m1,ZR m1];refine U1 (e:=120) (sz:=33) (n:=s.motions.length) ok2 (by rw[Z0 Yh,hql']) (by omega) k8 fun h7 le7 sl7=>?_;have le17:PH.le h h7:=(le15.trans k4).trans le7;have kq2:=k2;have kq4:=k4;refine Zc.ap (Vq _ (hs.k.up le17) (by omega) fun h8 v8 le8 i8 ap=>?_);obtain⟨a82,a81,_⟩:=Ap.oent (Ap.oent (Ap.oent ap));obtain⟨ka1,kc1,rfl,_⟩:=i8.open;have rmot:Zh WE 33 h8 (.slice mta s.motions.length mtc) ql':=by
    have:=Zh.pub (f:=WE) (w:=33) (l:=ql') (o:=ot) Yh (by rw[hql'];exact sl7);rw[hql',emt]at this;exact this.up le8
  have imot:WF h8 ql':=fun x hx=>(k3 x hx).up (le7.trans le8);have le18:=le17.trans le8;simp -dsimp -implicitDefEqProofs (disch:=first|with_reducible assumption|omega) [go_sem,ZV x1,ZR x1,ZV e1,ZR e1,ZV m1,ZR m1];refine Zpq _ (r1'.up le18) (by omega) fun orr ok3 ar=>?_;rw[hrl]at ok3 ⊢;have ar1:=Y9 (Y9 (Y9 ar));have rb2:apB orr b2:=ar1.head;have rb1:apB orr b1:=(ZY ar1).head
  replace ar1:=ZY (ZY ar1)
  simp -dsimp -implicitDefEqProofs (disch:=first|with_reducible assumption|omega) [go_sem,ZV rb1,ZR rb1,ZV x1,ZR x1,ZV e1,ZR e1,ZV m1,ZR m1];obtain⟨rta,rtc,ert,_⟩:=Z9 ok3;rw[ert];refine xx ?_;refine YO (γ:=Nat×List QS×PH) (0,rl,h8)
    (fun q=>q.1≤s.ring.length∧xsL q.2.1=s.ring∧Ymu q.2.2 q.2.1∧PH.le h8 q.2.2∧q.2.2 b2=noC∧q.2.2 b1=noC∧apO orr L q.2.2)
    (fun q=>[(75,.int .i64 q.1),(74,.int .i64 s.ring.length),(1,.pointer (some ⟨b1,0,none⟩)),(2,.pointer (some ⟨b2,0,none⟩))])
    (fun q=>oent 31 1 orr (vsL q.2.1) (oent 3 1 ox (s.exit.map (.int .i64)) (oent 3 1 oe (s.entry.map (.int .i64)) (oent 74 6 om (s.members.flatMap Yv) (⟨b2,34,stC Zbq Zzy,41⟩::⟨b1,34,stC s ⟨.slice pa1 s.purses.length pc1,ovs om s.members.length,.slice ea1 s.entry.length ec1,.slice xa1 s.exit.length xc1,.slice oa1 s.pool.length oc1,.slice da1 s.dues.length dc1,.slice mta s.motions.length mtc,.slice ka1 s.marks.length kc1,.slice rta s.ring.length rtc⟩,41⟩::L))))) (fun q=>q.2.2) (fun q=>s.ring.length-q.1) ?_ ?_ ?_ ?_
  · exact⟨Nat.zero_le _,r2,fun x hx=>(r1'.d x hx).up le18,PH.le_refl _,a82,a81,ar1⟩
  · simp [Ent,List.lookup,Wo]
  · exact Za.refl _ _
  rintro⟨k,rl',h9⟩ ⟨k1,k2,k3,k4,k5,k6,k8⟩;simp only at k1 k2 k3 k4 k5 k6 k8 ⊢;have hrl':rl'.length=s.ring.length:=by rw[← k2];simp [xsL]
  by_cases c2:k<s.ring.length
  · obtain ⟨bt,cap,rfl⟩ : ∃ bt cap,orr = some (bt,cap) := by
      cases orr with
      | none=>have:s.ring.length=0:=ok3;omega
      | some p=>exact⟨_,_,rfl⟩
    simp only[ovs,Value.slice.injEq]at ert;obtain⟨rfl,_,rfl⟩:=ert;have hbt:h9 bt=noC:=k8.2;have n21:bt≠b2:=rb2;have n11:bt≠b1:=rb1;obtain⟨qk,hqk⟩:∃qk,qk=gs rl' k:=⟨_,rfl⟩
    have hmem:qk∈rl':=by rw[hqk,Zdr (by omega)];exact List.getElem_mem _
    have hy:=k3 qk hmem;have hbm:qk.2∈s.ring:=by rw[← k2];exact List.mem_map.2 ⟨qk,hmem,rfl⟩
    have fv:=few.b _ hbm;obtain⟨vy,by'⟩:=qk;simp only at hy hbm fv;obtain⟨ya,yc,rfl,_⟩:=hy.open;have g1:∀(K:Value→Prop) (t:Zk K),Wz (vsL rl') k K t=K (.slice ya by'.length yc):=fun K t=>Ztk (by rw[vsL,List.getElem?_map,List.getElem?_eq_getElem (by omega),← Zdr (by omega),← hqk];rfl);have hfl:(vsL rl').length=s.ring.length:=by simp [vsL,hrl']
    rw[Ye];simp -dsimp -implicitDefEqProofs (disch:=first|with_reducible assumption|omega) [go_sem,ZV x1,ZR x1,ZV e1,ZR e1,ZV m1,ZR m1];refine Yn (.tk 0 (.tk 2 (.tk 3 (.tk 5 (.tkl 1 (.tkl 4 (.tk 6 (.tkl 7 (.o1 8 (.tk 9 (.o2 10 (.fin) (.nil))) (.nil)))))))))) (by kernel_rfl) (by kernel_rfl) _ (Za.refl _ _) ?_;simp -dsimp -implicitDefEqProofs (disch:=first|with_reducible assumption|omega) [go_sem,ZV x1,ZR x1,ZV e1,ZR e1,ZV m1,ZR m1,g1]
    repeat' first
      | refine Y4 ?_ ?_
      | simp -dsimp -implicitDefEqProofs (disch:=first|with_reducible assumption|omega) [go_sem,ZV x1,ZR x1,ZV e1,ZR e1,ZV m1,ZR m1,g1]
    all_goals
      refine Zc.ap (Vq _ hy (by omega) fun h10 v10 le10 i10 ap=>?_);obtain⟨y1,y2⟩:=ap;obtain⟨y3,y4,_⟩:=Ap.oent (Ap.oent (Ap.oent y2));obtain⟨wa,wc,rfl,_⟩:=i10.open
      first
      | refine xkp (Za.forget le10) ?_
      | skip
    repeat' first
      | refine Y4 ?_ ?_
      | simp -dsimp -implicitDefEqProofs (disch:=first|with_reducible assumption|omega) [go_sem,ZV x1,ZR x1,ZV e1,ZR e1,ZV m1,ZR m1,g1]
      | refine xkp (Za.forget le10) ?_
    all_goals
      refine⟨by rw[hfl];exact c2,k+1,rl'.set k (.slice wa by'.length wc,by'),h10,⟨by omega,?_,fun x hx=>?_,k4.trans le10,y3,y4,⟨k8.1,y1⟩⟩,by omega,by simp [Ent,List.lookup],?_⟩
      · rw[← k2,xsL,xsL,List.map_set];apply List.ext_getElem?;intro n;rw[List.getElem?_set];split
        · rename_i e;subst e;have:(rl'.map (fun x:QS=>x.2))[k]?=some by':=by
            rw[List.getElem?_map,List.getElem?_eq_getElem (by omega),← Zdr (by omega),← hqk];rfl
          first
          | exact this.symm
          | (split
             · exact this.symm
             · rename_i hh;exfalso;apply hh;simp;omega)
        · rfl
      · rcases List.mem_or_eq_of_mem_set hx with hx|rfl
        · exact(k3 x hx).up le10
        · exact i10
      · rw[vsL,vsL,List.map_set,Ye,Nat.mul_one];exact Za.refl _ _
  have hkl:k=s.ring.length:=by omega
  subst hkl;simp -dsimp -implicitDefEqProofs (disch:=first|with_reducible assumption|omega) [go_sem,ZV rb1,ZR rb1,ZV rb2,ZR rb2,ZV x1,ZR x1,ZV e1,ZR e1,ZV m1,ZR m1,ZV x2,ZR x2,ZV e2,ZR e2,ZV m2,ZR m2];have le10:=Wm (h:=h9) k8 (vsL rl');have sl10:=Vy (h:=h9) (sz:=1) (n:=s.ring.length) (o:=orr) (xs:=vsL rl') ok3 (by simp [vsL,hrl']) (by omega);have le8':PH.le h8 (Gn h9 orr (vsL rl')):=k4.trans le10;have hst:Zw (Gn h9 orr (vsL rl')) (.slice rta s.ring.length rtc) rl':=by
    rw[← ert];rw[← hrl']at sl10 ⊢;exact Ybc sl10 fun p hp=>(k3 p hp).up le10
  have le5':=kq4.trans (le7.trans (le8.trans le8'));have le4':=le5.trans le5';have le2':=le4.trans le4';have hS:Zr (Gn h9 orr (vsL rl')) (Zvo ⟨.slice pa1 s.purses.length pc1,.slice none 0 0,.slice none 0 0,.slice none 0 0,.slice oa1 s.pool.length oc1,.slice da1 s.dues.length dc1,.slice mta s.motions.length mtc,.slice ka1 s.marks.length kc1,.slice rta s.ring.length rtc⟩ (.slice none 0 0) (.slice none 0 0) (.slice none 0 0)) (Yhx s) :=
    { ok:=⟨hs.ok.p,hs.ok.u,hs.ok.n⟩,p:=i1.up le2',m:=Zh.nil Yg _,mo:=(fun x hx=>by cases hx),e:=Uf _ .i64,x:=Uf _ .i64,o:=i4.up le4',oo:=hs.oo,d:=i5.up le5',dd:=hs.dd,t:=⟨ql',rmot.up le8',kq2,fun x hx=>(imot x hx).up le8'⟩,k:=i8.up le8',r:=⟨rl',hst,k2⟩ }
  exact⟨_,_,(Wk orr (vsL rl') _ h9 (by decide)).trans Zou,by rw[← exx,← exe];exact hk _ ⟨.slice pa1 s.purses.length pc1,.slice none 0 0,.slice none 0 0,.slice none 0 0,.slice oa1 s.pool.length oc1,.slice da1 s.dues.length dc1,.slice mta s.motions.length mtc,.slice ka1 s.marks.length kc1,.slice rta s.ring.length rtc⟩ om oe ox (le18.trans le8') ok1 oke okx hS⟩
theorem IsCert.range {v:Value}{c:ZK}(hc:IsCert h v c)(i:Nat):0≤at0 c.st i∧at0 c.st i≤18446744073709551615:=by
 obtain⟨_,_,_,hs,_⟩:=hc;exact hs.word i
def sgn (c:ZK)(i:Nat):Bool:=Vm c.bs i
def pres (c:ZK):Int:=wsum c.st (sgn c) c.st.length
structure Yyn (h:PH)(bv:Value)(d:Yyu):Prop where
 i:Ints h .u8 bv d.bits
 ok:Yza d
theorem Yyn.up {h h':PH}(le:PH.le h h'){bv:Value}{d:Yyu}(hd:Yyn h bv d):Yyn h' bv d:=⟨hd.i.up le,hd.ok⟩
theorem Ygr {p q:Ze}(hpq:YN p++YS p=YN q++YS q):p=q:=by
 cases p;cases q
 simp only[YN,YS,List.cons_append,List.nil_append,List.cons.injEq]at hpq;simp only[Ze.mk.injEq];simp only[hpq,and_self]
def parK:List IntKind:=[.u64,.u64,.u64,.u64,.u64,.u64,.u64,.u64,.u64,.u64,.u64,.u64,.u64,.u64,.i64,.i64,.i64,.i64,.i64,.i64,.i64,.i64,.i64,.i64]
end Go.X
